/- What the laws ask of what is heard of addresses, in the model's worlds. -/
import Derived.Test.YtkbikihbomnghaaBa1
import Derived.Test.YtkbikihbomnghaaPa3
import Derived.Test.YtkbikihbomnghaaPa4
namespace Go.Proofs.Ytkbikihbomnghaa
set_option linter.unusedSimpArgs false
set_option linter.unusedVariables false
open Go.RowKit
set_option maxRecDepth 100000
def mHear (l more : List GAddr) (now : Int) : List GAddr := hear l more now
theorem hear2_len (all : List GAddr) : (hear2 all).length ≤ all.length := List.length_filter_le _ _
theorem mHear_len (l more : List GAddr) (now : Int) : (mHear l more now).length ≤ 99 := by
  unfold mHear hear
  split
  · exact Nat.le_trans (hear2_len _) (ids_len _ _ _)
  · simp
theorem mHear_cnt (l more : List GAddr) (now : Int) (_z : szL [slD 144 2 encAddr l] ≤ 1048576) (_z2 : szL [slD 144 2 encAddr more] ≤ 1048576) : cnt ((mHear l more now).flatMap encAddr) ≤ 1000000000000 := by
  have h1 := mHear_len l more now
  have h2 := cnt_list cnt_Addr (mHear l more now)
  have h3 : szL ((mHear l more now).flatMap encAddr) = 0 := szL_zero (fun x => by simp [encAddr, szL]) _
  omega
theorem hear_bad {l more : List GAddr} {now : Int} (h : (addrsOk l && addrsOk more && isTime now) = false) : mHear l more now = [] := by unfold mHear hear; rw [h]; rfl
theorem iHear_r (l more : List GAddr) (now : Int) (hl : l.length ≤ 1099511627776) (hl2 : more.length ≤ 1099511627776) : PCalls Try.prog 74 [.sl 2 (l.map pAddr), .sl 2 (more.map pAddr), .val (.int .i64 now)] [] (RO1 [slD 144 2 encAddr (mHear l more now)]) := by
  cases h : (addrsOk l && addrsOk more && isTime now) with
  | false => rw [hear_bad h]; exact (iHear_bad l more now h hl hl2).mono ro_ad0
  | true =>
    rw [Bool.and_eq_true, Bool.and_eq_true] at h
    exact (iHear_o l more now h).mono ro_ad
theorem sHear_r (l more : List GAddr) (now : Int) (hl : l.length ≤ 1099511627776) (hl2 : more.length ≤ 1099511627776) : PCalls Try.prog 73 [.sl 2 (l.map pAddr), .sl 2 (more.map pAddr), .val (.int .i64 now)] [] (RO1 [slD 144 2 encAddr (mHear l more now)]) := by
  cases h : (addrsOk l && addrsOk more && isTime now) with
  | false => rw [hear_bad h]; exact (sHear_bad l more now h hl hl2).mono (ro_ad (xs := []))
  | true =>
    rw [Bool.and_eq_true, Bool.and_eq_true] at h
    exact (sHear_o l more now h).mono ro_ad
theorem iHear_any (x0 : (List GAddr)) (x1 : (List GAddr)) (x2 : Int) (o1 o2 : Option Addr) (c1 c2 : Nat) (w : World) (h0 : RL 144 2 encAddr w (.slice o1 x0.length c1) x0) (z0 : szL ([slD 144 2 encAddr x0]) ≤ 1048576) (k0 : okL ([slD 144 2 encAddr x0])) (h1 : RL 144 2 encAddr w (.slice o2 x1.length c2) x1) (z1 : szL ([slD 144 2 encAddr x1]) ≤ 1048576) (k1 : okL ([slD 144 2 encAddr x1])) (k2 : -9223372036854775808 ≤ x2 ∧ x2 ≤ 9223372036854775807) (hG : GlobW w) :
    Calls Try.prog 74 #[.slice o1 x0.length c1, .slice o2 x1.length c2, .int .i64 x2] w fun e w' => ∃ (p1 : Option Addr) (q1 : Nat), e = .returned (.slice p1 (mHear x0 x1 x2).length q1) ∧ Obj w' w.heap.size w'.heap.size ([slD 144 2 encAddr ((mHear x0 x1 x2))]) [.slice p1 ((mHear x0 x1 x2)).length q1] ∧ Ext w w' := by
  have zz0 := z0; simp only [slD, szL] at zz0
  have zz1 := z1; simp only [slD, szL] at zz1
  have hp := iHear_r x0 x1 x2 (by omega) (by omega)
  refine (hp.use (w := w) hG.mem (vs := #[.slice o1 x0.length c1, .slice o2 x1.length c2, .int .i64 x2]) ⟨rfl, fun i pv v a b => ?_⟩).mono fun e w' ⟨v, M', h', pv, H', e1, e2, e3, e4, e5, e6⟩ => ?_
  · match i with
    | 0 => simp at a b; subst a; subst b; have q := RL.pv h0 (fun _ => rfl) (fun _ => none); simp only [pv_Addr] at q; exact q
    | 1 => simp at a b; subst a; subst b; have q := RL.pv h1 (fun _ => rfl) (fun _ => none); simp only [pv_Addr] at q; exact q
    | 2 => simp at a b; subst a; subst b; exact .val _
    | i + 3 => simp at a
  · have O := RO1.obj e2 e4 e6 e3
    obtain ⟨p1, q1, rfl⟩ := shp_sl O.read
    exact ⟨p1, q1, e1, O, e5⟩
theorem sHear_any (x0 : (List GAddr)) (x1 : (List GAddr)) (x2 : Int) (o1 o2 : Option Addr) (c1 c2 : Nat) (w : World) (h0 : RL 144 2 encAddr w (.slice o1 x0.length c1) x0) (z0 : szL ([slD 144 2 encAddr x0]) ≤ 1048576) (k0 : okL ([slD 144 2 encAddr x0])) (h1 : RL 144 2 encAddr w (.slice o2 x1.length c2) x1) (z1 : szL ([slD 144 2 encAddr x1]) ≤ 1048576) (k1 : okL ([slD 144 2 encAddr x1])) (k2 : -9223372036854775808 ≤ x2 ∧ x2 ≤ 9223372036854775807) (hG : GlobW w) :
    Calls Try.prog 73 #[.slice o1 x0.length c1, .slice o2 x1.length c2, .int .i64 x2] w fun e w' => ∃ (p1 : Option Addr) (q1 : Nat), e = .returned (.slice p1 (mHear x0 x1 x2).length q1) ∧ Obj w' w.heap.size w'.heap.size ([slD 144 2 encAddr ((mHear x0 x1 x2))]) [.slice p1 ((mHear x0 x1 x2)).length q1] ∧ Ext w w' := by
  have zz0 := z0; simp only [slD, szL] at zz0
  have zz1 := z1; simp only [slD, szL] at zz1
  have hp := sHear_r x0 x1 x2 (by omega) (by omega)
  refine (hp.use (w := w) hG.mem (vs := #[.slice o1 x0.length c1, .slice o2 x1.length c2, .int .i64 x2]) ⟨rfl, fun i pv v a b => ?_⟩).mono fun e w' ⟨v, M', h', pv, H', e1, e2, e3, e4, e5, e6⟩ => ?_
  · match i with
    | 0 => simp at a b; subst a; subst b; have q := RL.pv h0 (fun _ => rfl) (fun _ => none); simp only [pv_Addr] at q; exact q
    | 1 => simp at a b; subst a; subst b; have q := RL.pv h1 (fun _ => rfl) (fun _ => none); simp only [pv_Addr] at q; exact q
    | 2 => simp at a b; subst a; subst b; exact .val _
    | i + 3 => simp at a
  · have O := RO1.obj e2 e4 e6 e3
    obtain ⟨p1, q1, rfl⟩ := shp_sl O.read
    exact ⟨p1, q1, e1, O, e5⟩
end Go.Proofs.Ytkbikihbomnghaa
