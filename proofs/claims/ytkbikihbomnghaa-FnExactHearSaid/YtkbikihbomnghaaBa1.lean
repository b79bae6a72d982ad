/- What the laws ask of what is told of addresses, in the model's worlds. -/
import Derived.Test.YtkbikihbomnghaaPa2
import Derived.Test.YtkbikihbomnghaaTyAddr
import Derived.Test.YtkbikihbomnghaaK6
namespace Go.Proofs.Ytkbikihbomnghaa
set_option linter.unusedSimpArgs false
set_option linter.unusedVariables false
open Go.RowKit
set_option maxRecDepth 100000
theorem GlobW.ext {w w' : World} (h : GlobW w) (e : Ext w w') : GlobW w' := fun i n q => e.cellSome (h i n q)
def mTell (l : List GAddr) (now age most : Int) : List GAddr := if most < 0 then [] else tell l now age most
theorem tell_neg {l : List GAddr} {now age most : Int} (h : most < 0) : tell l now age most = [] := by
  unfold tell
  rw [show most.toNat = 0 by omega, List.take_zero]
  split <;> rfl
theorem mTell_eq (l : List GAddr) (now age most : Int) : mTell l now age most = tell l now age most := by
  unfold mTell
  split
  · rename_i h; rw [tell_neg h]
  · rfl
theorem mTell_len (l : List GAddr) (now age most : Int) : (mTell l now age most).length ≤ 10 := by
  rw [mTell_eq]
  unfold tell
  split
  · rename_i h
    rw [Bool.and_eq_true, Bool.and_eq_true] at h
    have h1 := (forget_ok h.1.1 now age).1
    have h2 := late_len (forget l now age)
    rw [List.length_take]
    omega
  · simp
theorem mTell_cnt (l : List GAddr) (now age most : Int) (_z : szL [slD 144 2 encAddr l] ≤ 1048576) : cnt ((mTell l now age most).flatMap encAddr) ≤ 1000000000000 := by
  have h1 := mTell_len l now age most
  have h2 := cnt_list cnt_Addr (mTell l now age most)
  have h3 : szL ((mTell l now age most).flatMap encAddr) = 0 := szL_zero (fun x => by simp [encAddr, szL]) _
  omega
theorem ro_ad {xs : List GAddr} : ∀ pv H, RH (.own 0) [some (.row 144 2 (xs.map pAddr))] pv H → RO1 [slD 144 2 encAddr xs] pv H := fun pv H ⟨h1, h2⟩ => by
  subst h1
  subst h2
  exact ⟨_, owd_row 0 _ _ xs (by omega) rfl (fun x => (pv_Addr x).symm) (fun x => rfl) .nil, rfl⟩
theorem ro_ad0 : ∀ pv H, RH (.val (.slice none 0 0)) [] pv H → RO1 [slD 144 2 encAddr []] pv H := fun pv H ⟨h1, h2⟩ => by
  subst h1
  exact ⟨_, owd_nil _ _ .nil, rfl⟩
theorem iTell_r (l : List GAddr) (now age most : Int) (ha2 : age ≤ 9223372036854775807) (hm : -9223372036854775808 ≤ most ∧ most ≤ 9223372036854775807) (hl : l.length ≤ 1099511627776) : PCalls Try.prog 69 [.sl 2 (l.map pAddr), .val (.int .i64 now), .val (.int .i64 age), .val (.int .i64 most)] [] (RO1 [slD 144 2 encAddr (mTell l now age most)]) := by
  cases h : (addrsOk l && isTime now && decide (0 ≤ age)) with
  | false =>
    rw [mTell_eq, tell_bad h]
    exact (iTell_bad l now age most (.inl h) hl).mono ro_ad0
  | true =>
    by_cases hm0 : most < 0
    · rw [mTell_eq, tell_neg hm0]
      exact (iTell_bad l now age most (.inr hm0) hl).mono ro_ad0
    · rw [Bool.and_eq_true, Bool.and_eq_true, decide_eq_true_eq] at h
      rw [mTell_eq]
      exact (iTell_o l now age most ⟨h.1, ⟨h.2, ha2⟩, by omega, hm.2⟩).mono ro_ad
theorem sTell_r (l : List GAddr) (now age most : Int) (ha2 : age ≤ 9223372036854775807) (hm : -9223372036854775808 ≤ most ∧ most ≤ 9223372036854775807) (hl : l.length ≤ 1099511627776) : PCalls Try.prog 67 [.sl 2 (l.map pAddr), .val (.int .i64 now), .val (.int .i64 age), .val (.int .i64 most)] [] (RO1 [slD 144 2 encAddr (mTell l now age most)]) := by
  rw [mTell_eq]
  exact (sTell_o l now age most hm ha2 hl).mono ro_ad
theorem iTell_any (x0 : (List GAddr)) (x1 : Int) (x2 : Int) (x3 : Int) (o1 : Option Addr) (c1 : Nat) (w : World) (h0 : RL 144 2 encAddr w (.slice o1 x0.length c1) x0) (z0 : szL ([slD 144 2 encAddr x0]) ≤ 1048576) (k0 : okL ([slD 144 2 encAddr x0])) (k1 : -9223372036854775808 ≤ x1 ∧ x1 ≤ 9223372036854775807) (k2 : -9223372036854775808 ≤ x2 ∧ x2 ≤ 9223372036854775807) (k3 : -9223372036854775808 ≤ x3 ∧ x3 ≤ 9223372036854775807) (hG : GlobW w) :
    Calls Try.prog 69 #[.slice o1 x0.length c1, .int .i64 x1, .int .i64 x2, .int .i64 x3] w fun e w' => ∃ (p1 : Option Addr) (q1 : Nat), e = .returned (.slice p1 (mTell x0 x1 x2 x3).length q1) ∧ Obj w' w.heap.size w'.heap.size ([slD 144 2 encAddr ((mTell x0 x1 x2 x3))]) [.slice p1 ((mTell x0 x1 x2 x3)).length q1] ∧ Ext w w' := by
  have zz0 := z0; simp only [slD, szL] at zz0
  have hp := iTell_r x0 x1 x2 x3 k2.2 k3 (by omega)
  refine (hp.use (w := w) hG.mem (vs := #[.slice o1 x0.length c1, .int .i64 x1, .int .i64 x2, .int .i64 x3]) ⟨rfl, fun i pv v a b => ?_⟩).mono fun e w' ⟨v, M', h', pv, H', e1, e2, e3, e4, e5, e6⟩ => ?_
  · match i with
    | 0 => simp at a b; subst a; subst b; have q := RL.pv h0 (fun _ => rfl) (fun _ => none); simp only [pv_Addr] at q; exact q
    | 1 => simp at a b; subst a; subst b; exact .val _
    | 2 => simp at a b; subst a; subst b; exact .val _
    | 3 => simp at a b; subst a; subst b; exact .val _
    | i + 4 => simp at a
  · have O := RO1.obj e2 e4 e6 e3
    obtain ⟨p1, q1, rfl⟩ := shp_sl O.read
    exact ⟨p1, q1, e1, O, e5⟩
theorem sTell_any (x0 : (List GAddr)) (x1 : Int) (x2 : Int) (x3 : Int) (o1 : Option Addr) (c1 : Nat) (w : World) (h0 : RL 144 2 encAddr w (.slice o1 x0.length c1) x0) (z0 : szL ([slD 144 2 encAddr x0]) ≤ 1048576) (k0 : okL ([slD 144 2 encAddr x0])) (k1 : -9223372036854775808 ≤ x1 ∧ x1 ≤ 9223372036854775807) (k2 : -9223372036854775808 ≤ x2 ∧ x2 ≤ 9223372036854775807) (k3 : -9223372036854775808 ≤ x3 ∧ x3 ≤ 9223372036854775807) (hG : GlobW w) :
    Calls Try.prog 67 #[.slice o1 x0.length c1, .int .i64 x1, .int .i64 x2, .int .i64 x3] w fun e w' => ∃ (p1 : Option Addr) (q1 : Nat), e = .returned (.slice p1 (mTell x0 x1 x2 x3).length q1) ∧ Obj w' w.heap.size w'.heap.size ([slD 144 2 encAddr ((mTell x0 x1 x2 x3))]) [.slice p1 ((mTell x0 x1 x2 x3)).length q1] ∧ Ext w w' := by
  have zz0 := z0; simp only [slD, szL] at zz0
  have hp := sTell_r x0 x1 x2 x3 k2.2 k3 (by omega)
  refine (hp.use (w := w) hG.mem (vs := #[.slice o1 x0.length c1, .int .i64 x1, .int .i64 x2, .int .i64 x3]) ⟨rfl, fun i pv v a b => ?_⟩).mono fun e w' ⟨v, M', h', pv, H', e1, e2, e3, e4, e5, e6⟩ => ?_
  · match i with
    | 0 => simp at a b; subst a; subst b; have q := RL.pv h0 (fun _ => rfl) (fun _ => none); simp only [pv_Addr] at q; exact q
    | 1 => simp at a b; subst a; subst b; exact .val _
    | 2 => simp at a b; subst a; subst b; exact .val _
    | 3 => simp at a b; subst a; subst b; exact .val _
    | i + 4 => simp at a
  · have O := RO1.obj e2 e4 e6 e3
    obtain ⟨p1, q1, rfl⟩ := shp_sl O.read
    exact ⟨p1, q1, e1, O, e5⟩
end Go.Proofs.Ytkbikihbomnghaa
