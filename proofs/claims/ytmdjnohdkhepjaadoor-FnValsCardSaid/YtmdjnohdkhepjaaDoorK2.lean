/- Several texts, one behind the other. -/
import Derived.Test.YtmdjnohdkhepjaaDoorRows
import Derived.Test.YtmdjnohdkhepjaaDoorI1
import Derived.WalkKit
import Derived.BigGuardPart
import Derived.Handy
import Derived.Test.YtmdjnohdkhepjaaDoorK1
import Derived.OpenVars
import Derived.Lib.LaidTab
/- The walks of the small tests. -/
namespace Go.Proofs.YtmdjnohdkhepjaaDoor
set_option linter.unusedSimpArgs false
set_option linter.unusedVariables false
open Go.RowKit

theorem within_any (x lo hi : Int) (w : World) :
    Calls Tryd.prog 26 #[.int .i64 x, .int .i64 lo, .int .i64 hi] w fun e w' => e = .returned (.bool (inB x lo hi)) ∧ w = w' := by
  unfold inB
  by_cases h1 : lo ≤ x
  all_goals
    go_enter Tryd.func26, Tryd.ntmps26
    go_wp2
    go_ret
    exact ⟨by simp; try omega, rfl⟩

theorem l1In_any (x lo hi : Int) (w : World) :
    Calls Tryd.prog 54 #[.int .i64 x, .int .i64 lo, .int .i64 hi] w fun e w' => e = .returned (.bool (inB x lo hi)) ∧ w = w' := by
  unfold inB
  by_cases h1 : lo ≤ x
  all_goals
    go_enter Tryd.func54, Tryd.ntmps54
    go_wp2
    go_ret
    exact ⟨by simp; try omega, rfl⟩

end Go.Proofs.YtmdjnohdkhepjaaDoor
/- Var: both walks. -/
namespace Go.Proofs.YtmdjnohdkhepjaaDoor
set_option linter.unusedSimpArgs false
set_option linter.unusedVariables false
open Go.RowKit

/-- The bytes of a varint, with fuel. -/
def varF : Nat → Nat → List UInt8
  | 0, _ => []
  | f + 1, n => if n < 128 then [UInt8.ofNat n] else UInt8.ofNat (n % 128 + 128) :: varF f (n / 128)
def varL (n : Nat) : List UInt8 := varF 8 n
/-- Var as a string. -/
def varS (n : Int) : ByteArray := if inB n 0 562949953421311 then ⟨(varL n.toNat).toArray⟩ else ⟨#[]⟩
theorem varF_len : ∀ (f n : Nat), (varF f n).length ≤ f
  | 0, _ => by simp [varF]
  | f + 1, n => by
    unfold varF
    split
    · simp
    · have := varF_len f (n / 128)
      simp; omega
/-- A byte as a cell. -/
def encB (b : UInt8) : List Value := [.int .u8 b.toNat]
theorem encB_len (x : UInt8) : (encB x).length = 1 := rfl
theorem flat_encB (l : List UInt8) : l.flatMap encB = l.map fun b => Value.int .u8 b.toNat := by
  induction l with
  | nil => rfl
  | cons b l ih => rw [List.flatMap_cons, ih]; rfl

theorem infoB : (Tryd.prog.info? 5).map (fun i => (i.zero, i.size, i.bytes)) = some (some (.int .u8 0), 1, 1) := by kernel_rfl

/-- string(b) of what is owned. -/
theorem conv_own {w : World} {base n : Nat} {v : Value} {l : List UInt8} (h : w.ownsRow base 5 1 v n (l.flatMap encB)) (hn : l.length = n) :
    (convert 22 9 v).run Tryd.prog w = .ok (.string ⟨l.toArray⟩) w := by
  rcases own_value h with ⟨rfl, rfl, hl⟩ | ⟨g, c, rfl⟩
  · obtain rfl : l = [] := List.eq_nil_of_length_eq_zero hn
    exact run_convert_bytes_nil w 22 5 Tryd.underlying22 Tryd.underlying5 0 0 9 Tryd.underlying9
  · have q := run_convert_bytes_arg (P := Tryd.prog) w 22 5 Tryd.underlying22 Tryd.underlying5 g 0 n c (l.map fun b => (b.toNat : Int)) (by simpa using hn) (fun i hi => by
      rw [Nat.zero_add, h.cellAt i (by omega), flat_encB]
      simp [List.getD, show i < l.length by omega]) 9 Tryd.underlying9
    rw [q]
    have e : strOfNums (l.map fun b => (b.toNat : Int)) = ⟨l.toArray⟩ := by
      have e2 : (l.map fun b => (b.toNat : Int)).map (fun n => UInt8.ofNat n.toNat) = l := by
        rw [List.map_map]
        exact (List.map_congr_left (fun b _ => by simp)).trans (List.map_id l)
      unfold strOfNums
      rw [e2]
    rw [e]

theorem varF_step {f m : Nat} (h : 128 ≤ m) : varF (f + 1) m = UInt8.ofNat (m % 128 + 128) :: varF f (m / 128) := by rw [varF, if_neg (by omega)]
theorem varF_last {f m : Nat} (h : m < 128) : varF (f + 1) m = [UInt8.ofNat m] := by rw [varF, if_pos h]
theorem pow_div {f m : Nat} (h : m < 128 ^ (f + 1)) : m / 128 < 128 ^ f := by
  rw [Nat.pow_succ] at h
  exact Nat.div_lt_of_lt_mul (by omega)

theorem wraps_i64 (n : Int) (h0 : 0 ≤ n) (h1 : n < 2 ^ 62) : IntKind.i64.wrap n = n := IntWalk.i64_in n (by omega)
theorem and127 {x : Int} (h0 : 0 ≤ x) (h1 : x < 2 ^ 62) : bits .and .i64 x 127 = x % 128 := bits_mask .i64 62 (by decide) wraps_i64 7 (by decide) x h0 h1
theorem or128 {x : Int} (h0 : 0 ≤ x) (h1 : x < 128) : bits .or .i64 x 128 = x + 128 := by
  obtain ⟨a, rfl⟩ := Int.eq_ofNat_of_zero_le h0
  have q1 := (bits_nat .i64 62 (by decide) wraps_i64 a 128 (by omega) (by decide)).2
  have q2 := (bits_nat .i64 62 (by decide) wraps_i64 128 a (by decide) (by omega)).2
  have q3 := bits_join .i64 62 (by decide) wraps_i64 7 128 a (by decide) (by decide) (by decide) (by omega) (by omega) (by omega)
  rw [Nat.or_comm] at q1
  exact (q1.trans (q2.symm.trans q3)).trans (Int.add_comm _ _)
theorem byte_of {b : Nat} (h : b < 256) : ((UInt8.ofNat b).toNat : Int) = b := by simp; omega

set_option maxRecDepth 100000 in
set_option maxHeartbeats 4000000 in
theorem var_in (n : Nat) (hn : n ≤ 562949953421311) (w : World) :
    Calls Tryd.prog 53 #[.int .i64 n] w fun e w' => e = .returned (.string ⟨(varL n).toArray⟩) ∧ Ext w w' := by
  obtain ⟨i0, hi, hz0, hz1, hz2⟩ := info_parts infoB
  have hin : inB (n : Int) 0 562949953421311 = true := inB_iff.2 ⟨by omega, by omega⟩
  have hE0 : Ext w (w.alloc (.cells #[] 5)) := by (repeat (first | (with_reducible exact Ext.refl _) | (with_reducible assumption) | (with_reducible refine Ext.alloc ?_ _) | (with_reducible refine Ext.drew ?_) | (with_reducible refine Ext.drewN ?_ _) | ((with_reducible apply Ext.setCell); (case hp => first | omega | (simp; done) | (simp; omega))) | (with_reducible refine Ext.trans ?_ (by assumption))))
  have hO0 := World.ownsRow_made (e := 5) (size := 1) (base := w.heap.size) w #[] 0 (Nat.le_refl _) (by omega) rfl
  go_enter Tryd.func53, Tryd.ntmps53
  go_wp2_with (go_at_call 26; refine (within_any _ _ _ _).mono ?_; rintro e w' ⟨rfl, rfl⟩)
  go_loopg [0, 3] 7 (fun g x v wr => ∃ (m : Nat) (p : List UInt8), m ≤ 562949953421311 ∧ m < 128 ^ (g + 1) ∧ p ++ varF (g + 1) m = varL n ∧ p.length + g = 7 ∧ x = .int .i64 m ∧ Ext w wr ∧ wr.ownsRow w.heap.size 5 1 v p.length (p.flatMap encB))
  case atStart => exact ⟨n, [], hn, by omega, rfl, rfl, rfl, hE0, hO0⟩
  case round =>
    clear hE0 hO0
    obtain ⟨m, p, hm, hmf, hpv, hpl, rfl, hE, hown⟩ := hrel
    have HPV := Lib.hid hpv
    have HPL := Lib.hid hpl
    have HMF := Lib.hid hmf
    have hple : p.length ≤ 7 := by omega
    have hz := hE.size
    clear hpv hpl hmf
    by_cases hbig : 128 ≤ m
    · have hb1 : (127 : Int) < (m : Int) := by omega
      obtain ⟨f, hf⟩ : ∃ f, gk = f + 1 := by
        cases gk with
        | zero => have := HMF.out; omega
        | succ f => exact ⟨f, rfl⟩
      have HF := Lib.hid hf
      clear hf
      have e1 := and127 (x := (m : Int)) (by omega) (by omega)
      have e2 := or128 (x := (m : Int) % 128) (by omega) (by omega)
      have e3 : ((m : Int) % 128 + 128) % 256 = (m : Int) % 128 + 128 := by omega
      go_wp2_with (at_builtin; refine wpList_append_own _ rfl (.tmp 10) (.tmp 15) 22 rfl w.heap.size 5 i0 (.int .u8 0) 1 1 Tryd.underlying22 hi hz0 hz1 hz2 rfl (by decide) _ _ _ rfl (hown.alloc _) ⟨wr.heap.size, 0, none⟩ 1 1 [.int .u8 ((m : Int) % 128 + 128)] rfl rfl (news_new (by simp)) (fun u hu => by simp at hu; subst hu; rfl) (by unfold maxLen; omega) (by omega) (by simp; omega) ?_; intro v' w2 hown' hgrow _; have hE2 : Ext w w2 := Ext.of_grown (hE.alloc _) hgrow (fun b hb => (hown.lt b hb).1); clear hgrow)
      have hB : (((UInt8.ofNat (m % 128 + 128)).toNat : Nat) : Int) = (m : Int) % 128 + 128 := by rw [byte_of (by omega)]; omega
      have hO2 : w2.ownsRow w.heap.size 5 1 v' (p ++ [UInt8.ofNat (m % 128 + 128)]).length ((p ++ [UInt8.ofNat (m % 128 + 128)]).flatMap encB) := by
        rw [List.flatMap_append, List.length_append]
        simp only [List.flatMap_cons, List.flatMap_nil, List.append_nil, encB, hB]
        exact hown'
      have hmf := HMF.out
      have hpv := HPV.out
      have hpl := HPL.out
      rw [HF.out] at hmf hpv hpl
      go_roundg f
      case measure => rw [HF.out]; omega
      case rel => exact ⟨m / 128, p ++ [UInt8.ofNat (m % 128 + 128)], by omega, pow_div hmf, by rw [← hpv, varF_step (f := f + 1) hbig, List.append_assoc]; rfl, by simp; omega, by go_num, hE2, hO2⟩
    · have hb1 : ¬ (127 : Int) < (m : Int) := by omega
      have hm2 : m < 128 := by omega
      have HV : Hid (varL n = p ++ [UInt8.ofNat m]) := by
        have := HPV.out
        rw [varF_last hm2] at this
        exact this.symm
      have e3 : (m : Int) % 256 = (m : Int) := by omega
      have HB : Hid ((((UInt8.ofNat m).toNat : Nat) : Int) = (m : Int)) := byte_of (by omega)
      go_wp2_with (at_builtin; refine wpList_append_own _ rfl (.tmp 19) (.tmp 22) 22 rfl w.heap.size 5 i0 (.int .u8 0) 1 1 Tryd.underlying22 hi hz0 hz1 hz2 rfl (by decide) _ _ _ rfl (hown.alloc _) ⟨wr.heap.size, 0, none⟩ 1 1 [.int .u8 (m : Int)] rfl rfl (news_new (by simp)) (fun u hu => by simp at hu; subst hu; rfl) (by unfold maxLen; omega) (by omega) (by simp; omega) ?_; intro v' w2 hown' hgrow _; have hE2 : Ext w w2 := Ext.of_grown (hE.alloc _) hgrow (fun b hb => (hown.lt b hb).1); have hcv := conv_own (n := p.length + 1) (l := p ++ [UInt8.ofNat m]) (by rw [List.flatMap_append]; simp only [List.flatMap_cons, List.flatMap_nil, List.append_nil, encB, HB.out]; exact hown') (by simp); clear hgrow hown')
      go_ret
      exact ⟨ret_str (congrArg (fun l : List UInt8 => (⟨l.toArray⟩ : ByteArray)) HV.out), hE2⟩

theorem var_any (n : Int) (w : World) :
    Calls Tryd.prog 53 #[.int .i64 n] w fun e w' => e = .returned (.string (varS n)) ∧ Ext w w' := by
  by_cases h : inB n 0 562949953421311 = true
  · obtain ⟨h0, h1⟩ := inB_iff.1 h
    obtain ⟨k, rfl⟩ := Int.eq_ofNat_of_zero_le h0
    have e : varS (k : Int) = ⟨(varL k).toArray⟩ := by unfold varS; rw [if_pos h]; rfl
    rw [e]
    exact var_in k (by omega) w
  · replace h : inB n 0 562949953421311 = false := by simpa using h
    have E : Hid (varS n = ⟨#[]⟩) := by unfold varS; rw [if_neg (by rw [h]; simp)]; rfl
    go_enter Tryd.func53, Tryd.ntmps53
    go_wp2_with (go_at_call 26; refine (within_any _ _ _ _).mono ?_; rintro e w' ⟨rfl, rfl⟩)
    go_ret
    exact ⟨ret_str E.out, by (repeat (first | (with_reducible exact Ext.refl _) | (with_reducible assumption) | (with_reducible refine Ext.alloc ?_ _) | (with_reducible refine Ext.drew ?_) | (with_reducible refine Ext.drewN ?_ _) | ((with_reducible apply Ext.setCell); (case hp => first | omega | (simp; done) | (simp; omega))) | (with_reducible refine Ext.trans ?_ (by assumption))))⟩
set_option maxRecDepth 100000 in
set_option maxHeartbeats 4000000 in
theorem sVar_in (n : Nat) (hn : n ≤ 562949953421311) (w : World) :
    Calls Tryd.prog 77 #[.int .i64 n] w fun e w' => e = .returned (.string ⟨(varL n).toArray⟩) ∧ Ext w w' := by
  obtain ⟨i0, hi, hz0, hz1, hz2⟩ := info_parts infoB
  have hin : inB (n : Int) 0 562949953421311 = true := inB_iff.2 ⟨by omega, by omega⟩
  have hE0 : Ext w (w.alloc (.cells #[] 5)) := by (repeat (first | (with_reducible exact Ext.refl _) | (with_reducible assumption) | (with_reducible refine Ext.alloc ?_ _) | (with_reducible refine Ext.drew ?_) | (with_reducible refine Ext.drewN ?_ _) | ((with_reducible apply Ext.setCell); (case hp => first | omega | (simp; done) | (simp; omega))) | (with_reducible refine Ext.trans ?_ (by assumption))))
  have hO0 := World.ownsRow_made (e := 5) (size := 1) (base := w.heap.size) w #[] 0 (Nat.le_refl _) (by omega) rfl
  go_enter Tryd.func77, Tryd.ntmps77
  go_wp2_with (go_at_call 54; refine (l1In_any _ _ _ _).mono ?_; rintro e w' ⟨rfl, rfl⟩)
  go_loopg [0, 3] 7 (fun g x v wr => ∃ (m : Nat) (p : List UInt8), m ≤ 562949953421311 ∧ m < 128 ^ (g + 1) ∧ p ++ varF (g + 1) m = varL n ∧ p.length + g = 7 ∧ x = .int .i64 m ∧ Ext w wr ∧ wr.ownsRow w.heap.size 5 1 v p.length (p.flatMap encB))
  case atStart => exact ⟨n, [], hn, by omega, rfl, rfl, rfl, hE0, hO0⟩
  case round =>
    clear hE0 hO0
    obtain ⟨m, p, hm, hmf, hpv, hpl, rfl, hE, hown⟩ := hrel
    have HPV := Lib.hid hpv
    have HPL := Lib.hid hpl
    have HMF := Lib.hid hmf
    have hple : p.length ≤ 7 := by omega
    have hz := hE.size
    clear hpv hpl hmf
    by_cases hbig : 128 ≤ m
    · have hb1 : (128 : Int) ≤ (m : Int) := by omega
      obtain ⟨f, hf⟩ : ∃ f, gk = f + 1 := by
        cases gk with
        | zero => have := HMF.out; omega
        | succ f => exact ⟨f, rfl⟩
      have HF := Lib.hid hf
      clear hf
      have e3 : (128 + (m : Int) % 128) % 256 = 128 + (m : Int) % 128 := by omega
      go_wp2_with (at_builtin; refine wpList_append_own _ rfl (.tmp 10) (.tmp 15) 22 rfl w.heap.size 5 i0 (.int .u8 0) 1 1 Tryd.underlying22 hi hz0 hz1 hz2 rfl (by decide) _ _ _ rfl (hown.alloc _) ⟨wr.heap.size, 0, none⟩ 1 1 [.int .u8 (128 + (m : Int) % 128)] rfl rfl (news_new (by simp)) (fun u hu => by simp at hu; subst hu; rfl) (by unfold maxLen; omega) (by omega) (by simp; omega) ?_; intro v' w2 hown' hgrow _; have hE2 : Ext w w2 := Ext.of_grown (hE.alloc _) hgrow (fun b hb => (hown.lt b hb).1); clear hgrow)
      have hB : (((UInt8.ofNat (m % 128 + 128)).toNat : Nat) : Int) = 128 + (m : Int) % 128 := by rw [byte_of (by omega)]; omega
      have hO2 : w2.ownsRow w.heap.size 5 1 v' (p ++ [UInt8.ofNat (m % 128 + 128)]).length ((p ++ [UInt8.ofNat (m % 128 + 128)]).flatMap encB) := by
        rw [List.flatMap_append, List.length_append]
        simp only [List.flatMap_cons, List.flatMap_nil, List.append_nil, encB, hB]
        exact hown'
      have hmf := HMF.out
      have hpv := HPV.out
      have hpl := HPL.out
      rw [HF.out] at hmf hpv hpl
      go_roundg f
      case measure => rw [HF.out]; omega
      case rel => exact ⟨m / 128, p ++ [UInt8.ofNat (m % 128 + 128)], by omega, pow_div hmf, by rw [← hpv, varF_step (f := f + 1) hbig, List.append_assoc]; rfl, by simp; omega, by go_num, hE2, hO2⟩
    · have hb1 : ¬ (128 : Int) ≤ (m : Int) := by omega
      have hm2 : m < 128 := by omega
      have HV : Hid (varL n = p ++ [UInt8.ofNat m]) := by
        have := HPV.out
        rw [varF_last hm2] at this
        exact this.symm
      have e3 : (m : Int) % 256 = (m : Int) := by omega
      have HB : Hid ((((UInt8.ofNat m).toNat : Nat) : Int) = (m : Int)) := byte_of (by omega)
      go_wp2_with (at_builtin; refine wpList_append_own _ rfl (.tmp 19) (.tmp 22) 22 rfl w.heap.size 5 i0 (.int .u8 0) 1 1 Tryd.underlying22 hi hz0 hz1 hz2 rfl (by decide) _ _ _ rfl (hown.alloc _) ⟨wr.heap.size, 0, none⟩ 1 1 [.int .u8 (m : Int)] rfl rfl (news_new (by simp)) (fun u hu => by simp at hu; subst hu; rfl) (by unfold maxLen; omega) (by omega) (by simp; omega) ?_; intro v' w2 hown' hgrow _; have hE2 : Ext w w2 := Ext.of_grown (hE.alloc _) hgrow (fun b hb => (hown.lt b hb).1); have hcv := conv_own (n := p.length + 1) (l := p ++ [UInt8.ofNat m]) (by rw [List.flatMap_append]; simp only [List.flatMap_cons, List.flatMap_nil, List.append_nil, encB, HB.out]; exact hown') (by simp); clear hgrow hown')
      go_ret
      exact ⟨ret_str (congrArg (fun l : List UInt8 => (⟨l.toArray⟩ : ByteArray)) HV.out), hE2⟩

theorem sVar_any (n : Int) (w : World) :
    Calls Tryd.prog 77 #[.int .i64 n] w fun e w' => e = .returned (.string (varS n)) ∧ Ext w w' := by
  by_cases h : inB n 0 562949953421311 = true
  · obtain ⟨h0, h1⟩ := inB_iff.1 h
    obtain ⟨k, rfl⟩ := Int.eq_ofNat_of_zero_le h0
    have e : varS (k : Int) = ⟨(varL k).toArray⟩ := by unfold varS; rw [if_pos h]; rfl
    rw [e]
    exact sVar_in k (by omega) w
  · replace h : inB n 0 562949953421311 = false := by simpa using h
    have E : Hid (varS n = ⟨#[]⟩) := by unfold varS; rw [if_neg (by rw [h]; simp)]; rfl
    go_enter Tryd.func77, Tryd.ntmps77
    go_wp2_with (go_at_call 54; refine (l1In_any _ _ _ _).mono ?_; rintro e w' ⟨rfl, rfl⟩)
    go_ret
    exact ⟨ret_str E.out, by (repeat (first | (with_reducible exact Ext.refl _) | (with_reducible assumption) | (with_reducible refine Ext.alloc ?_ _) | (with_reducible refine Ext.drew ?_) | (with_reducible refine Ext.drewN ?_ _) | ((with_reducible apply Ext.setCell); (case hp => first | omega | (simp; done) | (simp; omega))) | (with_reducible refine Ext.trans ?_ (by assumption))))⟩
end Go.Proofs.YtmdjnohdkhepjaaDoor
/- Walks on the pure machine: numbers as texts, texts behind their length. -/
namespace Go.Proofs.YtmdjnohdkhepjaaDoor
set_option linter.unusedSimpArgs false
set_option linter.unusedVariables false
open Go.RowKit
set_option maxRecDepth 100000

theorem varS_size (n : Int) : (varS n).size ≤ 8 := by
  unfold varS
  split
  · have := varF_len 8 n.toNat
    rw [size_mk]
    exact this
  · exact Nat.zero_le _
theorem iVar_p (n : Int) : PCalls Tryd.prog 53 [.val (.int .i64 n)] [] (RV (.val (.string (varS n)))) :=
  pcalls_flat (us := [.int .i64 n]) (u := .string (varS n)) rfl (fun _ _ => .val _) fun w _ => var_any n w
theorem sVar_p (n : Int) : PCalls Tryd.prog 77 [.val (.int .i64 n)] [] (RV (.val (.string (varS n)))) :=
  pcalls_flat (us := [.int .i64 n]) (u := .string (varS n)) rfl (fun _ _ => .val _) fun w _ => sVar_any n w
def sizedS (s : ByteArray) : ByteArray := varS s.size ++ s
end Go.Proofs.YtmdjnohdkhepjaaDoor
/- A law over a package-level table: its frame. -/
namespace Go.Proofs.YtmdjnohdkhepjaaDoor
set_option linter.unusedSimpArgs false
set_option linter.unusedVariables false
open Go.RowKit Go.ChangeShapes Go.WideShapes
section
variable {H : Type} {enc : TypeId × Value → H} {P : Program} {w : World}
theorem law_postV {fn : Func} {f : FuncId} {s : ChangeSpec} {tb : TypeId} {apart : Bool} (hv : varsRowed P s.vars = true) (hres : fn.resultTypes = #[tb]) (hb : P.underlying tb = some .bool) (hlaid : laidOutB P = true)
    (hread : fn.params.toList.all (fun t => P.readableRec t && decide (t < P.types.size)) = true)
    (hspec : ∀ (ds gs : List (DataW H)), ds.length = fn.params.toList.length → gs.length = s.vars.length → (s.fn H (ds ++ gs)).results = [.lit (.bool true)] ∧ (s.fn H (ds ++ gs)).args = ds ∧ (s.fn H (ds ++ gs)).vars = gs)
    {args : Array Value} {ds gs : List (DataW H)} {before : List MemPlace} (hgl : gs.length = s.vars.length) (hW : DataW.Whole enc P fn.params.toList s.vars apart w args.toList ds gs before)
    (h : Calls P f args w fun e W' => e = .returned (.bool true) ∧ Ext w W') :
    Calls P f args w fun e W' => ∃ v, e = .returned v ∧ s.post enc P fn apart true false false w args v W' := by
  refine h.mono fun e W' ⟨he, hx⟩ => ⟨_, he, ?_⟩
  have hW' := hW
  obtain ⟨p, q, hA, hV, rfl, hfz, hnd⟩ := hW
  obtain ⟨e1, e2, e3⟩ := hspec ds gs (trodAll_length _ _ _ _ hA) hgl
  refine ⟨ds, gs, _, [], p, q, hW', ?_, ?_, ?_, Below.frame hx _, fun h => by cases h⟩
  · rw [e1, hres]
    exact trodAll_mk1 (shut_bool hb _)
  · rw [e2]
    exact trodAll_below hlaid _ _ _ _ hread hA hx
  · rw [e3]
    exact Below.trodVars hlaid hx hv hV
theorem trodVars_length : ∀ {ns : List String} {gs : List (DataW H)} {sp : Nat → Bool} {ps : List MemPlace}, DataW.TrodVars enc P w sp ns gs ps → gs.length = ns.length
  | [], [], _, _, _ => rfl
  | [], _ :: _, _, _, h => h.elim
  | _ :: _, [], _, _, h => h.elim
  | _ :: ns, _ :: gs, _, _, h => by
    obtain ⟨g, t, cs, fuel, p, q, h1, h2, h3, h4, hs, e⟩ := h
    rw [List.length_cons, List.length_cons, trodVars_length hs]
end
end Go.Proofs.YtmdjnohdkhepjaaDoor
