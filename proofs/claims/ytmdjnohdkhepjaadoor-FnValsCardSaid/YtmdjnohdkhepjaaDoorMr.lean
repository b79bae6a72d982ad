/- Texts of validators are read: plain laws. -/
import Derived.Test.YtmdjnohdkhepjaaDoorK3
import Derived.Test.YtmdjnohdkhepjaaDoorPr2
namespace Go.Proofs.YtmdjnohdkhepjaaDoor
set_option linter.unusedSimpArgs false
set_option linter.unusedVariables false
open Go.RowKit
set_option maxRecDepth 100000

theorem mr_list (a b : ByteArray) : (a ++ b).data.toList = a.data.toList ++ b.data.toList := by rw [ByteArray.data_append, Array.toList_append]
theorem mr_ext {a b : ByteArray} (h : a.data.toList = b.data.toList) : a = b := ByteArray.ext (Array.toList_inj.1 h)
theorem mr_nat {n : Nat} (h : n ≤ 562949953421311) : varS (n : Int) = ⟨(varL n).toArray⟩ := by
  unfold varS
  rw [if_pos (inB_iff.2 ⟨by omega, by omega⟩)]
  rfl
theorem mr_one {b : UInt8} {r : List UInt8} (h : b.toNat < 128) : readVar (b :: r) = (b.toNat, 1) := by
  have e : varL (val ((b :: r).take 1)) = (b :: r).take 1 := by
    simp only [List.take_succ_cons, List.take_zero, val]
    have : b.toNat % 128 + 128 * 0 = b.toNat := by omega
    rw [this, varL, varF, if_pos h]
    simp
  have := readVar_hit (s := b :: r) (j := 0) (x := b) (by omega) rfl (fun i y hi => by omega) e
  rw [this]
  simp only [List.take_succ_cons, List.take_zero, val]
  congr 1
  omega
theorem mr_two {a b : UInt8} {r : List UInt8} (ha : 128 ≤ a.toNat) (hb : b.toNat < 128) (hb0 : 0 < b.toNat) : readVar (a :: b :: r) = (a.toNat % 128 + 128 * b.toNat, 2) := by
  have ha2 := a.toNat_lt
  have ev : val ((a :: b :: r).take 2) = a.toNat % 128 + 128 * b.toNat := by
    simp only [List.take_succ_cons, List.take_zero, val]
    omega
  have e : varL (val ((a :: b :: r).take 2)) = (a :: b :: r).take 2 := by
    rw [ev, varL, varF, if_neg (by omega), varF, if_pos (by omega)]
    rw [show (a.toNat % 128 + 128 * b.toNat) % 128 + 128 = a.toNat by omega, show (a.toNat % 128 + 128 * b.toNat) / 128 = b.toNat by omega]
    simp
  have := readVar_hit (s := a :: b :: r) (j := 1) (x := b) (by omega) rfl (fun i y hi hy => by
    obtain rfl : i = 0 := by omega
    simp at hy
    subst hy
    exact ha) e
  rw [this]
  show (val ((a :: b :: r).take 2), 2) = _
  rw [ev]
/-- A small number is read back from its text, whatever follows. -/
theorem readVar_varS {n : Nat} (h : n ≤ 16383) (r : List UInt8) : readVar ((varS (n : Int)).data.toList ++ r) = (n, (varS (n : Int)).size) := by
  rw [mr_nat (by omega)]
  by_cases c : n < 128
  · have e : varL n = [UInt8.ofNat n] := by rw [varL, varF, if_pos c]
    rw [e]
    show readVar (UInt8.ofNat n :: r) = (n, 1)
    have : (UInt8.ofNat n).toNat = n := by simp; omega
    rw [mr_one (by rw [this]; exact c), this]
  · have e : varL n = [UInt8.ofNat (n % 128 + 128), UInt8.ofNat (n / 128)] := by rw [varL, varF, if_neg c, varF, if_pos (by omega)]
    rw [e]
    show readVar (UInt8.ofNat (n % 128 + 128) :: UInt8.ofNat (n / 128) :: r) = (n, 2)
    have e1 : (UInt8.ofNat (n % 128 + 128)).toNat = n % 128 + 128 := by simp; omega
    have e2 : (UInt8.ofNat (n / 128)).toNat = n / 128 := by simp; omega
    rw [mr_two (by omega) (by omega) (by omega), e1, e2]
    congr 1
    omega
theorem varS_pos {n : Nat} (h : n ≤ 16383) : (varS (n : Int)).size ≠ 0 := by
  rw [mr_nat (by omega), size_mk, varL, varF]
  split <;> simp
theorem scan_varS {n : Nat} (h : n ≤ 16383) (r : ByteArray) : scanNum (varS (n : Int) ++ r) false = ((n : Int), r, false) := by
  have hr := readVar_varS h r.data.toList
  rw [← mr_list] at hr
  rw [scan_ok (by rw [hr]; exact varS_pos h), hr]
  congr 2
  refine mr_ext ?_
  rw [bytes_drop, mr_list]
  have : (varS (n : Int)).data.toList.length = (varS (n : Int)).size := rfl
  rw [← this, List.drop_left]
/-- What follows the number of validators. -/
def valsTail : List GVal → ByteArray
  | [] => ⟨#[]⟩
  | v :: r => varS v.fId ++ (varS v.fPower ++ valsTail r)
theorem catF_tail : ∀ (l : List GVal) (s : ByteArray), catF showVal s l = s ++ valsTail l
  | [], s => by
    refine mr_ext ?_
    rw [mr_list, catF, valsTail]
    simp
  | v :: r, s => by
    rw [catF, catF_tail r, valsTail, showVal]
    refine mr_ext ?_
    simp only [mr_list, List.append_assoc]
theorem showVals_tail {l : List GVal} (ok : valsOk l = true) : showVals l = varS (l.length : Nat) ++ valsTail l := by
  unfold showVals
  rw [if_pos ok, catF_tail]
theorem valsTail_size {l : List GVal} (h : l.length ≤ 7) : (valsTail l).size ≤ 112 := by
  have key : ∀ l : List GVal, (valsTail l).size ≤ 16 * l.length := fun l => by
    induction l with
    | nil => exact Nat.zero_le _
    | cons v r ih =>
      have h1 := varS_size v.fId
      have h2 := varS_size v.fPower
      rw [valsTail, ByteArray.size_append, ByteArray.size_append, List.length_cons]
      omega
  have := key l
  omega
theorem showVals_pos {l : List GVal} (ok : valsOk l = true) : (showVals l).size ≠ 0 := by
  have := varS_pos (n := l.length) (by have := (valsOk_iff.1 ok).2.2.2; omega)
  rw [showVals_tail ok, ByteArray.size_append]
  omega
theorem showVals_no {l : List GVal} (ok : valsOk l = false) : showVals l = ⟨#[]⟩ := by unfold showVals; rw [ok]; rfl
theorem valsTail_at {l : List GVal} {k : Nat} {v : GVal} (h : l[k]? = some v) : valsTail (l.drop k) = varS v.fId ++ (varS v.fPower ++ valsTail (l.drop (k + 1))) := by
  have hk := (List.getElem?_eq_some_iff.1 h).1
  rw [List.drop_eq_getElem_cons hk, (List.getElem?_eq_some_iff.1 h).2, valsTail]
theorem scan_val {l : List GVal} {k : Nat} {v : GVal} (h : l[k]? = some v) (ok : vOk v = true) : scanNum (valsTail (l.drop k)) false = (v.fId, varS v.fPower ++ valsTail (l.drop (k + 1)), false) ∧ scanNum (varS v.fPower ++ valsTail (l.drop (k + 1))) false = (v.fPower, valsTail (l.drop (k + 1)), false) := by
  obtain ⟨a1, a2, a3, a4⟩ := vOk_facts ok
  obtain ⟨a, ha⟩ : ∃ a : Nat, v.fId = a := ⟨v.fId.toNat, by omega⟩
  obtain ⟨b, hb⟩ : ∃ b : Nat, v.fPower = b := ⟨v.fPower.toNat, by omega⟩
  rw [valsTail_at h, ha, hb]
  exact ⟨scan_varS (by omega) _, scan_varS (by omega) _⟩
theorem vars_one {s : List UInt8} {a : Nat} {n : Nat} {r : List UInt8} (h : n ≤ 16383) (e : s.drop a = (varS (n : Int)).data.toList ++ r) (m : Nat) : varsM s (m + 1) a = (varsM s m (a + (varS (n : Int)).size)).map (fun q => ((n : Int) :: q.1, q.2)) ∧ s.drop (a + (varS (n : Int)).size) = r := by
  have hr := readVar_varS h r
  rw [← e] at hr
  refine ⟨?_, ?_⟩
  · rw [vars_some (by rw [hr]; exact varS_pos h), hr]
  · have : (varS (n : Int)).data.toList.length = (varS (n : Int)).size := rfl
    rw [← List.drop_drop, e, ← this, List.drop_left]
theorem vars_head {l : List GVal} (ok : valsOk l = true) : ∃ a, varsM (showVals l).data.toList 1 0 = some ([(l.length : Int)], a) ∧ (showVals l).data.toList.drop a = (valsTail l).data.toList ∧ a ≤ 8 := by
  have h7 := (valsOk_iff.1 ok).2.2.2
  have e : (showVals l).data.toList.drop 0 = (varS ((l.length : Nat) : Int)).data.toList ++ (valsTail l).data.toList := by rw [List.drop_zero, showVals_tail ok, mr_list]
  obtain ⟨h1, h2⟩ := vars_one (by omega) e 0
  have hz := varS_size ((l.length : Nat) : Int)
  exact ⟨_, by rw [h1]; rfl, h2, by omega⟩
theorem vars_pair {s : List UInt8} {a : Nat} {l : List GVal} {k : Nat} {v : GVal} (h : l[k]? = some v) (ok : vOk v = true) (e : s.drop a = (valsTail (l.drop k)).data.toList) : ∃ b, varsM s 2 a = some ([v.fId, v.fPower], b) ∧ s.drop b = (valsTail (l.drop (k + 1))).data.toList ∧ b ≤ a + 16 := by
  obtain ⟨a1, a2, a3, a4⟩ := vOk_facts ok
  obtain ⟨x, hx⟩ : ∃ a : Nat, v.fId = a := ⟨v.fId.toNat, by omega⟩
  obtain ⟨y, hy⟩ : ∃ b : Nat, v.fPower = b := ⟨v.fPower.toNat, by omega⟩
  rw [valsTail_at h, mr_list, mr_list] at e
  rw [hx, hy] at e ⊢
  obtain ⟨h1, h2⟩ := vars_one (by omega) e 1
  obtain ⟨h3, h4⟩ := vars_one (by omega) h2 0
  have z1 := varS_size (x : Int)
  have z2 := varS_size (y : Int)
  exact ⟨_, by rw [h1, h3]; rfl, h4, by omega⟩
theorem vars_bd {s : List UInt8} : ∀ {n a : Nat} {r : List Int × Nat}, varsM s n a = some r → r.1.length = n ∧ r.2 ≤ a + 7 * n ∧ ∀ x ∈ r.1, 0 ≤ x
  | 0, a, r, h => by
    rw [varsM] at h
    cases h
    exact ⟨rfl, by simp, fun x hx => by cases hx⟩
  | n + 1, a, r, h => by
    obtain ⟨b1, b2, b3⟩ := readVar_bd (s.drop a)
    by_cases hz : (readVar (s.drop a)).2 = 0
    · rw [vars_none hz] at h; cases h
    · rw [vars_some hz, Option.map_eq_some_iff] at h
      obtain ⟨q, hq, rfl⟩ := h
      obtain ⟨c1, c2, c3⟩ := vars_bd hq
      refine ⟨by simp [c1], by dsimp only; omega, fun x hx => ?_⟩
      rcases List.mem_cons.1 hx with rfl | hx
      · omega
      · exact c3 x hx
end Go.Proofs.YtmdjnohdkhepjaaDoor
