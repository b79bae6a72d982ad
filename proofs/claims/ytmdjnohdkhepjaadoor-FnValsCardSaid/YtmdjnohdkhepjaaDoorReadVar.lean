/- ReadVar: the plain law. -/
import Derived.Test.YtmdjnohdkhepjaaDoorK2
namespace Go.Proofs.YtmdjnohdkhepjaaDoor
set_option linter.unusedSimpArgs false
set_option linter.unusedVariables false
open Go.RowKit

/-- The number that bytes say, seven bits each, the lowest first. -/
def val : List UInt8 → Nat
  | [] => 0
  | b :: r => b.toNat % 128 + 128 * val r
def rdFrom (s : List UInt8) : Nat → Nat → Nat × Nat
  | 0, _ => (0, 0)
  | f + 1, k => if k ≤ s.length then if varL (val (s.take k)) = s.take k then (val (s.take k), k) else rdFrom s f (k + 1) else (0, 0)
def readVar (s : List UInt8) : Nat × Nat := rdFrom s 7 1

theorem val_snoc (l : List UInt8) (b : UInt8) : val (l ++ [b]) = val l + (b.toNat % 128) * 128 ^ l.length := by
  induction l with
  | nil => simp [val]
  | cons c l ih =>
    rw [List.cons_append, val, ih, val, List.length_cons, Nat.pow_succ]
    have : 128 * (b.toNat % 128 * 128 ^ l.length) = b.toNat % 128 * (128 ^ l.length * 128) := by rw [Nat.mul_comm 128, Nat.mul_assoc]
    omega
theorem val_lt (l : List UInt8) : val l < 128 ^ l.length := by
  induction l with
  | nil => simp [val]
  | cons c l ih =>
    rw [val, List.length_cons, Nat.pow_succ]
    have := Nat.mod_lt c.toNat (show 0 < 128 by omega)
    omega
theorem val_le {l : List UInt8} (h : l.length ≤ 7) : val l ≤ 562949953421311 := by
  have h1 := val_lt l
  have h2 : 128 ^ l.length ≤ 128 ^ 7 := Nat.pow_le_pow_right (by omega) h
  omega
theorem var_form : ∀ (f n : Nat), n < 128 ^ (f + 1) → ∃ p b, varF (f + 1) n = p ++ [b] ∧ b.toNat < 128 ∧ ∀ x ∈ p, 128 ≤ x.toNat := by
  intro f
  induction f with
  | zero =>
    intro n h
    exact ⟨[], UInt8.ofNat n, by rw [varF_last (by omega)]; rfl, by simp; omega, by simp⟩
  | succ f ih =>
    intro n h
    by_cases hn : n < 128
    · exact ⟨[], UInt8.ofNat n, by rw [varF_last hn]; rfl, by simp; omega, by simp⟩
    · obtain ⟨p, b, h1, h2, h3⟩ := ih (n / 128) (pow_div h)
      refine ⟨UInt8.ofNat (n % 128 + 128) :: p, b, by rw [varF_step (by omega), h1]; rfl, h2, fun x hx => ?_⟩
      rcases List.mem_cons.1 hx with rfl | hx
      · have : (UInt8.ofNat (n % 128 + 128)).toNat = n % 128 + 128 := by simp; omega
        omega
      · exact h3 x hx
theorem var_form' {n : Nat} (h : n ≤ 562949953421311) : ∃ p b, varL n = p ++ [b] ∧ b.toNat < 128 ∧ ∀ x ∈ p, 128 ≤ x.toNat := var_form 7 n (by omega)

/-- A byte below 128 ahead of the last one: no varint. -/
theorem no_early {s : List UInt8} {j k : Nat} {x : UInt8} (hx : s[j]? = some x) (hx2 : x.toNat < 128) (hj : j + 1 < k) (hk : k ≤ s.length) (hk7 : k ≤ 7) : varL (val (s.take k)) ≠ s.take k := by
  intro e
  obtain ⟨p, b, h1, h2, h3⟩ := var_form' (n := val (s.take k)) (val_le (by simp; omega))
  rw [e] at h1
  have hl : p.length + 1 = k := by
    have := congrArg List.length h1
    simp at this
    omega
  have hj2 : (s.take k)[j]? = some x := by rw [List.getElem?_take, if_pos (by omega)]; exact hx
  rw [h1, List.getElem?_append_left (by omega)] at hj2
  have := h3 x (List.mem_of_getElem? hj2)
  omega
/-- A last byte from 128 on: no varint. -/
theorem no_late {s : List UInt8} {k : Nat} {x : UInt8} (hx : s[k]? = some x) (hx2 : 128 ≤ x.toNat) (hk7 : k + 1 ≤ 7) : varL (val (s.take (k + 1))) ≠ s.take (k + 1) := by
  intro e
  have hk : k < s.length := (List.getElem?_eq_some_iff.1 hx).1
  obtain ⟨p, b, h1, h2, h3⟩ := var_form' (n := val (s.take (k + 1))) (val_le (by simp; omega))
  rw [e] at h1
  have hl : p.length = k := by
    have := congrArg List.length h1
    simp at this
    omega
  have hj2 : (s.take (k + 1))[k]? = some x := by rw [List.getElem?_take, if_pos (by omega)]; exact hx
  rw [h1, List.getElem?_append_right (by omega), hl] at hj2
  simp at hj2
  subst hj2
  omega
theorem rd_step {s : List UInt8} {f k : Nat} (h : k ≤ s.length) (hne : varL (val (s.take k)) ≠ s.take k) : rdFrom s (f + 1) k = rdFrom s f (k + 1) := by
  rw [rdFrom, if_pos h, if_neg hne]
theorem rd_end {s : List UInt8} {f k : Nat} (h : s.length < k) : rdFrom s f k = (0, 0) := by
  cases f with
  | zero => rfl
  | succ f => rw [rdFrom, if_neg (by omega)]
theorem rd_hit {s : List UInt8} {f k : Nat} (h : k ≤ s.length) (he : varL (val (s.take k)) = s.take k) : rdFrom s (f + 1) k = (val (s.take k), k) := by
  rw [rdFrom, if_pos h, if_pos he]
/-- All bytes up to k go on. -/
theorem rd_skip {s : List UInt8} : ∀ (j : Nat), j ≤ 7 → j ≤ s.length → (∀ i x, i < j → s[i]? = some x → 128 ≤ x.toNat) → rdFrom s 7 1 = rdFrom s (7 - j) (j + 1) := by
  intro j
  induction j with
  | zero => intro _ _ _; rfl
  | succ j ih =>
    intro h7 hl h
    rw [ih (by omega) (by omega) (fun i x hi => h i x (by omega))]
    have hx : s[j]? = some (s[j]'(by omega)) := List.getElem?_eq_getElem _
    rw [show 7 - j = (7 - (j + 1)) + 1 by omega]
    exact rd_step (by omega) (no_late hx (h j _ (by omega) hx) (by omega))
theorem rd_zero {s : List UInt8} {j : Nat} {x : UInt8} (hx : s[j]? = some x) (hx2 : x.toNat < 128) : ∀ (f k : Nat), j + 1 < k → f + k = 8 → rdFrom s f k = (0, 0) := by
  intro f
  induction f with
  | zero => intro k _ _; rfl
  | succ f ih =>
    intro k hk hf
    by_cases hl : k ≤ s.length
    · rw [rd_step hl (no_early hx hx2 hk hl (by omega))]
      exact ih (k + 1) (by omega) (by omega)
    · exact rd_end (by omega)
theorem readVar_hit {s : List UInt8} {j : Nat} {x : UInt8} (hj : j < 7) (hx : s[j]? = some x) (h : ∀ i y, i < j → s[i]? = some y → 128 ≤ y.toNat) (he : varL (val (s.take (j + 1))) = s.take (j + 1)) : readVar s = (val (s.take (j + 1)), j + 1) := by
  have hl : j < s.length := (List.getElem?_eq_some_iff.1 hx).1
  unfold readVar
  rw [rd_skip j (by omega) (by omega) h, show 7 - j = (6 - j) + 1 by omega]
  exact rd_hit (by omega) he
theorem readVar_miss {s : List UInt8} {j : Nat} {x : UInt8} (hj : j < 7) (hx : s[j]? = some x) (hx2 : x.toNat < 128) (h : ∀ i y, i < j → s[i]? = some y → 128 ≤ y.toNat) (he : varL (val (s.take (j + 1))) ≠ s.take (j + 1)) : readVar s = (0, 0) := by
  have hl : j < s.length := (List.getElem?_eq_some_iff.1 hx).1
  unfold readVar
  rw [rd_skip j (by omega) (by omega) h, show 7 - j = (6 - j) + 1 by omega, rd_step (by omega) he]
  exact rd_zero hx hx2 _ _ (by omega) (by omega)
theorem readVar_none {s : List UInt8} {j : Nat} (hj : j = 7 ∨ s.length ≤ j) (hj7 : j ≤ 7) (hjl : j ≤ s.length) (h : ∀ i y, i < j → s[i]? = some y → 128 ≤ y.toNat) : readVar s = (0, 0) := by
  unfold readVar
  rw [rd_skip j hj7 hjl h]
  rcases hj with rfl | hj
  · rfl
  · exact rd_end (by omega)
theorem readVar_bd (s : List UInt8) : (readVar s).1 ≤ 562949953421311 ∧ (readVar s).2 ≤ 7 ∧ (readVar s).2 ≤ s.length := by
  have : ∀ f k, f + k ≤ 8 → (rdFrom s f k).1 ≤ 562949953421311 ∧ (rdFrom s f k).2 ≤ 7 ∧ (rdFrom s f k).2 ≤ s.length := by
    intro f
    induction f with
    | zero => intro k _; simp [rdFrom]
    | succ f ih =>
      intro k hk
      unfold rdFrom
      split
      · split
        · exact ⟨val_le (by simp; omega), by simp; omega, by simpa⟩
        · exact ih (k + 1) (by omega)
      · simp
  exact this 7 1 (by omega)
theorem or_shift {nv b k : Nat} (hk : k ≤ 6) (hb : b < 256) (hv : nv < 128 ^ k) : bits BinOp.or IntKind.i64 (nv : Int) (wrap64 (wrap64 (bits BinOp.and IntKind.u8 (b : Int) 127) * 2 ^ (7 * k))) = ((nv + (b % 128) * 128 ^ k : Nat) : Int) := by
  have e1 : bits BinOp.and IntKind.u8 (b : Int) 127 = ((b % 128 : Nat) : Int) := (bits_mask .u8 8 (by decide) wraps_u8 7 (by decide) (b : Int) (by omega) (by omega)).trans (by omega)
  rw [e1, IntWalk.wrap64_in ((b % 128 : Nat) : Int) ⟨by omega, by omega⟩]
  have e2 : (2 : Int) ^ (7 * k) = ((128 ^ k : Nat) : Int) := by rw [Int.pow_mul]; simp
  have h128 : (128 : Nat) ^ k ≤ 128 ^ 6 := Nat.pow_le_pow_right (by omega) hk
  have hm : (b % 128) * 128 ^ k ≤ 127 * 128 ^ 6 := Nat.mul_le_mul (by omega) h128
  have e3 : ((b % 128 : Nat) : Int) * 2 ^ (7 * k) = (((b % 128) * 128 ^ k : Nat) : Int) := by rw [e2]; simp
  rw [e3, IntWalk.wrap64_in (((b % 128) * 128 ^ k : Nat) : Int) ⟨by omega, by omega⟩]
  have q1 := (bits_nat .i64 62 (by decide) wraps_i64 nv ((b % 128) * 128 ^ k) (by omega) (by omega)).2
  have q2 := (bits_nat .i64 62 (by decide) wraps_i64 ((b % 128) * 128 ^ k) nv (by omega) (by omega)).2
  have e4 : (2 : Nat) ^ (7 * k) = 128 ^ k := by rw [Nat.pow_mul]
  have q3 := bits_join .i64 62 (by decide) wraps_i64 (7 * k) (((b % 128) * 128 ^ k : Nat) : Int) (nv : Int) (by omega) (by rw [e2]; exact_mod_cast Nat.mul_mod_left _ _) (by omega) (by omega) (by rw [e2]; omega) (by omega)
  rw [Nat.or_comm] at q1
  rw [q1, ← q2, q3]
  omega
theorem take_snoc' {s : List UInt8} {k : Nat} {x : UInt8} (h : s[k]? = some x) : s.take (k + 1) = s.take k ++ [x] := by
  rw [List.take_add_one, h]; rfl
theorem val_take {s : List UInt8} {k : Nat} {x : UInt8} (h : s[k]? = some x) : val (s.take (k + 1)) = val (s.take k) + (x.toNat % 128) * 128 ^ k := by
  have hk : k < s.length := (List.getElem?_eq_some_iff.1 h).1
  rw [take_snoc' h, val_snoc, List.length_take, Nat.min_eq_left (by omega)]
theorem bytes_len (s : ByteArray) : s.data.toList.length = s.size := rfl
theorem bytes_get {s : ByteArray} {k : Nat} (h : k < s.size) : s.data.toList[k]? = some s[k] := by
  rw [List.getElem?_eq_getElem (by rw [bytes_len]; exact h)]
  rfl
theorem bytes_take (s : ByteArray) (k : Nat) : (s.extract 0 k).toList = s.data.toList.take k := by
  rw [ByteArray.toList_eq, ByteArray.data_extract, Array.toList_extract]
  simp [List.extract]
theorem varS_list {n : Nat} (h : n ≤ 562949953421311) : (varS (n : Int)).toList = varL n := by
  unfold varS
  rw [if_pos (inB_iff.2 ⟨by omega, by omega⟩), ByteArray.toList_mk]
  rfl
theorem val_drop {l : List UInt8} {m : Nat} {x : UInt8} (h : l[m]? = some x) : val (l.drop m) = x.toNat % 128 + 128 * val (l.drop (m + 1)) := by
  have hm : m < l.length := (List.getElem?_eq_some_iff.1 h).1
  rw [List.drop_eq_getElem_cons hm, val]
  have : l[m] = x := by
    rw [List.getElem?_eq_getElem hm] at h
    exact Option.some.inj h
  rw [this]
theorem val_drop_le {l : List UInt8} {m : Nat} (h : l.length ≤ m + 6) : val (l.drop m) ≤ 4398046511104 := by
  have h1 := val_lt (l.drop m)
  have h2 : 128 ^ (l.drop m).length ≤ 128 ^ 6 := Nat.pow_le_pow_right (by omega) (by simp; omega)
  omega
end Go.Proofs.YtmdjnohdkhepjaaDoor
