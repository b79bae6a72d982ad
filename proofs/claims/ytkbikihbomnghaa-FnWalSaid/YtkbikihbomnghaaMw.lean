/- A write-ahead log, as plain functions. -/
import Derived.Test.YtkbikihbomnghaaPr2
import Derived.Test.YtkbikihbomnghaaS1
namespace Go.Proofs.Ytkbikihbomnghaa
open Go.RowKit

/-! ### The checksum -/
def crcStep (c : Int) : Int := if c % 2 = 1 then bits .xor .i64 (c / 2) 2197175160 else c / 2
def crcIter : Nat → Int → Int
  | 0, c => c
  | k + 1, c => crcIter k (crcStep c)
def crcGo : List UInt8 → Int → Int
  | [], c => c
  | b :: r, c => crcGo r (crcIter 8 (bits .xor .i64 c (b.toNat : Int)))
def crcM (s : ByteArray) : Int := 4294967295 - crcGo s.data.toList 4294967295
theorem xor_bd {x y : Int} (hx : 0 ≤ x) (hx' : x < 4294967296) (hy : 0 ≤ y) (hy' : y < 4294967296) : 0 ≤ bits .xor .i64 x y ∧ bits .xor .i64 x y < 4294967296 := by
  obtain ⟨a, rfl⟩ : ∃ a : Nat, x = a := ⟨x.toNat, by omega⟩
  obtain ⟨b, rfl⟩ : ∃ b : Nat, y = b := ⟨y.toNat, by omega⟩
  unfold bits
  simp only
  have h : (BitVec.ofInt (IntKind.bits .i64) (a : Int) ^^^ BitVec.ofInt (IntKind.bits .i64) (b : Int)).toNat < 2 ^ 32 := by
    rw [BitVec.toNat_xor]
    refine Nat.xor_lt_two_pow ?_ ?_
    · simp [BitVec.toNat_ofInt, IntKind.bits]; omega
    · simp [BitVec.toNat_ofInt, IntKind.bits]; omega
  generalize (BitVec.ofInt (IntKind.bits .i64) (a : Int) ^^^ BitVec.ofInt (IntKind.bits .i64) (b : Int)).toNat = n at h
  rw [IntKind.wrap_i64]
  omega
theorem crcStep_bd {c : Int} (h : 0 ≤ c) (h' : c < 4294967296) : 0 ≤ crcStep c ∧ crcStep c < 4294967296 := by
  unfold crcStep
  split
  · exact xor_bd (by omega) (by omega) (by omega) (by omega)
  · omega
theorem crcIter_bd : ∀ (k : Nat) {c : Int}, 0 ≤ c → c < 4294967296 → 0 ≤ crcIter k c ∧ crcIter k c < 4294967296
  | 0, _, h, h' => ⟨h, h'⟩
  | k + 1, _, h, h' => crcIter_bd k (crcStep_bd h h').1 (crcStep_bd h h').2
theorem crcGo_bd : ∀ (l : List UInt8) {c : Int}, 0 ≤ c → c < 4294967296 → 0 ≤ crcGo l c ∧ crcGo l c < 4294967296
  | [], _, h, h' => ⟨h, h'⟩
  | b :: r, c, h, h' => by
    have hb := b.toNat_lt
    obtain ⟨h1, h2⟩ := xor_bd h h' (y := (b.toNat : Int)) (by omega) (by omega)
    obtain ⟨h3, h4⟩ := crcIter_bd 8 h1 h2
    exact crcGo_bd r h3 h4
theorem crcM_bd (s : ByteArray) : 0 ≤ crcM s ∧ crcM s < 4294967296 := by
  have := crcGo_bd s.data.toList (c := 4294967295) (by omega) (by omega)
  unfold crcM
  omega

/-! ### Records -/
def recB (s : ByteArray) : ByteArray := fx (crcM (sizedS s)).toNat 4 ++ sizedS s
def walRec (s : ByteArray) : ByteArray := if 60 < s.size then ⟨#[]⟩ else recB s
def walAdd (log s : ByteArray) : ByteArray × Bool := if 60 < s.size then (log, false) else if 2000 < log.size + (recB s).size then (log, false) else (log ++ recB s, true)
/-- The record that stands at a place: its content and where it ends. -/
def walAt (log : ByteArray) (a : Nat) : Option (ByteArray × Nat) :=
  if (takeM log (a + 4)).2 < 0 then none else if 60 < (takeM log (a + 4)).1.size then none else
  if eqB (recB (takeM log (a + 4)).1) (log.extract a (takeM log (a + 4)).2.toNat) then some ((takeM log (a + 4)).1, (takeM log (a + 4)).2.toNat) else none
def walGo (log : ByteArray) : Nat → Nat → List ByteArray × Nat
  | 0, a => ([], a)
  | f + 1, a => match walAt log a with
    | none => ([], a)
    | some (s, e) => (s :: (walGo log f e).1, (walGo log f e).2)
def walScan (log : ByteArray) : List ByteArray × Nat := walGo log (log.size + 1) 0

/-! ### Numbers that are read -/
theorem rd_var {s : List UInt8} : ∀ (f k : Nat), (rdFrom s f k).2 ≠ 0 → varL (rdFrom s f k).1 = s.take (rdFrom s f k).2
  | 0, k, h => by simp [rdFrom] at h
  | f + 1, k, h => by
    rw [rdFrom] at h ⊢
    split at h
    · rename_i h1
      rw [if_pos h1]
      split at h
      · rename_i h2
        rw [if_pos h2]
        exact h2
      · rename_i h2
        rw [if_neg h2]
        exact rd_var f (k + 1) h
    · exact absurd rfl h
theorem readVar_var {s : List UInt8} (h : (readVar s).2 ≠ 0) : varL (readVar s).1 = s.take (readVar s).2 := rd_var 7 1 h
theorem varS_nat {n : Nat} (h : n ≤ 562949953421311) : varS (n : Int) = ⟨(varL n).toArray⟩ := by
  unfold varS
  rw [if_pos (inB_iff.2 ⟨by omega, by omega⟩)]
  rfl
/-- The bytes of a number that was read are as many as were read. -/
theorem readVar_len {s : List UInt8} (h : (readVar s).2 ≠ 0) : (varS ((readVar s).1 : Nat)).size = (readVar s).2 := by
  obtain ⟨b1, b2, b3⟩ := readVar_bd s
  rw [varS_nat b1, readVar_var h, size_mk, List.length_take]
  omega
theorem readVar_small {b : UInt8} {r : List UInt8} (h : b.toNat < 128) : readVar (b :: r) = (b.toNat, 1) := by
  have e : varL (val ((b :: r).take 1)) = (b :: r).take 1 := by
    simp only [List.take_succ_cons, List.take_zero, val]
    have : b.toNat % 128 + 128 * 0 = b.toNat := by omega
    rw [this, varL, varF, if_pos h]
    simp
  have := readVar_hit (s := b :: r) (j := 0) (x := b) (by omega) rfl (fun i y hi => by omega) e
  rw [this]
  simp only [List.take_succ_cons, List.take_zero, val]
  congr 1
  omega
theorem varS_small {n : Nat} (h : n < 128) : varS (n : Int) = ⟨#[UInt8.ofNat n]⟩ := by
  rw [varS_nat (by omega)]
  congr 1
  rw [varL, varF, if_pos h]
theorem recB_size {s : ByteArray} (h : s.size < 128) : (recB s).size = 5 + s.size := by
  unfold recB sizedS
  rw [ByteArray.size_append, ByteArray.size_append, fx_size, varS_small h]
  show 4 + (1 + s.size) = _
  omega
end Go.Proofs.Ytkbikihbomnghaa
