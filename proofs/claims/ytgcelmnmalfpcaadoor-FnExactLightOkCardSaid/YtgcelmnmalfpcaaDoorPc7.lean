/- Walks on the pure machine: peers that lied. -/
import Derived.Test.YtgcelmnmalfpcaaDoorPc6
namespace Go.Proofs.YtgcelmnmalfpcaaDoor
open Go.RowKit
set_option maxRecDepth 100000

theorem lieN_eq {b n i : Nat} (h1 : n = 10 * 2 ^ i) (h2 : i ≤ b) (h3 : i = b ∨ 320 ≤ n) (h5 : i ≤ 5) : lieN b = n := by
  unfold lieN
  rcases h3 with rfl | h3
  · subst h1
    have : (2 : Nat) ^ i ≤ 2 ^ 5 := Nat.pow_le_pow_right (by omega) h5
    omega
  · have e : i = 5 := by
      rcases Nat.lt_or_ge i 5 with q | q
      · have : (2 : Nat) ^ i ≤ 2 ^ 4 := Nat.pow_le_pow_right (by omega) (by omega)
        omega
      · omega
    subst e
    have : (2 : Nat) ^ 5 ≤ 2 ^ b := Nat.pow_le_pow_right (by omega) h2
    omega
theorem shl10 {b : Nat} (h : b ≤ 20) : IntKind.i64.wrap (10 * 2 ^ b) = ((10 * 2 ^ b : Nat) : Int) := by
  have : (2 : Nat) ^ b ≤ 2 ^ 20 := Nat.pow_le_pow_right (by omega) h
  have e : ((10 : Int) * 2 ^ b) = ((10 * 2 ^ b : Nat) : Int) := by simp
  rw [e, wr64] <;> omega
attribute [push_cast] List.set_set List.length_set
end Go.Proofs.YtgcelmnmalfpcaaDoor
