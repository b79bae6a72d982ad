/- Slices that are read: a slice's elements as a list, each element a row of cells. -/
import Derived.Test.YtbenfbmoagfboaaPlain
import Derived.Deep.LoopGhost
namespace Go.Proofs.Ytbenfbmoagfboaa
open Go.RowKit

/-- v is a slice (nil or not) that reads as xs: element i lies in the cells 'enc xs[i]'. -/
def Sl {α : Type} (enc : α → List Value) (sz : Nat) (w : World) (v : Value) (xs : List α) : Prop :=
  (∃ o cap, v = .slice o 0 cap ∧ xs = []) ∨
  (∃ b off cap, v = .slice (some ⟨b, off, none⟩) xs.length cap ∧ 0 < xs.length ∧ xs.length ≤ cap ∧ cap ≤ maxLen ∧ b < w.heap.size ∧
    ∀ i x, xs[i]? = some x → ∀ j, j < sz → w.cell? ⟨b, off + i * sz + j, none⟩ = (enc x)[j]?)

theorem Sl.ext {α : Type} {enc : α → List Value} {sz : Nat} {w w' : World} {v : Value} {xs : List α} (h : Sl enc sz w v xs) (hb : Ext w w') : Sl enc sz w' v xs := by
  rcases h with h | ⟨b, off, cap, h1, h2, h3, h4, h5, h6⟩
  · exact .inl h
  · exact .inr ⟨b, off, cap, h1, h2, h3, h4, Nat.lt_of_lt_of_le h5 hb.size, fun i x hx j hj => (hb.cells.1 b _ h5).trans (h6 i x hx j hj)⟩
theorem Sl.len {α : Type} {enc : α → List Value} {sz : Nat} {w : World} {v : Value} {xs : List α} (h : Sl enc sz w v xs) : xs.length ≤ maxLen := by
  rcases h with ⟨o, cap, _, rfl⟩ | ⟨b, off, cap, h1, h2, h3, h4, h5, h6⟩
  · simp
  · omega

/-- The elements of a slice that is not empty, in the walk's spelling. -/
def SlAt {α : Type} (enc : α → List Value) (sz : Nat) (w : World) (b off : Nat) (xs : List α) : Prop :=
  ∀ i x, xs[i]? = some x → ∀ j, j < sz → w.cell? ⟨b, off + i * sz + j, none⟩ = (enc x)[j]?
theorem SlAt.ext {α : Type} {enc : α → List Value} {sz : Nat} {w w' : World} {b off : Nat} {xs : List α} (h : SlAt enc sz w b off xs) (hb : Ext w w') (hl : b < w.heap.size) : SlAt enc sz w' b off xs :=
  fun i x hx j hj => (hb.cells.1 b _ hl).trans (h i x hx j hj)

/-- What a 'sz..' function leaves. -/
def szOf (left : Int) (n : Nat) : Int := if left < n then -1 else left - n
theorem szOf_no {left : Int} {n : Nat} (h : left < n) : szOf left n = -1 := if_pos h
theorem szOf_yes {left : Int} {n : Nat} (h : ¬ left < n) : szOf left n = left - n := if_neg h
end Go.Proofs.Ytbenfbmoagfboaa
