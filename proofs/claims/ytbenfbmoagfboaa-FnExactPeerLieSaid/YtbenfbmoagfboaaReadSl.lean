/- A slice that came in, as a list. -/
import Derived.Test.YtbenfbmoagfboaaRead
import Derived.Test.YtbenfbmoagfboaaSl
namespace Go.Proofs.Ytbenfbmoagfboaa
open Go.RowKit

theorem add_none (b off n : Nat) : (⟨b, off, none⟩ : Addr).add n = ⟨b, off + n, none⟩ := by
  unfold Addr.add
  split
  · rename_i h; subst h; rfl
  · rfl

theorem sl_read {α : Type} {enc : α → List Value} {ok : α → Prop} {W : World} {n : Nat} {es : List Sh} {v : Value} (hes : 0 < es.length)
    (hdec : ∀ cs, All2 (CellN W n) es cs → ∃ a, cs = enc a ∧ ok a) (h : CellN W (n + 1) (.sl es) v) : ∃ xs, Sl enc es.length W v xs ∧ ∀ x ∈ xs, ok x := by
  rcases h with rfl | ⟨⟨b, off, spot⟩, len, cap, rfl, h1, h2, h3⟩
  · exact ⟨[], .inl ⟨_, _, rfl, rfl⟩, by simp⟩
  · by_cases hl : len = 0
    · subst hl
      exact ⟨[], .inl ⟨_, _, rfl, rfl⟩, by simp⟩
    · have h4 : ∀ i, i < len → ∃ a : α, ok a ∧ ∀ j, j < es.length → W.cell? (((⟨b, off, spot⟩ : Addr).add (i * es.length)).add j) = (enc a)[j]? ∧ (enc a).length = es.length := fun i hi => by
        obtain ⟨cs, q1, q2, q3⟩ := h3 i hi
        obtain ⟨a, rfl, ha⟩ := hdec cs q1
        exact ⟨a, ha, fun j hj => ⟨q3 j (by omega), q2⟩⟩
      obtain ⟨a0, _, ha0⟩ := h4 0 (by omega)
      have e0 := (ha0 0 hes).1
      have hlen0 := (ha0 0 hes).2
      rw [List.getElem?_eq_getElem (by omega)] at e0
      have hspot : spot = none := by
        have := World.cell?_spot e0
        simpa [Addr.add] using this
      subst hspot
      have hb : b < W.heap.size := by
        have := World.block_lt_of_cell? W _ e0
        simpa [Addr.add] using this
      have : Inhabited α := ⟨a0⟩
      obtain ⟨f, hf⟩ := Go.Deep.choose_lt h4
      refine ⟨(List.range len).map f, .inr ⟨b, off, cap, by simp, by simp; omega, by simpa using h1, h2, hb, fun i x hx j hj => ?_⟩, fun x hx => ?_⟩
      · have hi : i < len := by have := (List.getElem?_eq_some_iff.1 hx).1; simpa using this
        have hx' : x = f i := by
          simp [hi] at hx
          exact hx.symm
        subst hx'
        have := ((hf i hi).2 j hj).1
        rw [add_none, add_none] at this
        exact this
      · obtain ⟨i, hi, rfl⟩ := List.mem_map.1 hx
        exact (hf i (List.mem_range.1 hi)).1
end Go.Proofs.Ytbenfbmoagfboaa
