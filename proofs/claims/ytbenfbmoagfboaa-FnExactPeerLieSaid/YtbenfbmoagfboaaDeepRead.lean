/- What came in, as data of any depth. -/
import Derived.Test.YtbenfbmoagfboaaRead
import Derived.Test.YtbenfbmoagfboaaReadSl
import Derived.Test.YtbenfbmoagfboaaDeepCell
namespace Go.Proofs.Ytbenfbmoagfboaa
open Go.RowKit

/-- Cells of these shapes read as some element. -/
def Dec {α : Type} (ss : List Sh) (enc : α → List D) : Prop := ∀ n W vs, All2 (CellN W n) ss vs → ∃ x, Rds W (enc x) vs ∧ okL (enc x)
theorem flatMap_len' {α : Type} {enc : α → List D} {sz : Nat} (hl : ∀ x, (enc x).length = sz) (xs : List α) : (xs.flatMap enc).length = xs.length * sz := by
  induction xs with
  | nil => simp
  | cons y ys ih => rw [List.flatMap_cons, List.length_append, ih, hl, List.length_cons, Nat.add_mul]; omega
theorem All2.all_len {α β : Type} {R : α → β → Prop} {l : List α} {m : List β} (h : All2 R l m) : l.length = m.length := h.length

theorem dec_rows {α : Type} {enc : α → List D} {ss : List Sh} {n : Nat} {W : World} {b off : Nat} (hd : Dec ss enc) (hl : ∀ x, (enc x).length = ss.length) : ∀ len : Nat,
    (∀ i, i < len → ∃ cs, All2 (CellN W n) ss cs ∧ cs.length = ss.length ∧ ∀ j, j < cs.length → W.cell? ⟨b, off + i * ss.length + j, none⟩ = cs[j]?) →
    ∃ (xs : List α) (us : List Value), xs.length = len ∧ us.length = len * ss.length ∧ Rds W (xs.flatMap enc) us ∧ okL (xs.flatMap enc) ∧ ∀ o u, us[o]? = some u → W.cell? ⟨b, off + o, none⟩ = some u
  | 0, _ => ⟨[], [], rfl, by simp, .nil, by simp [okL], by simp⟩
  | len + 1, h => by
    obtain ⟨xs, us, h1, h2, h3, h4, h5⟩ := dec_rows hd hl len fun i hi => h i (by omega)
    obtain ⟨cs, k1, k2, k3⟩ := h len (by omega)
    obtain ⟨x, q1, q2⟩ := hd n W cs k1
    refine ⟨xs ++ [x], us ++ cs, by simp [h1], by rw [List.length_append, h2, k2, Nat.add_mul]; omega, ?_, ?_, fun o u hu => ?_⟩
    · rw [List.flatMap_append]
      exact h3.append (by simpa using q1)
    · rw [List.flatMap_append, okL_append]
      exact ⟨h4, by simpa using q2⟩
    · rcases Nat.lt_or_ge o us.length with ho | ho
      · rw [List.getElem?_append_left ho] at hu
        exact h5 o u hu
      · rw [List.getElem?_append_right ho] at hu
        have := k3 (o - us.length) (List.getElem?_eq_some_iff.1 hu).1
        rw [hu, h2, Nat.add_assoc, show len * ss.length + (o - len * ss.length) = o by omega] at this
        exact this
theorem dec_sl {α : Type} {enc : α → List D} {ss : List Sh} {n : Nat} {W : World} {v : Value} (e : TypeId) (hd : Dec ss enc) (hl : ∀ x, (enc x).length = ss.length) (hp : 0 < ss.length) (h : CellN W n (.sl ss) v) :
    ∃ xs, RL e ss.length enc W v xs ∧ okL [slD e ss.length enc xs] := by
  cases n with
  | zero => exact h.elim
  | succ n =>
    rcases h with rfl | ⟨⟨b, off, spot⟩, len, cap, rfl, h1, h2, h3⟩
    · exact ⟨[], .nilS _ _ _ _ .nil, by simp [okL, slD]⟩
    · by_cases hl0 : len = 0
      · subst hl0
        exact ⟨[], .nilS _ _ _ _ .nil, by simp [okL, slD]⟩
      · obtain ⟨cs, q1, q2, q3⟩ := h3 0 (by omega)
        have e0 := q3 0 (by omega)
        rw [List.getElem?_eq_getElem (by omega)] at e0
        have hspot : spot = none := by
          have := World.cell?_spot e0
          simpa [Addr.add] using this
        subst hspot
        have hb : b < W.heap.size := by
          have := World.block_lt_of_cell? W _ e0
          simpa [Addr.add] using this
        obtain ⟨xs, us, k1, k2, k3, k4, k5⟩ := dec_rows (b := b) (off := off) hd hl len fun i hi => by
          obtain ⟨cs, q1, q2, q3⟩ := h3 i hi
          refine ⟨cs, q1, q2, fun j hj => ?_⟩
          have := q3 j hj
          rw [add_none, add_none] at this
          exact this
        subst k1
        refine ⟨xs, .sl _ _ _ _ _ _ (by omega) h1 h2 hb (flatMap_len' hl xs) k2 k5 k3 .nil, ?_⟩
        simp only [slD, okL, and_true]
        exact ⟨by simp only [maxLen] at h2; omega, k4⟩
theorem okL_int {n : Int} {ds : List D} (h : (Lit.int .i64 n).wf = true) (k : okL ds) : okL (.int n :: ds) := by simp only [okL]; exact ⟨wf_bd h, k⟩
theorem okL_str {s : ByteArray} {ds : List D} (h : s.size ≤ maxLen) (k : okL ds) : okL (.str s :: ds) := by simp only [okL]; exact ⟨by simp only [maxLen] at h; omega, k⟩
theorem okL_nil : okL [] := by simp [okL]
theorem okL_bool {b : Bool} {ds : List D} (k : okL ds) : okL (.bool b :: ds) := by simp only [okL]; exact k
theorem okL_cons {d : D} {ds : List D} (h : okL [d]) (k : okL ds) : okL (d :: ds) := by
  have := (okL_append [d] ds).2 ⟨h, k⟩
  simpa using this
theorem dec_int : Dec [.int .i64] (fun i : Int => [.int i]) := by
  intro n W vs h
  match vs, h with
  | [_], ⟨k1, _⟩ =>
    obtain ⟨i, rfl, h1⟩ := cell_int k1
    exact ⟨i, .int _ .nil, okL_int h1 okL_nil⟩
theorem dec_str : Dec [.str] (fun s : ByteArray => [.str s]) := by
  intro n W vs h
  match vs, h with
  | [_], ⟨k1, _⟩ =>
    obtain ⟨i, rfl, h1⟩ := cell_str k1
    exact ⟨i, .str _ .nil, okL_str h1 okL_nil⟩
/-- A slice's elements in a slice. -/
theorem dec_of_sl {α : Type} {enc : α → List D} {ss : List Sh} (e : TypeId) (hd : Dec ss enc) (hl : ∀ x, (enc x).length = ss.length) (hp : 0 < ss.length) : Dec [.sl ss] (fun xs : List α => [slD e ss.length enc xs]) := by
  intro n W vs h
  match vs, h with
  | [_], ⟨k1, _⟩ =>
    obtain ⟨xs, h1, h2⟩ := dec_sl e hd hl hp k1
    exact ⟨xs, h1, h2⟩
end Go.Proofs.Ytbenfbmoagfboaa
