/- Slices of flat elements: copied, turned in one cell. -/
import Derived.Test.YtbenfbmoagfboaaDeepApp
import Derived.Test.YtbenfbmoagfboaaAppend
namespace Go.Proofs.Ytbenfbmoagfboaa
open Go.RowKit

/-- A flat element's cells. -/
def valE {α : Type} (enc : α → List D) (x : α) : List Value := (enc x).map valD
theorem valE_len {α : Type} {enc : α → List D} {sz : Nat} (hl : ∀ x, (enc x).length = sz) (x : α) : (valE enc x).length = sz := by unfold valE; rw [List.length_map, hl]
theorem flat_val {α : Type} {enc : α → List D} (xs : List α) : (xs.flatMap enc).map valD = xs.flatMap (valE enc) := by
  induction xs with
  | nil => rfl
  | cons x xs ih => rw [List.flatMap_cons, List.map_append, ih, List.flatMap_cons]; rfl
theorem flat_scal {α : Type} {enc : α → List D} (hs : ∀ x, (enc x).all scal = true) (xs : List α) : (xs.flatMap enc).all scal = true := by
  induction xs with
  | nil => rfl
  | cons x xs ih => rw [List.flatMap_cons, List.all_append, hs, ih]; rfl
theorem valE_one {α : Type} {enc : α → List D} {ys : List α} : ∀ y ∈ ys, ∀ u ∈ valE enc y, u.oneCell' = true := by
  intro y _ u hu
  unfold valE at hu
  obtain ⟨d, _, rfl⟩ := List.mem_map.1 hu
  cases d <;> rfl
section
variable {α : Type} {enc : α → List D} {sz : Nat} {w : World} {e : TypeId} {v : Value} {xs : List α}
theorem RL.sl (hl : ∀ x, (enc x).length = sz) (hs : ∀ x, (enc x).all scal = true) (h : RL e sz enc w v xs) : Sl (valE enc) sz w v xs := by
  rcases RS.cases h with ⟨hn, _, o, c, rfl⟩ | ⟨b, off, c, rfl, h1, h2, h3, hx⟩
  · obtain rfl := List.eq_nil_of_length_eq_zero hn
    exact .inl ⟨o, c, rfl, rfl⟩
  · refine .inr ⟨b, off, c, rfl, h1, h2, h3, hx.lt, fun i x hi j hj => ?_⟩
    have h4 := RAt.elem hl hx hi
    obtain ⟨us, k1, _, k3⟩ := h4
    obtain rfl := k1.flat (hs x)
    have hj' : j < (enc x).length := by rw [hl]; exact hj
    have := k3 j _ (List.getElem?_eq_getElem (by rw [List.length_map]; exact hj'))
    rw [this]
    unfold valE
    rw [List.getElem?_eq_getElem (by rw [List.length_map]; exact hj')]
theorem Obj.of_copy {lo : Nat} (hs : ∀ x, (enc x).all scal = true) (h : w.ownsRow lo e sz v (0 + xs.length) ([] ++ xs.flatMap (valE enc))) : Obj w lo w.heap.size [slD e sz enc xs] [v] := by
  rw [Nat.zero_add, List.nil_append, ← flat_val] at h
  exact Obj.of_row h (flat_scal hs xs)
theorem Obj.flatRow {lo hi : Nat} (hs : ∀ x, (enc x).all scal = true) (h : Obj w lo hi [slD e sz enc xs] [v]) : w.ownsRow lo e sz v xs.length (xs.flatMap (valE enc)) := by
  rw [← flat_val]
  exact Obj.row h (flat_scal hs xs)
theorem Obj.nonnil {lo hi n : Nat} {es : List D} (h : Obj w lo hi [.sl e sz n es] [v]) (hn : 0 < n) : ∃ g c, v = .slice (some ⟨g, 0, none⟩) n c ∧ lo ≤ g ∧ g < hi ∧ g < w.heap.size ∧ (∀ o, w.frozen? ⟨g, o, none⟩ = false) := by
  obtain ⟨F, h1, h2, h3⟩ := h
  rcases Ows.val h1 with ⟨_, h0⟩ | ⟨g, c, rfl⟩
  · omega
  · have hg := h1.gmem h2
    exact ⟨g, c, rfl, (h3 g hg).1, (h3 g hg).2, h1.mem g hg, h1.frozenAt h2⟩
theorem flat_parts (xs : List α) (k : Nat) (x : α) (hx : xs[k]? = some x) : xs.flatMap enc = (xs.take k).flatMap enc ++ (enc x ++ (xs.drop (k + 1)).flatMap enc) := by
  have e1 : xs = xs.take k ++ (x :: xs.drop (k + 1)) := by
    rw [← (List.getElem?_eq_some_iff.1 hx).2, List.getElem_cons_drop, List.take_append_drop]
  conv => lhs; rw [e1, List.flatMap_append, List.flatMap_cons]
theorem flat_set (xs : List α) (k : Nat) (x : α) (hk : k < xs.length) : (xs.set k x).flatMap enc = (xs.take k).flatMap enc ++ (enc x ++ (xs.drop (k + 1)).flatMap enc) := by
  rw [List.set_eq_take_append_cons_drop, if_pos hk, List.flatMap_append, List.flatMap_cons]
theorem Obj.modify {lo hi g c k j : Nat} {x x' : α} {d0 d : D} (hl : ∀ x, (enc x).length = sz) (h : Obj w lo hi [slD e sz enc xs] [.slice (some ⟨g, 0, none⟩) xs.length c]) (hx : xs[k]? = some x) (hj : (enc x)[j]? = some d0) (h1 : scal d = true) (he : enc x' = (enc x).set j d) :
    Obj (w.setCell ⟨g, k * sz + j, none⟩ (valD d)) lo hi [slD e sz enc (xs.set k x')] [.slice (some ⟨g, 0, none⟩) xs.length c] := by
  have hk := (List.getElem?_eq_some_iff.1 hx).1
  have hjl := (List.getElem?_eq_some_iff.1 hj).1
  have e1 : xs.flatMap enc = ((xs.take k).flatMap enc ++ (enc x).take j) ++ ([d0] ++ ((enc x).drop (j + 1) ++ (xs.drop (k + 1)).flatMap enc)) := by
    rw [flat_parts xs k x hx]
    conv => lhs; rhs; lhs; rw [← List.take_append_drop j (enc x), ← List.getElem_cons_drop hjl, (List.getElem?_eq_some_iff.1 hj).2]
    simp
  have e2 : (xs.set k x').flatMap enc = ((xs.take k).flatMap enc ++ (enc x).take j) ++ ([d] ++ ((enc x).drop (j + 1) ++ (xs.drop (k + 1)).flatMap enc)) := by
    rw [flat_set xs k x' hk, he, List.set_eq_take_append_cons_drop, if_pos hjl]
    simp
  have e3 : ((xs.take k).flatMap enc ++ (enc x).take j).length = k * sz + j := by
    rw [List.length_append, flat_len (sz := sz) hl, List.length_take, List.length_take, Nat.min_eq_left (Nat.le_of_lt hk), Nat.min_eq_left (Nat.le_of_lt hjl)]
  have h' : Obj w lo hi [.sl e sz xs.length (((xs.take k).flatMap enc ++ (enc x).take j) ++ ([d0] ++ ((enc x).drop (j + 1) ++ (xs.drop (k + 1)).flatMap enc)))] [.slice (some ⟨g, 0, none⟩) xs.length c] := by rw [← e1]; exact h
  have q := Obj.put (rv := [valD d]) (row' := [d]) (mid' := hi) (hi := hi) h' ⟨[], ows_flat [d] (by simp [h1]), by simp, by simp⟩ (Nat.le_refl _) (Nat.le_refl _) rfl
  rw [← e2, e3] at q
  unfold slD
  rw [List.length_set]
  exact q
end
theorem Obj.at {α : Type} {enc : α → List D} {sz : Nat} {w : World} {e : TypeId} {xs : List α} {lo hi g c k : Nat} {x : α} (hl : ∀ x, (enc x).length = sz) (h : Obj w lo hi [slD e sz enc xs] [.slice (some ⟨g, 0, none⟩) xs.length c]) (hx : xs[k]? = some x) : RAt w g (k * sz) (enc x) := by
  rcases RS.cases h.read with ⟨hn, _⟩ | ⟨b, off, c', hv, _, _, _, hr⟩
  · have := (List.getElem?_eq_some_iff.1 hx).1; omega
  · simp only [Value.slice.injEq, Option.some.injEq, Addr.mk.injEq, and_true, true_and] at hv
    obtain ⟨⟨rfl, rfl⟩, _⟩ := hv
    have := RAt.elem hl hr hx
    rwa [Nat.zero_add] at this
/-- An empty row, new made. -/
theorem own_made0 {w : World} {base k sz : Nat} {e : TypeId} (hk : k = w.heap.size) (hb : base ≤ k) : (w.alloc (.cells #[] e)).ownsRow base e sz (.slice (some ⟨k, 0, none⟩) 0 0) 0 [] := by
  subst hk
  exact World.ownsRow_made w #[] 0 hb (by omega) (by simp)
end Go.Proofs.Ytbenfbmoagfboaa
