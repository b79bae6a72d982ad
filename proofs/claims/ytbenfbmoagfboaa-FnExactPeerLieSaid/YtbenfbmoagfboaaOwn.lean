/- Slices of one's own: a row that is filled or turned element by element. -/
import Derived.Test.YtbenfbmoagfboaaSl
import Derived.WalkKit
namespace Go.Proofs.Ytbenfbmoagfboaa
open Go.RowKit

theorem Ext.grownBy {w w' : World} (h : Ext w w') (row : Option Nat) : w.grownBy w' row := ⟨Below.os h, Below.tape h, Below.output h, h.size, fun k hk _ => Below.block h k hk⟩
theorem Ext.of_grownBy {w w' : World} (h : w.grownBy w' none) : Ext w w' := ⟨h.os, h.tape, h.output, h.size, fun k hk => h.block k hk (by simp)⟩
theorem Ext.of_grown {a w w' : World} {row : Option Nat} (h : Ext a w) (hg : w.grownBy w' row) (hr : ∀ k, row = some k → a.heap.size ≤ k) : Ext a w' := Below.grown h hg h.size hr

/-- Block g is a row of n elements (and room for c); the first k of them are xs's. -/
def Part {α : Type} (enc : α → List Value) (sz : Nat) (e : TypeId) (w : World) (g n c k : Nat) (xs : List α) : Prop :=
  ∃ cur, w.heap[g]? = some (.cells cur e (0, 0)) ∧ n ≤ c ∧ cur.size = c * sz ∧ ∀ i x, i < k → xs[i]? = some x → ∀ j, j < sz → cur[i * sz + j]? = (enc x)[j]?

/-- The cells of a new block. -/
theorem news_new {w : World} {cs : Array Value} {t : TypeId} {k : Nat} (hk : k = w.heap.size) : ∀ (j : Nat) (u : Value), cs.toList[j]? = some u → (w.alloc (.cells cs t)).cell? ((⟨k, 0, none⟩ : Addr).add j) = some u := by
  intro j u h
  have e : (⟨k, 0, none⟩ : Addr).add j = ⟨k, j, none⟩ := by unfold Addr.add; split <;> simp_all
  rw [e, (Box.new hk).cell j]
  simpa using h
/-- The cells of one element, stored one behind the other. -/
def storeAll (w : World) (g : Nat) : Nat → List Value → World
  | _, [] => w
  | o, c :: cs => storeAll (w.setCell ⟨g, o, none⟩ c) g (o + 1) cs

section
variable {α : Type} {enc : α → List Value} {sz : Nat} {e : TypeId} {w : World} {g n c k : Nat} {xs : List α}

theorem Part.lt (h : Part enc sz e w g n c k xs) : g < w.heap.size := by
  obtain ⟨cur, h1, _⟩ := h
  exact (Array.getElem?_eq_some_iff.1 h1).1
theorem Part.ext {w' : World} (h : Part enc sz e w g n c k xs) (hb : Ext w w') : Part enc sz e w' g n c k xs := by
  have hl := h.lt
  obtain ⟨cur, h1, h2, h2', h3⟩ := h
  exact ⟨cur, (Below.block hb g hl).trans h1, h2, h2', h3⟩
theorem Part.cell (h : Part enc sz e w g n c k xs) (o : Nat) (ho : o < n * sz) : ∃ v, w.cell? ⟨g, o, none⟩ = some v := by
  obtain ⟨cur, h1, h2, h2', _⟩ := h
  have := Nat.mul_le_mul_right sz h2
  rw [cell_of_row w g o cur e (0, 0) h1]
  exact ⟨_, Array.getElem?_eq_getElem (by omega)⟩
theorem Part.frozen (h : Part enc sz e w g n c k xs) (o : Nat) : w.frozen? ⟨g, o, none⟩ = false := by
  obtain ⟨cur, h1, _⟩ := h
  exact frozen_of_row w g o cur e h1
theorem storeAll_heap (cs : List Value) : ∀ (w : World) (o : Nat) (cur : Array Value), w.heap[g]? = some (.cells cur e (0, 0)) →
    ∃ cur', (storeAll w g o cs).heap[g]? = some (.cells cur' e (0, 0)) ∧ cur'.size = cur.size ∧ (∀ i, i < o → cur'[i]? = cur[i]?) ∧ ∀ j, j < cs.length → o + j < cur.size → cur'[o + j]? = cs[j]? := by
  induction cs with
  | nil => intro w o cur h; exact ⟨cur, h, rfl, fun _ _ => rfl, fun j hj => by simp at hj⟩
  | cons c cs ih =>
    intro w o cur h
    have h1 : (w.setCell ⟨g, o, none⟩ c).heap[g]? = some (.cells (cur.setIfInBounds o c) e (0, 0)) := by simp [World.setCell, Array.getElem?_modify, h]
    obtain ⟨cur', k1, k2, k3, k4⟩ := ih _ (o + 1) _ h1
    refine ⟨cur', k1, by simpa using k2, fun i hi => ?_, fun j hj hs => ?_⟩
    · rw [k3 i (by omega), Array.getElem?_setIfInBounds_ne (by omega)]
    · cases j with
      | zero =>
        rw [k3 (o + 0) (by omega)]
        simp only [Nat.add_zero]
        rw [Array.getElem?_setIfInBounds_self_of_lt (by omega)]
        simp
      | succ j =>
        have := k4 j (by simpa using hj) (by simp; omega)
        rw [show o + (j + 1) = o + 1 + j by omega, this]
        simp
theorem storeAll_other (cs : List Value) : ∀ (w : World) (o b : Nat), b ≠ g → (storeAll w g o cs).heap[b]? = w.heap[b]? := by
  induction cs with
  | nil => intro w o b _; rfl
  | cons c cs ih => intro w o b hb; rw [storeAll, ih _ _ _ hb]; exact Below.heap_setCell _ _ _ _ hb
theorem Part.store (h : Part enc sz e w g n c k xs) {x : α} (hx : xs[k]? = some x) (hk : k < n) (hl : (enc x).length = sz) : Part enc sz e (storeAll w g (k * sz) (enc x)) g n c (k + 1) xs := by
  obtain ⟨cur, h1, h2, h2', h3⟩ := h
  have hcs := Nat.mul_le_mul_right sz h2
  obtain ⟨cur', k1, k2, k3, k4⟩ := storeAll_heap (enc x) w (k * sz) cur h1
  refine ⟨cur', k1, h2, by omega, fun i y hi hy j hj => ?_⟩
  have hb : (k + 1) * sz ≤ n * sz := Nat.mul_le_mul_right _ hk
  rw [Nat.add_mul] at hb
  by_cases hik : i < k
  · have : (i + 1) * sz ≤ k * sz := Nat.mul_le_mul_right _ hik
    rw [Nat.add_mul] at this
    rw [k3 _ (by omega)]
    exact h3 i y hik hy j hj
  · obtain rfl : i = k := by omega
    rw [hx] at hy
    cases hy
    exact k4 j (by omega) (by omega)
theorem Part.start {base : Nat} {ys : List Value} (h : w.ownsRow base e sz (.slice (some ⟨g, 0, none⟩) n c) n ys) : Part enc sz e w g n c 0 xs := by
  rcases h.2 with ⟨h', _⟩ | ⟨g', cap, cur, h', _, hg, hn, _, hs, _⟩
  · simp at h'
  · simp only [Value.slice.injEq, Option.some.injEq, Addr.mk.injEq, and_true, true_and] at h'
    obtain ⟨rfl, rfl⟩ := h'
    exact ⟨cur, hg, hn, hs, fun i x hi => by omega⟩
end

theorem flatMap_get {α : Type} {enc : α → List Value} {sz : Nat} (hl : ∀ x, (enc x).length = sz) : ∀ (xs : List α) (i j : Nat) (x : α), xs[i]? = some x → j < sz → (xs.flatMap enc)[i * sz + j]? = (enc x)[j]? := by
  intro xs
  induction xs with
  | nil => intro i j x h; simp at h
  | cons y ys ih =>
    intro i j x h hj
    rw [List.flatMap_cons]
    cases i with
    | zero =>
      simp at h
      subst h
      rw [Nat.zero_mul, Nat.zero_add, List.getElem?_append_left (by rw [hl]; exact hj)]
    | succ i =>
      simp at h
      have e : (i + 1) * sz + j = sz + (i * sz + j) := by rw [Nat.add_mul]; omega
      rw [e, List.getElem?_append_right (by rw [hl]; omega), hl, Nat.add_sub_cancel_left]
      exact ih i j x h hj
theorem flatMap_len {α : Type} {enc : α → List Value} {sz : Nat} (hl : ∀ x, (enc x).length = sz) (xs : List α) : (xs.flatMap enc).length = xs.length * sz := by
  induction xs with
  | nil => simp
  | cons y ys ih => rw [List.flatMap_cons, List.length_append, ih, hl, List.length_cons, Nat.add_mul]; omega
theorem divide {sz o : Nat} (h : 0 < sz) : ∃ i j, o = i * sz + j ∧ j < sz := ⟨o / sz, o % sz, by rw [Nat.mul_comm]; exact (Nat.div_add_mod o sz).symm, Nat.mod_lt _ h⟩

section
variable {α : Type} {enc : α → List Value} {sz : Nat} {e : TypeId} {w : World} {g n : Nat} {xs : List α}
/-- A row that is filled whole is owned. -/
theorem Part.done {base c : Nat} (hl : ∀ x, (enc x).length = sz) (hsz : 0 < sz) (h : Part enc sz e w g n c n xs) (hn : xs.length = n) (hb : base ≤ g) (hm : c ≤ maxLen) :
    w.ownsRow base e sz (.slice (some ⟨g, 0, none⟩) n c) n (xs.flatMap enc) := by
  obtain ⟨cur, h1, h2, h2', h3⟩ := h
  have hcs := Nat.mul_le_mul_right sz h2
  refine ⟨by rw [flatMap_len hl, hn], .inr ⟨g, c, cur, rfl, hb, h1, h2, hm, h2', ?_⟩⟩
  apply List.ext_getElem?
  intro o
  by_cases ho : o < n * sz
  · rw [List.getElem?_take, if_pos ho]
    obtain ⟨i, j, rfl, hj⟩ := divide (o := o) hsz
    have hi : i < n := by
      rcases Nat.lt_or_ge i n with h | h
      · exact h
      · have := Nat.mul_le_mul_right sz h; omega
    have hx : xs[i]? = some (xs[i]'(by omega)) := List.getElem?_eq_getElem _
    rw [flatMap_get hl xs i j _ hx hj, ← h3 i _ hi hx j hj]
    simp
  · rw [List.getElem?_eq_none (by simp; omega), List.getElem?_eq_none (by rw [flatMap_len hl, hn]; omega)]
/-- What is owned reads. -/
theorem Sl.of_owns {base : Nat} {v : Value} (hl : ∀ x, (enc x).length = sz) (h : w.ownsRow base e sz v xs.length (xs.flatMap enc)) : Sl enc sz w v xs := by
  rcases h.2 with ⟨rfl, hn⟩ | ⟨g, cap, cur, rfl, hb, hg, h1, h2, h3, h4⟩
  · exact .inl ⟨_, _, rfl, List.eq_nil_of_length_eq_zero hn⟩
  · by_cases hn : xs.length = 0
    · exact .inl ⟨_, _, by rw [hn], List.eq_nil_of_length_eq_zero hn⟩
    · refine .inr ⟨g, 0, cap, rfl, by omega, h1, h2, (Array.getElem?_eq_some_iff.1 hg).1, fun i x hx j hj => ?_⟩
      have hi : i < xs.length := (List.getElem?_eq_some_iff.1 hx).1
      have : (i + 1) * sz ≤ xs.length * sz := Nat.mul_le_mul_right _ hi
      rw [Nat.add_mul] at this
      rw [Nat.zero_add, cell_of_row w g _ cur e (0, 0) hg, ← flatMap_get hl xs i j x hx hj, ← h4, List.getElem?_take, if_pos (by omega)]
      simp
theorem own_ext {w' : World} {base : Nat} {v : Value} {ys : List Value} (h : w.ownsRow base e sz v n ys) (hb : Ext w w') : w'.ownsRow base e sz v n ys :=
  h.kept (hb.grownBy none) (by cases v.ownBlock <;> simp)
/-- Two rows of which one was made later lie apart. -/
theorem own_apart {w1 w2 : World} {b1 b2 n1 n2 s1 s2 : Nat} {e1 e2 : TypeId} {v1 v2 : Value} {y1 y2 : List Value} (h1 : w1.ownsRow b1 e1 s1 v1 n1 y1) (h2 : w2.ownsRow b2 e2 s2 v2 n2 y2) (hb : w1.heap.size ≤ b2) :
    v1.ownBlock = none ∨ v1.ownBlock ≠ v2.ownBlock := by
  cases e1 : v1.ownBlock with
  | none => exact .inl rfl
  | some k =>
    right
    intro e2
    have := h1.lt k e1
    have := h2.lt k e2.symm
    omega
theorem own_apart' {w1 w2 : World} {b1 b2 n1 n2 s1 s2 : Nat} {e1 e2 : TypeId} {v1 v2 : Value} {y1 y2 : List Value} (h1 : w1.ownsRow b1 e1 s1 v1 n1 y1) (h2 : w2.ownsRow b2 e2 s2 v2 n2 y2) (hb : w1.heap.size ≤ b2) :
    v2.ownBlock = none ∨ v2.ownBlock ≠ v1.ownBlock := by
  cases e2 : v2.ownBlock with
  | none => exact .inl rfl
  | some k =>
    right
    intro e1
    have := h1.lt k e1.symm
    have := h2.lt k e2
    omega
theorem own_slice {base m : Nat} {v : Value} {ys : List Value} (h : w.ownsRow base e sz v m ys) : ∃ o l c, v = .slice o l c := by
  rcases h.2 with ⟨rfl, _⟩ | ⟨g, cap, cur, rfl, _⟩
  · exact ⟨_, _, _, rfl⟩
  · exact ⟨_, _, _, rfl⟩
theorem grownBy_refl (w : World) (row : Option Nat) : w.grownBy w row := ⟨rfl, rfl, rfl, Nat.le_refl _, fun _ _ _ => rfl⟩
theorem grownBy_trans {a b c : World} {row : Option Nat} (h : a.grownBy b row) (k : b.grownBy c row) : a.grownBy c row :=
  ⟨k.os.trans h.os, k.tape.trans h.tape, k.output.trans h.output, Nat.le_trans h.size k.size, fun i hi hr => (k.block i (Nat.lt_of_lt_of_le hi h.size) hr).trans (h.block i hi hr)⟩
theorem grownBy_set {a b : World} {g : Nat} (h : a.grownBy b (some g)) (o : Nat) (u : Value) : a.grownBy (b.setCell ⟨g, o, none⟩ u) (some g) :=
  grownBy_trans h ⟨rfl, rfl, rfl, by simp [World.setCell], fun k _ hr => Below.heap_setCell _ _ _ _ (by simpa using hr)⟩
theorem Ext.toGrown {a b : World} {row : Option Nat} (h : Ext a b) : a.grownBy b row := h.grownBy row
theorem Box.grown {a b : World} {g k : Nat} {cs : Array Value} (h : Box a k cs) (hg : a.grownBy b (some g)) (hne : k ≠ g) : Box b k cs := by
  have hl := h.lt
  obtain ⟨t, h⟩ := h
  exact ⟨t, (hg.block k hl (by simpa using hne)).trans h⟩
theorem Box.far {a b : World} {k : Nat} {row : Option Nat} {cs : Array Value} (h : Box a k cs) (hg : a.grownBy b row) (hne : some k ≠ row) : Box b k cs := by
  have hl := h.lt
  obtain ⟨t, h⟩ := h
  exact ⟨t, (hg.block k hl hne).trans h⟩
/-- A box behind a call that writes into another block. -/
theorem Box.afterG {w w' : World} {g k : Nat} {cs : Array Value} (hg : w.grownBy w' (some g)) (h : Box w k cs) (hne : k ≠ g) : Box w' k cs ∧ (∀ o, w'.cell? ⟨k, o, none⟩ = cs[o]?) ∧ (∀ o, w'.frozen? ⟨k, o, none⟩ = false) ∧ k < w'.heap.size :=
  ⟨h.grown hg hne, (h.grown hg hne).cell, (h.grown hg hne).frozen, (h.grown hg hne).lt⟩
theorem Box.rules {w : World} {k : Nat} {cs : Array Value} (h : Box w k cs) : (∀ o, w.cell? ⟨k, o, none⟩ = cs[o]?) ∧ (∀ o, w.frozen? ⟨k, o, none⟩ = false) ∧ k < w.heap.size := ⟨h.cell, h.frozen, h.lt⟩
/-- What owns no memory that was there owns as before while another row is written. -/
theorem own_keep {w' : World} {base m : Nat} {v : Value} {ys : List Value} {row : Option Nat} (h : w.ownsRow base e sz v m ys) (hg : w.grownBy w' row) (hne : v.ownBlock = none ∨ v.ownBlock ≠ row) : w'.ownsRow base e sz v m ys := h.kept hg hne
theorem Part.again {base c : Nat} {ys : List Value} (h : w.ownsRow base e sz (.slice (some ⟨g, 0, none⟩) n c) n ys) : Part enc sz e w g n c 0 xs ∧ base ≤ g ∧ c ≤ maxLen := by
  refine ⟨Part.start h, ?_⟩
  rcases h.2 with ⟨h', _⟩ | ⟨g', cap, cur, h', hb, hg, hn, hm, hs, _⟩
  · simp at h'
  · simp only [Value.slice.injEq, Option.some.injEq, Addr.mk.injEq, and_true, true_and] at h'
    obtain ⟨rfl, rfl⟩ := h'
    exact ⟨hb, hm⟩
/-- The value of what is owned: nil, or the head of a row. -/
theorem own_value {base m : Nat} {v : Value} {ys : List Value} (h : w.ownsRow base e sz v m ys) : (v = .slice none 0 0 ∧ m = 0 ∧ ys = []) ∨ ∃ g c, v = .slice (some ⟨g, 0, none⟩) m c := by
  rcases h.2 with ⟨rfl, rfl⟩ | ⟨g, cap, cur, rfl, _⟩
  · exact .inl ⟨rfl, rfl, List.eq_nil_of_length_eq_zero (by simpa using h.1)⟩
  · exact .inr ⟨g, cap, rfl⟩
end
end Go.Proofs.Ytbenfbmoagfboaa
