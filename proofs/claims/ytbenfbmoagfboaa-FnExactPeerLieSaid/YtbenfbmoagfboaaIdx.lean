/- Places in lists: plain facts. -/
import Derived.Test.YtbenfbmoagfboaaPlain
namespace Go.Proofs.Ytbenfbmoagfboaa

/-- The first place of a list at which a test says yes, or -1. -/
def idx {α : Type} (p : α → Bool) : List α → Int
  | [] => -1
  | x :: xs => if p x then 0 else if idx p xs < 0 then -1 else idx p xs + 1
theorem idx_ge {α : Type} (p : α → Bool) (xs : List α) : -1 ≤ idx p xs ∧ idx p xs < xs.length := by
  induction xs with
  | nil => simp [idx]
  | cons x xs ih => unfold idx; simp only [List.length_cons]; split <;> (try split) <;> omega
theorem idx_none {α : Type} {p : α → Bool} : ∀ {xs : List α}, (∀ (i : Nat) x, xs[i]? = some x → p x = false) → idx p xs = -1
  | [], _ => rfl
  | x :: xs, h => by
    have h1 := h 0 x rfl
    have h2 := idx_none (xs := xs) fun i y hy => h (i + 1) y (by simpa using hy)
    unfold idx
    simp [h1, h2]
theorem idx_some {α : Type} {p : α → Bool} : ∀ {xs : List α} {k : Nat} {x : α}, xs[k]? = some x → p x = true → (∀ (i : Nat) y, i < k → xs[i]? = some y → p y = false) → idx p xs = k
  | x :: xs, 0, y, h1, h2, _ => by simp at h1; subst h1; simp [idx, h2]
  | x :: xs, k + 1, y, h1, h2, h3 => by
    have e1 := h3 0 x (by omega) rfl
    have e2 := idx_some (xs := xs) (k := k) (x := y) (by simpa using h1) h2 fun i z hi hz => h3 (i + 1) z (by omega) (by simpa using hz)
    unfold idx
    rw [e1, e2]
    simp
    omega
  | [], _, _, h1, _, _ => by simp at h1
theorem idx_get {α : Type} {p : α → Bool} : ∀ {xs : List α}, 0 ≤ idx p xs → ∃ x, xs[(idx p xs).toNat]? = some x ∧ p x = true ∧ ∀ (i : Nat) y, i < (idx p xs).toNat → xs[i]? = some y → p y = false
  | [], h => by simp [idx] at h
  | x :: xs, h => by
    unfold idx at h ⊢
    by_cases hx : p x
    · simp [hx]
    · have hx' : p x = false := by simpa using hx
      by_cases h0 : idx p xs < 0
      · simp [hx', h0] at h
      · obtain ⟨y, h1, h2, h3⟩ := idx_get (p := p) (xs := xs) (by omega)
        have e : (idx p xs + 1).toNat = (idx p xs).toNat + 1 := by omega
        simp only [hx', Bool.false_eq_true, if_false, if_neg h0]
        rw [e]
        refine ⟨y, by simpa using h1, h2, fun i z hi hz => ?_⟩
        cases i with
        | zero => simp at hz; subst hz; exact hx'
        | succ i => exact h3 i z (by omega) (by simpa using hz)
/-- No place in front of k. -/
def noneTo {α : Type} (p : α → Bool) (xs : List α) (k : Nat) : Prop := ∀ (i : Nat) y, i < k → xs[i]? = some y → p y = false
theorem noneTo_zero {α : Type} {p : α → Bool} {xs : List α} : noneTo p xs 0 := fun i _ h => by omega
theorem noneTo_succ {α : Type} {p : α → Bool} {xs : List α} {k : Nat} {x : α} (h : noneTo p xs k) (hx : xs[k]? = some x) (hp : p x = false) : noneTo p xs (k + 1) := fun i y hi hy => by
  by_cases e : i = k
  · subst e; rw [hx] at hy; cases hy; exact hp
  · exact h i y (by omega) hy
theorem noneTo_end {α : Type} {p : α → Bool} {xs : List α} (h : noneTo p xs xs.length) : idx p xs = -1 := idx_none fun i x hx => h i x (List.getElem?_eq_some_iff.1 hx).1 hx
/-- All places in front of k pass. -/
def allTo (g : Nat → Bool) (k : Nat) : Prop := ∀ i, i < k → g i = true
theorem allTo_zero {g : Nat → Bool} : allTo g 0 := fun i h => by omega
theorem allTo_succ {g : Nat → Bool} {k : Nat} (h : allTo g k) (hk : g k = true) : allTo g (k + 1) := fun i hi => by
  by_cases e : i = k
  · subst e; exact hk
  · exact h i (by omega)
def allN (g : Nat → Bool) (n : Nat) : Bool := (List.range n).all g
theorem allTo_end {g : Nat → Bool} {n : Nat} (h : allTo g n) : allN g n = true := by
  unfold allN
  rw [List.all_eq_true]
  exact fun i hi => h i (List.mem_range.1 hi)
theorem allN_no {g : Nat → Bool} {n k : Nat} (hk : k < n) (h : g k = false) : allN g n = false := by
  unfold allN
  rw [List.all_eq_false]
  exact ⟨k, List.mem_range.2 hk, by simp [h]⟩
theorem allN_get {g : Nat → Bool} {n k : Nat} (h : allN g n = true) (hk : k < n) : g k = true := by
  unfold allN at h
  rw [List.all_eq_true] at h
  exact h k (List.mem_range.2 hk)
end Go.Proofs.Ytbenfbmoagfboaa
