/- Rows that wait in turn, as plain functions. -/
import Derived.Test.YtkbikihbomnghaaK1
namespace Go.Proofs.Ytkbikihbomnghaa
set_option linter.unusedSimpArgs false
set_option linter.unusedVariables false
open Go.RowKit

def rowOk (r : List Int) : Bool := decide (r.length ≤ 6) && r.all fun x => inB x 0 9999
def lanesOk (l : GLanes) : Bool := l.fRows.all rowOk && (inB l.fRows.length 1 5 && inB l.fTurn 0 ((l.fRows.length : Int) - 1))
theorem all_take {α : Type} {p : α → Bool} {l : List α} {k : Nat} {x : α} (h : (l.take k).all p = true) (hx : l[k]? = some x) (hp : p x = true) : (l.take (k + 1)).all p = true := by
  rw [List.take_add_one, hx, List.all_append, h]
  simp [hp]
theorem all_no {α : Type} {p : α → Bool} {l : List α} {k : Nat} {x : α} (hx : l[k]? = some x) (hp : p x = false) : l.all p = false := by
  rw [List.all_eq_false]
  exact ⟨x, List.mem_of_getElem? hx, by simp [hp]⟩
structure LanesFacts (l : GLanes) : Prop where
  row : ∀ (k : Nat) r, l.fRows[k]? = some r → r.length ≤ 6 ∧ ∀ x ∈ r, inB x 0 9999 = true
  n1 : 1 ≤ l.fRows.length
  n5 : l.fRows.length ≤ 5
  t0 : 0 ≤ l.fTurn
  t1 : l.fTurn < l.fRows.length
theorem lanesOk_iff {l : GLanes} : lanesOk l = true ↔ LanesFacts l := by
  unfold lanesOk
  rw [Bool.and_eq_true, Bool.and_eq_true, inB_iff, inB_iff, List.all_eq_true]
  constructor
  · rintro ⟨h, ⟨h1, h2⟩, h3, h4⟩
    refine ⟨fun k r hk => ?_, by omega, by omega, h3, by omega⟩
    have := h r (List.mem_of_getElem? hk)
    unfold rowOk at this
    rw [Bool.and_eq_true, decide_eq_true_eq, List.all_eq_true] at this
    exact this
  · rintro ⟨h, h1, h2, h3, h4⟩
    refine ⟨fun r hr => ?_, ⟨by omega, by omega⟩, h3, by omega⟩
    obtain ⟨k, hk, rfl⟩ := List.getElem_of_mem hr
    have := h k _ (List.getElem?_eq_getElem hk)
    unfold rowOk
    rw [Bool.and_eq_true, decide_eq_true_eq, List.all_eq_true]
    exact this
def laneR (l : GLanes) (k : Nat) : List Int := l.fRows.getD k []
theorem laneR_get {l : GLanes} {k : Nat} {r : List Int} (h : l.fRows[k]? = some r) : laneR l k = r := by unfold laneR; rw [List.getD_eq_getElem?_getD, h]; rfl
def lanesPut (l : GLanes) (lane x : Int) : GLanes × Bool :=
  if inB lane 0 ((l.fRows.length : Int) - 1) && (decide ((laneR l lane.toNat).length < 6) && inB x 0 9999) then (⟨l.fRows.set lane.toNat (laneR l lane.toNat ++ [x]), l.fTurn⟩, true) else (l, false)
def laneAt (l : GLanes) (i : Nat) : Nat := (l.fTurn.toNat + i) % l.fRows.length
def laneK (l : GLanes) : Option Nat := (List.range l.fRows.length).find? fun i => !(laneR l (laneAt l i)).isEmpty
def lanesNext (l : GLanes) : GLanes × Int × Int := match laneK l with
  | none => (l, -1, -1)
  | some i => (⟨l.fRows.set (laneAt l i) (laneR l (laneAt l i)).tail, (((laneAt l i + 1) % l.fRows.length : Nat) : Int)⟩, (laneAt l i : Int), (laneR l (laneAt l i)).headD 0)
/-- The first i rows behind the turn are empty. -/
def laneTo (l : GLanes) (k : Nat) : Prop := ∀ i, i < k → laneR l (laneAt l i) = []
theorem laneTo_zero {l : GLanes} : laneTo l 0 := fun i h => by omega
theorem laneTo_succ {l : GLanes} {k : Nat} (h : laneTo l k) (hk : laneR l (laneAt l k) = []) : laneTo l (k + 1) := fun i hi => by
  by_cases e : i = k
  · subst e; exact hk
  · exact h i (by omega)
theorem laneK_none {l : GLanes} (h : laneTo l l.fRows.length) : laneK l = none := by
  unfold laneK
  rw [List.find?_eq_none]
  intro i hi
  rw [h i (List.mem_range.1 hi)]
  simp
theorem laneK_some {l : GLanes} {i : Nat} (hi : i < l.fRows.length) (hne : laneR l (laneAt l i) ≠ []) (h : laneTo l i) : laneK l = some i := by
  unfold laneK
  rw [List.find?_eq_some_iff_getElem]
  refine ⟨by cases q : laneR l (laneAt l i) with | nil => exact absurd q hne | cons => rfl, i, by simpa using hi, by simp, fun j hj => ?_⟩
  simp [h j hj]
theorem laneK_spec {l : GLanes} {i : Nat} (h : laneK l = some i) : i < l.fRows.length ∧ laneR l (laneAt l i) ≠ [] ∧ laneTo l i := by
  unfold laneK at h
  have h1 := List.mem_of_find?_eq_some h
  have h2 := List.find?_some h
  have hi := List.mem_range.1 h1
  refine ⟨hi, fun q => by rw [q] at h2; simp at h2, fun j hj => ?_⟩
  rw [List.find?_eq_some_iff_getElem] at h
  obtain ⟨_, m, hm, e, hall⟩ := h
  simp at e hm
  subst e
  have := hall j hj
  simpa using this
theorem laneK_no {l : GLanes} (h : laneK l = none) : laneTo l l.fRows.length := fun i hi => by
  unfold laneK at h
  rw [List.find?_eq_none] at h
  have := h i (List.mem_range.2 hi)
  simpa using this
theorem next_none {l : GLanes} (h : laneK l = none) : lanesNext l = (l, -1, -1) := by unfold lanesNext; rw [h]
theorem next_some {l : GLanes} {i : Nat} {x : Int} {r : List Int} (h : laneK l = some i) (hr : l.fRows[laneAt l i]? = some (x :: r)) : lanesNext l = (⟨l.fRows.set (laneAt l i) r, (((laneAt l i + 1) % l.fRows.length : Nat) : Int)⟩, (laneAt l i : Int), x) := by
  unfold lanesNext
  rw [h]
  simp only [laneR_get hr, List.tail_cons, List.headD_cons]
theorem laneK_row {l : GLanes} {i : Nat} (h : laneK l = some i) : ∃ x r, l.fRows[laneAt l i]? = some (x :: r) := by
  obtain ⟨h1, h2, _⟩ := laneK_spec h
  have hk : laneAt l i < l.fRows.length := Nat.mod_lt _ (by omega)
  have e : l.fRows[laneAt l i]? = some l.fRows[laneAt l i] := List.getElem?_eq_getElem hk
  rw [laneR_get e] at h2
  cases q : l.fRows[laneAt l i] with
  | nil => exact absurd q h2
  | cons x r => exact ⟨x, r, by rw [e, q]⟩
def total (rows : List (List Int)) : Nat := (rows.map List.length).sum
theorem total_set : ∀ {rows : List (List Int)} {k : Nat} {r r' : List Int}, rows[k]? = some r → total (rows.set k r') + r.length = total rows + r'.length
  | [], _, _, _, h => by simp at h
  | q :: rows, 0, r, r', h => by simp at h; subst h; simp [total]; omega
  | q :: rows, k + 1, r, r', h => by
    have := total_set (rows := rows) (k := k) (r := r) (r' := r') (by simpa using h)
    simp only [total, List.set_cons_succ, List.map_cons, List.sum_cons] at this ⊢
    omega
theorem next_total {l : GLanes} {i : Nat} (h : laneK l = some i) : total (lanesNext l).1.fRows + 1 = total l.fRows := by
  obtain ⟨x, r, hr⟩ := laneK_row h
  rw [next_some h hr]
  have := total_set (r' := r) hr
  simp only [List.length_cons] at this
  show total (l.fRows.set _ r) + 1 = _
  omega
theorem next_len (l : GLanes) : (lanesNext l).1.fRows.length = l.fRows.length := by
  cases h : laneK l with
  | none => rw [next_none h]
  | some i =>
    obtain ⟨x, r, hr⟩ := laneK_row h
    rw [next_some h hr]
    simp
theorem lanesOk_next {l : GLanes} (ok : lanesOk l = true) : lanesOk (lanesNext l).1 = true := by
  cases h : laneK l with
  | none => rw [next_none h]; exact ok
  | some i =>
    obtain ⟨x, r, hr⟩ := laneK_row h
    rw [next_some h hr]
    have f := lanesOk_iff.1 ok
    have hn := f.n1
    have hm := Nat.mod_lt (laneAt l i + 1) (show 0 < l.fRows.length by omega)
    refine lanesOk_iff.2 ⟨fun k q hk => ?_, by simp [f.n1], by simp [f.n5], by simp only; omega, by simp only [List.length_set]; omega⟩
    by_cases e : laneAt l i = k
    · subst e
      rw [List.getElem?_set_self (List.getElem?_eq_some_iff.1 hr).1] at hk
      cases hk
      have := f.row _ _ hr
      simp only [List.length_cons] at this
      exact ⟨by omega, fun y hy => this.2 y (List.mem_cons_of_mem _ hy)⟩
    · rw [List.getElem?_set_ne e] at hk
      exact f.row k q hk
theorem lane_dist {l : GLanes} (ok : lanesOk l = true) {lane : Nat} (hl : lane < l.fRows.length) : ∃ d, d < l.fRows.length ∧ laneAt l d = lane := by
  have f := lanesOk_iff.1 ok
  have h0 := f.t0
  have h1 := f.t1
  obtain ⟨t, ht⟩ : ∃ t : Nat, l.fTurn = t := ⟨l.fTurn.toNat, by omega⟩
  unfold laneAt
  rw [ht, Int.toNat_natCast]
  have htn : t < l.fRows.length := by omega
  by_cases q : t ≤ lane
  · exact ⟨lane - t, by omega, by rw [show t + (lane - t) = lane by omega]; exact Nat.mod_eq_of_lt hl⟩
  · exact ⟨lane + l.fRows.length - t, by omega, by rw [show t + (lane + l.fRows.length - t) = lane + l.fRows.length by omega, Nat.add_mod_right]; exact Nat.mod_eq_of_lt hl⟩
theorem next_found {l : GLanes} (ok : lanesOk l = true) {lane : Nat} (hl : lane < l.fRows.length) (hne : laneR l lane ≠ []) : ∃ i, laneK l = some i := by
  cases h : laneK l with
  | some i => exact ⟨i, rfl⟩
  | none =>
    obtain ⟨d, h1, h2⟩ := lane_dist ok hl
    have := laneK_no h d h1
    rw [h2] at this
    exact absurd this hne
def waitF : Nat → GLanes → Nat → Nat
  | 0, _, _ => 0
  | f + 1, l, lane => if laneR l lane = [] then 0 else waitF f (lanesNext l).1 lane + 1
def waitN (l : GLanes) (lane : Nat) : Nat := waitF (total l.fRows + 1) l lane
def lanesWait (l : GLanes) (lane : Int) : Int := if lanesOk l && inB lane 0 ((l.fRows.length : Int) - 1) then (waitN l lane.toNat : Int) else 0
theorem waitN_empty {l : GLanes} {lane : Nat} (h : laneR l lane = []) : waitN l lane = 0 := by unfold waitN waitF; rw [if_pos h]
theorem waitN_step {l : GLanes} (ok : lanesOk l = true) {lane : Nat} (hl : lane < l.fRows.length) (h : laneR l lane ≠ []) : waitN l lane = waitN (lanesNext l).1 lane + 1 := by
  obtain ⟨i, hi⟩ := next_found ok hl h
  have := next_total hi
  show waitF (total l.fRows + 1) l lane = waitF (total (lanesNext l).1.fRows + 1) (lanesNext l).1 lane + 1
  rw [this]
  exact if_neg h
theorem total_le : ∀ {rows : List (List Int)}, (∀ r ∈ rows, r.length ≤ 6) → total rows ≤ 6 * rows.length
  | [], _ => by simp [total]
  | r :: rows, h => by
    have h1 := h r (List.mem_cons_self ..)
    have h2 := total_le (rows := rows) fun q hq => h q (List.mem_cons_of_mem _ hq)
    simp only [total, List.map_cons, List.sum_cons, List.length_cons] at h2 ⊢
    omega
theorem waitF_le : ∀ (f : Nat) (l : GLanes) (lane : Nat), waitF f l lane ≤ f
  | 0, _, _ => Nat.le_refl _
  | f + 1, l, lane => by
    unfold waitF
    split
    · omega
    · have := waitF_le f (lanesNext l).1 lane; omega
theorem total30 {l : GLanes} (ok : lanesOk l = true) : total l.fRows ≤ 30 := by
  have f := lanesOk_iff.1 ok
  have := total_le (rows := l.fRows) fun r hr => by obtain ⟨k, hk, rfl⟩ := List.getElem_of_mem hr; exact (f.row k _ (List.getElem?_eq_getElem hk)).1
  have := f.n5
  omega
end Go.Proofs.Ytkbikihbomnghaa
