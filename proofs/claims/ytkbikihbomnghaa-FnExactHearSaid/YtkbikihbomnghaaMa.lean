/- Addresses: models and plain laws. -/
import Derived.Test.YtkbikihbomnghaaK1
namespace Go.Proofs.Ytkbikihbomnghaa
set_option linter.unusedSimpArgs false
set_option linter.unusedVariables false
open Go.RowKit
set_option maxRecDepth 100000

def aOk (a : GAddr) : Bool := inB a.fId 1 99 && isTime a.fSeen
def aLt (u v : GAddr) : Bool := decide (u.fId < v.fId)
def addrsOk (l : List GAddr) : Bool := adjOk aOk aLt l && decide ((l.length : Int) ≤ 10)
theorem aOk_facts {a : GAddr} (h : aOk a = true) : (1 ≤ a.fId ∧ a.fId ≤ 99) ∧ 0 ≤ a.fSeen ∧ a.fSeen ≤ 1000000 := by
  unfold aOk at h
  rw [Bool.and_eq_true, inB_iff] at h
  exact ⟨h.1, inB_iff.1 h.2⟩
theorem addrsOk_iff {l : List GAddr} (h : addrsOk l = true) : (∀ (k : Nat) v, l[k]? = some v → aOk v = true) ∧ (∀ (k : Nat) u v, l[k]? = some u → l[k + 1]? = some v → u.fId < v.fId) ∧ l.length ≤ 10 := by
  unfold addrsOk at h
  rw [Bool.and_eq_true, decide_eq_true_eq] at h
  obtain ⟨h, h10⟩ := h
  have key : ∀ (k : Nat) v, l[k]? = some v → adjAt aOk aLt l k = true := fun k v hk => allN_get h (List.getElem?_eq_some_iff.1 hk).1
  refine ⟨fun k v hk => ?_, fun k u v hu hv => ?_, by omega⟩
  · have := key k v hk
    cases k with
    | zero => rwa [adjAt_zero hk] at this
    | succ j =>
      obtain ⟨u, hu⟩ : ∃ u, l[j]? = some u := ⟨_, List.getElem?_eq_getElem (by have := (List.getElem?_eq_some_iff.1 hk).1; omega)⟩
      rw [adjAt_succ hk hu, Bool.and_eq_true] at this
      exact this.1
  · have := key (k + 1) v hv
    rw [adjAt_succ hv hu, Bool.and_eq_true] at this
    simpa [aLt] using this.2
def forget (l : List GAddr) (now age : Int) : List GAddr := l.filter fun a => decide (now - age ≤ a.fSeen)
/-- a stands ahead of b. -/
def laB (a b : GAddr) : Bool := decide (b.fSeen < a.fSeen) || (decide (a.fSeen = b.fSeen) && decide (a.fId < b.fId))
def late (l : List GAddr) : List GAddr := l.mergeSort fun x y => !laB y x
theorem laB_iff {a b : GAddr} : laB a b = true ↔ b.fSeen < a.fSeen ∨ (a.fSeen = b.fSeen ∧ a.fId < b.fId) := by simp [laB]
theorem laB_no {a b : GAddr} : (!laB b a) = true ↔ b.fSeen < a.fSeen ∨ (a.fSeen = b.fSeen ∧ a.fId ≤ b.fId) := by
  rw [Bool.not_eq_true', ← Bool.not_eq_true, laB_iff]
  omega
theorem late_perm (l : List GAddr) : (late l).Perm l := List.mergeSort_perm l _
theorem late_len (l : List GAddr) : (late l).length = l.length := (late_perm l).length_eq
theorem late_sorted (l : List GAddr) : (late l).Pairwise fun a b => (!laB b a) = true := by
  refine List.pairwise_mergeSort (fun a b c h1 h2 => ?_) (fun a b => ?_) l
  · rw [laB_no] at *; omega
  · rw [Bool.or_eq_true, laB_no, laB_no]; omega
theorem late_anti {a b : GAddr} (h1 : (!laB b a) = true) (h2 : (!laB a b) = true) : a = b := by
  rw [laB_no] at h1 h2
  obtain ⟨i, s⟩ := a
  obtain ⟨j, t⟩ := b
  dsimp only at h1 h2
  have e1 : i = j := by omega
  have e2 : s = t := by omega
  rw [e1, e2]
theorem late_uniq {l o : List GAddr} (hp : o.Perm l) (hs : o.Pairwise fun a b => (!laB b a) = true) : o = late l :=
  List.Perm.eq_of_pairwise (le := fun a b => (!laB b a) = true) (fun a b _ _ h1 h2 => late_anti h1 h2) hs (late_sorted l) (hp.trans (late_perm l).symm)
theorem late_step {xs : List GAddr} {x : GAddr} {k : Nat} (hk : k ≤ (late xs).length) (h1 : ∀ (j : Nat) y, k ≤ j → (late xs)[j]? = some y → laB x y = true) (h2 : ∀ (j : Nat) y, j + 1 = k → (late xs)[j]? = some y → laB x y = false) : (late xs).take k ++ [x] ++ (late xs).drop k = late (xs ++ [x]) := by
  have hs := late_sorted xs
  have hp := late_perm xs
  generalize late xs = o at *
  refine late_uniq ?_ ?_
  · refine List.Perm.trans ?_ (hp.append_right [x])
    rw [List.append_assoc]
    refine List.Perm.trans (List.Perm.append_left _ List.perm_append_comm) ?_
    rw [← List.append_assoc, List.take_append_drop]
  · have hall : ∀ a ∈ o.take k, (!laB x a) = true := fun a ha => by
      obtain ⟨i, hi, e⟩ := List.getElem_of_mem ha
      have hik : i < k := by simp at hi; omega
      have hio : i < o.length := by simp at hi; omega
      rw [List.getElem_take] at e
      obtain ⟨y, hy⟩ : ∃ y, o[k - 1]? = some y := ⟨_, List.getElem?_eq_getElem (by omega)⟩
      have hyx := h2 (k - 1) y (by omega) hy
      have hxy : (!laB x y) = true := by rw [hyx]; rfl
      by_cases e2 : i = k - 1
      · subst e2
        rw [List.getElem?_eq_getElem hio, e] at hy
        cases hy
        exact hxy
      · have := (List.pairwise_iff_getElem.1 hs) i (k - 1) hio (by omega) (by omega)
        have ey : o[k - 1] = y := (List.getElem?_eq_some_iff.1 hy).2
        rw [e, ey] at this
        rw [laB_no] at *
        omega
    have hdr : ∀ b ∈ o.drop k, (!laB b x) = true := fun b hb => by
      obtain ⟨i, hi, e⟩ := List.getElem_of_mem hb
      rw [List.getElem_drop] at e
      have hl : k + i < o.length := by simp at hi; omega
      have := h1 (k + i) b (by omega) (by rw [List.getElem?_eq_getElem hl, e])
      rw [laB_no]
      rw [laB_iff] at this
      omega
    rw [List.pairwise_append, List.pairwise_append]
    refine ⟨⟨hs.sublist (List.take_sublist k o), List.pairwise_singleton _ _, fun a ha b hb => ?_⟩, hs.sublist (List.drop_sublist k o), fun a ha b hb => ?_⟩
    · obtain rfl := List.mem_singleton.1 hb
      exact hall a ha
    · rcases List.mem_append.1 ha with ha | ha
      · have e := List.take_append_drop k o
        rw [← e, List.pairwise_append] at hs
        exact hs.2.2 a ha b hb
      · obtain rfl := List.mem_singleton.1 ha
        exact hdr b hb
def tell (l : List GAddr) (now age most : Int) : List GAddr := if addrsOk l && isTime now && decide (0 ≤ age) then (late (forget l now age)).take most.toNat else []
end Go.Proofs.Ytkbikihbomnghaa
