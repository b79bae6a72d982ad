/- What is heard of addresses: models and plain laws. -/
import Derived.Test.YtkbikihbomnghaaMa
namespace Go.Proofs.Ytkbikihbomnghaa
set_option linter.unusedSimpArgs false
set_option linter.unusedVariables false
open Go.RowKit
set_option maxRecDepth 100000

def seenIn (xs : List GAddr) (id now n : Int) : Int := xs.foldl (fun n a => if (a.fId = id ∧ a.fSeen ≤ now) ∧ n < a.fSeen then a.fSeen else n) n
theorem seenIn_app (xs ys : List GAddr) (id now n : Int) : seenIn (xs ++ ys) id now n = seenIn ys id now (seenIn xs id now n) := List.foldl_append
theorem seenIn_one (xs : List GAddr) (a : GAddr) (id now n : Int) : seenIn (xs ++ [a]) id now n = if (a.fId = id ∧ a.fSeen ≤ now) ∧ seenIn xs id now n < a.fSeen then a.fSeen else seenIn xs id now n := by rw [seenIn_app]; rfl
theorem seenIn_take {xs : List GAddr} {k : Nat} {a : GAddr} (h : xs[k]? = some a) (id now n : Int) : seenIn (xs.take (k + 1)) id now n = if (a.fId = id ∧ a.fSeen ≤ now) ∧ seenIn (xs.take k) id now n < a.fSeen then a.fSeen else seenIn (xs.take k) id now n := by
  rw [List.take_add_one, h]
  exact seenIn_one _ _ _ _ _
theorem seenIn_ge (xs : List GAddr) (id now n : Int) : n ≤ seenIn xs id now n := by
  induction xs generalizing n with
  | nil => exact Int.le_refl _
  | cons a r ih =>
    refine Int.le_trans ?_ (ih _)
    dsimp only
    split <;> omega
def ids99 (xs : List GAddr) (now : Int) : Nat → List GAddr
  | 0 => []
  | n + 1 => ids99 xs now n ++ (if 0 ≤ seenIn xs ((n + 1 : Nat) : Int) now (-1) then [⟨((n + 1 : Nat) : Int), seenIn xs ((n + 1 : Nat) : Int) now (-1)⟩] else [])
theorem ids_mem {xs : List GAddr} {now : Int} {q : GAddr} : ∀ {n : Nat}, q ∈ ids99 xs now n ↔ ((1 ≤ q.fId ∧ q.fId ≤ n) ∧ q.fSeen = seenIn xs q.fId now (-1)) ∧ 0 ≤ q.fSeen
  | 0 => by
    simp only [ids99, List.not_mem_nil, false_iff]
    omega
  | n + 1 => by
    rw [ids99, List.mem_append, ids_mem (n := n)]
    constructor
    · rintro (⟨⟨h1, h2⟩, h3⟩ | h)
      · exact ⟨⟨by omega, h2⟩, h3⟩
      · split at h
        · rename_i h0
          obtain rfl := List.mem_singleton.1 h
          dsimp only
          exact ⟨⟨by omega, rfl⟩, h0⟩
        · cases h
    · rintro ⟨⟨h1, h2⟩, h3⟩
      by_cases e : q.fId = ((n + 1 : Nat) : Int)
      · right
        rw [e] at h2
        rw [if_pos (by omega), List.mem_singleton]
        obtain ⟨i, s⟩ := q
        dsimp only at e h2
        rw [e, h2]
      · exact .inl ⟨⟨by omega, h2⟩, h3⟩
theorem ids_sorted (xs : List GAddr) (now : Int) : ∀ n, (ids99 xs now n).Pairwise fun a b => a.fId < b.fId
  | 0 => List.Pairwise.nil
  | n + 1 => by
    rw [ids99, List.pairwise_append]
    refine ⟨ids_sorted xs now n, ?_, fun a ha b hb => ?_⟩
    · split
      · exact List.pairwise_singleton _ _
      · exact List.Pairwise.nil
    · split at hb
      · obtain rfl := List.mem_singleton.1 hb
        have := (ids_mem.1 ha).1.1
        dsimp only
        omega
      · cases hb
theorem ids_len (xs : List GAddr) (now : Int) : ∀ n, (ids99 xs now n).length ≤ n
  | 0 => Nat.le_refl _
  | n + 1 => by
    rw [ids99, List.length_append]
    have := ids_len xs now n
    split <;> simp <;> omega
theorem nodup_of_lt {l : List GAddr} (h : l.Pairwise fun a b => a.fId < b.fId) : (l.map (·.fId)).Nodup := by
  rw [List.Nodup, List.pairwise_map]
  exact h.imp fun h e => by omega
theorem nodup_of_ids {l : List GAddr} (h : (l.map (·.fId)).Nodup) : l.Nodup := by
  rw [List.Nodup, List.pairwise_map] at h
  exact h.imp fun h e => h (by rw [e])
theorem same_of_id {l : List GAddr} (h : (l.map (·.fId)).Nodup) {a b : GAddr} (ha : a ∈ l) (hb : b ∈ l) (e : a.fId = b.fId) : a = b := by
  obtain ⟨i, hi, rfl⟩ := List.getElem_of_mem ha
  obtain ⟨j, hj, rfl⟩ := List.getElem_of_mem hb
  rw [List.Nodup, List.pairwise_map, List.pairwise_iff_getElem] at h
  rcases Nat.lt_trichotomy i j with q | q | q
  · exact absurd e (h i j hi hj q)
  · subst q; rfl
  · exact absurd e.symm (h j i hj hi q)
/-! ### What one hears, one by one -/
structure HearI (now : Int) (xs o : List GAddr) : Prop where
  nd : (o.map (·.fId)).Nodup
  mem : ∀ q, q ∈ o ↔ ((1 ≤ q.fId ∧ q.fId ≤ 99) ∧ q.fSeen = seenIn xs q.fId now (-1)) ∧ 0 ≤ q.fSeen
theorem hear_nil (now : Int) : HearI now [] [] := ⟨List.nodup_nil, fun q => by simp only [List.not_mem_nil, false_iff, seenIn, List.foldl_nil]; omega⟩
theorem hear_late {now : Int} {xs o : List GAddr} (h : HearI now xs o) {a : GAddr} (ha : now < a.fSeen) : HearI now (xs ++ [a]) o :=
  ⟨h.nd, fun q => by rw [h.mem, seenIn_one, if_neg (by omega)]⟩
theorem hear_new {now : Int} {xs o : List GAddr} (h : HearI now xs o) {a : GAddr} (hok : aOk a = true) (ha : a.fSeen ≤ now) (hno : ∀ q ∈ o, q.fId ≠ a.fId) : HearI now (xs ++ [a]) (o ++ [a]) := by
  have hf := aOk_facts hok
  have hs : seenIn xs a.fId now (-1) < 0 := by
    rcases Int.lt_or_le (seenIn xs a.fId now (-1)) 0 with q | q
    · exact q
    · exact absurd rfl (hno ⟨a.fId, seenIn xs a.fId now (-1)⟩ ((h.mem _).2 ⟨⟨hf.1, rfl⟩, q⟩))
  refine ⟨?_, fun q => ?_⟩
  · rw [List.map_append, List.map_cons, List.map_nil, List.nodup_append]
    refine ⟨h.nd, by simp, fun x hx y hy => ?_⟩
    obtain ⟨p, hp, rfl⟩ := List.mem_map.1 hx
    obtain rfl := List.mem_singleton.1 hy
    exact hno p hp
  · rw [List.mem_append, List.mem_singleton, seenIn_one]
    by_cases e : q.fId = a.fId
    · rw [e, if_pos ⟨⟨rfl, ha⟩, by omega⟩]
      constructor
      · rintro (hq | rfl)
        · exact absurd e (hno q hq)
        · exact ⟨⟨hf.1, rfl⟩, hf.2.1⟩
      · rintro ⟨⟨h1, h2⟩, h3⟩
        right
        obtain ⟨i, s⟩ := q
        obtain ⟨j, t⟩ := a
        dsimp only at e h2
        rw [e, h2]
    · rw [if_neg (fun c => e c.1.1.symm), ← h.mem]
      constructor
      · rintro (hq | rfl)
        · exact hq
        · exact absurd rfl e
      · exact .inl
theorem hear_more {now : Int} {xs o : List GAddr} (h : HearI now xs o) {a q0 : GAddr} {k : Nat} (hok : aOk a = true) (ha : a.fSeen ≤ now) (hk : o[k]? = some q0) (he : q0.fId = a.fId) : HearI now (xs ++ [a]) (o.set k ⟨q0.fId, if q0.fSeen < a.fSeen then a.fSeen else q0.fSeen⟩) := by
  have hf := aOk_facts hok
  have h0 := (h.mem q0).1 (List.mem_of_getElem? hk)
  have hkl := (List.getElem?_eq_some_iff.1 hk).1
  have hke := (List.getElem?_eq_some_iff.1 hk).2
  have hmap : (o.set k ⟨q0.fId, if q0.fSeen < a.fSeen then a.fSeen else q0.fSeen⟩).map (·.fId) = o.map (·.fId) := by
    rw [List.map_set]
    apply List.ext_getElem?
    intro i
    rw [List.getElem?_set]
    split
    · rename_i e
      subst e
      rw [if_pos (by simpa using hkl), List.getElem?_map, hk]
      rfl
    · rfl
  refine ⟨by rw [hmap]; exact h.nd, fun q => ?_⟩
  rw [seenIn_one]
  by_cases e : q.fId = a.fId
  · have hs : seenIn xs q.fId now (-1) = q0.fSeen := by rw [h0.1.2, he, e]
    have hval : (if (a.fId = q.fId ∧ a.fSeen ≤ now) ∧ seenIn xs q.fId now (-1) < a.fSeen then a.fSeen else seenIn xs q.fId now (-1)) = if q0.fSeen < a.fSeen then a.fSeen else q0.fSeen := by
      rw [hs]
      by_cases c : q0.fSeen < a.fSeen
      · rw [if_pos c, if_pos ⟨⟨e.symm, ha⟩, c⟩]
      · rw [if_neg c, if_neg fun d => c d.2]
    rw [hval]
    constructor
    · intro hq
      have hm : (⟨q0.fId, if q0.fSeen < a.fSeen then a.fSeen else q0.fSeen⟩ : GAddr) ∈ o.set k ⟨q0.fId, if q0.fSeen < a.fSeen then a.fSeen else q0.fSeen⟩ := List.mem_set hkl _
      have := same_of_id (by rw [hmap]; exact h.nd) hq hm (by dsimp only; rw [e, he])
      rw [this]
      refine ⟨⟨h0.1.1, rfl⟩, ?_⟩
      dsimp only
      split <;> omega
    · rintro ⟨⟨h1, h2⟩, h3⟩
      have : q = ⟨q0.fId, if q0.fSeen < a.fSeen then a.fSeen else q0.fSeen⟩ := by
        obtain ⟨i, s⟩ := q
        dsimp only at e h2
        rw [e, h2, he]
      rw [this]
      exact List.mem_set hkl _
  · have hval : (if (a.fId = q.fId ∧ a.fSeen ≤ now) ∧ seenIn xs q.fId now (-1) < a.fSeen then a.fSeen else seenIn xs q.fId now (-1)) = seenIn xs q.fId now (-1) := if_neg fun c => e c.1.1.symm
    rw [hval, ← h.mem]
    constructor
    · intro hq
      rcases List.mem_or_eq_of_mem_set hq with hq | rfl
      · exact hq
      · exact absurd he e
    · intro hq
      obtain ⟨i, hi⟩ := List.getElem?_of_mem hq
      have hne : k ≠ i := fun c => by
        subst c
        rw [hk] at hi
        cases hi
        exact e he
      exact List.mem_of_getElem? (i := i) (by rw [List.getElem?_set_ne hne]; exact hi)
theorem hear_perm {now : Int} {xs o : List GAddr} (h : HearI now xs o) : o.Perm (ids99 xs now 99) :=
  (List.perm_ext_iff_of_nodup (nodup_of_ids h.nd) (nodup_of_ids (nodup_of_lt (ids_sorted xs now 99)))).2 fun q => by rw [h.mem, ids_mem]; rfl
theorem late_of_perm {o p : List GAddr} (h : o.Perm p) : late o = late p := late_uniq ((late_perm o).trans h) (late_sorted o)
/-! ### The first ten, by their numbers -/
def adEq (x y : GAddr) : Bool := decide (x.fId = y.fId) && decide (x.fSeen = y.fSeen)
theorem adEq_iff {x y : GAddr} : adEq x y = true ↔ x = y := by
  obtain ⟨i, s⟩ := x
  obtain ⟨j, t⟩ := y
  simp [adEq]
def inL (ys : List GAddr) (x : GAddr) : Bool := ys.any fun y => adEq y x
theorem inL_iff {ys : List GAddr} {x : GAddr} : inL ys x = true ↔ x ∈ ys := by
  unfold inL
  rw [List.any_eq_true]
  constructor
  · rintro ⟨y, hy, e⟩
    rw [← adEq_iff.1 e]
    exact hy
  · exact fun h => ⟨x, h, adEq_iff.2 rfl⟩
def hear2 (all : List GAddr) : List GAddr := all.filter (inL ((late all).take 10))
theorem hear2_uniq {all r : List GAddr} (hs : all.Pairwise fun a b => a.fId < b.fId) (hp : r.Perm ((late all).take 10)) (hr : r.Pairwise fun a b => a.fId ≤ b.fId) : r = hear2 all := by
  have nd := nodup_of_lt hs
  have ndl : ((late all).map (·.fId)).Nodup := (((late_perm all).map _).nodup_iff).2 nd
  have ndt : (((late all).take 10).map (·.fId)).Nodup := by rw [List.map_take]; exact ndl.sublist (List.take_sublist _ _)
  have ndr : (r.map (·.fId)).Nodup := ((hp.map _).nodup_iff).2 ndt
  have hf : (hear2 all).Pairwise fun a b => a.fId < b.fId := hs.sublist List.filter_sublist
  refine List.Perm.eq_of_pairwise (le := fun a b => a.fId ≤ b.fId) (fun a b ha hb h1 h2 => ?_) hr (hf.imp fun h => by omega) ?_
  · have hb' : b ∈ r := hp.mem_iff.2 (inL_iff.1 (List.mem_filter.1 hb).2)
    exact same_of_id ndr ha hb' (by omega)
  · refine (List.perm_ext_iff_of_nodup (nodup_of_ids ndr) (nodup_of_ids (nodup_of_lt hf))).2 fun q => ?_
    rw [hp.mem_iff]
    unfold hear2
    rw [List.mem_filter, inL_iff]
    exact ⟨fun h => ⟨(late_perm all).mem_iff.1 (List.mem_of_mem_take h), h⟩, fun h => h.2⟩
def hear (l more : List GAddr) (now : Int) : List GAddr := if addrsOk l && addrsOk more && isTime now then hear2 (ids99 (l ++ more) now 99) else []
end Go.Proofs.Ytkbikihbomnghaa
