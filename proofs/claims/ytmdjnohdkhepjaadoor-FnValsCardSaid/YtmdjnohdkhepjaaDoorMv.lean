/- Changes of validators: models and plain laws. -/
import Derived.Test.YtmdjnohdkhepjaaDoorK3
import Derived.Test.YtmdjnohdkhepjaaDoorPvSv
namespace Go.Proofs.YtmdjnohdkhepjaaDoor
set_option linter.unusedSimpArgs false
set_option linter.unusedVariables false
open Go.RowKit
set_option maxRecDepth 100000

def vIdx (l : List GVal) (id : Int) : Int := idx (fun p : GVal => decide (p.fId = id)) l
theorem vidx_neg {α : Type} {p : α → Bool} : ∀ {xs : List α}, idx p xs < 0 → ∀ x ∈ xs, p x = false
  | [], _, x, h => by cases h
  | y :: ys, h, x, hx => by
    unfold idx at h
    split at h
    · omega
    · rename_i hy
      rcases List.mem_cons.1 hx with rfl | hx
      · simpa using hy
      · refine vidx_neg (xs := ys) ?_ x hx
        split at h <;> omega
/-- A row of validators with one change, in order. -/
def chOne (p : List GVal) (x : GVal) : List GVal := p.filter (fun q => decide (q.fId < x.fId)) ++ (if x.fPower = 0 then [] else [x]) ++ p.filter (fun q => decide (x.fId < q.fId))
def chHas (p : List GVal) (x : GVal) : Bool := p.any fun q => decide (q.fId = x.fId)
def chFit (p : List GVal) (x : GVal) : Bool := chHas p x || !decide (x.fPower = 0)
def chAll : List GVal → List GVal → Option (List GVal)
  | p, [] => some p
  | p, x :: r => if chFit p x then chAll (chOne p x) r else none
theorem chAll_cons (p : List GVal) (x : GVal) (r : List GVal) : chAll p (x :: r) = if chFit p x = true then chAll (chOne p x) r else none := rfl
def changeVals (l xs : List GVal) : List GVal × Bool :=
  if valsOk l then match chAll l xs with
    | some p => if valsOk p then (p, true) else (l, false)
    | none => (l, false)
  else (l, false)
def vRise (p : List GVal) : Prop := p.Pairwise fun a b => a.fId < b.fId
theorem vRise_ids {p : List GVal} (h : vRise p) : (p.map (·.fId)).Nodup := by
  rw [List.Nodup, List.pairwise_map]
  exact h.imp fun h e => by omega
theorem vnodup {l : List GVal} (h : (l.map (·.fId)).Nodup) : l.Nodup := by
  rw [List.Nodup, List.pairwise_map] at h
  exact h.imp fun h e => h (by rw [e])
theorem valsOk_rise {l : List GVal} (h : valsOk l = true) : vRise l := by
  have f := (valsOk_iff.1 h).2.1
  unfold vRise
  rw [List.pairwise_iff_getElem]
  have key : ∀ (d i : Nat) (hi : i < l.length) (hj : i + d + 1 < l.length), l[i].fId < l[i + d + 1].fId := fun d => by
    induction d with
    | zero => exact fun i hi hj => f i _ _ (List.getElem?_eq_getElem hi) (List.getElem?_eq_getElem hj)
    | succ d ih =>
      intro i hi hj
      have h1 := ih i hi (by omega)
      have h2 := f (i + d + 1) _ _ (List.getElem?_eq_getElem (by omega)) (List.getElem?_eq_getElem (show i + d + 1 + 1 < l.length by omega))
      have e : l[i + (d + 1) + 1] = l[i + d + 1 + 1] := rfl
      rw [e]
      omega
  intro i j hi hj hij
  have := key (j - i - 1) i hi (by omega)
  have e : l[i + (j - i - 1) + 1]'(by omega) = l[j] := by congr 1; omega
  rw [e] at this
  exact this
theorem chOne_rise {p : List GVal} (h : vRise p) (x : GVal) : vRise (chOne p x) := by
  unfold vRise chOne at *
  rw [List.pairwise_append, List.pairwise_append]
  refine ⟨⟨h.sublist List.filter_sublist, ?_, fun a ha b hb => ?_⟩, h.sublist List.filter_sublist, fun a ha b hb => ?_⟩
  · split
    · exact List.Pairwise.nil
    · exact List.pairwise_singleton _ _
  · split at hb
    · cases hb
    · obtain rfl := List.mem_singleton.1 hb
      exact of_decide_eq_true (List.mem_filter.1 ha).2
  · have hbx := of_decide_eq_true (List.mem_filter.1 hb).2
    rcases List.mem_append.1 ha with ha | ha
    · have := of_decide_eq_true (List.mem_filter.1 ha).2
      omega
    · split at ha
      · cases ha
      · obtain rfl := List.mem_singleton.1 ha
        exact hbx
theorem chOne_mem {p : List GVal} {x q : GVal} : q ∈ chOne p x ↔ (q = x ∧ x.fPower ≠ 0) ∨ (q ∈ p ∧ q.fId ≠ x.fId) := by
  unfold chOne
  rw [List.mem_append, List.mem_append, List.mem_filter, List.mem_filter, decide_eq_true_eq, decide_eq_true_eq]
  constructor
  · rintro ((⟨h1, h2⟩ | h) | ⟨h1, h2⟩)
    · exact .inr ⟨h1, by omega⟩
    · split at h
      · cases h
      · rename_i h0
        exact .inl ⟨List.mem_singleton.1 h, h0⟩
    · exact .inr ⟨h1, by omega⟩
  · rintro (⟨rfl, h0⟩ | ⟨h1, h2⟩)
    · exact .inl (.inr (by rw [if_neg h0]; exact List.mem_singleton.2 rfl))
    · rcases Int.lt_or_lt_of_ne h2 with q | q
      · exact .inl (.inl ⟨h1, q⟩)
      · exact .inr ⟨h1, q⟩
theorem chOne_len (p : List GVal) (x : GVal) (h : vRise p) : (chOne p x).length ≤ p.length + 1 := by
  unfold chOne
  rw [List.length_append, List.length_append]
  have key : ∀ l : List GVal, (l.filter fun q => decide (q.fId < x.fId)).length + (l.filter fun q => decide (x.fId < q.fId)).length ≤ l.length := fun l => by
    induction l with
    | nil => simp
    | cons a r ih =>
      simp only [List.filter_cons, List.length_cons]
      split <;> split <;> (try simp only [List.length_cons]) <;> (try omega)
      rename_i h1 h2
      simp only [decide_eq_true_eq] at h1 h2
      omega
  have := key p
  split <;> simp <;> omega
/-- One row that is another one in some order, without numbers that come twice. -/
structure SameV (o p : List GVal) : Prop where
  perm : o.Perm p
  rise : vRise p
theorem SameV.ids {o p : List GVal} (h : SameV o p) : (o.map (·.fId)).Nodup := ((h.perm.map _).nodup_iff).2 (vRise_ids h.rise)
theorem SameV.of {o p : List GVal} (hn : (o.map (·.fId)).Nodup) (hr : vRise p) (hm : ∀ q, q ∈ o ↔ q ∈ p) : SameV o p :=
  ⟨(List.perm_ext_iff_of_nodup (vnodup hn) (vnodup (vRise_ids hr))).2 hm, hr⟩
theorem SameV.sort {o p : List GVal} (h : SameV o p) : vSort o = p := (vSort_uniq h.ids h.perm.symm (h.rise.imp fun q => by omega)).symm
theorem same_erase {o p : List GVal} (h : SameV o p) {x q : GVal} {k : Nat} (hk : o[k]? = some q) (he : q.fId = x.fId) (h0 : x.fPower = 0) : SameV (o.eraseIdx k) (chOne p x) := by
  have hkl := (List.getElem?_eq_some_iff.1 hk).1
  refine SameV.of ?_ (chOne_rise h.rise x) fun r => ?_
  · exact h.ids.sublist ((List.eraseIdx_sublist o k).map _)
  · rw [chOne_mem, ← h.perm.mem_iff, List.mem_eraseIdx_iff_getElem?]
    constructor
    · rintro ⟨i, hi, hr⟩
      refine .inr ⟨List.mem_of_getElem? hr, fun e => hi ?_⟩
      have hil := (List.getElem?_eq_some_iff.1 hr).1
      have hnd := h.ids
      rw [List.Nodup, List.pairwise_map, List.pairwise_iff_getElem] at hnd
      have e1 := (List.getElem?_eq_some_iff.1 hr).2
      have e2 := (List.getElem?_eq_some_iff.1 hk).2
      rcases Nat.lt_trichotomy i k with c | c | c
      · exact absurd (by rw [e1, e2, he, e]) (hnd i k hil hkl c)
      · exact c
      · exact absurd (by rw [e1, e2, he, e]) (hnd k i hkl hil c)
    · rintro (⟨_, c⟩ | ⟨h1, h2⟩)
      · exact absurd h0 c
      · obtain ⟨i, hi⟩ := List.getElem?_of_mem h1
        refine ⟨i, fun e => ?_, hi⟩
        subst e
        rw [hk] at hi
        cases hi
        exact h2 he
theorem same_push {o p : List GVal} (h : SameV o p) {x : GVal} (hno : ∀ q ∈ o, q.fId ≠ x.fId) (h0 : x.fPower ≠ 0) : SameV (o ++ [x]) (chOne p x) := by
  refine SameV.of ?_ (chOne_rise h.rise x) fun r => ?_
  · rw [List.map_append, List.map_cons, List.map_nil, List.nodup_append]
    refine ⟨h.ids, by simp, fun a ha b hb => ?_⟩
    obtain ⟨q, hq, rfl⟩ := List.mem_map.1 ha
    obtain rfl := List.mem_singleton.1 hb
    exact hno q hq
  · rw [chOne_mem, ← h.perm.mem_iff, List.mem_append, List.mem_singleton]
    constructor
    · rintro (h1 | rfl)
      · exact .inr ⟨h1, hno r h1⟩
      · exact .inl ⟨rfl, h0⟩
    · rintro (⟨rfl, _⟩ | ⟨h1, _⟩)
      · exact .inr rfl
      · exact .inl h1
theorem same_set {o p : List GVal} (h : SameV o p) {x q : GVal} {k : Nat} (hk : o[k]? = some q) (he : q.fId = x.fId) (h0 : x.fPower ≠ 0) : SameV (o.set k ⟨q.fId, x.fPower⟩) (chOne p x) := by
  have hkl := (List.getElem?_eq_some_iff.1 hk).1
  have hx : (⟨q.fId, x.fPower⟩ : GVal) = x := by rw [he]
  rw [hx]
  have hmap : (o.set k x).map (·.fId) = o.map (·.fId) := by
    rw [List.map_set]
    apply List.ext_getElem?
    intro i
    rw [List.getElem?_set]
    split
    · rename_i e
      subst e
      rw [if_pos (by simpa using hkl), List.getElem?_map, hk, ← he]
      rfl
    · rfl
  have hnd2 : ((o.set k x).map (·.fId)).Nodup := by rw [hmap]; exact h.ids
  refine SameV.of hnd2 (chOne_rise h.rise x) fun r => ?_
  rw [chOne_mem, ← h.perm.mem_iff]
  have hxm : x ∈ o.set k x := List.mem_set hkl _
  constructor
  · intro hr
    by_cases c : r.fId = x.fId
    · exact .inl ⟨vsame_of_id hnd2 hr hxm c, h0⟩
    · rcases List.mem_or_eq_of_mem_set hr with hr | rfl
      · exact .inr ⟨hr, c⟩
      · exact absurd rfl c
  · rintro (⟨rfl, _⟩ | ⟨h1, h2⟩)
    · exact hxm
    · obtain ⟨i, hi⟩ := List.getElem?_of_mem h1
      have hne : k ≠ i := fun c => by
        subst c
        rw [hk] at hi
        cases hi
        exact h2 he
      exact List.mem_of_getElem? (i := i) (by rw [List.getElem?_set_ne hne]; exact hi)
/-! ### The reference's way: one by one -/
def l6Put (x : GVal) (t : List GVal) : Bool := decide (x.fPower = 0) || t.any fun q => decide (x.fId ≤ q.fId)
def l6Out (x : GVal) (t : List GVal) : List GVal := t.filter (fun q => decide (q.fId < x.fId)) ++ (if l6Put x t = true ∧ x.fPower ≠ 0 then [x] else []) ++ t.filter (fun q => decide (x.fId < q.fId))
theorem l6_nil (x : GVal) : l6Out x [] = [] := by
  unfold l6Out l6Put
  simp
theorem chHas_app (t : List GVal) (q x : GVal) : chHas (t ++ [q]) x = (chHas t x || decide (q.fId = x.fId)) := by
  unfold chHas
  rw [List.any_append]
  simp
theorem l6Put_app (t : List GVal) (q x : GVal) : l6Put x (t ++ [q]) = (l6Put x t || decide (x.fId ≤ q.fId)) := by
  unfold l6Put
  rw [List.any_append, Bool.or_assoc]
  simp
theorem l6_low {t : List GVal} {q x : GVal} (hr : ∀ a ∈ t, a.fId < q.fId) (h : q.fId < x.fId) : l6Out x (t ++ [q]) = l6Out x t ++ [q] ∧ l6Put x (t ++ [q]) = l6Put x t ∧ (l6Put x t = true → x.fPower = 0) := by
  have hB : t.filter (fun q => decide (x.fId < q.fId)) = [] := List.filter_eq_nil_iff.2 fun a ha => by have := hr a ha; simp; omega
  have hP : t.any (fun q => decide (x.fId ≤ q.fId)) = false := by rw [List.any_eq_false]; exact fun a ha => by have := hr a ha; simp; omega
  have hm : l6Put x t = decide (x.fPower = 0) := by unfold l6Put; rw [hP, Bool.or_false]
  have hp2 : l6Put x (t ++ [q]) = l6Put x t := by rw [l6Put_app, decide_eq_false (by omega), Bool.or_false]
  have hmid : (if l6Put x t = true ∧ x.fPower ≠ 0 then [x] else []) = ([] : List GVal) := if_neg (by rw [hm]; simp)
  refine ⟨?_, hp2, fun c => by rw [hm] at c; exact of_decide_eq_true c⟩
  unfold l6Out
  rw [hp2, hmid, List.filter_append, List.filter_append, hB]
  simp [h]
  omega
theorem l6_same {t : List GVal} {q x : GVal} (hr : ∀ a ∈ t, a.fId < q.fId) (h : q.fId = x.fId) : l6Out x (t ++ [q]) = (if l6Put x t = true then l6Out x t else l6Out x t ++ [x]) ∧ l6Put x (t ++ [q]) = true := by
  have hB : t.filter (fun q => decide (x.fId < q.fId)) = [] := List.filter_eq_nil_iff.2 fun a ha => by have := hr a ha; simp; omega
  have hP : t.any (fun q => decide (x.fId ≤ q.fId)) = false := by rw [List.any_eq_false]; exact fun a ha => by have := hr a ha; simp; omega
  have hm : l6Put x t = decide (x.fPower = 0) := by unfold l6Put; rw [hP, Bool.or_false]
  have hp2 : l6Put x (t ++ [q]) = true := by rw [l6Put_app, decide_eq_true (by omega), Bool.or_true]
  refine ⟨?_, hp2⟩
  unfold l6Out
  rw [hp2, List.filter_append, List.filter_append, hB, hm]
  by_cases h0 : x.fPower = 0
  · simp [h0, h]
  · simp [h0, h]
theorem l6_high {t : List GVal} {q x : GVal} (h : x.fId < q.fId) : l6Out x (t ++ [q]) = (if l6Put x t = true then l6Out x t ++ [q] else l6Out x t ++ [x] ++ [q]) ∧ l6Put x (t ++ [q]) = true := by
  have hp2 : l6Put x (t ++ [q]) = true := by rw [l6Put_app, decide_eq_true (by omega), Bool.or_true]
  refine ⟨?_, hp2⟩
  unfold l6Out
  rw [hp2, List.filter_append, List.filter_append]
  cases hq : l6Put x t with
  | true =>
    simp [h]
    omega
  | false =>
    have h0 : x.fPower ≠ 0 := fun c => by unfold l6Put at hq; rw [decide_eq_true c] at hq; simp at hq
    have hB : t.filter (fun q => decide (x.fId < q.fId)) = [] := List.filter_eq_nil_iff.2 fun a ha => by
      unfold l6Put at hq
      rw [Bool.or_eq_false_iff, List.any_eq_false] at hq
      have := hq.2 a ha
      simp at this ⊢
      omega
    simp [h, h0, hB]
    omega
theorem l6_end (p : List GVal) (x : GVal) : (if l6Put x p = true then l6Out x p else l6Out x p ++ [x]) = chOne p x := by
  unfold chOne l6Out
  cases hq : l6Put x p with
  | true =>
    by_cases h0 : x.fPower = 0 <;> simp [h0]
  | false =>
    have h0 : x.fPower ≠ 0 := fun c => by unfold l6Put at hq; rw [decide_eq_true c] at hq; simp at hq
    have hB : p.filter (fun q => decide (x.fId < q.fId)) = [] := List.filter_eq_nil_iff.2 fun a ha => by
      unfold l6Put at hq
      rw [Bool.or_eq_false_iff, List.any_eq_false] at hq
      have := hq.2 a ha
      simp at this ⊢
      omega
    simp [h0, hB]
theorem l6_len (p : List GVal) (x : GVal) : (l6Out x p).length ≤ 2 * p.length + 1 := by
  unfold l6Out
  rw [List.length_append, List.length_append]
  have h1 := List.length_filter_le (fun q : GVal => decide (q.fId < x.fId)) p
  have h2 := List.length_filter_le (fun q : GVal => decide (x.fId < q.fId)) p
  split <;> simp <;> omega
theorem changeVals_no {l xs : List GVal} (h : (changeVals l xs).2 = false) : (changeVals l xs).1 = l := by
  unfold changeVals at h ⊢
  split at h
  · rename_i ok
    rw [if_pos ok]
    split at h
    · split at h
      · cases h
      · rename_i e1 e2
        rw [if_neg e2]
    · rfl
  · rename_i ok
    rw [if_neg ok]
theorem changeVals_yes {l xs : List GVal} (h : (changeVals l xs).2 = true) : valsOk l = true ∧ valsOk (changeVals l xs).1 = true := by
  unfold changeVals at h ⊢
  split at h
  · rename_i ok
    rw [if_pos ok]
    split at h
    · split at h
      · rename_i e2
        rw [if_pos e2]
        exact ⟨ok, e2⟩
      · cases h
    · cases h
  · cases h
theorem changeVals_len {l xs : List GVal} (h : l.length ≤ 8) : (changeVals l xs).1.length ≤ 8 := by
  cases e : (changeVals l xs).2 with
  | false => rw [changeVals_no e]; exact h
  | true => have := (valsOk_iff.1 (changeVals_yes e).2).2.2.2; omega
end Go.Proofs.YtmdjnohdkhepjaaDoor
