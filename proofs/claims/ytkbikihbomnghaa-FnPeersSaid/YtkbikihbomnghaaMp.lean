/- Plain laws: tables of peers stay in order; who is pinned stays; each that is not put off has its turn. -/
import Derived.Test.YtkbikihbomnghaaPb2
import Derived.Test.YtkbikihbomnghaaPb3
import Derived.Test.YtkbikihbomnghaaPb1
import Derived.Test.YtkbikihbomnghaaMc4
namespace Go.Proofs.Ytkbikihbomnghaa
set_option linter.unusedSimpArgs false
set_option linter.unusedVariables false
open Go.RowKit

theorem idx_neg {α : Type} {p : α → Bool} : ∀ {xs : List α}, idx p xs < 0 → ∀ x ∈ xs, p x = false
  | [], _, x, h => by simp at h
  | y :: ys, h, x, hx => by
    unfold idx at h
    split at h
    · omega
    · rename_i hy
      split at h
      · rename_i hn
        rcases List.mem_cons.1 hx with rfl | hx
        · simpa using hy
        · exact idx_neg hn x hx
      · have := (idx_ge p ys).1
        omega
theorem idx_of_nodup {l : List GPeer} (h : (l.map (·.fId)).Nodup) {k : Nat} {p : GPeer} (hk : l[k]? = some p) : peerIdx l p.fId = (k : Int) := by
  unfold peerIdx
  refine idx_some hk (by simp) fun i y hi hy => ?_
  have hkl := (List.getElem?_eq_some_iff.1 hk).1
  rw [List.Nodup, List.pairwise_iff_getElem] at h
  have := h i k (by simp; omega) (by simpa using hkl) hi
  simp only [List.getElem_map] at this
  rw [List.getElem?_eq_some_iff] at hk hy
  obtain ⟨_, rfl⟩ := hk
  obtain ⟨_, rfl⟩ := hy
  simpa using this
structure PeerFit (p : GPeer) : Prop where
  id : 1 ≤ p.fId ∧ p.fId ≤ 99
  til : 0 ≤ p.fUntil ∧ p.fUntil ≤ 1000320
  bans : 0 ≤ p.fBans ∧ p.fBans ≤ 20
theorem tableOk_of {l : List GPeer} {u : Int} (h1 : ∀ p ∈ l, PeerFit p) (h2 : (l.map (·.fId)).Nodup) (h3 : l.length ≤ 6) (h4 : isTime u = true) : tableOk ⟨l, u⟩ = true := by
  refine tableOk_iff.2 ⟨fun k p hp => ?_, h3, inB_iff.1 h4⟩
  have f := h1 p (List.mem_of_getElem? hp)
  exact ⟨f.id, f.til, f.bans, idx_of_nodup h2 hp⟩
theorem table_fit {t : GTable} (ok : tableOk t = true) : ∀ p ∈ t.fPeers, PeerFit p := fun p hp => by
  obtain ⟨k, hk, rfl⟩ := List.getElem_of_mem hp
  have f := (tableOk_iff.1 ok).1 k _ (List.getElem?_eq_getElem hk)
  exact ⟨f.1, f.2.1, f.2.2.1⟩
theorem table_time {t : GTable} (ok : tableOk t = true) : isTime t.fTurn = true := inB_iff.2 (tableOk_iff.1 ok).2.2
theorem peerAdd_bad {t : GTable} {id : Int} {pin : Bool} (h : inB id 1 99 = false ∨ 0 ≤ peerIdx t.fPeers id ∨ (t.fPeers.length = 6 ∧ freeIdx t.fPeers < 0)) : peerAdd t id pin = (t, false) := if_pos h
theorem peerAdd_ok {t : GTable} (ok : tableOk t = true) (id : Int) (pin : Bool) : tableOk (peerAdd t id pin).1 = true := by
  by_cases h : inB id 1 99 = false ∨ 0 ≤ peerIdx t.fPeers id ∨ (t.fPeers.length = 6 ∧ freeIdx t.fPeers < 0)
  · rw [peerAdd_bad h]; exact ok
  have e : peerAdd t id pin = (⟨(if t.fPeers.length = 6 then t.fPeers.eraseIdx (freeIdx t.fPeers).toNat else t.fPeers) ++ [⟨id, pin, 0, 0⟩], t.fTurn⟩, true) := if_neg h
  rw [e]
  rw [not_or, not_or] at h
  obtain ⟨hin, hid, hfull⟩ := h
  have hin : 1 ≤ id ∧ id ≤ 99 := inB_iff.1 (by simpa using hin)
  have hno := idx_neg (p := fun p : GPeer => decide (p.fId = id)) (xs := t.fPeers) (by unfold peerIdx at hid; omega)
  have h6 := (tableOk_iff.1 ok).2.1
  have hfr := (idx_ge (fun p : GPeer => !p.fPinned) t.fPeers).2
  obtain ⟨l, hl⟩ : ∃ l, l = (if t.fPeers.length = 6 then t.fPeers.eraseIdx (freeIdx t.fPeers).toNat else t.fPeers) := ⟨_, rfl⟩
  have sub : l.Sublist t.fPeers := by
    rw [hl]
    split
    · exact List.eraseIdx_sublist ..
    · exact List.Sublist.refl _
  have len : l.length ≤ 5 := by
    rw [hl]
    split
    · rename_i h5
      have hf0 : 0 ≤ freeIdx t.fPeers := by
        rcases Int.lt_or_le (freeIdx t.fPeers) 0 with q | q
        · exact absurd ⟨h5, q⟩ hfull
        · exact q
      have : (freeIdx t.fPeers).toNat < t.fPeers.length := by unfold freeIdx at hf0 ⊢; omega
      rw [List.length_eraseIdx, if_pos this]
      omega
    · omega
  rw [← hl]
  refine tableOk_of (fun p hp => ?_) ?_ (by simp; omega) (table_time ok)
  · rcases List.mem_append.1 hp with hp | hp
    · exact table_fit ok p (sub.subset hp)
    · obtain rfl := List.mem_singleton.1 hp
      exact ⟨hin, ⟨Int.le_refl _, by dsimp only; omega⟩, ⟨Int.le_refl _, by dsimp only; omega⟩⟩
  · rw [List.map_append, List.nodup_append]
    refine ⟨(ids_nodup ok).sublist (sub.map _), by simp, fun a ha b hb => ?_⟩
    obtain ⟨p, hp, rfl⟩ := List.mem_map.1 ha
    simp only [List.map_cons, List.map_nil, List.mem_singleton] at hb
    subst hb
    have := hno p (sub.subset hp)
    simpa using this
/-- Who is pinned stays. -/
theorem peerAdd_pin {t : GTable} {id : Int} {pin : Bool} {p : GPeer} (hp : p ∈ t.fPeers) (hpin : p.fPinned = true) : p ∈ (peerAdd t id pin).1.fPeers := by
  unfold peerAdd
  split
  · exact hp
  · rename_i h
    rw [not_or, not_or] at h
    refine List.mem_append.2 (.inl ?_)
    split
    · rename_i h6
      have hf0 : 0 ≤ freeIdx t.fPeers := by
        rcases Int.lt_or_le (freeIdx t.fPeers) 0 with q | q
        · exact absurd ⟨h6, q⟩ h.2.2
        · exact q
      obtain ⟨x, hx, hxp, _⟩ := idx_get (p := fun p : GPeer => !p.fPinned) (xs := t.fPeers) hf0
      obtain ⟨k, hk, rfl⟩ := List.getElem_of_mem hp
      have hne : k ≠ (freeIdx t.fPeers).toNat := fun e => by
        subst e
        rw [show (idx (fun p : GPeer => !p.fPinned) t.fPeers).toNat = (freeIdx t.fPeers).toNat from rfl, List.getElem?_eq_getElem hk] at hx
        cases hx
        rw [hpin] at hxp
        exact absurd hxp (by simp)
      rw [List.mem_iff_getElem?]
      rcases Nat.lt_or_ge k (freeIdx t.fPeers).toNat with q | q
      · exact ⟨k, by rw [List.getElem?_eraseIdx, if_pos q, List.getElem?_eq_getElem hk]⟩
      · exact ⟨k - 1, by rw [List.getElem?_eraseIdx, if_neg (by omega), show k - 1 + 1 = k by omega, List.getElem?_eq_getElem hk]⟩
    · exact hp
theorem peerNext_ps (t : GTable) (now : Int) : (peerNext t now).1.fPeers = t.fPeers := by
  unfold peerNext
  split <;> rfl
/-- The next turn: nobody, or the first behind the turn who is not put off. -/
theorem nxt_cases (ps : List GPeer) (tn : Nat) (now : Int) : (nxt ps tn now = ((tn : Int), 0) ∧ ∀ k, k < ps.length → nT ps tn now k = false) ∨
    ∃ k p, k < ps.length ∧ ps[(tn + k) % ps.length]? = some p ∧ p.fUntil ≤ now ∧ (∀ i, i < k → nT ps tn now i = false) ∧ nxt ps tn now = ((((tn + k) % ps.length : Nat) : Int) + 1, p.fId) := by
  rcases Int.lt_or_le (idx (nT ps tn now) (List.range ps.length)) 0 with q | q
  · have hno := idx_neg q
    refine .inl ⟨nxt_out fun i y hi hy => ?_, fun k hk => hno k (List.mem_range.2 hk)⟩
    exact hno y (List.mem_of_getElem? hy)
  · obtain ⟨x, hx, hp, hN⟩ := idx_get q
    generalize (idx (nT ps tn now) (List.range ps.length)).toNat = k at hx hN
    have hk : k < ps.length := by simpa using (List.getElem?_eq_some_iff.1 hx).1
    have e : x = k := by rw [range_get hk] at hx; cases hx; rfl
    subst e
    have hlt : (tn + x) % ps.length < ps.length := Nat.mod_lt _ (by omega)
    have hps : ps[(tn + x) % ps.length]? = some ps[(tn + x) % ps.length] := List.getElem?_eq_getElem hlt
    have hu : (ps[(tn + x) % ps.length]).fUntil ≤ now := by unfold nT at hp; rw [hps] at hp; simpa using hp
    refine .inr ⟨x, _, hk, hps, hu, fun i hi => hN i i hi (range_get (by omega)), nxt_in hk hps hu hN⟩
theorem peerNext_ok {t : GTable} (ok : tableOk t = true) (now : Int) : tableOk (peerNext t now).1 = true := by
  unfold peerNext
  split
  · have h6 := (tableOk_iff.1 ok).2.1
    have ht := (tableOk_iff.1 ok).2.2
    refine tableOk_of (table_fit ok) (ids_nodup ok) h6 ?_
    rcases nxt_cases t.fPeers t.fTurn.toNat now with ⟨e, _⟩ | ⟨k, p, hk, _, _, _, e⟩
    · rw [e]; exact inB_iff.2 (by dsimp only; omega)
    · rw [e]
      have := Nat.mod_lt (t.fTurn.toNat + k) (show 0 < t.fPeers.length by omega)
      exact inB_iff.2 (by dsimp only; omega)
  · exact ok
/-! ### Each that is not put off has its turn -/
structure TurnInv (ps : List GPeer) (now : Int) (tn : Nat) (seen : List Int) (i : Nat) : Prop where
  sound : ∀ x ∈ seen, ∃ p ∈ ps, p.fId = x ∧ p.fUntil ≤ now
  full : ∀ (j : Nat) p, ps[j]? = some p → p.fUntil ≤ now → p.fId ∈ seen ∨ ∃ d, d + i + 1 ≤ ps.length ∧ (tn + d) % ps.length = j
theorem turn_start (ps : List GPeer) (now : Int) (tn : Nat) : TurnInv ps now tn [] 0 := by
  refine ⟨fun x h => absurd h (by simp), fun j p hj _ => .inr ?_⟩
  have hjl := (List.getElem?_eq_some_iff.1 hj).1
  have hm := Nat.mod_lt tn (show 0 < ps.length by omega)
  by_cases q : tn % ps.length ≤ j
  · refine ⟨j - tn % ps.length, by omega, ?_⟩
    rw [Nat.add_mod, Nat.mod_eq_of_lt (show j - tn % ps.length < ps.length by omega), show tn % ps.length + (j - tn % ps.length) = j by omega, Nat.mod_eq_of_lt hjl]
  · refine ⟨j + ps.length - tn % ps.length, by omega, ?_⟩
    rw [Nat.add_mod, Nat.mod_eq_of_lt (show j + ps.length - tn % ps.length < ps.length by omega), show tn % ps.length + (j + ps.length - tn % ps.length) = j + ps.length by omega, Nat.add_mod_right, Nat.mod_eq_of_lt hjl]
theorem turn_no {ps : List GPeer} {now : Int} {tn : Nat} {seen : List Int} {i : Nat} (h : TurnInv ps now tn seen i) (hno : ∀ k, k < ps.length → nT ps tn now k = false) : TurnInv ps now tn seen (i + 1) := by
  refine ⟨h.sound, fun j p hj hu => ?_⟩
  rcases h.full j p hj hu with q | ⟨d, h1, h2⟩
  · exact .inl q
  · have := hno d (by omega)
    unfold nT at this
    rw [h2, hj] at this
    simp at this
    omega
theorem turn_yes {ps : List GPeer} {now : Int} {tn k : Nat} {seen : List Int} {i : Nat} {p : GPeer} (h : TurnInv ps now tn seen i) (hk : k < ps.length) (hp : ps[(tn + k) % ps.length]? = some p) (hu : p.fUntil ≤ now) (hN : ∀ i, i < k → nT ps tn now i = false) : TurnInv ps now ((tn + k) % ps.length + 1) (seen ++ [p.fId]) (i + 1) := by
  refine ⟨fun x hx => ?_, fun j q hj hq => ?_⟩
  · rcases List.mem_append.1 hx with hx | hx
    · exact h.sound x hx
    · obtain rfl := List.mem_singleton.1 hx
      exact ⟨p, List.mem_of_getElem? hp, rfl, hu⟩
  · rcases h.full j q hj hq with r | ⟨d, h1, h2⟩
    · exact .inl (List.mem_append.2 (.inl r))
    · rcases Nat.lt_trichotomy d k with c | c | c
      · have := hN d c
        unfold nT at this
        rw [h2, hj] at this
        simp at this
        omega
      · subst c
        rw [h2, hj] at hp
        cases hp
        exact .inl (by simp)
      · refine .inr ⟨d - k - 1, by omega, ?_⟩
        rw [Nat.add_assoc, Nat.add_mod, Nat.mod_mod, ← Nat.add_mod, show tn + k + (1 + (d - k - 1)) = tn + d by omega]
        exact h2
theorem turn_end {ps : List GPeer} {now : Int} {tn : Nat} {seen : List Int} (h : TurnInv ps now tn seen ps.length) (hn : (ps.map (·.fId)).Nodup) {j : Nat} {p : GPeer} (hj : ps[j]? = some p) : p.fId ∈ seen ↔ p.fUntil ≤ now := by
  constructor
  · intro hx
    obtain ⟨q, hq, e, hu⟩ := h.sound _ hx
    obtain ⟨i, hi, rfl⟩ := List.getElem_of_mem hq
    have h1 := idx_of_nodup hn (List.getElem?_eq_getElem hi)
    have h2 := idx_of_nodup hn hj
    rw [e, h2] at h1
    have : j = i := by omega
    subst this
    rw [List.getElem?_eq_getElem hi] at hj
    cases hj
    exact hu
  · intro hu
    rcases h.full j p hj hu with r | ⟨d, h1, _⟩
    · exact r
    · omega
end Go.Proofs.Ytkbikihbomnghaa
