/- Nodes that agree on a value, and nets of them, as plain functions; three nodes that have just begun decide. -/
import Derived.Test.YtcbknmnlgoeniaaK1
namespace Go.Proofs.Ytcbknmnlgoeniaa
set_option linter.unusedSimpArgs false
set_option linter.unusedVariables false
open Go.RowKit

def hasI (l : List Int) (x : Int) : Bool := l.any fun y => decide (y = x)
/-! ### Messages -/
def eqM (a b : GNMsg) : Bool := decide (a.fKind = b.fKind) && (decide (a.fRound = b.fRound) && (decide (a.fVal = b.fVal) && (decide (a.fPol = b.fPol) && decide (a.fFrom = b.fFrom))))
theorem eqM_iff {a b : GNMsg} : eqM a b = true ↔ a = b := by
  obtain ⟨a1, a2, a3, a4, a5⟩ := a
  obtain ⟨b1, b2, b3, b4, b5⟩ := b
  simp [eqM]
def hasM (l : List GNMsg) (m : GNMsg) : Bool := l.any (eqM m)
theorem hasM_iff {l : List GNMsg} {m : GNMsg} : hasM l m = true ↔ m ∈ l := by
  unfold hasM
  rw [List.any_eq_true]
  constructor
  · rintro ⟨x, hx, h⟩; rw [eqM_iff.1 h]; exact hx
  · exact fun h => ⟨m, h, eqM_iff.2 rfl⟩
theorem hasM_no {l : List GNMsg} {m : GNMsg} : hasM l m = false ↔ m ∉ l := by
  rw [← hasM_iff]; simp
def msg0 : GNMsg := ⟨0, 0, 0, 0, 0⟩
def propOf (round : Int) : Int := 1 + round % 4
def msgOk (m : GNMsg) : Bool := inB m.fRound 0 11 && inB m.fFrom 1 4 && (if m.fKind = 1 then decide (m.fFrom = propOf m.fRound) && inB m.fVal 1 20 && inB m.fPol (-1) (m.fRound - 1) else if m.fKind = 2 ∨ m.fKind = 3 then inB m.fVal 0 20 && decide (m.fPol = -1) else false)
structure MOk (m : GNMsg) : Prop where
  rd : 0 ≤ m.fRound ∧ m.fRound ≤ 11
  fr : 1 ≤ m.fFrom ∧ m.fFrom ≤ 4
  kd : m.fKind = 1 ∨ m.fKind = 2 ∨ m.fKind = 3
  p1 : m.fKind = 1 → m.fFrom = propOf m.fRound ∧ (1 ≤ m.fVal ∧ m.fVal ≤ 20) ∧ (-1 ≤ m.fPol ∧ m.fPol ≤ m.fRound - 1)
  p2 : m.fKind ≠ 1 → (0 ≤ m.fVal ∧ m.fVal ≤ 20) ∧ m.fPol = -1
theorem msgOk_iff {m : GNMsg} : msgOk m = true ↔ MOk m := by
  unfold msgOk
  constructor
  · intro h
    rw [Bool.and_eq_true, Bool.and_eq_true, inB_iff, inB_iff] at h
    obtain ⟨⟨h1, h2⟩, h3⟩ := h
    by_cases hk : m.fKind = 1
    · rw [if_pos hk, Bool.and_eq_true, Bool.and_eq_true, inB_iff, inB_iff, decide_eq_true_eq] at h3
      exact ⟨h1, h2, .inl hk, fun _ => ⟨h3.1.1, h3.1.2, h3.2⟩, fun q => absurd hk q⟩
    · rw [if_neg hk] at h3
      by_cases hk2 : m.fKind = 2 ∨ m.fKind = 3
      · rw [if_pos hk2, Bool.and_eq_true, inB_iff, decide_eq_true_eq] at h3
        exact ⟨h1, h2, .inr hk2, fun q => absurd q hk, fun _ => h3⟩
      · rw [if_neg hk2] at h3; cases h3
  · rintro ⟨h1, h2, h3, h4, h5⟩
    rw [Bool.and_eq_true, Bool.and_eq_true, inB_iff, inB_iff]
    refine ⟨⟨h1, h2⟩, ?_⟩
    by_cases hk : m.fKind = 1
    · rw [if_pos hk, Bool.and_eq_true, Bool.and_eq_true, inB_iff, inB_iff, decide_eq_true_eq]
      have := h4 hk
      exact ⟨⟨this.1, this.2.1⟩, this.2.2⟩
    · rw [if_neg hk, if_pos (by omega), Bool.and_eq_true, inB_iff, decide_eq_true_eq]
      exact h5 hk
def msgAt (l : List GNMsg) (k : Nat) : Bool := match l[k]? with | none => true | some m => msgOk m && !hasM (l.take k) m
def msgsOk (l : List GNMsg) : Bool := allN (msgAt l) l.length
theorem msgsOk_iff {l : List GNMsg} : msgsOk l = true ↔ (∀ m ∈ l, msgOk m = true) ∧ l.Nodup := by
  unfold msgsOk
  constructor
  · intro h
    have key : ∀ (k : Nat) m, l[k]? = some m → msgOk m = true ∧ m ∉ l.take k := fun k m hk => by
      have := allN_get h (List.getElem?_eq_some_iff.1 hk).1
      unfold msgAt at this
      rw [hk] at this
      simp only [Bool.and_eq_true, Bool.not_eq_true', hasM_no] at this
      exact this
    refine ⟨fun m hm => ?_, ?_⟩
    · obtain ⟨k, hk⟩ := List.getElem?_of_mem hm
      exact (key k m hk).1
    · rw [List.nodup_iff_pairwise_ne, List.pairwise_iff_getElem]
      intro i j hi hj hij e
      refine (key j _ (List.getElem?_eq_getElem hj)).2 ?_
      rw [← e, List.mem_iff_getElem?]
      exact ⟨i, by rw [List.getElem?_take, if_pos hij, List.getElem?_eq_getElem hi]⟩
  · rintro ⟨h1, h2⟩
    refine allTo_end fun i hi => ?_
    have hg : l[i]? = some l[i] := List.getElem?_eq_getElem hi
    unfold msgAt
    rw [hg]
    simp only [Bool.and_eq_true, Bool.not_eq_true', hasM_no]
    refine ⟨h1 _ (List.getElem_mem hi), fun q => ?_⟩
    obtain ⟨j, hj⟩ := List.mem_iff_getElem?.1 q
    rw [List.getElem?_take] at hj
    split at hj
    · rename_i hji
      have hjl : j < l.length := by omega
      rw [List.nodup_iff_pairwise_ne, List.pairwise_iff_getElem] at h2
      rw [List.getElem?_eq_getElem hjl] at hj
      exact h2 j i hjl hi hji (by simpa using hj)
    · cases hj

/-! ### Counting -/
def fromF (p : GNMsg → Bool) (fs : List Int) (m : GNMsg) : List Int := if p m && !hasI fs m.fFrom then fs ++ [m.fFrom] else fs
def froms (p : GNMsg → Bool) (l : List GNMsg) : List Int := l.foldl (fromF p) []
theorem hasI_iff {l : List Int} {x : Int} : hasI l x = true ↔ x ∈ l := by unfold hasI; simp
theorem froms_succ {p : GNMsg → Bool} {l : List GNMsg} {k : Nat} {m : GNMsg} (h : l[k]? = some m) : froms p (l.take (k + 1)) = fromF p (froms p (l.take k)) m := by
  unfold froms
  rw [List.take_add_one, h, Option.toList_some, List.foldl_append]
  rfl
theorem fromF_mem {p : GNMsg → Bool} {fs : List Int} {m : GNMsg} {x : Int} : x ∈ fromF p fs m ↔ x ∈ fs ∨ (p m = true ∧ x = m.fFrom) := by
  unfold fromF
  cases hp : p m
  · simp
  · by_cases h : hasI fs m.fFrom = true
    · rw [h]
      simp only [Bool.not_true, Bool.and_false, Bool.false_eq_true, if_false, true_and]
      exact ⟨.inl, fun q => q.elim id fun e => e ▸ hasI_iff.1 h⟩
    · rw [Bool.not_eq_true] at h
      simp [h]
theorem fromF_nodup {p : GNMsg → Bool} {fs : List Int} {m : GNMsg} (h : fs.Nodup) : (fromF p fs m).Nodup := by
  unfold fromF
  split
  · rename_i q
    simp only [Bool.and_eq_true, Bool.not_eq_true'] at q
    have : m.fFrom ∉ fs := fun hm => by rw [hasI_iff.2 hm] at q; cases q.2
    rw [List.nodup_append]
    exact ⟨h, by simp, fun a ha b hb => by simp only [List.mem_singleton] at hb; subst hb; exact fun e => this (e ▸ ha)⟩
  · exact h
theorem froms_len {p : GNMsg → Bool} {l : List GNMsg} : (froms p l).length ≤ l.length := by
  unfold froms
  have key : ∀ (l : List GNMsg) (fs : List Int), (l.foldl (fromF p) fs).length ≤ fs.length + l.length := by
    intro l
    induction l with
    | nil => intro fs; simp
    | cons m r ih =>
      intro fs
      rw [List.foldl_cons, List.length_cons]
      have h1 := ih (fromF p fs m)
      have h2 : (fromF p fs m).length ≤ fs.length + 1 := by unfold fromF; split <;> simp
      omega
  simpa using key l []
theorem foldl_from_mem {p : GNMsg → Bool} {x : Int} : ∀ (l : List GNMsg) (fs : List Int), x ∈ l.foldl (fromF p) fs ↔ x ∈ fs ∨ ∃ m ∈ l, p m = true ∧ m.fFrom = x
  | [], fs => by simp
  | m :: r, fs => by
    rw [List.foldl_cons, foldl_from_mem r, fromF_mem]
    constructor
    · rintro ((h | ⟨h1, rfl⟩) | ⟨u, h1, h2⟩)
      · exact .inl h
      · exact .inr ⟨m, by simp, h1, rfl⟩
      · exact .inr ⟨u, by simp [h1], h2⟩
    · rintro (h | ⟨u, h1, h2, h3⟩)
      · exact .inl (.inl h)
      · rcases List.mem_cons.1 h1 with rfl | h1
        · exact .inl (.inr ⟨h2, h3.symm⟩)
        · exact .inr ⟨u, h1, h2, h3⟩
theorem froms_mem {p : GNMsg → Bool} {l : List GNMsg} {x : Int} : x ∈ froms p l ↔ ∃ m ∈ l, p m = true ∧ m.fFrom = x := by
  unfold froms
  rw [foldl_from_mem]
  simp
theorem froms_nodup {p : GNMsg → Bool} {l : List GNMsg} : (froms p l).Nodup := by
  unfold froms
  have key : ∀ (l : List GNMsg) (fs : List Int), fs.Nodup → (l.foldl (fromF p) fs).Nodup := by
    intro l
    induction l with
    | nil => exact fun fs h => h
    | cons m r ih => exact fun fs h => ih _ (fromF_nodup h)
  exact key l [] List.nodup_nil
def isV (kind round val : Int) (m : GNMsg) : Bool := decide (m.fKind = kind) && (decide (m.fRound = round) && decide (m.fVal = val))
def isR (round : Int) (m : GNMsg) : Bool := decide (m.fRound = round)
def cntM (l : List GNMsg) (kind round val : Int) : Int := ((froms (isV kind round val) l).length : Nat)

/-! ### Nodes -/
def nodeOk (n : GNode) : Bool := inB n.fMe 1 4 && inB n.fRound (-1) 11 && inB n.fStep 1 3 && (inB n.fLockVal 0 20 && inB n.fValidVal 0 20 && inB n.fDecided 0 20) && (inB n.fLockRound (-1) n.fRound && inB n.fValidRound (-1) n.fRound && inB n.fPolka (-1) n.fRound) && (decide (n.fLockVal = 0) == decide (n.fLockRound = -1)) && (decide (n.fValidVal = 0) == decide (n.fValidRound = -1)) && (msgsOk n.fMsgs && decide ((n.fMsgs.length : Int) ≤ 90))
structure NOk (n : GNode) : Prop where
  me : 1 ≤ n.fMe ∧ n.fMe ≤ 4
  rd : -1 ≤ n.fRound ∧ n.fRound ≤ 11
  st : 1 ≤ n.fStep ∧ n.fStep ≤ 3
  lv : 0 ≤ n.fLockVal ∧ n.fLockVal ≤ 20
  vv : 0 ≤ n.fValidVal ∧ n.fValidVal ≤ 20
  de : 0 ≤ n.fDecided ∧ n.fDecided ≤ 20
  lr : -1 ≤ n.fLockRound ∧ n.fLockRound ≤ n.fRound
  vr : -1 ≤ n.fValidRound ∧ n.fValidRound ≤ n.fRound
  po : -1 ≤ n.fPolka ∧ n.fPolka ≤ n.fRound
  l0 : n.fLockVal = 0 ↔ n.fLockRound = -1
  v0 : n.fValidVal = 0 ↔ n.fValidRound = -1
  ms : ∀ m ∈ n.fMsgs, MOk m
  nd : n.fMsgs.Nodup
  ln : n.fMsgs.length ≤ 90
theorem dec_beq {p q : Prop} [Decidable p] [Decidable q] : (decide p == decide q) = true ↔ (p ↔ q) := by
  by_cases hp : p <;> by_cases hq : q <;> simp [hp, hq]
theorem nodeOk_iff {n : GNode} : nodeOk n = true ↔ NOk n := by
  unfold nodeOk
  simp only [Bool.and_eq_true, inB_iff, msgsOk_iff, decide_eq_true_eq, dec_beq, msgOk_iff]
  constructor
  · rintro ⟨⟨⟨⟨⟨⟨⟨h1, h2⟩, h3⟩, ⟨h4, h5⟩, h6⟩, ⟨h7, h8⟩, h9⟩, h10⟩, h11⟩, ⟨h12, h13⟩, h14⟩
    exact ⟨h1, h2, h3, h4, h5, h6, h7, h8, h9, h10, h11, h12, h13, by omega⟩
  · rintro ⟨h1, h2, h3, h4, h5, h6, h7, h8, h9, h10, h11, h12, h13, h14⟩
    exact ⟨⟨⟨⟨⟨⟨⟨h1, h2⟩, h3⟩, ⟨h4, h5⟩, h6⟩, ⟨h7, h8⟩, h9⟩, h10⟩, h11⟩, ⟨h12, h13⟩, by omega⟩
abbrev Acting := GNode × List GNMsg
def sendMsg (a : Acting) (kind val pol : Int) : GNMsg := ⟨kind, a.1.fRound, val, pol, a.1.fMe⟩
def sendM (a : Acting) (m : GNMsg) : Acting := (if hasM a.1.fMsgs m = false ∧ a.1.fMsgs.length < 90 then { a.1 with fMsgs := a.1.fMsgs ++ [m] } else a.1, a.2 ++ [m])
def send (a : Acting) (kind val pol : Int) : Acting := sendM a (sendMsg a kind val pol)
def beginR (a : Acting) (round : Int) : Acting :=
  if propOf round = a.1.fMe then (if a.1.fValidRound = -1 then send ({ a.1 with fRound := round, fStep := 1 }, a.2) 1 (10 + a.1.fMe) (-1) else send ({ a.1 with fRound := round, fStep := 1 }, a.2) 1 a.1.fValidVal a.1.fValidRound) else ({ a.1 with fRound := round, fStep := 1 }, a.2)
def bestF (l : List GNMsg) (b : Option GNMsg) (m : GNMsg) : Option GNMsg :=
  if m.fKind = 1 ∧ 3 ≤ cntM l 3 m.fRound m.fVal then (match b with | none => some m | some x => if m.fRound < x.fRound ∨ (m.fRound = x.fRound ∧ m.fVal < x.fVal) then some m else some x) else b
def bestTo (l : List GNMsg) (k : Nat) : Option GNMsg := (l.take k).foldl (bestF l) none
def best (l : List GNMsg) : Option GNMsg := l.foldl (bestF l) none
def skipTo (l : List GNMsg) (r : Int) : Nat → Option Int
  | 0 => none
  | k + 1 => if 2 ≤ (froms (isR (r + (k + 1))) l).length then some (r + (k + 1)) else skipTo l r k
def isProp (r : Int) (p : GNMsg → Bool) (m : GNMsg) : Bool := decide (m.fKind = 1) && (decide (m.fRound = r) && p m)
def propose (l : List GNMsg) (r : Int) (p : GNMsg → Bool) : Option GNMsg := l.find? (isProp r p)
def stepTo (a : Acting) (s : Int) : Acting := ({ a.1 with fStep := s }, a.2)
def prevote (a : Acting) (val : Int) (yes : Bool) : Acting := stepTo (send a 2 (if yes then val else 0) (-1)) 2
def precommit (a : Acting) (val : Int) : Acting := stepTo (send a 3 val (-1)) 3
def polkaD (a : Acting) (val : Int) : Acting := ({ a.1 with fValidVal := val, fValidRound := a.1.fRound, fPolka := a.1.fRound }, a.2)
def lockD (a : Acting) (val : Int) : Acting := ({ a.1 with fLockVal := val, fLockRound := a.1.fRound }, a.2)
def rule (a : Acting) : Option Acting :=
  if 0 < a.1.fDecided ∨ a.1.fRound = -1 then none
  else match best a.1.fMsgs with
    | some m => some ({ a.1 with fDecided := m.fVal }, a.2)
    | none => match skipTo a.1.fMsgs a.1.fRound (11 - a.1.fRound).toNat with
      | some r => some (beginR a r)
      | none =>
        if a.1.fStep = 1 then
          match propose a.1.fMsgs a.1.fRound (fun m => decide (m.fPol = -1)) with
          | some m => some (prevote a m.fVal (decide (a.1.fLockRound = -1) || decide (a.1.fLockVal = m.fVal)))
          | none => match propose a.1.fMsgs a.1.fRound (fun m => decide (0 ≤ m.fPol) && decide (3 ≤ cntM a.1.fMsgs 2 m.fPol m.fVal)) with
            | some m => some (prevote a m.fVal (decide (a.1.fLockRound ≤ m.fPol) || decide (a.1.fLockVal = m.fVal)))
            | none => none
        else match (if a.1.fPolka = a.1.fRound then none else propose a.1.fMsgs a.1.fRound (fun m => decide (3 ≤ cntM a.1.fMsgs 2 a.1.fRound m.fVal))) with
          | some m => some (polkaD (if a.1.fStep = 2 then precommit (lockD a m.fVal) m.fVal else a) m.fVal)
          | none => if a.1.fStep = 2 ∧ 3 ≤ cntM a.1.fMsgs 2 a.1.fRound 0 then some (precommit a 0) else none
def mu (n : GNode) : Nat := if 0 < n.fDecided then 0 else 1 + ((11 - n.fRound).toNat * 8 + ((3 - n.fStep).toNat * 2 + if n.fPolka = n.fRound then 0 else 1))
def restN : Nat → Acting → Acting
  | 0, a => a
  | k + 1, a => match rule a with | some b => restN k b | none => a
def rest (a : Acting) : Acting := restN 200 a
/-- What a rule leaves of what was. -/
structure Grow (a b : Acting) : Prop where
  ok : NOk b.1
  me : b.1.fMe = a.1.fMe
  rd : a.1.fRound ≤ b.1.fRound
  lr : a.1.fLockRound ≤ b.1.fLockRound
  de : 0 < a.1.fDecided → b.1.fDecided = a.1.fDecided
  sn : ∃ l, b.2 = a.2 ++ l ∧ ∀ m ∈ l, MOk m ∧ m.fFrom = a.1.fMe
  mg : ∃ l, b.1.fMsgs = a.1.fMsgs ++ l ∧ ∀ m ∈ l, m.fFrom = a.1.fMe → m ∈ b.2
theorem Grow.refl {a : Acting} (h : NOk a.1) : Grow a a := ⟨h, rfl, by omega, by omega, fun _ => rfl, ⟨[], by simp, by simp⟩, ⟨[], by simp, by simp⟩⟩
theorem Grow.trans {a b c : Acting} (h : Grow a b) (g : Grow b c) : Grow a c := by
  obtain ⟨h1, h2, h3, h4, h5, ⟨l, h6, h7⟩, ⟨u, h8, h9⟩⟩ := h
  obtain ⟨g1, g2, g3, g4, g5, ⟨l', g6, g7⟩, ⟨u', g8, g9⟩⟩ := g
  refine ⟨g1, g2.trans h2, by omega, by omega, fun q => (g5 (by rw [h5 q]; exact q)).trans (h5 q), ⟨l ++ l', by rw [g6, h6, List.append_assoc], fun m hm => ?_⟩, ⟨u ++ u', by rw [g8, h8, List.append_assoc], fun m hm hf => ?_⟩⟩
  · rcases List.mem_append.1 hm with q | q
    · exact h7 m q
    · rw [← h2]; exact g7 m q
  · rcases List.mem_append.1 hm with q | q
    · rw [g6]; exact List.mem_append_left _ (h9 m q hf)
    · exact g9 m q (hf.trans h2.symm)
theorem sendM_grow {a : Acting} {m : GNMsg} (h : NOk a.1) (hm : MOk m) (hf : m.fFrom = a.1.fMe) : Grow a (sendM a m) := by
  have hs : ∃ l, (sendM a m).2 = a.2 ++ l ∧ ∀ m ∈ l, MOk m ∧ m.fFrom = a.1.fMe := ⟨[m], rfl, fun x hx => by rw [List.mem_singleton] at hx; subst hx; exact ⟨hm, hf⟩⟩
  by_cases hc : hasM a.1.fMsgs m = false ∧ a.1.fMsgs.length < 90
  · have e : (sendM a m).1 = { a.1 with fMsgs := a.1.fMsgs ++ [m] } := if_pos hc
    obtain ⟨h1, h2, h3, h4, h5, h6, h7, h8, h9, h10, h11, h12, h13, h14⟩ := h
    refine ⟨?_, by rw [e], by rw [e]; exact Int.le_refl _, by rw [e]; exact Int.le_refl _, fun _ => by rw [e], hs, ⟨[m], by rw [e], fun x hx _ => ?_⟩⟩
    · rw [e]
      refine ⟨h1, h2, h3, h4, h5, h6, h7, h8, h9, h10, h11, fun x hx => ?_, ?_, ?_⟩
      · rcases List.mem_append.1 hx with q | q
        · exact h12 x q
        · rw [List.mem_singleton] at q; subst q; exact hm
      · show (a.1.fMsgs ++ [m]).Nodup
        rw [List.nodup_append]
        exact ⟨h13, by simp, fun x hx y hy => by rw [List.mem_singleton] at hy; subst hy; exact fun q => hasM_no.1 hc.1 (q ▸ hx)⟩
      · show (a.1.fMsgs ++ [m]).length ≤ 90
        rw [List.length_append, List.length_singleton]
        omega
    · rw [List.mem_singleton] at hx
      subst hx
      show x ∈ a.2 ++ [x]
      simp
  · have e : (sendM a m).1 = a.1 := if_neg hc
    exact ⟨by rw [e]; exact h, by rw [e], by rw [e]; omega, by rw [e]; omega, fun _ => by rw [e], hs, ⟨[], by rw [e]; simp, by simp⟩⟩
theorem sendM_fields {a : Acting} {m : GNMsg} : (sendM a m).1.fMe = a.1.fMe ∧ (sendM a m).1.fRound = a.1.fRound ∧ (sendM a m).1.fStep = a.1.fStep ∧ (sendM a m).1.fPolka = a.1.fPolka ∧ (sendM a m).1.fDecided = a.1.fDecided := by
  by_cases hc : hasM a.1.fMsgs m = false ∧ a.1.fMsgs.length < 90
  · have e : (sendM a m).1 = { a.1 with fMsgs := a.1.fMsgs ++ [m] } := if_pos hc
    rw [e]; exact ⟨rfl, rfl, rfl, rfl, rfl⟩
  · have e : (sendM a m).1 = a.1 := if_neg hc
    rw [e]; exact ⟨rfl, rfl, rfl, rfl, rfl⟩
theorem stepTo_grow {a : Acting} {s : Int} (h : NOk a.1) (hs : 1 ≤ s ∧ s ≤ 3) : Grow a (stepTo a s) := by
  obtain ⟨h1, h2, h3, h4, h5, h6, h7, h8, h9, h10, h11, h12, h13, h14⟩ := h
  exact ⟨⟨h1, h2, hs, h4, h5, h6, h7, h8, h9, h10, h11, h12, h13, h14⟩, rfl, Int.le_refl _, Int.le_refl _, fun _ => rfl, ⟨[], by simp [stepTo], by simp⟩, ⟨[], by simp [stepTo], by simp⟩⟩
theorem vote_ok {a : Acting} (h : NOk a.1) (hr : a.1.fRound ≠ -1) {k v : Int} (hk : k = 2 ∨ k = 3) (hv : 0 ≤ v ∧ v ≤ 20) : MOk (sendMsg a k v (-1)) := by
  have := h.rd
  have := h.me
  exact ⟨by show 0 ≤ a.1.fRound ∧ a.1.fRound ≤ 11; omega, by show 1 ≤ a.1.fMe ∧ a.1.fMe ≤ 4; omega, .inr hk, fun q => by have q' : k = 1 := q; omega, fun _ => ⟨hv, rfl⟩⟩
theorem prevote_grow {a : Acting} (h : NOk a.1) (hr : a.1.fRound ≠ -1) {v : Int} {yes : Bool} (hv : 0 ≤ v ∧ v ≤ 20) : Grow a (prevote a v yes) := by
  have g := sendM_grow (m := sendMsg a 2 (if yes then v else 0) (-1)) h (vote_ok h hr (.inl rfl) (by split <;> omega)) rfl
  exact g.trans (stepTo_grow g.ok (by omega))
theorem precommit_grow {a : Acting} (h : NOk a.1) (hr : a.1.fRound ≠ -1) {v : Int} (hv : 0 ≤ v ∧ v ≤ 20) : Grow a (precommit a v) := by
  have g := sendM_grow (m := sendMsg a 3 v (-1)) h (vote_ok h hr (.inr rfl) hv) rfl
  exact g.trans (stepTo_grow g.ok (by omega))
theorem lockD_grow {a : Acting} (h : NOk a.1) (hr : a.1.fRound ≠ -1) {v : Int} (hv : 1 ≤ v ∧ v ≤ 20) : Grow a (lockD a v) := by
  obtain ⟨h1, h2, h3, h4, h5, h6, h7, h8, h9, h10, h11, h12, h13, h14⟩ := h
  refine ⟨⟨h1, h2, h3, ?_, h5, h6, ?_, h8, h9, ?_, h11, h12, h13, h14⟩, rfl, Int.le_refl _, ?_, fun _ => rfl, ⟨[], by simp [lockD], by simp⟩, ⟨[], by simp [lockD], by simp⟩⟩
  · show 0 ≤ v ∧ v ≤ 20; omega
  · show -1 ≤ a.1.fRound ∧ a.1.fRound ≤ a.1.fRound; omega
  · show v = 0 ↔ a.1.fRound = -1; omega
  · show a.1.fLockRound ≤ a.1.fRound; omega
theorem polkaD_grow {a : Acting} (h : NOk a.1) (hr : a.1.fRound ≠ -1) {v : Int} (hv : 1 ≤ v ∧ v ≤ 20) : Grow a (polkaD a v) := by
  obtain ⟨h1, h2, h3, h4, h5, h6, h7, h8, h9, h10, h11, h12, h13, h14⟩ := h
  refine ⟨⟨h1, h2, h3, h4, ?_, h6, h7, ?_, ?_, h10, ?_, h12, h13, h14⟩, rfl, Int.le_refl _, Int.le_refl _, fun _ => rfl, ⟨[], by simp [polkaD], by simp⟩, ⟨[], by simp [polkaD], by simp⟩⟩
  · show 0 ≤ v ∧ v ≤ 20; omega
  · show -1 ≤ a.1.fRound ∧ a.1.fRound ≤ a.1.fRound; omega
  · show -1 ≤ a.1.fRound ∧ a.1.fRound ≤ a.1.fRound; omega
  · show v = 0 ↔ a.1.fRound = -1; omega
theorem roundD_grow {a : Acting} (h : NOk a.1) {q : Int} (hq : a.1.fRound < q ∧ q ≤ 11) : Grow a ({ a.1 with fRound := q, fStep := 1 }, a.2) := by
  obtain ⟨h1, h2, h3, h4, h5, h6, h7, h8, h9, h10, h11, h12, h13, h14⟩ := h
  refine ⟨⟨h1, ?_, ?_, h4, h5, h6, ?_, ?_, ?_, h10, h11, h12, h13, h14⟩, rfl, ?_, Int.le_refl _, fun _ => rfl, ⟨[], by simp, by simp⟩, ⟨[], by simp, by simp⟩⟩
  · show -1 ≤ q ∧ q ≤ 11; omega
  · show (1 : Int) ≤ 1 ∧ (1 : Int) ≤ 3; omega
  · show -1 ≤ a.1.fLockRound ∧ a.1.fLockRound ≤ q; omega
  · show -1 ≤ a.1.fValidRound ∧ a.1.fValidRound ≤ q; omega
  · show -1 ≤ a.1.fPolka ∧ a.1.fPolka ≤ q; omega
  · show a.1.fRound ≤ q; omega
theorem beginR_grow {a : Acting} (h : NOk a.1) {q : Int} (hq : a.1.fRound < q ∧ q ≤ 11) : Grow a (beginR a q) := by
  have g := roundD_grow h hq
  have hme := h.me
  have hrd := h.rd
  unfold beginR
  split
  · rename_i hp
    split
    · refine g.trans (sendM_grow g.ok ⟨?_, ?_, .inl rfl, fun _ => ⟨hp.symm, ?_, ?_⟩, fun q => absurd rfl q⟩ rfl)
      · show 0 ≤ q ∧ q ≤ 11; omega
      · exact hme
      · show 1 ≤ 10 + a.1.fMe ∧ 10 + a.1.fMe ≤ 20; omega
      · show (-1 : Int) ≤ -1 ∧ -1 ≤ q - 1; omega
    · rename_i hv
      have := h.vv
      have := h.v0
      have := h.vr
      refine g.trans (sendM_grow g.ok ⟨?_, ?_, .inl rfl, fun _ => ⟨hp.symm, ?_, ?_⟩, fun q => absurd rfl q⟩ rfl)
      · show 0 ≤ q ∧ q ≤ 11; omega
      · exact hme
      · show 1 ≤ a.1.fValidVal ∧ a.1.fValidVal ≤ 20; omega
      · show -1 ≤ a.1.fValidRound ∧ a.1.fValidRound ≤ q - 1; omega
  · exact g
theorem beginR_fields {a : Acting} {q : Int} : (beginR a q).1.fRound = q ∧ (beginR a q).1.fStep = 1 ∧ (beginR a q).1.fPolka = a.1.fPolka ∧ (beginR a q).1.fDecided = a.1.fDecided := by
  unfold beginR
  split
  · split
    · have := sendM_fields (a := ({ a.1 with fRound := q, fStep := 1 }, a.2)) (m := sendMsg ({ a.1 with fRound := q, fStep := 1 }, a.2) 1 (10 + a.1.fMe) (-1))
      exact this.2
    · have := sendM_fields (a := ({ a.1 with fRound := q, fStep := 1 }, a.2)) (m := sendMsg ({ a.1 with fRound := q, fStep := 1 }, a.2) 1 a.1.fValidVal a.1.fValidRound)
      exact this.2
  · exact ⟨rfl, rfl, rfl, rfl⟩
theorem best_some {l : List GNMsg} {m : GNMsg} (h : best l = some m) : m ∈ l ∧ m.fKind = 1 ∧ 3 ≤ cntM l 3 m.fRound m.fVal := by
  have key : ∀ (u : List GNMsg) (b : Option GNMsg), (∀ x, b = some x → x ∈ l ∧ x.fKind = 1 ∧ 3 ≤ cntM l 3 x.fRound x.fVal) → (∀ x ∈ u, x ∈ l) → ∀ x, u.foldl (bestF l) b = some x → x ∈ l ∧ x.fKind = 1 ∧ 3 ≤ cntM l 3 x.fRound x.fVal := by
    intro u
    induction u with
    | nil => exact fun b hb _ x hx => hb x hx
    | cons y r ih =>
      intro b hb hu x hx
      refine ih (bestF l b y) (fun z hz => ?_) (fun z hz => hu z (by simp [hz])) x hx
      unfold bestF at hz
      split at hz
      · rename_i hy
        have hyl := hu y (by simp)
        split at hz
        · cases hz; exact ⟨hyl, hy⟩
        · split at hz
          · cases hz; exact ⟨hyl, hy⟩
          · exact hb z hz
      · exact hb z hz
  exact key l none (fun _ q => by cases q) (fun _ q => q) m h
theorem skipTo_some {l : List GNMsg} {r q : Int} : ∀ {k : Nat}, skipTo l r k = some q → (r < q ∧ q ≤ r + k) ∧ 2 ≤ (froms (isR q) l).length
  | 0, h => by cases h
  | k + 1, h => by
    unfold skipTo at h
    split at h
    · cases h; exact ⟨by omega, by assumption⟩
    · have := skipTo_some h
      exact ⟨by omega, this.2⟩
theorem propose_some {l : List GNMsg} {r : Int} {p : GNMsg → Bool} {m : GNMsg} (h : propose l r p = some m) : m ∈ l ∧ m.fKind = 1 ∧ m.fRound = r ∧ p m = true := by
  unfold propose at h
  have h1 := List.mem_of_find?_eq_some h
  have h2 := List.find?_some h
  simp only [isProp, Bool.and_eq_true, decide_eq_true_eq] at h2
  exact ⟨h1, h2.1, h2.2.1, h2.2.2⟩
theorem mu_le {a b : Acting} (ha : ¬ 0 < a.1.fDecided) (h : 0 < b.1.fDecided ∨ (11 - b.1.fRound).toNat * 8 + ((3 - b.1.fStep).toNat * 2 + if b.1.fPolka = b.1.fRound then 0 else 1) < (11 - a.1.fRound).toNat * 8 + ((3 - a.1.fStep).toNat * 2 + if a.1.fPolka = a.1.fRound then 0 else 1)) : mu b.1 < mu a.1 := by
  unfold mu
  rw [if_neg ha]
  split
  · omega
  · rcases h with h | h
    · omega
    · omega
theorem stepTo_send {a : Acting} {m : GNMsg} {s : Int} : (stepTo (sendM a m) s).1.fRound = a.1.fRound ∧ (stepTo (sendM a m) s).1.fStep = s ∧ (stepTo (sendM a m) s).1.fPolka = a.1.fPolka := ⟨sendM_fields.2.1, rfl, sendM_fields.2.2.2.1⟩
theorem rule_grow {a b : Acting} (h : NOk a.1) (e : rule a = some b) : Grow a b ∧ mu b.1 < mu a.1 := by
  have hst := h.st
  have hrd := h.rd
  unfold rule at e
  split at e
  · cases e
  rename_i hc
  have hr : a.1.fRound ≠ -1 := fun q => hc (.inr q)
  have hd : ¬ 0 < a.1.fDecided := fun q => hc (.inl q)
  split at e
  · rename_i m hb
    obtain ⟨b1, b2, b3⟩ := best_some hb
    have hv := ((h.ms m b1).p1 b2).2.1
    cases e
    refine ⟨?_, mu_le hd (.inl (by show 0 < m.fVal; omega))⟩
    obtain ⟨h1, h2, h3, h4, h5, h6, h7, h8, h9, h10, h11, h12, h13, h14⟩ := h
    refine ⟨⟨h1, h2, h3, h4, h5, ?_, h7, h8, h9, h10, h11, h12, h13, h14⟩, rfl, Int.le_refl _, Int.le_refl _, fun q => absurd q hd, ⟨[], by simp, by simp⟩, ⟨[], by simp, by simp⟩⟩
    show 0 ≤ m.fVal ∧ m.fVal ≤ 20
    omega
  split at e
  · rename_i q hq
    obtain ⟨q1, q2⟩ := skipTo_some hq
    cases e
    have hq' : a.1.fRound < q ∧ q ≤ 11 := by omega
    refine ⟨beginR_grow h hq', mu_le hd (.inr ?_)⟩
    obtain ⟨f1, f2, f3, f4⟩ := beginR_fields (a := a) (q := q)
    rw [f1, f2, f3]
    split <;> split <;> omega
  split at e
  · rename_i hs
    have hpre : ∀ (m : GNMsg) (y : Bool), m ∈ a.1.fMsgs → m.fKind = 1 → Grow a (prevote a m.fVal y) ∧ mu (prevote a m.fVal y).1 < mu a.1 := fun m y hm hk => by
      have hv := ((h.ms m hm).p1 hk).2.1
      refine ⟨prevote_grow h hr (by omega), mu_le hd (.inr ?_)⟩
      obtain ⟨f1, f2, f3⟩ := stepTo_send (a := a) (m := sendMsg a 2 (if y then m.fVal else 0) (-1)) (s := 2)
      unfold prevote send
      rw [f1, f2, f3]
      split <;> omega
    split at e
    · rename_i m hm
      obtain ⟨m1, m2, -⟩ := propose_some hm
      cases e
      exact hpre m _ m1 m2
    · split at e
      · rename_i m hm
        obtain ⟨m1, m2, -⟩ := propose_some hm
        cases e
        exact hpre m _ m1 m2
      · cases e
  · rename_i hs
    split at e
    · rename_i m hm
      have hpl : a.1.fPolka ≠ a.1.fRound := fun q => by rw [if_pos q] at hm; cases hm
      rw [if_neg hpl] at hm
      obtain ⟨m1, m2, -⟩ := propose_some hm
      have hv := ((h.ms m m1).p1 m2).2.1
      cases e
      by_cases h2 : a.1.fStep = 2
      · rw [if_pos h2]
        have g1 := lockD_grow h hr (v := m.fVal) hv
        have g2 := precommit_grow g1.ok (by exact hr) (v := m.fVal) (by omega)
        have f := stepTo_send (a := lockD a m.fVal) (m := sendMsg (lockD a m.fVal) 3 m.fVal (-1)) (s := 3)
        have fr : (precommit (lockD a m.fVal) m.fVal).1.fRound = a.1.fRound := f.1
        have fs : (precommit (lockD a m.fVal) m.fVal).1.fStep = 3 := f.2.1
        refine ⟨(g1.trans g2).trans (polkaD_grow g2.ok (by rw [fr]; exact hr) hv), mu_le hd (.inr ?_)⟩
        have e1 : (polkaD (precommit (lockD a m.fVal) m.fVal) m.fVal).1.fRound = a.1.fRound := fr
        have e2 : (polkaD (precommit (lockD a m.fVal) m.fVal) m.fVal).1.fStep = 3 := fs
        have e3 : (polkaD (precommit (lockD a m.fVal) m.fVal) m.fVal).1.fPolka = a.1.fRound := fr
        rw [e1, e2, e3, if_pos rfl]
        split <;> omega
      · rw [if_neg h2]
        refine ⟨polkaD_grow h hr hv, mu_le hd (.inr ?_)⟩
        have e1 : (polkaD a m.fVal).1.fRound = a.1.fRound := rfl
        have e2 : (polkaD a m.fVal).1.fStep = a.1.fStep := rfl
        have e3 : (polkaD a m.fVal).1.fPolka = a.1.fRound := rfl
        rw [e1, e2, e3, if_pos rfl, if_neg hpl]
        omega
    · split at e
      · rename_i h2
        cases e
        refine ⟨precommit_grow h hr (by omega), mu_le hd (.inr ?_)⟩
        obtain ⟨f1, f2, f3⟩ := stepTo_send (a := a) (m := sendMsg a 3 0 (-1)) (s := 3)
        unfold precommit send
        rw [f1, f2, f3]
        split <;> omega
      · cases e
theorem mu_lt {n : GNode} (h : NOk n) : mu n < 200 := by
  have := h.rd
  have := h.st
  unfold mu
  split
  · omega
  · split <;> omega
theorem restN_spec : ∀ (k : Nat) (a : Acting), NOk a.1 → mu a.1 < k → Grow a (restN k a) ∧ rule (restN k a) = none
  | 0, _, _, h => by omega
  | k + 1, a, h, hk => by
    unfold restN
    split
    · rename_i b e
      obtain ⟨g, m⟩ := rule_grow h e
      have := restN_spec k b g.ok (by omega)
      exact ⟨g.trans this.1, this.2⟩
    · rename_i e
      exact ⟨Grow.refl h, e⟩
theorem rest_spec {a : Acting} (h : NOk a.1) : Grow a (rest a) ∧ rule (rest a) = none := restN_spec 200 a h (mu_lt h)
theorem restN_succ {k : Nat} {a b : Acting} (e : rule a = some b) : restN (k + 1) a = restN k b := by rw [restN, e]
theorem restN_done {k : Nat} {a : Acting} (e : rule a = none) : restN k a = a := by
  cases k with
  | zero => rfl
  | succ k => rw [restN, e]
/-! ### Nets -/
def nodeNew (me : Int) : GNode := ⟨me, -1, 1, 0, -1, 0, -1, -1, 0, []⟩
def node0 : GNode := ⟨0, 0, 0, 0, 0, 0, 0, 0, 0, []⟩
def nodeStart (n : GNode) : Acting × Bool := if nodeOk n = false then ((node0, []), false) else if n.fRound ≠ -1 then ((n, []), false) else (rest (beginR (n, []) 0), true)
def withMsg (n : GNode) (m : GNMsg) : GNode := { n with fMsgs := n.fMsgs ++ [m] }
def nodeGet (n : GNode) (m : GNMsg) : Acting × Bool := if nodeOk n = false then ((node0, []), false) else if msgOk m = false ∨ hasM n.fMsgs m = true ∨ n.fMsgs.length = 90 then ((n, []), false) else (rest (withMsg n m, []), true)
def timeD (n : GNode) (step : Int) : Acting := if step = 1 then prevote (n, []) 0 true else if step = 2 then precommit (n, []) 0 else beginR (n, []) (n.fRound + 1)
def nodeTime (n : GNode) (step : Int) : Acting × Bool := if nodeOk n = false then ((node0, []), false) else if n.fStep ≠ step ∨ n.fRound = -1 ∨ 0 < n.fDecided ∨ (step = 3 ∧ n.fRound = 11) then ((n, []), false) else (rest (timeD n step), true)
def poolF (l : List GNMsg) (m : GNMsg) : List GNMsg := if hasM l m then l else l ++ [m]
def poolTo (l more : List GNMsg) : List GNMsg := more.foldl poolF l
def actOf (x : GNet) (a : GNetAct) (n : GNode) : Acting × Bool :=
  if a.fKind = 1 then nodeStart n else if a.fKind = 2 then (match x.fPool[a.fB.toNat]? with | some m => nodeGet n m | none => ((n, []), false)) else if a.fKind = 3 then nodeTime n a.fB else ((n, []), false)
def netPut (x : GNet) (k : Nat) (r : Acting) : GNet := ⟨x.fNodes.set k r.1, poolTo x.fPool r.2⟩
def netDo (x : GNet) (a : GNetAct) : GNet × Bool :=
  if a.fKind = 4 then (if msgOk a.fMsg = false ∨ a.fMsg.fFrom ≠ 4 ∨ hasM x.fPool a.fMsg = true ∨ 150 ≤ x.fPool.length then (x, false) else (⟨x.fNodes, x.fPool ++ [a.fMsg]⟩, true))
  else if inB a.fA 1 3 = false ∨ (a.fKind = 2 ∧ inB a.fB 0 (x.fPool.length - 1) = false) then (x, false)
  else match x.fNodes[(a.fA - 1).toNat]? with
    | none => (x, false)
    | some n => if (actOf x a n).2 = false then (x, false) else if 150 < (poolTo x.fPool (actOf x a n).1.2).length then (x, false) else (netPut x (a.fA - 1).toNat (actOf x a n).1, true)
def netNew : GNet := ⟨[nodeNew 1, nodeNew 2, nodeNew 3], []⟩
def playF (s : GNet × Int) (a : GNetAct) : GNet × Int := ((netDo s.1 a).1, if (netDo s.1 a).2 then s.2 + 1 else s.2)
def netPlay (l : List GNetAct) : GNet × Int := l.foldl playF (netNew, 0)

/-! ### An execution goes on where it was -/
structure NLe (n n' : GNode) : Prop where
  rd : n.fRound ≤ n'.fRound
  lr : n.fLockRound ≤ n'.fLockRound
  de : 0 < n.fDecided → n'.fDecided = n.fDecided
theorem NLe.refl (n : GNode) : NLe n n := ⟨by omega, by omega, fun _ => rfl⟩
theorem NLe.trans {a b c : GNode} (h : NLe a b) (g : NLe b c) : NLe a c := ⟨by have := h.rd; have := g.rd; omega, by have := h.lr; have := g.lr; omega, fun q => (g.de (by rw [h.de q]; exact q)).trans (h.de q)⟩
theorem Grow.nle {a b : Acting} (g : Grow a b) : NLe a.1 b.1 := ⟨g.rd, g.lr, g.de⟩
theorem withMsg_ok {n : GNode} {m : GNMsg} (h : NOk n) (hm : MOk m) (hn : m ∉ n.fMsgs) (hl : n.fMsgs.length ≠ 90) : NOk (withMsg n m) := by
  obtain ⟨h1, h2, h3, h4, h5, h6, h7, h8, h9, h10, h11, h12, h13, h14⟩ := h
  refine ⟨h1, h2, h3, h4, h5, h6, h7, h8, h9, h10, h11, fun x hx => ?_, ?_, ?_⟩
  · rcases List.mem_append.1 hx with q | q
    · exact h12 x q
    · rw [List.mem_singleton] at q; subst q; exact hm
  · show (n.fMsgs ++ [m]).Nodup
    rw [List.nodup_append]
    exact ⟨h13, by simp, fun x hx y hy => by rw [List.mem_singleton] at hy; subst hy; exact fun q => hn (q ▸ hx)⟩
  · show (n.fMsgs ++ [m]).length ≤ 90
    rw [List.length_append, List.length_singleton]
    omega
theorem beginR0_grow {n : GNode} (h : NOk n) (hr : n.fRound = -1) : Grow (n, []) (beginR (n, []) 0) := beginR_grow (a := (n, [])) h ⟨by show n.fRound < 0; omega, by omega⟩
theorem nodeStart_go {n : GNode} (h : (nodeStart n).2 = true) : NOk n ∧ n.fRound = -1 ∧ (nodeStart n).1 = rest (beginR (n, []) 0) := by
  unfold nodeStart at h ⊢
  cases ho : nodeOk n with
  | false => simp [ho] at h
  | true =>
    simp only [ho, Bool.true_eq_false, if_false] at h ⊢
    by_cases hr : n.fRound = -1
    · simp only [hr, ne_eq, not_true_eq_false, if_false]
      exact ⟨nodeOk_iff.1 ho, trivial, trivial⟩
    · simp [hr] at h
theorem nodeGet_go {n : GNode} {m : GNMsg} (h : (nodeGet n m).2 = true) : NOk (withMsg n m) ∧ (nodeGet n m).1 = rest (withMsg n m, []) := by
  unfold nodeGet at h ⊢
  cases ho : nodeOk n with
  | false => simp [ho] at h
  | true =>
    simp only [ho, Bool.true_eq_false, if_false] at h ⊢
    by_cases hc : msgOk m = false ∨ hasM n.fMsgs m = true ∨ n.fMsgs.length = 90
    · simp [if_pos hc] at h
    · simp only [if_neg hc]
      refine ⟨withMsg_ok (nodeOk_iff.1 ho) (msgOk_iff.1 ?_) (fun q => hc (.inr (.inl (hasM_iff.2 q)))) (fun q => hc (.inr (.inr q))), trivial⟩
      cases hm : msgOk m with
      | true => rfl
      | false => exact absurd (.inl hm) hc
theorem timeD_grow {n : GNode} {step : Int} (h : NOk n) (hs : n.fStep = step) (hr : n.fRound ≠ -1) (h3 : ¬ (step = 3 ∧ n.fRound = 11)) : Grow (n, []) (timeD n step) := by
  have := h.st
  have := h.rd
  unfold timeD
  split
  · exact prevote_grow (a := (n, [])) h hr (by omega)
  · split
    · exact precommit_grow (a := (n, [])) h hr (by omega)
    · exact beginR_grow (a := (n, [])) h ⟨by show n.fRound < _; omega, by omega⟩
theorem nodeTime_go {n : GNode} {step : Int} (h : (nodeTime n step).2 = true) : NOk n ∧ Grow (n, []) (timeD n step) ∧ (nodeTime n step).1 = rest (timeD n step) := by
  unfold nodeTime at h ⊢
  cases ho : nodeOk n with
  | false => simp [ho] at h
  | true =>
    simp only [ho, Bool.true_eq_false, if_false] at h ⊢
    by_cases hc : n.fStep ≠ step ∨ n.fRound = -1 ∨ 0 < n.fDecided ∨ (step = 3 ∧ n.fRound = 11)
    · simp [if_pos hc] at h
    · simp only [if_neg hc]
      have ok := nodeOk_iff.1 ho
      exact ⟨ok, timeD_grow ok (Classical.byContradiction fun q => hc (.inl q)) (fun q => hc (.inr (.inl q))) (fun q => hc (.inr (.inr (.inr q)))), trivial⟩
theorem actOf_nle {x : GNet} {a : GNetAct} {n : GNode} (h : (actOf x a n).2 = true) : NLe n (actOf x a n).1.1 := by
  unfold actOf at h ⊢
  split at h
  · rename_i e
    rw [if_pos e]
    obtain ⟨h1, h2, h3⟩ := nodeStart_go h
    rw [h3]
    have g := beginR0_grow h1 h2
    exact (g.trans (rest_spec g.ok).1).nle
  · rename_i e
    rw [if_neg e]
    split at h
    · rename_i e2
      rw [if_pos e2]
      split at h
      · rename_i m hm
        obtain ⟨h1, h2⟩ := nodeGet_go h
        rw [h2]
        have g := (rest_spec (a := (withMsg n m, [])) h1).1.nle
        exact ⟨g.rd, g.lr, g.de⟩
      · cases h
    · rename_i e2
      rw [if_neg e2]
      split at h
      · rename_i e3
        rw [if_pos e3]
        obtain ⟨h1, h2, h3⟩ := nodeTime_go h
        rw [h3]
        exact (h2.trans (rest_spec h2.ok).1).nle
      · cases h
structure NetLe (x y : GNet) : Prop where
  n : ∀ (i : Nat) u, x.fNodes[i]? = some u → ∃ v, y.fNodes[i]? = some v ∧ NLe u v
  p : ∃ l, y.fPool = x.fPool ++ l
theorem NetLe.refl (x : GNet) : NetLe x x := ⟨fun _ u h => ⟨u, h, .refl u⟩, [], by simp⟩
theorem NetLe.trans {x y z : GNet} (h : NetLe x y) (g : NetLe y z) : NetLe x z := by
  obtain ⟨l, hl⟩ := h.p
  obtain ⟨u, hu⟩ := g.p
  refine ⟨fun i a ha => ?_, l ++ u, by rw [hu, hl, List.append_assoc]⟩
  obtain ⟨b, hb, h1⟩ := h.n i a ha
  obtain ⟨c, hc, h2⟩ := g.n i b hb
  exact ⟨c, hc, h1.trans h2⟩
theorem poolTo_pre : ∀ (more l : List GNMsg), ∃ u, poolTo l more = l ++ u
  | [], l => ⟨[], by simp [poolTo]⟩
  | m :: r, l => by
    obtain ⟨u, hu⟩ := poolTo_pre r (poolF l m)
    have e : poolTo l (m :: r) = poolTo (poolF l m) r := rfl
    rw [e, hu]
    unfold poolF
    split
    · exact ⟨u, rfl⟩
    · exact ⟨m :: u, by simp⟩
theorem netDo_le (x : GNet) (a : GNetAct) : NetLe x (netDo x a).1 := by
  unfold netDo
  split
  · split
    · exact .refl x
    · exact ⟨fun _ u h => ⟨u, h, .refl u⟩, [a.fMsg], rfl⟩
  · split
    · exact .refl x
    · split
      · exact .refl x
      · rename_i n hn
        split
        · exact .refl x
        · rename_i ha
          split
          · exact .refl x
          · refine ⟨fun i u hu => ?_, poolTo_pre _ _⟩
            by_cases hi : i = (a.fA - 1).toNat
            · subst hi
              rw [hn] at hu
              cases hu
              have hlt := (List.getElem?_eq_some_iff.1 hn).1
              exact ⟨(actOf x a n).1.1, List.getElem?_set_self hlt, actOf_nle (by simpa using ha)⟩
            · refine ⟨u, ?_, .refl u⟩
              simp only [netPut]
              rw [List.getElem?_set_ne (Ne.symm hi)]
              exact hu
theorem netDo_len (x : GNet) (a : GNetAct) : (netDo x a).1.fNodes.length = x.fNodes.length := by
  unfold netDo
  split
  · split <;> rfl
  · split
    · rfl
    · split
      · rfl
      · split
        · rfl
        · split
          · rfl
          · simp [netPut]
theorem playF_le : ∀ (l : List GNetAct) (s : GNet × Int), NetLe s.1 (l.foldl playF s).1 ∧ (l.foldl playF s).1.fNodes.length = s.1.fNodes.length ∧ (l.foldl playF s).2 ≤ s.2 + l.length
  | [], s => ⟨.refl _, rfl, by simp⟩
  | a :: r, s => by
    obtain ⟨h1, h2, h3⟩ := playF_le r (playF s a)
    rw [List.foldl_cons]
    refine ⟨(netDo_le s.1 a).trans h1, h2.trans (netDo_len s.1 a), ?_⟩
    have : (playF s a).2 ≤ s.2 + 1 := by unfold playF; dsimp only; split <;> omega
    rw [List.length_cons]
    push_cast
    omega
theorem netPlay_len (l : List GNetAct) : (netPlay l).1.fNodes.length = 3 := (playF_le l (netNew, 0)).2.1
theorem netPlay_cnt (l : List GNetAct) : (netPlay l).2 ≤ l.length := by have := (playF_le l (netNew, 0)).2.2; simp only [Int.zero_add] at this; exact this
theorem netPlay_le (l : List GNetAct) (k : Nat) : NetLe (netPlay (l.take k)).1 (netPlay l).1 := by
  have e : netPlay l = (l.drop k).foldl playF (netPlay (l.take k)) := by
    unfold netPlay
    rw [← List.foldl_append, List.take_append_drop]
  rw [e]
  exact (playF_le _ _).1
theorem playF_succ {l : List GNetAct} {k : Nat} {a : GNetAct} (h : l[k]? = some a) : netPlay (l.take (k + 1)) = playF (netPlay (l.take k)) a := by
  unfold netPlay
  rw [List.take_add_one, h, Option.toList_some, List.foldl_append]
  rfl
end Go.Proofs.Ytcbknmnlgoeniaa
