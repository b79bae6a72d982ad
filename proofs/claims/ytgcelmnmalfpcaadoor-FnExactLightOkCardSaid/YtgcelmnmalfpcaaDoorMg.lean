/- A validator's guard, as plain functions. -/
import Derived.Test.YtgcelmnmalfpcaaDoorM0
namespace Go.Proofs.YtgcelmnmalfpcaaDoor
open Go.RowKit

def isId (s : ByteArray) : Bool := decide ((s.size : Int) = 8) || eqB s ⟨#[]⟩
def isVal (v : Int) : Bool := inB v 1 99
def voteOk (v : GVote) : Bool := isHeight v.fHeight && inB v.fRound 0 1000 && inB v.fStep 1 2 && isId v.fId && isVal v.fVal
def guard0 : GGuard := ⟨0, 0, 0, ByteArray.empty⟩
def guardEq (a b : GGuard) : Bool := decide (a.fHeight = b.fHeight) && decide (a.fRound = b.fRound) && decide (a.fStep = b.fStep) && eqB a.fId b.fId
def guardOk (g : GGuard) : Bool := guardEq g guard0 || (isHeight g.fHeight && inB g.fRound 0 1000 && inB g.fStep 1 2 && isId g.fId)
def outOk (val : Int) (v : GVote) : Bool := voteOk v && decide (v.fVal = val)
def outAt (s : GSigner) (k : Nat) : Bool := match s.fOut[k]? with | some v => outOk s.fVal v | none => true
def signerOk (s : GSigner) : Bool :=
  allN (outAt s) s.fOut.length && !(s.fPend && guardEq s.fMem guard0) && (s.fPend || guardEq s.fDisk s.fMem) && isVal s.fVal && guardOk s.fDisk && guardOk s.fMem && decide ((s.fOut.length : Int) ≤ 60)
def maySign (g : GGuard) (v : GVote) : Int :=
  if guardOk g && voteOk v then
    (if v.fHeight > g.fHeight then 0 else if v.fHeight < g.fHeight then 2 else if v.fRound > g.fRound then 0 else if v.fRound < g.fRound then 2 else
     if v.fStep > g.fStep then 0 else if v.fStep < g.fStep then 2 else if eqB v.fId g.fId then 1 else 3)
  else 2
def signer0 : GSigner := ⟨0, guard0, guard0, false, []⟩
def gOf (v : GVote) : GGuard := ⟨v.fHeight, v.fRound, v.fStep, v.fId⟩
def vOf (g : GGuard) (val : Int) : GVote := ⟨g.fHeight, g.fRound, g.fStep, g.fId, val⟩
def signAsk (s : GSigner) (v : GVote) : GSigner × Int :=
  if signerOk s then
    (if s.fPend || decide (v.fVal ≠ s.fVal) || decide ((s.fOut.length : Int) = 60) then (s, 2) else
     if maySign s.fMem v = 0 then ({ s with fMem := gOf v, fPend := true }, 0) else
     if maySign s.fMem v = 1 then ({ s with fOut := s.fOut ++ [v] }, 1) else (s, maySign s.fMem v))
  else (signer0, 2)
def signSync (s : GSigner) : GSigner × Bool :=
  if signerOk s then
    (if s.fPend then ({ s with fDisk := s.fMem, fPend := false, fOut := if s.fOut.length < 60 then s.fOut ++ [vOf s.fMem s.fVal] else s.fOut }, true) else (s, false))
  else (signer0, false)
def signFall (s : GSigner) : GSigner × Bool := if signerOk s then ({ s with fMem := s.fDisk, fPend := false }, true) else (signer0, false)

/-! ### Votes of one height, round and step name one block -/
theorem guardEq_iff {a b : GGuard} : guardEq a b = true ↔ a = b := by
  unfold guardEq
  cases a; cases b
  simp only [Bool.and_eq_true, decide_eq_true_eq, eqB_iff, GGuard.mk.injEq, and_assoc]
theorem signerOk_iff {s : GSigner} : signerOk s = true ↔ (∀ v ∈ s.fOut, voteOk v = true ∧ v.fVal = s.fVal) ∧ (s.fPend = true → s.fMem ≠ guard0) ∧ (s.fPend = false → s.fDisk = s.fMem) ∧ isVal s.fVal = true ∧ guardOk s.fDisk = true ∧ guardOk s.fMem = true ∧ (s.fOut.length : Int) ≤ 60 := by
  have h1 : allN (outAt s) s.fOut.length = true ↔ ∀ v ∈ s.fOut, voteOk v = true ∧ v.fVal = s.fVal := by
    constructor
    · intro h v hv
      obtain ⟨k, hk, rfl⟩ := List.getElem_of_mem hv
      have := allN_get h hk
      simp only [outAt, List.getElem?_eq_getElem hk, outOk, Bool.and_eq_true, decide_eq_true_eq] at this
      exact this
    · intro h
      refine allTo_end fun i hi => ?_
      have := h _ (List.getElem_mem hi)
      simp only [outAt, List.getElem?_eq_getElem hi, outOk, Bool.and_eq_true, decide_eq_true_eq]
      exact this
  unfold signerOk
  simp only [Bool.and_eq_true, h1, decide_eq_true_eq, and_assoc]
  have h2 : (!(s.fPend && guardEq s.fMem guard0)) = true ↔ (s.fPend = true → s.fMem ≠ guard0) := by
    cases hp : s.fPend with
    | false => simp
    | true =>
      simp only [Bool.true_and, Bool.not_eq_true', true_implies, ne_eq, ← guardEq_iff, Bool.not_eq_true]
  have h3 : (s.fPend || guardEq s.fDisk s.fMem) = true ↔ (s.fPend = false → s.fDisk = s.fMem) := by
    cases hp : s.fPend with
    | true => simp
    | false => simp [guardEq_iff]
  rw [h2, h3]
def key (h r t : Int) : Int := 3003 * h + 3 * r + t
def gKey (g : GGuard) : Int := key g.fHeight g.fRound g.fStep
def vKey (g : GVote) : Int := key g.fHeight g.fRound g.fStep
def rng (r t : Int) : Prop := 0 ≤ r ∧ r ≤ 1000 ∧ 0 ≤ t ∧ t ≤ 2
theorem key_inj {h r t h' r' t' : Int} (a : rng r t) (b : rng r' t') (k : key h r t = key h' r' t') : h = h' ∧ r = r' ∧ t = t' := by
  obtain ⟨a1, a2, a3, a4⟩ := a
  obtain ⟨b1, b2, b3, b4⟩ := b
  unfold key at k
  omega
theorem voteOk_facts {v : GVote} (h : voteOk v = true) : 1 ≤ v.fHeight ∧ rng v.fRound v.fStep ∧ 1 ≤ v.fStep := by
  unfold voteOk isHeight inB at h
  simp only [Bool.and_eq_true, decide_eq_true_eq] at h
  unfold rng
  omega
theorem guardOk_facts {g : GGuard} (h : guardOk g = true) : g = guard0 ∨ 1 ≤ g.fHeight := by
  unfold guardOk isHeight inB at h
  simp only [Bool.or_eq_true, guardEq_iff, Bool.and_eq_true, decide_eq_true_eq] at h
  rcases h with h | h
  · exact .inl h
  · exact .inr (by omega)
theorem guardOk_rng {g : GGuard} (h : guardOk g = true) : rng g.fRound g.fStep := by
  unfold guardOk isHeight inB at h
  simp only [Bool.or_eq_true, guardEq_iff, Bool.and_eq_true, decide_eq_true_eq] at h
  rcases h with rfl | h
  · exact ⟨by decide, by decide, by decide, by decide⟩
  · unfold rng; omega
theorem guardOk_of {v : GVote} (h : voteOk v = true) : guardOk (gOf v) = true := by
  unfold voteOk at h
  unfold guardOk gOf
  simp only [Bool.and_eq_true, Bool.or_eq_true] at h ⊢
  exact .inr h.1
theorem voteOk_of {g : GGuard} {val : Int} (h : guardOk g = true) (hn : g ≠ guard0) (hv : isVal val = true) : voteOk (vOf g val) = true := by
  unfold guardOk at h
  unfold voteOk vOf
  simp only [Bool.and_eq_true, Bool.or_eq_true, guardEq_iff] at h ⊢
  rcases h with h | h
  · exact absurd h hn
  · exact ⟨h, hv⟩
/-- What is let out lies below what stands on disk, or is the same. -/
def under (g : GGuard) (v : GVote) : Prop := vKey v < gKey g ∨ vKey v = gKey g ∧ v.fId = g.fId
def clean (l : List GVote) : Prop := ∀ p ∈ l, ∀ q ∈ l, p.fHeight = q.fHeight → p.fRound = q.fRound → p.fStep = q.fStep → p.fId = q.fId
structure Sgn (s : GSigner) : Prop where
  ok : signerOk s = true
  un : ∀ v ∈ s.fOut, under s.fDisk v
  cl : clean s.fOut
  lt : s.fPend = true → gKey s.fDisk < gKey s.fMem
theorem same_key {p q : GVote} (h1 : p.fHeight = q.fHeight) (h2 : p.fRound = q.fRound) (h3 : p.fStep = q.fStep) : vKey p = vKey q := by unfold vKey; rw [h1, h2, h3]
theorem clean_app {l : List GVote} {v : GVote} {g : GGuard} (h : clean l) (hu : ∀ p ∈ l, under g p) (hk : vKey v = gKey g) (hi : v.fId = g.fId) : clean (l ++ [v]) := by
  intro p hp q hq a b c
  have e := same_key a b c
  simp only [List.mem_append, List.mem_singleton] at hp hq
  rcases hp with hp | rfl
  · rcases hq with hq | rfl
    · exact h p hp q hq a b c
    · rcases hu p hp with k | k
      · omega
      · rw [k.2, hi]
  · rcases hq with hq | rfl
    · rcases hu q hq with k | k
      · omega
      · rw [k.2, hi]
    · rfl
theorem maySign_eq {g : GGuard} {v : GVote} (hg : guardOk g = true) (hv : voteOk v = true) : (maySign g v = 0 ∧ gKey g < vKey v) ∨ (maySign g v = 1 ∧ gKey g = vKey v ∧ v.fId = g.fId) ∨ (maySign g v ≠ 0 ∧ maySign g v ≠ 1) := by
  obtain ⟨_, hv, _⟩ := voteOk_facts hv
  obtain ⟨b1, b2, b3, b4⟩ := guardOk_rng hg
  obtain ⟨a1, a2, a3, a4⟩ := hv
  unfold maySign gKey vKey key
  rw [if_pos (by simp [*])]
  split
  · left; omega
  split
  · right; right; omega
  split
  · left; omega
  split
  · right; right; omega
  split
  · left; omega
  split
  · right; right; omega
  split
  · rename_i k
    right; left
    exact ⟨rfl, by omega, eqB_iff.1 k⟩
  · right; right; omega
theorem Sgn.ask {s : GSigner} (J : Sgn s) {v : GVote} (hv : voteOk v = true) (hl : s.fOut.length < 60) : Sgn (signAsk s v).1 := by
  obtain ⟨ok, un, cl, lt⟩ := J
  have ok' := signerOk_iff.1 ok
  obtain ⟨o1, o2, o3, o4, o5, o6, o7⟩ := ok'
  unfold signAsk
  rw [if_pos ok]
  split
  · exact ⟨ok, un, cl, lt⟩
  rename_i hn
  simp only [Bool.or_eq_true, decide_eq_true_eq, not_or, Bool.not_eq_true, ne_eq, Decidable.not_not] at hn
  obtain ⟨⟨hp, hval⟩, _⟩ := hn
  have hd := o3 hp
  rcases maySign_eq o6 hv with ⟨k, k'⟩ | ⟨k, k', k''⟩ | ⟨k, k'⟩
  · rw [if_pos k]
    refine ⟨signerOk_iff.2 ⟨o1, fun _ => ?_, fun h => by simp at h, o4, o5, guardOk_of hv, o7⟩, un, cl, fun _ => by dsimp only; rw [hd]; exact k'⟩
    intro e
    have := (voteOk_facts hv).1
    have e' := congrArg GGuard.fHeight e
    simp only [gOf, guard0] at e'
    omega
  · rw [if_neg (by omega), if_pos k]
    refine ⟨signerOk_iff.2 ⟨?_, o2, o3, o4, o5, o6, by simp; omega⟩, ?_, ?_, lt⟩
    · intro p hp'
      simp only [List.mem_append, List.mem_singleton] at hp'
      rcases hp' with hp' | rfl
      · exact o1 p hp'
      · exact ⟨hv, hval⟩
    · intro p hp'
      simp only [List.mem_append, List.mem_singleton] at hp'
      rcases hp' with hp' | rfl
      · exact un p hp'
      · exact .inr ⟨by dsimp only; rw [hd]; exact k'.symm, by dsimp only; rw [hd]; exact k''⟩
    · exact clean_app (g := s.fDisk) cl un (by rw [hd]; exact k'.symm) (by rw [hd]; exact k'')
  · rw [if_neg k, if_neg k']
    exact ⟨ok, un, cl, lt⟩
theorem Sgn.sync {s : GSigner} (J : Sgn s) (hl : s.fOut.length < 60) : Sgn (signSync s).1 := by
  obtain ⟨ok, un, cl, lt⟩ := J
  obtain ⟨o1, o2, o3, o4, o5, o6, o7⟩ := signerOk_iff.1 ok
  unfold signSync
  rw [if_pos ok]
  split
  · rename_i hp
    simp only [if_pos hl]
    have hm := o2 hp
    have hlt := lt hp
    have un' : ∀ p ∈ s.fOut, under s.fMem p := fun p h => by
      rcases un p h with k | k
      · exact .inl (by omega)
      · exact .inl (by omega)
    refine ⟨signerOk_iff.2 ⟨?_, fun h => by simp at h, fun _ => rfl, o4, o6, o6, by simp; omega⟩, ?_, ?_, fun h => by simp at h⟩
    · intro p hp'
      simp only [List.mem_append, List.mem_singleton] at hp'
      rcases hp' with hp' | rfl
      · exact o1 p hp'
      · exact ⟨voteOk_of o6 hm o4, rfl⟩
    · intro p hp'
      simp only [List.mem_append, List.mem_singleton] at hp'
      rcases hp' with hp' | rfl
      · exact un' p hp'
      · exact .inr ⟨rfl, rfl⟩
    · exact clean_app (g := s.fMem) cl un' rfl rfl
  · exact ⟨ok, un, cl, lt⟩
theorem Sgn.fall {s : GSigner} (J : Sgn s) : Sgn (signFall s).1 ∧ (signFall s).2 = true := by
  obtain ⟨ok, un, cl, lt⟩ := J
  obtain ⟨o1, o2, o3, o4, o5, o6, o7⟩ := signerOk_iff.1 ok
  unfold signFall
  rw [if_pos ok]
  exact ⟨⟨signerOk_iff.2 ⟨o1, fun h => by simp at h, fun _ => rfl, o4, o5, o5, o7⟩, un, cl, fun h => by simp at h⟩, rfl⟩
theorem ask_len {s : GSigner} {v : GVote} (h : signerOk s = true) : (signAsk s v).1.fOut.length ≤ s.fOut.length + 1 ∧ (signAsk s v).1.fVal = s.fVal := by
  unfold signAsk
  rw [if_pos h]
  split
  · simp
  split
  · simp
  split <;> simp
theorem sync_len {s : GSigner} (h : signerOk s = true) : (signSync s).1.fOut.length ≤ s.fOut.length + 1 ∧ (signSync s).1.fVal = s.fVal := by
  unfold signSync
  rw [if_pos h]
  split
  · dsimp only; split <;> simp
  · simp
theorem fall_len {s : GSigner} (h : signerOk s = true) : (signFall s).1.fOut.length ≤ s.fOut.length + 1 ∧ (signFall s).1.fVal = s.fVal := by
  unfold signFall
  rw [if_pos h]
  simp
theorem guardOk0 : guardOk guard0 = true := by unfold guardOk; rw [guardEq_iff.2 rfl]; rfl
theorem Sgn.start {val : Int} (h : isVal val = true) : Sgn ⟨val, guard0, guard0, false, []⟩ := by
  refine ⟨signerOk_iff.2 ⟨by simp, by simp, fun _ => rfl, h, guardOk0, guardOk0, by simp⟩, by simp, by simp [clean], by simp⟩
end Go.Proofs.YtgcelmnmalfpcaaDoor
