/- Stores, tables of peers, clients, as plain functions. -/
import Derived.Test.YtgcelmnmalfpcaaDoorMc
namespace Go.Proofs.YtgcelmnmalfpcaaDoor
open Go.RowKit

/-! ### Stores -/
def linkOk (p h : GHeader) : Bool := decide (h.fHeight = p.fHeight + 1) && eqB h.fLast (headId p) && decide (p.fTime < h.fTime) && eqB h.fVals p.fNext
def storeOk (s : GStore) : Bool := adjOk headerOk linkOk s.fHeads && decide ((s.fHeads.length : Int) ≤ 20) && inB s.fSynced 0 s.fHeads.length
theorem adjAt_f {α : Type} {f : α → Bool} {g : α → α → Bool} {l : List α} {k : Nat} {v : α} (h : adjAt f g l k = true) (hv : l[k]? = some v) : f v = true := by
  unfold adjAt at h
  rw [hv] at h
  simp only [Bool.and_eq_true] at h
  exact h.1
theorem adjOk_iff {α : Type} {f : α → Bool} {g : α → α → Bool} {l : List α} : adjOk f g l = true ↔ (∀ (k : Nat) v, l[k]? = some v → f v = true) ∧ (∀ (k : Nat) u v, l[k]? = some u → l[k + 1]? = some v → g u v = true) := by
  constructor
  · intro h
    have key : ∀ (k : Nat) v, l[k]? = some v → adjAt f g l k = true := fun k v hk => allN_get h (List.getElem?_eq_some_iff.1 hk).1
    refine ⟨fun k v hk => adjAt_f (key k v hk) hk, fun k u v hu hv => ?_⟩
    have := key (k + 1) v hv
    rw [adjAt_succ hv hu, Bool.and_eq_true] at this
    exact this.2
  · rintro ⟨h1, h2⟩
    refine adjOk_end fun i hi => ?_
    obtain ⟨v, hv⟩ : ∃ v, l[i]? = some v := ⟨_, List.getElem?_eq_getElem hi⟩
    cases i with
    | zero => rw [adjAt_zero hv]; exact h1 0 v hv
    | succ j =>
      obtain ⟨u, hu⟩ : ∃ u, l[j]? = some u := ⟨_, List.getElem?_eq_getElem (by omega)⟩
      rw [adjAt_succ hv hu, h1 _ v hv, h2 j u v hu hv]
      rfl
theorem storeOk_iff {s : GStore} : storeOk s = true ↔ adjOk headerOk linkOk s.fHeads = true ∧ s.fHeads.length ≤ 20 ∧ 0 ≤ s.fSynced ∧ s.fSynced ≤ s.fHeads.length := by
  unfold storeOk
  rw [Bool.and_eq_true, Bool.and_eq_true, inB_iff, decide_eq_true_eq]
  constructor
  · rintro ⟨⟨a, b⟩, c, d⟩; exact ⟨a, by omega, c, d⟩
  · rintro ⟨a, b, c, d⟩; exact ⟨⟨a, by omega⟩, c, d⟩
def storeAdd (s : GStore) (h : GHeader) : GStore × Bool := if storeOk ⟨s.fHeads ++ [h], s.fSynced⟩ then (⟨s.fHeads ++ [h], s.fSynced⟩, true) else (s, false)
def headAt (s : GStore) (height : Int) : Int := idx (fun h => decide (h.fHeight = height)) s.fHeads
def header0 : GHeader := ⟨0, 0, ⟨#[]⟩, ⟨#[]⟩, ⟨#[]⟩, ⟨#[]⟩⟩
def storeGet (s : GStore) (height : Int) : GHeader × Bool := if storeOk s then (match s.fHeads.find? (fun h => decide (h.fHeight = height)) with | some h => (h, true) | none => (header0, false)) else (header0, false)

/-! ### Tables of peers -/
def peerIdx (l : List GPeer) (id : Int) : Int := idx (fun p => decide (p.fId = id)) l
def peerAt (l : List GPeer) (k : Nat) : Bool := match l[k]? with | none => true | some p => inB p.fId 1 99 && inB p.fUntil 0 1000320 && inB p.fBans 0 20 && decide (peerIdx l p.fId = (k : Int))
def tableOk (t : GTable) : Bool := allN (peerAt t.fPeers) t.fPeers.length && decide ((t.fPeers.length : Int) ≤ 6) && isTime t.fTurn
theorem tableOk_iff {t : GTable} : tableOk t = true ↔ (∀ (k : Nat) p, t.fPeers[k]? = some p → (1 ≤ p.fId ∧ p.fId ≤ 99) ∧ (0 ≤ p.fUntil ∧ p.fUntil ≤ 1000320) ∧ (0 ≤ p.fBans ∧ p.fBans ≤ 20) ∧ peerIdx t.fPeers p.fId = (k : Int)) ∧ t.fPeers.length ≤ 6 ∧ 0 ≤ t.fTurn ∧ t.fTurn ≤ 1000000 := by
  unfold tableOk isTime
  rw [Bool.and_eq_true, Bool.and_eq_true, inB_iff, decide_eq_true_eq]
  have h1 : allN (peerAt t.fPeers) t.fPeers.length = true ↔ ∀ (k : Nat) p, t.fPeers[k]? = some p → (1 ≤ p.fId ∧ p.fId ≤ 99) ∧ (0 ≤ p.fUntil ∧ p.fUntil ≤ 1000320) ∧ (0 ≤ p.fBans ∧ p.fBans ≤ 20) ∧ peerIdx t.fPeers p.fId = (k : Int) := by
    constructor
    · intro h k p hk
      have := allN_get h (List.getElem?_eq_some_iff.1 hk).1
      unfold peerAt at this
      rw [hk] at this
      simp only [Bool.and_eq_true, inB_iff, decide_eq_true_eq] at this
      obtain ⟨⟨⟨a, b⟩, c⟩, d⟩ := this
      exact ⟨a, b, c, d⟩
    · intro h
      refine allTo_end fun i hi => ?_
      obtain ⟨p, hp⟩ : ∃ p, t.fPeers[i]? = some p := ⟨_, List.getElem?_eq_getElem hi⟩
      obtain ⟨a, b, c, d⟩ := h i p hp
      unfold peerAt
      rw [hp]
      simp only [Bool.and_eq_true, inB_iff, decide_eq_true_eq]
      exact ⟨⟨⟨a, b⟩, c⟩, d⟩
  rw [h1]
  constructor
  · rintro ⟨⟨a, b⟩, c, d⟩; exact ⟨a, by omega, c, d⟩
  · rintro ⟨a, b, c, d⟩; exact ⟨⟨a, by omega⟩, c, d⟩
def peerSet (t : GTable) (id : Int) (f : GPeer → GPeer) : GTable := ⟨t.fPeers.modify (peerIdx t.fPeers id).toNat f, t.fTurn⟩
def peerGood (t : GTable) (id : Int) : GTable × Bool := if peerIdx t.fPeers id < 0 then (t, false) else (peerSet t id fun p => { p with fBans := 0 }, true)
def lieN (b : Nat) : Nat := min 320 (10 * 2 ^ b)
def lied (now : Int) (p : GPeer) : GPeer := { p with fUntil := now + (lieN p.fBans.toNat : Int), fBans := min 20 (p.fBans + 1) }
def peerLie (t : GTable) (id now : Int) : GTable × Bool := if peerIdx t.fPeers id < 0 ∨ isTime now = false then (t, false) else (peerSet t id (lied now), true)
def bans (l : List GPeer) (now : Int) : List Int := (l.filter fun p => decide (now < p.fUntil)).map (·.fId)
theorem bans_take {l : List GPeer} {now : Int} {k : Nat} {x : GPeer} (h : l[k]? = some x) : bans (l.take (k + 1)) now = if now < x.fUntil then bans (l.take k) now ++ [x.fId] else bans (l.take k) now := by
  unfold bans
  rw [List.take_add_one, h]
  by_cases e : now < x.fUntil <;> simp [e]
theorem bans_len (l : List GPeer) (now : Int) : (bans l now).length ≤ l.length := by
  unfold bans
  rw [List.length_map]
  exact List.length_filter_le _ _
/-- Of a right table: who is put off. -/
theorem bans_has {t : GTable} (ok : tableOk t = true) {id now : Int} {p : GPeer} (hi : 0 ≤ peerIdx t.fPeers id) (hp : t.fPeers[(peerIdx t.fPeers id).toNat]? = some p) : hasI (bans t.fPeers now) id = decide (now < p.fUntil) := by
  obtain ⟨p', q1, q2, -⟩ := idx_get hi
  have e : p' = p := by
    have := q1.symm.trans hp
    exact Option.some.inj this
  subst e
  have hid : p'.fId = id := by simpa using q2
  by_cases h : now < p'.fUntil
  · rw [decide_eq_true h]
    unfold hasI bans
    rw [List.any_eq_true]
    exact ⟨p'.fId, List.mem_map.2 ⟨p', List.mem_filter.2 ⟨List.mem_of_getElem? hp, by simpa using h⟩, rfl⟩, by simpa using hid⟩
  · rw [decide_eq_false h]
    unfold hasI bans
    rw [List.any_eq_false]
    intro y hy
    obtain ⟨z, hz, rfl⟩ := List.mem_map.1 hy
    obtain ⟨hz1, hz2⟩ := List.mem_filter.1 hz
    simp only [decide_eq_true_eq] at hz2 ⊢
    intro e
    obtain ⟨k, hk, rfl⟩ := List.getElem_of_mem hz1
    have h3 := (tableOk_iff.1 ok).1 k _ (List.getElem?_eq_getElem hk)
    have h4 := h3.2.2.2
    rw [e] at h4
    have h5 : (peerIdx t.fPeers id).toNat = k := by omega
    rw [h5, List.getElem?_eq_getElem hk] at hp
    cases hp
    exact h hz2
theorem hasI_perm {a b : List Int} (h : a.Perm b) (x : Int) : hasI a x = hasI b x := by
  unfold hasI
  cases e : b.any fun y => decide (y = x) with
  | true =>
    rw [List.any_eq_true] at *
    obtain ⟨y, h1, h2⟩ := e
    exact ⟨y, h.mem_iff.2 h1, h2⟩
  | false =>
    rw [List.any_eq_false] at *
    exact fun y hy => e y (h.mem_iff.1 hy)

/-! ### Clients -/
def lastHead (l : List GHeader) : Option GHeader := l[l.length - 1]?
def lightOk (c : GLight) : Bool := trustOk c.fTrust && anchorOk c.fAnchor && storeOk c.fStore && tableOk c.fPeers && inB c.fState 1 2 && isTime c.fNow && (match lastHead c.fStore.fHeads with | some h => headEq h c.fAnchor.fHead | none => false)
structure LightFacts (c : GLight) : Prop where
  t : trustOk c.fTrust = true
  a : anchorOk c.fAnchor = true
  s : storeOk c.fStore = true
  p : tableOk c.fPeers = true
  st : 1 ≤ c.fState ∧ c.fState ≤ 2
  n : isTime c.fNow = true
  h : lastHead c.fStore.fHeads = some c.fAnchor.fHead
theorem lightOk_iff {c : GLight} : lightOk c = true ↔ LightFacts c := by
  unfold lightOk
  simp only [Bool.and_eq_true, inB_iff]
  constructor
  · rintro ⟨⟨⟨⟨⟨⟨a, b⟩, c'⟩, d⟩, e⟩, f⟩, g⟩
    refine ⟨a, b, c', d, e, f, ?_⟩
    split at g
    · rename_i h hh; rw [hh, headEq_iff.1 g]
    · simp at g
  · rintro ⟨a, b, c', d, e, f, g⟩
    exact ⟨⟨⟨⟨⟨⟨a, b⟩, c'⟩, d⟩, e⟩, f⟩, by rw [g]; exact headEq_iff.2 rfl⟩
def lightTick (c : GLight) (n : Int) : GLight × Bool :=
  if inB n 1 1000 && isTime (c.fNow + n) then ({ c with fNow := c.fNow + n, fState := if c.fAnchor.fHead.fTime + c.fTrust.fPeriod < c.fNow + n then 2 else c.fState }, true) else (c, false)
def storePut (s : GStore) (h : GHeader) : GStore :=
  let l := (if s.fHeads.length = 20 then s.fHeads.drop 10 else s.fHeads) ++ [h]
  ⟨l, l.length⟩
def lightFeed (c : GLight) (peer : Int) (b : GBlock) : GLight × Int :=
  if c.fState ≠ 1 ∨ peerIdx c.fPeers.fPeers peer < 0 ∨ hasI (bans c.fPeers.fPeers c.fNow) peer then (c, 1)
  else if verified c.fTrust c.fAnchor b.fHead b.fNext b.fCommit c.fNow = 0 then
    ({ c with fAnchor := ⟨b.fHead, b.fNext⟩, fStore := storePut c.fStore b.fHead, fPeers := (peerGood c.fPeers peer).1 }, 0)
  else if 5 ≤ verified c.fTrust c.fAnchor b.fHead b.fNext b.fCommit c.fNow then
    ({ c with fPeers := (peerLie c.fPeers peer c.fNow).1 }, verified c.fTrust c.fAnchor b.fHead b.fNext b.fCommit c.fNow)
  else (c, verified c.fTrust c.fAnchor b.fHead b.fNext b.fCommit c.fNow)
def lightFall (c : GLight) : GLight := { c with fPeers := ⟨c.fPeers.fPeers.map fun p => { p with fUntil := 0, fBans := 0 }, 0⟩ }
def blockOk (b : GBlock) : Bool := valsOk b.fNext && eqB b.fHead.fNext (valsHash b.fNext) && commitOk b.fVals b.fHead b.fCommit
def valEq (a b : GVal) : Bool := decide (a.fId = b.fId) && decide (a.fPower = b.fPower)
def sameAtV (a b : List GVal) (i : Nat) : Bool := match a[i]?, b[i]? with | some x, some y => valEq x y | _, _ => true
def sameVals (a b : List GVal) : Bool := decide (a.length = b.length) && allN (sameAtV a b) a.length
theorem valEq_iff {a b : GVal} : valEq a b = true ↔ a = b := by
  unfold valEq
  cases a; cases b
  simp only [Bool.and_eq_true, decide_eq_true_eq, GVal.mk.injEq]
theorem sameVals_iff {a b : List GVal} : sameVals a b = true ↔ a = b := by
  unfold sameVals
  rw [Bool.and_eq_true, decide_eq_true_eq]
  constructor
  · rintro ⟨h1, h2⟩
    refine List.ext_getElem h1 fun i ha hb => ?_
    have := allN_get h2 ha
    unfold sameAtV at this
    rw [List.getElem?_eq_getElem ha, List.getElem?_eq_getElem hb] at this
    exact valEq_iff.1 this
  · rintro rfl
    refine ⟨rfl, allTo_end fun i hi => ?_⟩
    unfold sameAtV
    rw [List.getElem?_eq_getElem hi]
    exact valEq_iff.2 rfl
def blockLink (p b : GBlock) : Bool := decide (b.fHead.fHeight = p.fHead.fHeight + 1) && eqB b.fHead.fLast (headId p.fHead) && decide (p.fHead.fTime < b.fHead.fTime) && sameVals b.fVals p.fNext
def chainOk (l : List GBlock) : Bool := adjOk blockOk blockLink l
end Go.Proofs.YtgcelmnmalfpcaaDoor
