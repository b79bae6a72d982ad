/- Several texts, one behind the other. -/
import Derived.Test.YtmdjnohdkhepjaaDoorK1
import Derived.Test.YtmdjnohdkhepjaaDoorK2
import Derived.Test.YtmdjnohdkhepjaaDoorS1
/- Validators, headers, votes, commits, anchors, as plain functions. -/
namespace Go.Proofs.YtmdjnohdkhepjaaDoor
set_option linter.unusedSimpArgs false
set_option linter.unusedVariables false
open Go.RowKit

def vOk (v : GVal) : Bool := inB v.fId 1 99 && inB v.fPower 1 1000
def vLt (u v : GVal) : Bool := decide (u.fId < v.fId)
theorem valsOk_def (l : List GVal) : valsOk l = (adjOk vOk vLt l && inB l.length 1 7) := rfl
def powSum (p : GVal → Bool) : List GVal → Int
  | [] => 0
  | v :: r => (if p v then v.fPower else 0) + powSum p r
theorem powSum_app {p : GVal → Bool} : ∀ (a b : List GVal), powSum p (a ++ b) = powSum p a + powSum p b
  | [], b => by simp [powSum]
  | v :: a, b => by simp only [List.cons_append, powSum, powSum_app a b]; omega
theorem powSum_take {p : GVal → Bool} {l : List GVal} {k : Nat} {x : GVal} (h : l[k]? = some x) : powSum p (l.take (k + 1)) = powSum p (l.take k) + (if p x then x.fPower else 0) := by
  rw [List.take_add_one, h, powSum_app]
  simp [powSum]
theorem valsOk_iff {l : List GVal} : valsOk l = true ↔ (∀ (k : Nat) v, l[k]? = some v → vOk v = true) ∧ (∀ (k : Nat) u v, l[k]? = some u → l[k + 1]? = some v → u.fId < v.fId) ∧ 1 ≤ l.length ∧ l.length ≤ 7 := by
  rw [valsOk_def, Bool.and_eq_true, inB_iff]
  have h1 : adjOk vOk vLt l = true ↔ (∀ (k : Nat) v, l[k]? = some v → vOk v = true) ∧ (∀ (k : Nat) u v, l[k]? = some u → l[k + 1]? = some v → u.fId < v.fId) := by
    constructor
    · intro h
      have key : ∀ (k : Nat) v, l[k]? = some v → adjAt vOk vLt l k = true := fun k v hk => allN_get h (List.getElem?_eq_some_iff.1 hk).1
      refine ⟨fun k v hk => ?_, fun k u v hu hv => ?_⟩
      · have := key k v hk
        unfold adjAt at this
        rw [hk] at this
        simp only [Bool.and_eq_true] at this
        exact this.1
      · have := key (k + 1) v hv
        rw [adjAt_succ hv hu, Bool.and_eq_true] at this
        exact of_decide_eq_true this.2
    · rintro ⟨h1, h2⟩
      refine adjOk_end fun i hi => ?_
      obtain ⟨v, hv⟩ : ∃ v, l[i]? = some v := ⟨_, List.getElem?_eq_getElem hi⟩
      cases i with
      | zero => rw [adjAt_zero hv]; exact h1 0 v hv
      | succ j =>
        obtain ⟨u, hu⟩ : ∃ u, l[j]? = some u := ⟨_, List.getElem?_eq_getElem (by omega)⟩
        rw [adjAt_succ hv hu, h1 _ v hv, Bool.true_and]
        exact decide_eq_true (h2 j u v hu hv)
  rw [h1]
  constructor
  · rintro ⟨⟨a, b⟩, c, d⟩; exact ⟨a, b, by omega, by omega⟩
  · rintro ⟨a, b, c, d⟩; exact ⟨⟨a, b⟩, by omega, by omega⟩
theorem vOk_facts {v : GVal} (h : vOk v = true) : 1 ≤ v.fId ∧ v.fId ≤ 99 ∧ 1 ≤ v.fPower ∧ v.fPower ≤ 1000 := by
  unfold vOk at h
  rw [Bool.and_eq_true, inB_iff, inB_iff] at h
  omega
theorem powSum_bd {p : GVal → Bool} : ∀ {l : List GVal}, (∀ v ∈ l, vOk v = true) → 0 ≤ powSum p l ∧ powSum p l ≤ 1000 * l.length
  | [], _ => by simp [powSum]
  | v :: r, h => by
    have h1 := vOk_facts (h v (List.mem_cons_self ..))
    have h2 := powSum_bd (p := p) (l := r) fun x hx => h x (List.mem_cons_of_mem _ hx)
    simp only [powSum, List.length_cons]
    split <;> omega
theorem vals_all {l : List GVal} (h : valsOk l = true) : ∀ v ∈ l, vOk v = true := fun v hv => by
  obtain ⟨k, hk, rfl⟩ := List.getElem_of_mem hv
  exact (valsOk_iff.1 h).1 k _ (List.getElem?_eq_getElem hk)
theorem powSum_k {p : GVal → Bool} {l : List GVal} (h : valsOk l = true) (k : Nat) : 0 ≤ powSum p (l.take k) ∧ powSum p (l.take k) ≤ 7000 := by
  have h1 := powSum_bd (p := p) (l := l.take k) fun v hv => vals_all h v (List.mem_of_mem_take hv)
  have h2 := (valsOk_iff.1 h).2.2.2
  have h3 : (l.take k).length ≤ 7 := by rw [List.length_take]; omega
  omega
def powerOf (l : List GVal) : Int := if valsOk l then powSum (fun _ => true) l else 0
def hasI (l : List Int) (x : Int) : Bool := l.any fun y => decide (y = x)
def enough (l : List GVal) (ids : List Int) : Bool := valsOk l && decide (2 * powSum (fun _ => true) l < 3 * powSum (fun v => hasI ids v.fId) l)
def catF {α : Type} (f : α → ByteArray) (s : ByteArray) : List α → ByteArray
  | [] => s
  | x :: r => catF f (s ++ f x) r
theorem catF_app {α : Type} {f : α → ByteArray} : ∀ (s : ByteArray) (a b : List α), catF f s (a ++ b) = catF f (catF f s a) b
  | s, [], b => rfl
  | s, x :: a, b => by simp only [List.cons_append, catF]; exact catF_app _ a b
theorem catF_take {α : Type} {f : α → ByteArray} {s : ByteArray} {l : List α} {k : Nat} {x : α} (h : l[k]? = some x) : catF f s (l.take (k + 1)) = catF f s (l.take k) ++ f x := by
  rw [List.take_add_one, h, catF_app]
  rfl
theorem catF_size {α : Type} {f : α → ByteArray} {n : Nat} (hf : ∀ x, (f x).size ≤ n) : ∀ (s : ByteArray) (l : List α), (catF f s l).size ≤ s.size + n * l.length
  | s, [] => by simp [catF]
  | s, x :: r => by
    have h1 := catF_size hf (s ++ f x) r
    have h2 := hf x
    rw [ByteArray.size_append] at h1
    simp only [catF, List.length_cons]
    rw [Nat.mul_add]
    omega
def showVal (v : GVal) : ByteArray := varS v.fId ++ varS v.fPower
theorem showVal_size (v : GVal) : (showVal v).size ≤ 16 := by
  have h1 := varS_size v.fId
  have h2 := varS_size v.fPower
  unfold showVal
  rw [ByteArray.size_append]
  omega
def showVals (l : List GVal) : ByteArray := if valsOk l then catF showVal (varS l.length) l else ⟨#[]⟩
theorem showVals_size (l : List GVal) : (showVals l).size ≤ 200 := by
  unfold showVals
  split
  · rename_i h
    have h1 := catF_size (f := showVal) showVal_size (varS l.length) l
    have h2 := varS_size l.length
    have h3 := (valsOk_iff.1 h).2.2.2
    omega
  · exact Nat.zero_le _
def valsHash (l : List GVal) : ByteArray := if valsOk l then short (showVals l) else ⟨#[]⟩
theorem valsHash_ok {l : List GVal} (h : valsOk l = true) : (valsHash l).size = 8 := by unfold valsHash; rw [if_pos h]; exact short_size _
theorem valsHash_no {l : List GVal} (h : valsOk l = false) : valsHash l = ⟨#[]⟩ := by unfold valsHash; rw [h]; rfl
theorem valsHash_le (l : List GVal) : (valsHash l).size ≤ 8 := by
  cases h : valsOk l
  · rw [valsHash_no h]; exact Nat.zero_le _
  · rw [valsHash_ok h]; exact Nat.le_refl _

def headerOk (h : GHeader) : Bool :=
  isHeight h.fHeight && isTime h.fTime && decide ((h.fVals.size : Int) = 8) && decide ((h.fNext.size : Int) = 8) && decide ((h.fLast.size : Int) = if h.fHeight = 1 then 0 else 8) && decide ((h.fData.size : Int) ≤ 20)
def showHeader (h : GHeader) : ByteArray := if headerOk h then varS h.fHeight ++ varS h.fTime ++ sizedS h.fLast ++ sizedS h.fVals ++ sizedS h.fNext ++ sizedS h.fData else ⟨#[]⟩
structure HeadFacts (h : GHeader) : Prop where
  h1 : 1 ≤ h.fHeight
  h2 : h.fHeight ≤ 1000000
  t0 : 0 ≤ h.fTime
  t1 : h.fTime ≤ 1000000
  v : h.fVals.size = 8
  n : h.fNext.size = 8
  l : h.fLast.size ≤ 8
  l1 : h.fHeight = 1 → h.fLast.size = 0
  l2 : h.fHeight ≠ 1 → h.fLast.size = 8
  d : h.fData.size ≤ 20
theorem headerOk_facts {h : GHeader} (k : headerOk h = true) : HeadFacts h := by
  unfold headerOk isHeight isTime at k
  simp only [Bool.and_eq_true, inB_iff, decide_eq_true_eq] at k
  obtain ⟨⟨⟨⟨⟨⟨a, b⟩, c, d⟩, e⟩, f⟩, g⟩, i⟩ := k
  refine ⟨a, b, c, d, by omega, by omega, ?_, fun q => ?_, fun q => ?_, by omega⟩
  · split at g <;> omega
  · rw [if_pos q] at g; omega
  · rw [if_neg q] at g; omega
theorem showHeader_size (h : GHeader) : (showHeader h).size ≤ 200 := by
  unfold showHeader
  split
  · rename_i k
    have f := headerOk_facts k
    have := f.v; have := f.n; have := f.l; have := f.d
    have := varS_size h.fHeight; have := varS_size h.fTime; have := varS_size h.fLast.size; have := varS_size h.fVals.size; have := varS_size h.fNext.size; have := varS_size h.fData.size
    unfold sizedS
    simp only [ByteArray.size_append]
    omega
  · exact Nat.zero_le _
def headId (h : GHeader) : ByteArray := if headerOk h then short (showHeader h) else ⟨#[]⟩
theorem headId_ok {h : GHeader} (k : headerOk h = true) : (headId h).size = 8 := by unfold headId; rw [if_pos k]; exact short_size _
theorem headId_le (h : GHeader) : (headId h).size ≤ 8 := by
  unfold headId
  split
  · rw [short_size]; exact Nat.le_refl _
  · exact Nat.zero_le _
def headEq (a b : GHeader) : Bool := decide (a.fHeight = b.fHeight) && (decide (a.fTime = b.fTime) && (eqB a.fLast b.fLast && (eqB a.fVals b.fVals && (eqB a.fNext b.fNext && eqB a.fData b.fData))))
theorem headEq_iff {a b : GHeader} : headEq a b = true ↔ a = b := by
  unfold headEq
  cases a; cases b
  simp only [Bool.and_eq_true, decide_eq_true_eq, eqB_iff, GHeader.mk.injEq]

def digest (v : GVote) : ByteArray := if voteOk v then varS v.fHeight ++ varS v.fRound ++ varS v.fStep ++ v.fId else ⟨#[]⟩
theorem isId_le {s : ByteArray} (h : isId s = true) : s.size ≤ 8 := by
  unfold isId at h
  rw [Bool.or_eq_true, decide_eq_true_eq, eqB_iff] at h
  rcases h with h | rfl
  · omega
  · exact Nat.zero_le _
theorem digest_size (v : GVote) : (digest v).size ≤ 40 := by
  unfold digest
  split
  · rename_i h
    unfold voteOk at h
    simp only [Bool.and_eq_true] at h
    have := isId_le h.1.2
    have := varS_size v.fHeight; have := varS_size v.fRound; have := varS_size v.fStep
    simp only [ByteArray.size_append]
    omega
  · exact Nat.zero_le _
def signAs (val : Int) (d : ByteArray) : ByteArray := if isVal val then short (⟨#[4]⟩ ++ fx val.toNat 2 ++ d) else ⟨#[]⟩
theorem signAs_le (val : Int) (d : ByteArray) : (signAs val d).size ≤ 8 := by
  unfold signAs
  split
  · rw [short_size]; exact Nat.le_refl _
  · exact Nat.zero_le _
def signed (v : GVote) (sig : ByteArray) : Bool := voteOk v && eqB sig (signAs v.fVal (digest v))
def cVote (c : GCommit) (val : Int) : GVote := ⟨c.fHeight, c.fRound, 2, c.fId, val⟩
def sigOk (c : GCommit) (s : GCSig) : Bool := signed (cVote c s.fVal) s.fSig
theorem sigOk_val {c : GCommit} {s : GCSig} (h : sigOk c s = true) : 1 ≤ s.fVal ∧ s.fVal ≤ 99 := by
  unfold sigOk signed voteOk cVote isVal at h
  simp only [Bool.and_eq_true, inB_iff] at h
  omega
/-- Who has signed, in the order of the signatures. -/
def sigVals (c : GCommit) (l : List GCSig) : List Int := (l.filter (sigOk c)).map (·.fVal)
theorem sigVals_take {c : GCommit} {l : List GCSig} {k : Nat} {x : GCSig} (h : l[k]? = some x) : sigVals c (l.take (k + 1)) = if sigOk c x then sigVals c (l.take k) ++ [x.fVal] else sigVals c (l.take k) := by
  unfold sigVals
  rw [List.take_add_one, h]
  cases e : sigOk c x <;> simp [e]
def sigAt (c : GCommit) (v : Int) : Bool := c.fSigs.any fun s => decide (s.fVal = v) && sigOk c s
/-- Who has signed a commit, in rising order. -/
def scanVals (c : GCommit) (n : Nat) : List Int := ((List.range n).map fun k => ((k : Nat) : Int) + 1).filter (sigAt c)
def commitVals (c : GCommit) : List Int := if 12 < c.fSigs.length then [] else scanVals c 99
theorem scanVals_succ {c : GCommit} {n : Nat} : scanVals c (n + 1) = if sigAt c ((n : Int) + 1) then scanVals c n ++ [(n : Int) + 1] else scanVals c n := by
  unfold scanVals
  rw [List.range_succ]
  simp only [List.map_append, List.map_cons, List.map_nil, List.filter_append]
  cases e : sigAt c ((n : Int) + 1) <;> simp [e]
theorem scanVals_len (c : GCommit) (n : Nat) : (scanVals c n).length ≤ n := by
  unfold scanVals
  exact Nat.le_trans (List.length_filter_le _ _) (by simp)
theorem commitVals_len (c : GCommit) : (commitVals c).length ≤ 99 := by
  unfold commitVals
  split
  · simp
  · exact scanVals_len c 99
/-- Rising lists of the same numbers are the same. -/
theorem rising_eq : ∀ {a b : List Int}, a.Pairwise (· < ·) → b.Pairwise (· < ·) → (∀ x, x ∈ a ↔ x ∈ b) → a = b
  | [], [], _, _, _ => rfl
  | [], y :: b, _, _, h => absurd ((h y).2 (List.mem_cons_self ..)) (by simp)
  | x :: a, [], _, _, h => absurd ((h x).1 (List.mem_cons_self ..)) (by simp)
  | x :: a, y :: b, ha, hb, h => by
    obtain ⟨ha1, ha2⟩ := List.pairwise_cons.1 ha
    obtain ⟨hb1, hb2⟩ := List.pairwise_cons.1 hb
    have e : x = y := by
      rcases List.mem_cons.1 ((h x).1 (List.mem_cons_self ..)) with q | q
      · exact q
      · rcases List.mem_cons.1 ((h y).2 (List.mem_cons_self ..)) with q' | q'
        · exact q'.symm
        · have := hb1 x q; have := ha1 y q'; omega
    subst e
    congr 1
    refine rising_eq ha2 hb2 fun z => ⟨fun hz => ?_, fun hz => ?_⟩
    · rcases List.mem_cons.1 ((h z).1 (List.mem_cons_of_mem _ hz)) with rfl | q
      · have := ha1 _ hz; omega
      · exact q
    · rcases List.mem_cons.1 ((h z).2 (List.mem_cons_of_mem _ hz)) with rfl | q
      · have := hb1 _ hz; omega
      · exact q
theorem scanVals_rising (c : GCommit) (n : Nat) : (scanVals c n).Pairwise (· < ·) := by
  unfold scanVals
  refine List.Pairwise.filter _ ?_
  rw [List.pairwise_map]
  exact List.Pairwise.imp (fun h => by omega) List.pairwise_lt_range
theorem scanVals_mem {c : GCommit} {x : Int} : x ∈ scanVals c 99 ↔ x ∈ sigVals c c.fSigs := by
  unfold scanVals sigVals
  simp only [List.mem_filter, List.mem_map, List.mem_range, sigAt, List.any_eq_true, Bool.and_eq_true, decide_eq_true_eq]
  constructor
  · rintro ⟨_, s, h1, h2, h3⟩; exact ⟨s, ⟨h1, h3⟩, h2⟩
  · rintro ⟨s, ⟨h1, h3⟩, rfl⟩
    have := sigOk_val h3
    exact ⟨⟨(s.fVal - 1).toNat, by omega, by omega⟩, s, h1, rfl, h3⟩
/-- What is there once, out of a list that does not fall. -/
def once : List Int → List Int
  | [] => []
  | [x] => [x]
  | x :: y :: r => if x = y then once (y :: r) else x :: once (y :: r)
theorem once_mem {z : Int} : ∀ {l : List Int}, z ∈ once l ↔ z ∈ l
  | [] => by simp [once]
  | [x] => by simp [once]
  | x :: y :: r => by
    have ih := once_mem (z := z) (l := y :: r)
    rw [once]
    split
    · rename_i e; subst e; rw [ih]; simp
    · rw [List.mem_cons, ih]; simp
theorem once_rising : ∀ {l : List Int}, l.Pairwise (· ≤ ·) → (once l).Pairwise (· < ·)
  | [], _ => .nil
  | [x], _ => by simp [once]
  | x :: y :: r, h => by
    obtain ⟨h1, h2⟩ := List.pairwise_cons.1 h
    have ih := once_rising (l := y :: r) h2
    rw [once]
    split
    · exact ih
    · rename_i e
      refine List.pairwise_cons.2 ⟨fun z hz => ?_, ih⟩
      have hz' := once_mem.1 hz
      have h3 := h1 y (List.mem_cons_self ..)
      rcases List.mem_cons.1 hz' with rfl | q
      · omega
      · have := (List.pairwise_cons.1 h2).1 z q; omega
theorem commitVals_once {c : GCommit} (h : c.fSigs.length ≤ 12) {ys : List Int} (hp : ys.Perm (sigVals c c.fSigs)) (hs : ys.Pairwise (· ≤ ·)) : once ys = commitVals c := by
  unfold commitVals
  rw [if_neg (by omega)]
  exact rising_eq (once_rising hs) (scanVals_rising c 99) fun x => by rw [once_mem, hp.mem_iff, scanVals_mem]
def commitOk (l : List GVal) (h : GHeader) (c : GCommit) : Bool :=
  valsOk l && headerOk h && decide (c.fHeight = h.fHeight) && eqB c.fId (headId h) && eqB (valsHash l) h.fVals && enough l (commitVals c)

def trustOk (t : GTrust) : Bool := inB t.fPeriod 1 100000 && inB t.fSlack 0 1000
def expires (t : GTrust) (time : Int) : Int := if trustOk t && isTime time then time + t.fPeriod else -1
def fresh (t : GTrust) (time now : Int) : Bool := trustOk t && isTime time && isTime now && decide (now ≤ time + t.fPeriod) && decide (time ≤ now + t.fSlack)
def anchorOk (a : GAnchor) : Bool := headerOk a.fHead && eqB (valsHash a.fNext) a.fHead.fNext
/-- A hash of eight bytes is no hash of validators that are none. -/
theorem hash_no {h : GHeader} {l : List GVal} (hh : headerOk h = true) (hl : valsOk l = false) : eqB (valsHash l) h.fNext = false := by
  rw [eqB_no, valsHash_no hl]
  intro e
  have := (headerOk_facts hh).n
  rw [← e] at this
  exact absurd this (by decide)
theorem anchor_vals {a : GAnchor} (h : anchorOk a = true) : headerOk a.fHead = true ∧ valsOk a.fNext = true := by
  unfold anchorOk at h
  rw [Bool.and_eq_true] at h
  refine ⟨h.1, ?_⟩
  cases e : valsOk a.fNext with
  | true => rfl
  | false => rw [hash_no h.1 e] at h; simp at h
def verified (t : GTrust) (a : GAnchor) (h : GHeader) (next : List GVal) (c : GCommit) (now : Int) : Int :=
  if (trustOk t && anchorOk a && headerOk h && isTime now) = false then 1
  else if a.fHead.fTime + t.fPeriod < now then 2
  else if now + t.fSlack < h.fTime then 3
  else if h.fHeight ≠ a.fHead.fHeight + 1 then 4
  else if h.fTime ≤ a.fHead.fTime then 5
  else if eqB h.fLast (headId a.fHead) = false then 6
  else if eqB h.fVals a.fHead.fNext = false then 7
  else if eqB h.fNext (valsHash next) = false then 8
  else if commitOk a.fNext h c = false then 9
  else 0
def verify (t : GTrust) (a : GAnchor) (h : GHeader) (next : List GVal) (c : GCommit) (now : Int) : GAnchor × Int :=
  if verified t a h next c now = 0 then (⟨h, next⟩, 0) else (a, verified t a h next c now)
end Go.Proofs.YtmdjnohdkhepjaaDoor
/- Stores, tables of peers, clients, as plain functions. -/
namespace Go.Proofs.YtmdjnohdkhepjaaDoor
set_option linter.unusedSimpArgs false
set_option linter.unusedVariables false
open Go.RowKit

/-! ### Stores -/
def linkOk (p h : GHeader) : Bool := decide (h.fHeight = p.fHeight + 1) && eqB h.fLast (headId p) && decide (p.fTime < h.fTime) && eqB h.fVals p.fNext
def storeOk (s : GStore) : Bool := adjOk headerOk linkOk s.fHeads && decide ((s.fHeads.length : Int) ≤ 20) && inB s.fSynced 0 s.fHeads.length
theorem adjAt_f {α : Type} {f : α → Bool} {g : α → α → Bool} {l : List α} {k : Nat} {v : α} (h : adjAt f g l k = true) (hv : l[k]? = some v) : f v = true := by
  unfold adjAt at h
  rw [hv] at h
  simp only [Bool.and_eq_true] at h
  exact h.1
theorem adjOk_iff {α : Type} {f : α → Bool} {g : α → α → Bool} {l : List α} : adjOk f g l = true ↔ (∀ (k : Nat) v, l[k]? = some v → f v = true) ∧ (∀ (k : Nat) u v, l[k]? = some u → l[k + 1]? = some v → g u v = true) := by
  constructor
  · intro h
    have key : ∀ (k : Nat) v, l[k]? = some v → adjAt f g l k = true := fun k v hk => allN_get h (List.getElem?_eq_some_iff.1 hk).1
    refine ⟨fun k v hk => adjAt_f (key k v hk) hk, fun k u v hu hv => ?_⟩
    have := key (k + 1) v hv
    rw [adjAt_succ hv hu, Bool.and_eq_true] at this
    exact this.2
  · rintro ⟨h1, h2⟩
    refine adjOk_end fun i hi => ?_
    obtain ⟨v, hv⟩ : ∃ v, l[i]? = some v := ⟨_, List.getElem?_eq_getElem hi⟩
    cases i with
    | zero => rw [adjAt_zero hv]; exact h1 0 v hv
    | succ j =>
      obtain ⟨u, hu⟩ : ∃ u, l[j]? = some u := ⟨_, List.getElem?_eq_getElem (by omega)⟩
      rw [adjAt_succ hv hu, h1 _ v hv, h2 j u v hu hv]
      rfl
theorem storeOk_iff {s : GStore} : storeOk s = true ↔ adjOk headerOk linkOk s.fHeads = true ∧ s.fHeads.length ≤ 20 ∧ 0 ≤ s.fSynced ∧ s.fSynced ≤ s.fHeads.length := by
  unfold storeOk
  rw [Bool.and_eq_true, Bool.and_eq_true, inB_iff, decide_eq_true_eq]
  constructor
  · rintro ⟨⟨a, b⟩, c, d⟩; exact ⟨a, by omega, c, d⟩
  · rintro ⟨a, b, c, d⟩; exact ⟨⟨a, by omega⟩, c, d⟩
def storeAdd (s : GStore) (h : GHeader) : GStore × Bool := if storeOk ⟨s.fHeads ++ [h], s.fSynced⟩ then (⟨s.fHeads ++ [h], s.fSynced⟩, true) else (s, false)
def headAt (s : GStore) (height : Int) : Int := idx (fun h => decide (h.fHeight = height)) s.fHeads
def header0 : GHeader := ⟨0, 0, ⟨#[]⟩, ⟨#[]⟩, ⟨#[]⟩, ⟨#[]⟩⟩
def storeGet (s : GStore) (height : Int) : GHeader × Bool := if storeOk s then (match s.fHeads.find? (fun h => decide (h.fHeight = height)) with | some h => (h, true) | none => (header0, false)) else (header0, false)

/-! ### Tables of peers -/
def peerIdx (l : List GPeer) (id : Int) : Int := idx (fun p => decide (p.fId = id)) l
def peerAt (l : List GPeer) (k : Nat) : Bool := match l[k]? with | none => true | some p => inB p.fId 1 99 && inB p.fUntil 0 1000320 && inB p.fBans 0 20 && decide (peerIdx l p.fId = (k : Int))
def tableOk (t : GTable) : Bool := allN (peerAt t.fPeers) t.fPeers.length && decide ((t.fPeers.length : Int) ≤ 6) && isTime t.fTurn
theorem tableOk_iff {t : GTable} : tableOk t = true ↔ (∀ (k : Nat) p, t.fPeers[k]? = some p → (1 ≤ p.fId ∧ p.fId ≤ 99) ∧ (0 ≤ p.fUntil ∧ p.fUntil ≤ 1000320) ∧ (0 ≤ p.fBans ∧ p.fBans ≤ 20) ∧ peerIdx t.fPeers p.fId = (k : Int)) ∧ t.fPeers.length ≤ 6 ∧ 0 ≤ t.fTurn ∧ t.fTurn ≤ 1000000 := by
  unfold tableOk isTime
  rw [Bool.and_eq_true, Bool.and_eq_true, inB_iff, decide_eq_true_eq]
  have h1 : allN (peerAt t.fPeers) t.fPeers.length = true ↔ ∀ (k : Nat) p, t.fPeers[k]? = some p → (1 ≤ p.fId ∧ p.fId ≤ 99) ∧ (0 ≤ p.fUntil ∧ p.fUntil ≤ 1000320) ∧ (0 ≤ p.fBans ∧ p.fBans ≤ 20) ∧ peerIdx t.fPeers p.fId = (k : Int) := by
    constructor
    · intro h k p hk
      have := allN_get h (List.getElem?_eq_some_iff.1 hk).1
      unfold peerAt at this
      rw [hk] at this
      simp only [Bool.and_eq_true, inB_iff, decide_eq_true_eq] at this
      obtain ⟨⟨⟨a, b⟩, c⟩, d⟩ := this
      exact ⟨a, b, c, d⟩
    · intro h
      refine allTo_end fun i hi => ?_
      obtain ⟨p, hp⟩ : ∃ p, t.fPeers[i]? = some p := ⟨_, List.getElem?_eq_getElem hi⟩
      obtain ⟨a, b, c, d⟩ := h i p hp
      unfold peerAt
      rw [hp]
      simp only [Bool.and_eq_true, inB_iff, decide_eq_true_eq]
      exact ⟨⟨⟨a, b⟩, c⟩, d⟩
  rw [h1]
  constructor
  · rintro ⟨⟨a, b⟩, c, d⟩; exact ⟨a, by omega, c, d⟩
  · rintro ⟨a, b, c, d⟩; exact ⟨⟨a, by omega⟩, c, d⟩
def peerSet (t : GTable) (id : Int) (f : GPeer → GPeer) : GTable := ⟨t.fPeers.modify (peerIdx t.fPeers id).toNat f, t.fTurn⟩
def peerGood (t : GTable) (id : Int) : GTable × Bool := if peerIdx t.fPeers id < 0 then (t, false) else (peerSet t id fun p => { p with fBans := 0 }, true)
def lieN (b : Nat) : Nat := min 320 (10 * 2 ^ b)
def lied (now : Int) (p : GPeer) : GPeer := { p with fUntil := now + (lieN p.fBans.toNat : Int), fBans := min 20 (p.fBans + 1) }
def peerLie (t : GTable) (id now : Int) : GTable × Bool := if peerIdx t.fPeers id < 0 ∨ isTime now = false then (t, false) else (peerSet t id (lied now), true)
def bans (l : List GPeer) (now : Int) : List Int := (l.filter fun p => decide (now < p.fUntil)).map (·.fId)
theorem bans_take {l : List GPeer} {now : Int} {k : Nat} {x : GPeer} (h : l[k]? = some x) : bans (l.take (k + 1)) now = if now < x.fUntil then bans (l.take k) now ++ [x.fId] else bans (l.take k) now := by
  unfold bans
  rw [List.take_add_one, h]
  by_cases e : now < x.fUntil <;> simp [e]
theorem bans_len (l : List GPeer) (now : Int) : (bans l now).length ≤ l.length := by
  unfold bans
  rw [List.length_map]
  exact List.length_filter_le _ _
/-- Of a right table: who is put off. -/
theorem bans_has {t : GTable} (ok : tableOk t = true) {id now : Int} {p : GPeer} (hi : 0 ≤ peerIdx t.fPeers id) (hp : t.fPeers[(peerIdx t.fPeers id).toNat]? = some p) : hasI (bans t.fPeers now) id = decide (now < p.fUntil) := by
  obtain ⟨p', q1, q2, -⟩ := idx_get hi
  have e : p' = p := by
    have := q1.symm.trans hp
    exact Option.some.inj this
  subst e
  have hid : p'.fId = id := by simpa using q2
  by_cases h : now < p'.fUntil
  · rw [decide_eq_true h]
    unfold hasI bans
    rw [List.any_eq_true]
    exact ⟨p'.fId, List.mem_map.2 ⟨p', List.mem_filter.2 ⟨List.mem_of_getElem? hp, by simpa using h⟩, rfl⟩, by simpa using hid⟩
  · rw [decide_eq_false h]
    unfold hasI bans
    rw [List.any_eq_false]
    intro y hy
    obtain ⟨z, hz, rfl⟩ := List.mem_map.1 hy
    obtain ⟨hz1, hz2⟩ := List.mem_filter.1 hz
    simp only [decide_eq_true_eq] at hz2 ⊢
    intro e
    obtain ⟨k, hk, rfl⟩ := List.getElem_of_mem hz1
    have h3 := (tableOk_iff.1 ok).1 k _ (List.getElem?_eq_getElem hk)
    have h4 := h3.2.2.2
    rw [e] at h4
    have h5 : (peerIdx t.fPeers id).toNat = k := by omega
    rw [h5, List.getElem?_eq_getElem hk] at hp
    cases hp
    exact h hz2
theorem hasI_perm {a b : List Int} (h : a.Perm b) (x : Int) : hasI a x = hasI b x := by
  unfold hasI
  cases e : b.any fun y => decide (y = x) with
  | true =>
    rw [List.any_eq_true] at *
    obtain ⟨y, h1, h2⟩ := e
    exact ⟨y, h.mem_iff.2 h1, h2⟩
  | false =>
    rw [List.any_eq_false] at *
    exact fun y hy => e y (h.mem_iff.1 hy)

/-! ### Clients -/
def lastHead (l : List GHeader) : Option GHeader := l[l.length - 1]?
def lightOk (c : GLight) : Bool := trustOk c.fTrust && anchorOk c.fAnchor && storeOk c.fStore && tableOk c.fPeers && inB c.fState 1 2 && isTime c.fNow && (match lastHead c.fStore.fHeads with | some h => headEq h c.fAnchor.fHead | none => false)
structure LightFacts (c : GLight) : Prop where
  t : trustOk c.fTrust = true
  a : anchorOk c.fAnchor = true
  s : storeOk c.fStore = true
  p : tableOk c.fPeers = true
  st : 1 ≤ c.fState ∧ c.fState ≤ 2
  n : isTime c.fNow = true
  h : lastHead c.fStore.fHeads = some c.fAnchor.fHead
theorem lightOk_iff {c : GLight} : lightOk c = true ↔ LightFacts c := by
  unfold lightOk
  simp only [Bool.and_eq_true, inB_iff]
  constructor
  · rintro ⟨⟨⟨⟨⟨⟨a, b⟩, c'⟩, d⟩, e⟩, f⟩, g⟩
    refine ⟨a, b, c', d, e, f, ?_⟩
    split at g
    · rename_i h hh; rw [hh, headEq_iff.1 g]
    · simp at g
  · rintro ⟨a, b, c', d, e, f, g⟩
    exact ⟨⟨⟨⟨⟨⟨a, b⟩, c'⟩, d⟩, e⟩, f⟩, by rw [g]; exact headEq_iff.2 rfl⟩
def lightTick (c : GLight) (n : Int) : GLight × Bool :=
  if inB n 1 1000 && isTime (c.fNow + n) then ({ c with fNow := c.fNow + n, fState := if c.fAnchor.fHead.fTime + c.fTrust.fPeriod < c.fNow + n then 2 else c.fState }, true) else (c, false)
def storePut (s : GStore) (h : GHeader) : GStore :=
  let l := (if s.fHeads.length = 20 then s.fHeads.drop 10 else s.fHeads) ++ [h]
  ⟨l, l.length⟩
def lightFeed (c : GLight) (peer : Int) (b : GBlock) : GLight × Int :=
  if c.fState ≠ 1 ∨ peerIdx c.fPeers.fPeers peer < 0 ∨ hasI (bans c.fPeers.fPeers c.fNow) peer then (c, 1)
  else if verified c.fTrust c.fAnchor b.fHead b.fNext b.fCommit c.fNow = 0 then
    ({ c with fAnchor := ⟨b.fHead, b.fNext⟩, fStore := storePut c.fStore b.fHead, fPeers := (peerGood c.fPeers peer).1 }, 0)
  else if 5 ≤ verified c.fTrust c.fAnchor b.fHead b.fNext b.fCommit c.fNow then
    ({ c with fPeers := (peerLie c.fPeers peer c.fNow).1 }, verified c.fTrust c.fAnchor b.fHead b.fNext b.fCommit c.fNow)
  else (c, verified c.fTrust c.fAnchor b.fHead b.fNext b.fCommit c.fNow)
def lightFall (c : GLight) : GLight := { c with fPeers := ⟨c.fPeers.fPeers.map fun p => { p with fUntil := 0, fBans := 0 }, 0⟩ }
def blockOk (b : GBlock) : Bool := valsOk b.fNext && eqB b.fHead.fNext (valsHash b.fNext) && commitOk b.fVals b.fHead b.fCommit
def valEq (a b : GVal) : Bool := decide (a.fId = b.fId) && decide (a.fPower = b.fPower)
def sameAtV (a b : List GVal) (i : Nat) : Bool := match a[i]?, b[i]? with | some x, some y => valEq x y | _, _ => true
def sameVals (a b : List GVal) : Bool := decide (a.length = b.length) && allN (sameAtV a b) a.length
theorem valEq_iff {a b : GVal} : valEq a b = true ↔ a = b := by
  unfold valEq
  cases a; cases b
  simp only [Bool.and_eq_true, decide_eq_true_eq, GVal.mk.injEq]
theorem sameVals_iff {a b : List GVal} : sameVals a b = true ↔ a = b := by
  unfold sameVals
  rw [Bool.and_eq_true, decide_eq_true_eq]
  constructor
  · rintro ⟨h1, h2⟩
    refine List.ext_getElem h1 fun i ha hb => ?_
    have := allN_get h2 ha
    unfold sameAtV at this
    rw [List.getElem?_eq_getElem ha, List.getElem?_eq_getElem hb] at this
    exact valEq_iff.1 this
  · rintro rfl
    refine ⟨rfl, allTo_end fun i hi => ?_⟩
    unfold sameAtV
    rw [List.getElem?_eq_getElem hi]
    exact valEq_iff.2 rfl
def blockLink (p b : GBlock) : Bool := decide (b.fHead.fHeight = p.fHead.fHeight + 1) && eqB b.fHead.fLast (headId p.fHead) && decide (p.fHead.fTime < b.fHead.fTime) && sameVals b.fVals p.fNext
def chainOk (l : List GBlock) : Bool := adjOk blockOk blockLink l
end Go.Proofs.YtmdjnohdkhepjaaDoor
/- Plain laws: what a client's next header means for its store. -/
namespace Go.Proofs.YtmdjnohdkhepjaaDoor

structure VerFacts (t : GTrust) (a : GAnchor) (h : GHeader) : Prop where
  hd : headerOk h = true
  ht : h.fHeight = a.fHead.fHeight + 1
  tm : a.fHead.fTime < h.fTime
  la : eqB h.fLast (headId a.fHead) = true
  vs : eqB h.fVals a.fHead.fNext = true
theorem verified_zero {t : GTrust} {a : GAnchor} {h : GHeader} {next : List GVal} {c : GCommit} {now : Int} (e : verified t a h next c now = 0) : VerFacts t a h := by
  unfold verified at e
  by_cases c1 : (trustOk t && anchorOk a && headerOk h && isTime now) = false
  · rw [if_pos c1] at e; exact absurd e (by decide)
  rw [if_neg c1] at e
  by_cases c2 : a.fHead.fTime + t.fPeriod < now
  · rw [if_pos c2] at e; exact absurd e (by decide)
  rw [if_neg c2] at e
  by_cases c3 : now + t.fSlack < h.fTime
  · rw [if_pos c3] at e; exact absurd e (by decide)
  rw [if_neg c3] at e
  by_cases c4 : h.fHeight ≠ a.fHead.fHeight + 1
  · rw [if_pos c4] at e; exact absurd e (by decide)
  rw [if_neg c4] at e
  by_cases c5 : h.fTime ≤ a.fHead.fTime
  · rw [if_pos c5] at e; exact absurd e (by decide)
  rw [if_neg c5] at e
  by_cases c6 : eqB h.fLast (headId a.fHead) = false
  · rw [if_pos c6] at e; exact absurd e (by decide)
  rw [if_neg c6] at e
  by_cases c7 : eqB h.fVals a.fHead.fNext = false
  · rw [if_pos c7] at e; exact absurd e (by decide)
  simp only [Bool.not_eq_false, Bool.and_eq_true] at c1 c6 c7
  exact ⟨c1.1.2, by simpa using c4, by omega, c6, c7⟩
theorem verified_anchor {t : GTrust} {a : GAnchor} {h : GHeader} {next : List GVal} {c : GCommit} {now : Int} (e : verified t a h next c now = 0) : anchorOk ⟨h, next⟩ = true := by
  have f := verified_zero e
  unfold verified at e
  by_cases c8 : eqB h.fNext (valsHash next) = false
  · repeat' split at e
    all_goals first
      | (exact absurd e (by decide))
      | contradiction
  unfold anchorOk
  simp only [Bool.not_eq_false] at c8
  dsimp only
  rw [f.hd, eqB_comm, c8]
  rfl
theorem verified_range (t : GTrust) (a : GAnchor) (h : GHeader) (next : List GVal) (c : GCommit) (now : Int) : 0 ≤ verified t a h next c now ∧ verified t a h next c now ≤ 9 := by
  unfold verified
  repeat' split
  all_goals omega
theorem VerFacts.link {t : GTrust} {a : GAnchor} {h : GHeader} (f : VerFacts t a h) : linkOk a.fHead h = true := by
  unfold linkOk
  rw [decide_eq_true f.ht, decide_eq_true f.tm, f.la, f.vs]
  rfl
theorem adjOk_snoc {α : Type} {f : α → Bool} {g : α → α → Bool} {l : List α} {x : α} (h : adjOk f g l = true) (hx : f x = true) (hl : ∀ y, l[l.length - 1]? = some y → g y x = true) : adjOk f g (l ++ [x]) = true := by
  obtain ⟨h1, h2⟩ := adjOk_iff.1 h
  refine adjOk_iff.2 ⟨fun k v q => ?_, fun k u v q1 q2 => ?_⟩
  · rcases Nat.lt_or_ge k l.length with r | r
    · rw [List.getElem?_append_left r] at q; exact h1 k v q
    · rw [List.getElem?_append_right r] at q
      obtain ⟨i, hi⟩ : ∃ i, i = k - l.length := ⟨_, rfl⟩
      rw [← hi] at q
      cases i with
      | zero => simp at q; subst q; exact hx
      | succ i => simp at q
  · rcases Nat.lt_or_ge (k + 1) l.length with r | r
    · rw [List.getElem?_append_left (by omega)] at q1
      rw [List.getElem?_append_left r] at q2
      exact h2 k u v q1 q2
    · rw [List.getElem?_append_right r] at q2
      obtain ⟨i, hi⟩ : ∃ i, i = k + 1 - l.length := ⟨_, rfl⟩
      rw [← hi] at q2
      cases i with
      | zero =>
        simp at q2
        subst q2
        rw [List.getElem?_append_left (by omega)] at q1
        exact hl u (by rw [show l.length - 1 = k by omega]; exact q1)
      | succ i => simp at q2
theorem adjOk_drop {α : Type} {f : α → Bool} {g : α → α → Bool} {l : List α} (n : Nat) (h : adjOk f g l = true) : adjOk f g (l.drop n) = true := by
  obtain ⟨h1, h2⟩ := adjOk_iff.1 h
  refine adjOk_iff.2 ⟨fun k v q => ?_, fun k u v q1 q2 => ?_⟩
  · rw [List.getElem?_drop] at q; exact h1 _ v q
  · rw [List.getElem?_drop] at q1 q2; exact h2 (n + k) u v q1 q2
/-- A store may be shortened. -/
theorem store_drop {s : GStore} (ok : storeOk s = true) (h20 : s.fHeads.length = 20) : storeOk ⟨s.fHeads.drop 10, max 0 (s.fSynced - 10)⟩ = true := by
  obtain ⟨h1, h2, h3, h4⟩ := storeOk_iff.1 ok
  refine storeOk_iff.2 ⟨adjOk_drop 10 h1, ?_, ?_, ?_⟩ <;> (try simp only [List.length_drop]) <;> omega
theorem store_snoc {l : List GHeader} {sy : Int} {a h : GHeader} (ok : storeOk ⟨l, sy⟩ = true) (hn : l.length < 20) (hl : lastHead l = some a) (hh : headerOk h = true) (hk : linkOk a h = true) : storeOk ⟨l ++ [h], sy⟩ = true := by
  obtain ⟨h1, h2, h3, h4⟩ := storeOk_iff.1 ok
  dsimp only at h1 h2 h3 h4
  refine storeOk_iff.2 ⟨adjOk_snoc h1 hh fun y hy => ?_, ?_, h3, ?_⟩
  · unfold lastHead at hl
    rw [hl] at hy
    cases hy
    exact hk
  · simp only [List.length_append, List.length_cons, List.length_nil]; omega
  · simp only [List.length_append, List.length_cons, List.length_nil]; omega
theorem last_drop {l : List GHeader} {a : GHeader} (h20 : l.length = 20) (hl : lastHead l = some a) : lastHead (l.drop 10) = some a := by
  unfold lastHead at *
  rw [List.getElem?_drop, List.length_drop, ← hl]
  congr 1
  omega
end Go.Proofs.YtmdjnohdkhepjaaDoor
