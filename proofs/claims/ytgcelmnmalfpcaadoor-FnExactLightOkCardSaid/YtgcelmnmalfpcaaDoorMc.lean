/- Validators, headers, votes, commits, anchors, as plain functions. -/
import Derived.Test.YtgcelmnmalfpcaaDoorMg
import Derived.Test.YtgcelmnmalfpcaaDoorPr0
import Derived.Test.YtgcelmnmalfpcaaDoorS1
namespace Go.Proofs.YtgcelmnmalfpcaaDoor
open Go.RowKit

def vOk (v : GVal) : Bool := inB v.fId 1 99 && inB v.fPower 1 1000
def vLt (u v : GVal) : Bool := decide (u.fId < v.fId)
theorem valsOk_def (l : List GVal) : valsOk l = (adjOk vOk vLt l && inB l.length 1 7) := rfl
def powSum (p : GVal → Bool) : List GVal → Int
  | [] => 0
  | v :: r => (if p v then v.fPower else 0) + powSum p r
theorem powSum_app {p : GVal → Bool} : ∀ (a b : List GVal), powSum p (a ++ b) = powSum p a + powSum p b
  | [], b => by simp [powSum]
  | v :: a, b => by simp only [List.cons_append, powSum, powSum_app a b]; omega
theorem powSum_take {p : GVal → Bool} {l : List GVal} {k : Nat} {x : GVal} (h : l[k]? = some x) : powSum p (l.take (k + 1)) = powSum p (l.take k) + (if p x then x.fPower else 0) := by
  rw [List.take_add_one, h, powSum_app]
  simp [powSum]
theorem valsOk_iff {l : List GVal} : valsOk l = true ↔ (∀ (k : Nat) v, l[k]? = some v → vOk v = true) ∧ (∀ (k : Nat) u v, l[k]? = some u → l[k + 1]? = some v → u.fId < v.fId) ∧ 1 ≤ l.length ∧ l.length ≤ 7 := by
  rw [valsOk_def, Bool.and_eq_true, inB_iff]
  have h1 : adjOk vOk vLt l = true ↔ (∀ (k : Nat) v, l[k]? = some v → vOk v = true) ∧ (∀ (k : Nat) u v, l[k]? = some u → l[k + 1]? = some v → u.fId < v.fId) := by
    constructor
    · intro h
      have key : ∀ (k : Nat) v, l[k]? = some v → adjAt vOk vLt l k = true := fun k v hk => allN_get h (List.getElem?_eq_some_iff.1 hk).1
      refine ⟨fun k v hk => ?_, fun k u v hu hv => ?_⟩
      · have := key k v hk
        unfold adjAt at this
        rw [hk] at this
        simp only [Bool.and_eq_true] at this
        exact this.1
      · have := key (k + 1) v hv
        rw [adjAt_succ hv hu, Bool.and_eq_true] at this
        exact of_decide_eq_true this.2
    · rintro ⟨h1, h2⟩
      refine adjOk_end fun i hi => ?_
      obtain ⟨v, hv⟩ : ∃ v, l[i]? = some v := ⟨_, List.getElem?_eq_getElem hi⟩
      cases i with
      | zero => rw [adjAt_zero hv]; exact h1 0 v hv
      | succ j =>
        obtain ⟨u, hu⟩ : ∃ u, l[j]? = some u := ⟨_, List.getElem?_eq_getElem (by omega)⟩
        rw [adjAt_succ hv hu, h1 _ v hv, Bool.true_and]
        exact decide_eq_true (h2 j u v hu hv)
  rw [h1]
  constructor
  · rintro ⟨⟨a, b⟩, c, d⟩; exact ⟨a, b, by omega, by omega⟩
  · rintro ⟨a, b, c, d⟩; exact ⟨⟨a, b⟩, by omega, by omega⟩
theorem vOk_facts {v : GVal} (h : vOk v = true) : 1 ≤ v.fId ∧ v.fId ≤ 99 ∧ 1 ≤ v.fPower ∧ v.fPower ≤ 1000 := by
  unfold vOk at h
  rw [Bool.and_eq_true, inB_iff, inB_iff] at h
  omega
theorem powSum_bd {p : GVal → Bool} : ∀ {l : List GVal}, (∀ v ∈ l, vOk v = true) → 0 ≤ powSum p l ∧ powSum p l ≤ 1000 * l.length
  | [], _ => by simp [powSum]
  | v :: r, h => by
    have h1 := vOk_facts (h v (List.mem_cons_self ..))
    have h2 := powSum_bd (p := p) (l := r) fun x hx => h x (List.mem_cons_of_mem _ hx)
    simp only [powSum, List.length_cons]
    split <;> omega
theorem vals_all {l : List GVal} (h : valsOk l = true) : ∀ v ∈ l, vOk v = true := fun v hv => by
  obtain ⟨k, hk, rfl⟩ := List.getElem_of_mem hv
  exact (valsOk_iff.1 h).1 k _ (List.getElem?_eq_getElem hk)
theorem powSum_k {p : GVal → Bool} {l : List GVal} (h : valsOk l = true) (k : Nat) : 0 ≤ powSum p (l.take k) ∧ powSum p (l.take k) ≤ 7000 := by
  have h1 := powSum_bd (p := p) (l := l.take k) fun v hv => vals_all h v (List.mem_of_mem_take hv)
  have h2 := (valsOk_iff.1 h).2.2.2
  have h3 : (l.take k).length ≤ 7 := by rw [List.length_take]; omega
  omega
def powerOf (l : List GVal) : Int := if valsOk l then powSum (fun _ => true) l else 0
def hasI (l : List Int) (x : Int) : Bool := l.any fun y => decide (y = x)
def enough (l : List GVal) (ids : List Int) : Bool := valsOk l && decide (2 * powSum (fun _ => true) l < 3 * powSum (fun v => hasI ids v.fId) l)
def catF {α : Type} (f : α → ByteArray) (s : ByteArray) : List α → ByteArray
  | [] => s
  | x :: r => catF f (s ++ f x) r
theorem catF_app {α : Type} {f : α → ByteArray} : ∀ (s : ByteArray) (a b : List α), catF f s (a ++ b) = catF f (catF f s a) b
  | s, [], b => rfl
  | s, x :: a, b => by simp only [List.cons_append, catF]; exact catF_app _ a b
theorem catF_take {α : Type} {f : α → ByteArray} {s : ByteArray} {l : List α} {k : Nat} {x : α} (h : l[k]? = some x) : catF f s (l.take (k + 1)) = catF f s (l.take k) ++ f x := by
  rw [List.take_add_one, h, catF_app]
  rfl
theorem catF_size {α : Type} {f : α → ByteArray} {n : Nat} (hf : ∀ x, (f x).size ≤ n) : ∀ (s : ByteArray) (l : List α), (catF f s l).size ≤ s.size + n * l.length
  | s, [] => by simp [catF]
  | s, x :: r => by
    have h1 := catF_size hf (s ++ f x) r
    have h2 := hf x
    rw [ByteArray.size_append] at h1
    simp only [catF, List.length_cons]
    rw [Nat.mul_add]
    omega
def showVal (v : GVal) : ByteArray := varS v.fId ++ varS v.fPower
theorem showVal_size (v : GVal) : (showVal v).size ≤ 16 := by
  have h1 := varS_size v.fId
  have h2 := varS_size v.fPower
  unfold showVal
  rw [ByteArray.size_append]
  omega
def showVals (l : List GVal) : ByteArray := if valsOk l then catF showVal (varS l.length) l else ⟨#[]⟩
theorem showVals_size (l : List GVal) : (showVals l).size ≤ 200 := by
  unfold showVals
  split
  · rename_i h
    have h1 := catF_size (f := showVal) showVal_size (varS l.length) l
    have h2 := varS_size l.length
    have h3 := (valsOk_iff.1 h).2.2.2
    omega
  · exact Nat.zero_le _
def valsHash (l : List GVal) : ByteArray := if valsOk l then short (showVals l) else ⟨#[]⟩
theorem valsHash_ok {l : List GVal} (h : valsOk l = true) : (valsHash l).size = 8 := by unfold valsHash; rw [if_pos h]; exact short_size _
theorem valsHash_no {l : List GVal} (h : valsOk l = false) : valsHash l = ⟨#[]⟩ := by unfold valsHash; rw [h]; rfl
theorem valsHash_le (l : List GVal) : (valsHash l).size ≤ 8 := by
  cases h : valsOk l
  · rw [valsHash_no h]; exact Nat.zero_le _
  · rw [valsHash_ok h]; exact Nat.le_refl _

def headerOk (h : GHeader) : Bool :=
  isHeight h.fHeight && isTime h.fTime && decide ((h.fVals.size : Int) = 8) && decide ((h.fNext.size : Int) = 8) && decide ((h.fLast.size : Int) = if h.fHeight = 1 then 0 else 8) && decide ((h.fData.size : Int) ≤ 20)
def showHeader (h : GHeader) : ByteArray := if headerOk h then varS h.fHeight ++ varS h.fTime ++ sizedS h.fLast ++ sizedS h.fVals ++ sizedS h.fNext ++ sizedS h.fData else ⟨#[]⟩
structure HeadFacts (h : GHeader) : Prop where
  h1 : 1 ≤ h.fHeight
  h2 : h.fHeight ≤ 1000000
  t0 : 0 ≤ h.fTime
  t1 : h.fTime ≤ 1000000
  v : h.fVals.size = 8
  n : h.fNext.size = 8
  l : h.fLast.size ≤ 8
  l1 : h.fHeight = 1 → h.fLast.size = 0
  l2 : h.fHeight ≠ 1 → h.fLast.size = 8
  d : h.fData.size ≤ 20
theorem headerOk_facts {h : GHeader} (k : headerOk h = true) : HeadFacts h := by
  unfold headerOk isHeight isTime at k
  simp only [Bool.and_eq_true, inB_iff, decide_eq_true_eq] at k
  obtain ⟨⟨⟨⟨⟨⟨a, b⟩, c, d⟩, e⟩, f⟩, g⟩, i⟩ := k
  refine ⟨a, b, c, d, by omega, by omega, ?_, fun q => ?_, fun q => ?_, by omega⟩
  · split at g <;> omega
  · rw [if_pos q] at g; omega
  · rw [if_neg q] at g; omega
theorem showHeader_size (h : GHeader) : (showHeader h).size ≤ 200 := by
  unfold showHeader
  split
  · rename_i k
    have f := headerOk_facts k
    have := f.v; have := f.n; have := f.l; have := f.d
    have := varS_size h.fHeight; have := varS_size h.fTime; have := varS_size h.fLast.size; have := varS_size h.fVals.size; have := varS_size h.fNext.size; have := varS_size h.fData.size
    unfold sizedS
    simp only [ByteArray.size_append]
    omega
  · exact Nat.zero_le _
def headId (h : GHeader) : ByteArray := if headerOk h then short (showHeader h) else ⟨#[]⟩
theorem headId_ok {h : GHeader} (k : headerOk h = true) : (headId h).size = 8 := by unfold headId; rw [if_pos k]; exact short_size _
theorem headId_le (h : GHeader) : (headId h).size ≤ 8 := by
  unfold headId
  split
  · rw [short_size]; exact Nat.le_refl _
  · exact Nat.zero_le _
def headEq (a b : GHeader) : Bool := decide (a.fHeight = b.fHeight) && (decide (a.fTime = b.fTime) && (eqB a.fLast b.fLast && (eqB a.fVals b.fVals && (eqB a.fNext b.fNext && eqB a.fData b.fData))))
theorem headEq_iff {a b : GHeader} : headEq a b = true ↔ a = b := by
  unfold headEq
  cases a; cases b
  simp only [Bool.and_eq_true, decide_eq_true_eq, eqB_iff, GHeader.mk.injEq]

def digest (v : GVote) : ByteArray := if voteOk v then varS v.fHeight ++ varS v.fRound ++ varS v.fStep ++ v.fId else ⟨#[]⟩
theorem isId_le {s : ByteArray} (h : isId s = true) : s.size ≤ 8 := by
  unfold isId at h
  rw [Bool.or_eq_true, decide_eq_true_eq, eqB_iff] at h
  rcases h with h | rfl
  · omega
  · exact Nat.zero_le _
theorem digest_size (v : GVote) : (digest v).size ≤ 40 := by
  unfold digest
  split
  · rename_i h
    unfold voteOk at h
    simp only [Bool.and_eq_true] at h
    have := isId_le h.1.2
    have := varS_size v.fHeight; have := varS_size v.fRound; have := varS_size v.fStep
    simp only [ByteArray.size_append]
    omega
  · exact Nat.zero_le _
def signAs (val : Int) (d : ByteArray) : ByteArray := if isVal val then short (⟨#[4]⟩ ++ fx val.toNat 2 ++ d) else ⟨#[]⟩
theorem signAs_le (val : Int) (d : ByteArray) : (signAs val d).size ≤ 8 := by
  unfold signAs
  split
  · rw [short_size]; exact Nat.le_refl _
  · exact Nat.zero_le _
def signed (v : GVote) (sig : ByteArray) : Bool := voteOk v && eqB sig (signAs v.fVal (digest v))
def cVote (c : GCommit) (val : Int) : GVote := ⟨c.fHeight, c.fRound, 2, c.fId, val⟩
def sigOk (c : GCommit) (s : GCSig) : Bool := signed (cVote c s.fVal) s.fSig
theorem sigOk_val {c : GCommit} {s : GCSig} (h : sigOk c s = true) : 1 ≤ s.fVal ∧ s.fVal ≤ 99 := by
  unfold sigOk signed voteOk cVote isVal at h
  simp only [Bool.and_eq_true, inB_iff] at h
  omega
/-- Who has signed, in the order of the signatures. -/
def sigVals (c : GCommit) (l : List GCSig) : List Int := (l.filter (sigOk c)).map (·.fVal)
theorem sigVals_take {c : GCommit} {l : List GCSig} {k : Nat} {x : GCSig} (h : l[k]? = some x) : sigVals c (l.take (k + 1)) = if sigOk c x then sigVals c (l.take k) ++ [x.fVal] else sigVals c (l.take k) := by
  unfold sigVals
  rw [List.take_add_one, h]
  cases e : sigOk c x <;> simp [e]
def sigAt (c : GCommit) (v : Int) : Bool := c.fSigs.any fun s => decide (s.fVal = v) && sigOk c s
/-- Who has signed a commit, in rising order. -/
def scanVals (c : GCommit) (n : Nat) : List Int := ((List.range n).map fun k => ((k : Nat) : Int) + 1).filter (sigAt c)
def commitVals (c : GCommit) : List Int := if 12 < c.fSigs.length then [] else scanVals c 99
theorem scanVals_succ {c : GCommit} {n : Nat} : scanVals c (n + 1) = if sigAt c ((n : Int) + 1) then scanVals c n ++ [(n : Int) + 1] else scanVals c n := by
  unfold scanVals
  rw [List.range_succ]
  simp only [List.map_append, List.map_cons, List.map_nil, List.filter_append]
  cases e : sigAt c ((n : Int) + 1) <;> simp [e]
theorem scanVals_len (c : GCommit) (n : Nat) : (scanVals c n).length ≤ n := by
  unfold scanVals
  exact Nat.le_trans (List.length_filter_le _ _) (by simp)
theorem commitVals_len (c : GCommit) : (commitVals c).length ≤ 99 := by
  unfold commitVals
  split
  · simp
  · exact scanVals_len c 99
/-- Rising lists of the same numbers are the same. -/
theorem rising_eq : ∀ {a b : List Int}, a.Pairwise (· < ·) → b.Pairwise (· < ·) → (∀ x, x ∈ a ↔ x ∈ b) → a = b
  | [], [], _, _, _ => rfl
  | [], y :: b, _, _, h => absurd ((h y).2 (List.mem_cons_self ..)) (by simp)
  | x :: a, [], _, _, h => absurd ((h x).1 (List.mem_cons_self ..)) (by simp)
  | x :: a, y :: b, ha, hb, h => by
    obtain ⟨ha1, ha2⟩ := List.pairwise_cons.1 ha
    obtain ⟨hb1, hb2⟩ := List.pairwise_cons.1 hb
    have e : x = y := by
      rcases List.mem_cons.1 ((h x).1 (List.mem_cons_self ..)) with q | q
      · exact q
      · rcases List.mem_cons.1 ((h y).2 (List.mem_cons_self ..)) with q' | q'
        · exact q'.symm
        · have := hb1 x q; have := ha1 y q'; omega
    subst e
    congr 1
    refine rising_eq ha2 hb2 fun z => ⟨fun hz => ?_, fun hz => ?_⟩
    · rcases List.mem_cons.1 ((h z).1 (List.mem_cons_of_mem _ hz)) with rfl | q
      · have := ha1 _ hz; omega
      · exact q
    · rcases List.mem_cons.1 ((h z).2 (List.mem_cons_of_mem _ hz)) with rfl | q
      · have := hb1 _ hz; omega
      · exact q
theorem scanVals_rising (c : GCommit) (n : Nat) : (scanVals c n).Pairwise (· < ·) := by
  unfold scanVals
  refine List.Pairwise.filter _ ?_
  rw [List.pairwise_map]
  exact List.Pairwise.imp (fun h => by omega) List.pairwise_lt_range
theorem scanVals_mem {c : GCommit} {x : Int} : x ∈ scanVals c 99 ↔ x ∈ sigVals c c.fSigs := by
  unfold scanVals sigVals
  simp only [List.mem_filter, List.mem_map, List.mem_range, sigAt, List.any_eq_true, Bool.and_eq_true, decide_eq_true_eq]
  constructor
  · rintro ⟨_, s, h1, h2, h3⟩; exact ⟨s, ⟨h1, h3⟩, h2⟩
  · rintro ⟨s, ⟨h1, h3⟩, rfl⟩
    have := sigOk_val h3
    exact ⟨⟨(s.fVal - 1).toNat, by omega, by omega⟩, s, h1, rfl, h3⟩
/-- What is there once, out of a list that does not fall. -/
def once : List Int → List Int
  | [] => []
  | [x] => [x]
  | x :: y :: r => if x = y then once (y :: r) else x :: once (y :: r)
theorem once_mem {z : Int} : ∀ {l : List Int}, z ∈ once l ↔ z ∈ l
  | [] => by simp [once]
  | [x] => by simp [once]
  | x :: y :: r => by
    have ih := once_mem (z := z) (l := y :: r)
    rw [once]
    split
    · rename_i e; subst e; rw [ih]; simp
    · rw [List.mem_cons, ih]; simp
theorem once_rising : ∀ {l : List Int}, l.Pairwise (· ≤ ·) → (once l).Pairwise (· < ·)
  | [], _ => .nil
  | [x], _ => by simp [once]
  | x :: y :: r, h => by
    obtain ⟨h1, h2⟩ := List.pairwise_cons.1 h
    have ih := once_rising (l := y :: r) h2
    rw [once]
    split
    · exact ih
    · rename_i e
      refine List.pairwise_cons.2 ⟨fun z hz => ?_, ih⟩
      have hz' := once_mem.1 hz
      have h3 := h1 y (List.mem_cons_self ..)
      rcases List.mem_cons.1 hz' with rfl | q
      · omega
      · have := (List.pairwise_cons.1 h2).1 z q; omega
theorem commitVals_once {c : GCommit} (h : c.fSigs.length ≤ 12) {ys : List Int} (hp : ys.Perm (sigVals c c.fSigs)) (hs : ys.Pairwise (· ≤ ·)) : once ys = commitVals c := by
  unfold commitVals
  rw [if_neg (by omega)]
  exact rising_eq (once_rising hs) (scanVals_rising c 99) fun x => by rw [once_mem, hp.mem_iff, scanVals_mem]
def commitOk (l : List GVal) (h : GHeader) (c : GCommit) : Bool :=
  valsOk l && headerOk h && decide (c.fHeight = h.fHeight) && eqB c.fId (headId h) && eqB (valsHash l) h.fVals && enough l (commitVals c)

def trustOk (t : GTrust) : Bool := inB t.fPeriod 1 100000 && inB t.fSlack 0 1000
def expires (t : GTrust) (time : Int) : Int := if trustOk t && isTime time then time + t.fPeriod else -1
def fresh (t : GTrust) (time now : Int) : Bool := trustOk t && isTime time && isTime now && decide (now ≤ time + t.fPeriod) && decide (time ≤ now + t.fSlack)
def anchorOk (a : GAnchor) : Bool := headerOk a.fHead && eqB (valsHash a.fNext) a.fHead.fNext
/-- A hash of eight bytes is no hash of validators that are none. -/
theorem hash_no {h : GHeader} {l : List GVal} (hh : headerOk h = true) (hl : valsOk l = false) : eqB (valsHash l) h.fNext = false := by
  rw [eqB_no, valsHash_no hl]
  intro e
  have := (headerOk_facts hh).n
  rw [← e] at this
  exact absurd this (by decide)
theorem anchor_vals {a : GAnchor} (h : anchorOk a = true) : headerOk a.fHead = true ∧ valsOk a.fNext = true := by
  unfold anchorOk at h
  rw [Bool.and_eq_true] at h
  refine ⟨h.1, ?_⟩
  cases e : valsOk a.fNext with
  | true => rfl
  | false => rw [hash_no h.1 e] at h; simp at h
def verified (t : GTrust) (a : GAnchor) (h : GHeader) (next : List GVal) (c : GCommit) (now : Int) : Int :=
  if (trustOk t && anchorOk a && headerOk h && isTime now) = false then 1
  else if a.fHead.fTime + t.fPeriod < now then 2
  else if now + t.fSlack < h.fTime then 3
  else if h.fHeight ≠ a.fHead.fHeight + 1 then 4
  else if h.fTime ≤ a.fHead.fTime then 5
  else if eqB h.fLast (headId a.fHead) = false then 6
  else if eqB h.fVals a.fHead.fNext = false then 7
  else if eqB h.fNext (valsHash next) = false then 8
  else if commitOk a.fNext h c = false then 9
  else 0
def verify (t : GTrust) (a : GAnchor) (h : GHeader) (next : List GVal) (c : GCommit) (now : Int) : GAnchor × Int :=
  if verified t a h next c now = 0 then (⟨h, next⟩, 0) else (a, verified t a h next c now)
end Go.Proofs.YtgcelmnmalfpcaaDoor
