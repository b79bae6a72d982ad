/- Three nodes that have just begun decide, all on the same value (plain functions). -/
import Derived.Test.YtcbknmnlgoeniaaMn
namespace Go.Proofs.Ytcbknmnlgoeniaa
set_option linter.unusedSimpArgs false
set_option linter.unusedVariables false
open Go.RowKit

/-! ### Three nodes that have just begun decide -/
def netOkAt (x : GNet) (i : Nat) : Bool := match x.fNodes[i]? with | none => true | some n => nodeOk n && decide (n.fMe = (i : Int) + 1) && n.fMsgs.all (fun m => !decide (m.fFrom ≤ 3) || hasM x.fPool m)
def netOk (x : GNet) : Bool := decide (x.fNodes.length = 3) && (msgsOk x.fPool && decide ((x.fPool.length : Int) ≤ 150)) && allN (netOkAt x) 3
def net0 : GNet := ⟨[], []⟩
def netDoC (x : GNet) (a : GNetAct) : GNet × Bool := if netOk x then netDo x a else (net0, false)
def mP : GNMsg := ⟨1, 0, 11, -1, 1⟩
def mV (k i : Int) : GNMsg := ⟨k, 0, 11, -1, i⟩
/-- A message of the first round: the proposal, a vote for it, or one of the fourth node. -/
structure UM (m : GNMsg) : Prop where
  ok : MOk m
  r0 : m.fRound = 0
  k1 : m.fKind = 1 → m = mP
  kv : m.fKind ≠ 1 → m.fFrom ≠ 4 → m = mV m.fKind m.fFrom
theorem mP_um : UM mP := ⟨msgOk_iff.1 (by decide), rfl, fun _ => rfl, fun h => absurd rfl h⟩
theorem mV_um {k i : Int} (hk : k = 2 ∨ k = 3) (hi : 1 ≤ i ∧ i ≤ 4) : UM (mV k i) :=
  ⟨⟨⟨by show (0 : Int) ≤ 0; omega, by show (0 : Int) ≤ 11; omega⟩, hi, .inr hk, fun q => by have q' : k = 1 := q; omega, fun _ => ⟨⟨by show (0 : Int) ≤ 11; omega, by show (11 : Int) ≤ 20; omega⟩, rfl⟩⟩, rfl, fun q => by have q' : k = 1 := q; omega, fun _ _ => rfl⟩
theorem nodup_le : ∀ {l u : List Int}, l.Nodup → (∀ x ∈ l, x ∈ u) → l.length ≤ u.length
  | [], _, _, _ => by simp
  | a :: r, u, h, hs => by
    rw [List.nodup_cons] at h
    have ha := hs a (by simp)
    have h2 : r.length ≤ (u.erase a).length := nodup_le h.2 fun x hx => by
      have hne : x ≠ a := fun e => h.1 (e ▸ hx)
      exact (List.mem_erase_of_ne hne).2 (hs x (by simp [hx]))
    rw [List.length_erase_of_mem ha] at h2
    have := List.length_pos_of_mem ha
    rw [List.length_cons]
    omega
theorem le_nodup {l u : List Int} (hl : l.Nodup) (h : ∀ x ∈ l, x ∈ u) : l.length ≤ u.length := nodup_le hl h
theorem cntM_ge {l : List GNMsg} {k r v : Int} {fs : List Int} (hf : fs.Nodup) (h : ∀ x ∈ fs, ∃ m ∈ l, isV k r v m = true ∧ m.fFrom = x) : (fs.length : Int) ≤ cntM l k r v := by
  unfold cntM
  have := le_nodup hf (u := froms (isV k r v) l) fun x hx => froms_mem.2 (h x hx)
  omega
theorem cntM_mono {l u : List GNMsg} {k r v : Int} (h : ∀ m ∈ l, m ∈ u) : cntM l k r v ≤ cntM u k r v :=
  cntM_ge (fs := froms (isV k r v) l) froms_nodup fun x hx => by
    obtain ⟨m, h1, h2⟩ := froms_mem.1 hx
    exact ⟨m, h m h1, h2⟩
theorem best_none {l : List GNMsg} (h : best l = none) : ∀ m ∈ l, ¬ (m.fKind = 1 ∧ 3 ≤ cntM l 3 m.fRound m.fVal) := by
  have key : ∀ (u : List GNMsg) (b : Option GNMsg), u.foldl (bestF l) b = none → b = none ∧ ∀ m ∈ u, ¬ (m.fKind = 1 ∧ 3 ≤ cntM l 3 m.fRound m.fVal) := by
    intro u
    induction u with
    | nil => exact fun b hb => ⟨hb, by simp⟩
    | cons y r ih =>
      intro b hb
      obtain ⟨h1, h2⟩ := ih _ hb
      unfold bestF at h1
      split at h1
      · split at h1
        · cases h1
        · split at h1 <;> cases h1
      · rename_i hy
        refine ⟨h1, fun m hm => ?_⟩
        rcases List.mem_cons.1 hm with rfl | hm
        · exact hy
        · exact h2 m hm
  exact (key l none h).2
theorem propose_none {l : List GNMsg} {r : Int} {p : GNMsg → Bool} (h : propose l r p = none) : ∀ m ∈ l, m.fKind = 1 → m.fRound = r → p m = false := by
  unfold propose at h
  rw [List.find?_eq_none] at h
  intro m hm h1 h2
  have := h m hm
  simp only [isProp, h1, h2, decide_true, Bool.true_and, Bool.not_eq_true] at this
  exact this
theorem propose_ne {l : List GNMsg} {r : Int} {p : GNMsg → Bool} {m : GNMsg} (hm : m ∈ l) (h1 : m.fKind = 1) (h2 : m.fRound = r) (h3 : p m = true) : propose l r p ≠ none := fun e => by
  rw [propose_none e m hm h1 h2] at h3
  cases h3
/-- A node in the first round, while it acts: what it holds stands in the pool, or it has just sent it. -/
structure LA (pool : List GNMsg) (i : Int) (a : Acting) : Prop where
  ok : NOk a.1
  me : a.1.fMe = i
  rd : a.1.fRound = 0
  i3 : 1 ≤ i ∧ i ≤ 3
  ms : ∀ m ∈ a.1.fMsgs, m ∈ pool ∨ m ∈ a.2
  sn : ∀ m ∈ a.2, UM m ∧ m.fFrom = i
  s2 : 2 ≤ a.1.fStep → mV 2 i ∈ pool ∨ mV 2 i ∈ a.2
  s3 : a.1.fStep = 3 → mV 3 i ∈ pool ∨ mV 3 i ∈ a.2
  lk : a.1.fLockRound = -1 ∨ a.1.fLockVal = 11
  pk : a.1.fPolka = 0 → a.1.fStep = 3
  de : a.1.fDecided = 0 ∨ (a.1.fDecided = 11 ∧ 3 ≤ cntM a.1.fMsgs 3 0 11)
theorem LA.um {pool : List GNMsg} {i : Int} {a : Acting} (h : LA pool i a) (hp : ∀ m ∈ pool, UM m) : ∀ m ∈ a.1.fMsgs, UM m := fun m hm => (h.ms m hm).elim (hp m) fun q => (h.sn m q).1
theorem la_send {pool : List GNMsg} {i k s : Int} {a : Acting} (h : LA pool i a) (hd : a.1.fDecided = 0) (hk : k = s) (hs : s = 2 ∨ s = 3) (hs2 : s = 3 → 2 ≤ a.1.fStep) (hpk : a.1.fPolka = 0 → s = 3) (hlk : a.1.fLockRound = -1 ∨ a.1.fLockVal = 11) : LA pool i (stepTo (sendM a (sendMsg a k 11 (-1))) s) := by
  subst hk
  have em : sendMsg a k 11 (-1) = mV k i := by
    unfold sendMsg mV
    rw [h.me, h.rd]
  rw [em]
  have hok : MOk (mV k i) := (mV_um hs (by have := h.i3; omega)).ok
  have g := sendM_grow (m := mV k i) h.ok hok (by rw [h.me]; rfl)
  have f := sendM_fields (a := a) (m := mV k i)
  have g2 := stepTo_grow (s := k) g.ok (by omega)
  have em2 : (stepTo (sendM a (mV k i)) k).2 = a.2 ++ [mV k i] := rfl
  have emg : (∀ m ∈ (stepTo (sendM a (mV k i)) k).1.fMsgs, m ∈ a.1.fMsgs ∨ m = mV k i) ∧ (stepTo (sendM a (mV k i)) k).1.fLockRound = a.1.fLockRound ∧ (stepTo (sendM a (mV k i)) k).1.fLockVal = a.1.fLockVal := by
    by_cases hc : hasM a.1.fMsgs (mV k i) = false ∧ a.1.fMsgs.length < 90
    · have e : (sendM a (mV k i)).1 = { a.1 with fMsgs := a.1.fMsgs ++ [mV k i] } := if_pos hc
      unfold stepTo
      rw [e]
      exact ⟨fun m hm => by rcases List.mem_append.1 hm with q | q; exact .inl q; rw [List.mem_singleton] at q; exact .inr q, rfl, rfl⟩
    · have e : (sendM a (mV k i)).1 = a.1 := if_neg hc
      unfold stepTo
      rw [e]
      exact ⟨fun m hm => .inl hm, rfl, rfl⟩
  refine ⟨g2.ok, f.1.trans h.me, f.2.1.trans h.rd, h.i3, fun m hm => ?_, fun m hm => ?_, fun _ => ?_, fun q => ?_, ?_, fun q => ?_, ?_⟩
  · rw [em2]
    rcases emg.1 m hm with q | q
    · rcases h.ms m q with q | q
      · exact .inl q
      · exact .inr (by simp [q])
    · exact .inr (by simp [q])
  · rw [em2] at hm
    rcases List.mem_append.1 hm with q | q
    · exact h.sn m q
    · rw [List.mem_singleton] at q
      subst q
      exact ⟨mV_um hs (by have := h.i3; omega), rfl⟩
  · rw [em2]
    rcases hs with rfl | rfl
    · exact .inr (by simp)
    · rcases h.s2 (hs2 rfl) with q | q
      · exact .inl q
      · exact .inr (by simp [q])
  · rw [em2]
    have q' : k = 3 := q
    subst q'
    exact .inr (by simp)
  · rw [emg.2.1, emg.2.2]; exact hlk
  · have : a.1.fPolka = 0 := f.2.2.2.1.symm.trans q
    exact hpk this
  · exact .inl (f.2.2.2.2.trans hd)
theorem rule_la {pool : List GNMsg} (hp : ∀ m ∈ pool, UM m) {i : Int} {a b : Acting} (h : LA pool i a) (e : rule a = some b) : LA pool i b := by
  have hg := (rule_grow h.ok e).1
  have hu := h.um hp
  have hst := h.ok.st
  unfold rule at e
  split at e
  · cases e
  rename_i hc
  have hr : a.1.fRound ≠ -1 := fun q => hc (.inr q)
  have hd : a.1.fDecided = 0 := by have := h.ok.de; have : ¬ 0 < a.1.fDecided := fun q => hc (.inl q); omega
  split at e
  · rename_i m hb
    obtain ⟨b1, b2, b3⟩ := best_some hb
    have := (hu m b1).k1 b2
    subst this
    cases e
    exact ⟨hg.ok, h.me, h.rd, h.i3, h.ms, h.sn, h.s2, h.s3, h.lk, h.pk, .inr ⟨rfl, b3⟩⟩
  split at e
  · rename_i q hq
    obtain ⟨q1, q2⟩ := skipTo_some hq
    exfalso
    cases hf : froms (isR q) a.1.fMsgs with
    | nil => rw [hf] at q2; simp at q2
    | cons x r =>
      obtain ⟨m, m1, m2, -⟩ := froms_mem.1 (show x ∈ froms (isR q) a.1.fMsgs by rw [hf]; simp)
      have := (hu m m1).r0
      simp only [isR, decide_eq_true_eq] at m2
      have := h.rd
      omega
  split at e
  · rename_i hs
    split at e
    · rename_i m hm
      obtain ⟨m1, m2, -⟩ := propose_some hm
      have := (hu m m1).k1 m2
      subst this
      cases e
      have hy : (decide (a.1.fLockRound = -1) || decide (a.1.fLockVal = mP.fVal)) = true := by
        rcases h.lk with q | q
        · simp [q]
        · simp [q, mP]
      rw [hy]
      exact la_send h hd rfl (.inl rfl) (fun q => by omega) (fun q => by have := h.pk q; omega) h.lk
    · split at e
      · rename_i m hm
        obtain ⟨m1, m2, -, m3⟩ := propose_some hm
        have := (hu m m1).k1 m2
        subst this
        simp [mP] at m3
      · cases e
  · rename_i hs
    split at e
    · rename_i m hm
      have hpl : a.1.fPolka ≠ a.1.fRound := fun q => by rw [if_pos q] at hm; cases hm
      rw [if_neg hpl] at hm
      obtain ⟨m1, m2, -⟩ := propose_some hm
      have := (hu m m1).k1 m2
      subst this
      cases e
      by_cases h2 : a.1.fStep = 2
      · rw [if_pos h2] at hg ⊢
        have hl := lockD_grow h.ok hr (v := 11) (by omega)
        have h' : LA pool i (lockD a 11) := ⟨hl.ok, h.me, h.rd, h.i3, h.ms, h.sn, h.s2, h.s3, .inr rfl, h.pk, h.de⟩
        have h3 := la_send (k := 3) (s := 3) h' hd rfl (.inr rfl) (fun _ => by show 2 ≤ a.1.fStep; omega) (fun _ => rfl) (.inr rfl)
        exact ⟨hg.ok, h3.me, h3.rd, h3.i3, h3.ms, h3.sn, h3.s2, h3.s3, h3.lk, fun _ => rfl, h3.de⟩
      · rw [if_neg h2] at hg ⊢
        exact ⟨hg.ok, h.me, h.rd, h.i3, h.ms, h.sn, h.s2, h.s3, h.lk, fun _ => by show a.1.fStep = 3; omega, h.de⟩
    · split at e
      · rename_i h2
        exfalso
        have h4 : (froms (isV 2 a.1.fRound 0) a.1.fMsgs).length ≤ [(4 : Int)].length := le_nodup froms_nodup fun x hx => by
          obtain ⟨m, m1, m2, m3⟩ := froms_mem.1 hx
          simp only [isV, Bool.and_eq_true, decide_eq_true_eq] at m2
          by_cases h4 : m.fFrom = 4
          · simp [← m3, h4]
          · have := (hu m m1).kv (by omega) h4
            have : m.fVal = 11 := by rw [this]; rfl
            omega
        have := h2.2
        unfold cntM at this
        simp at h4
        omega
      · cases e
theorem restN_la {pool : List GNMsg} (hp : ∀ m ∈ pool, UM m) {i : Int} : ∀ (k : Nat) {a : Acting}, LA pool i a → LA pool i (restN k a)
  | 0, _, h => h
  | k + 1, a, h => by
    unfold restN
    split
    · rename_i b e; exact restN_la hp k (rule_la hp h e)
    · exact h
theorem nodup_leM : ∀ {l u : List GNMsg}, l.Nodup → (∀ x ∈ l, x ∈ u) → l.length ≤ u.length
  | [], _, _, _ => by simp
  | a :: r, u, h, hs => by
    rw [List.nodup_cons] at h
    obtain ⟨s, t, rfl⟩ := List.append_of_mem (hs a (by simp))
    have h2 : r.length ≤ (s ++ t).length := nodup_leM h.2 fun x hx => by
      have hne : x ≠ a := fun e => h.1 (e ▸ hx)
      have := hs x (by simp [hx])
      simp only [List.mem_append, List.mem_cons] at this ⊢
      rcases this with q | q | q
      · exact .inl q
      · exact absurd q hne
      · exact .inr q
    simp only [List.length_append, List.length_cons] at h2 ⊢
    omega
theorem poolF_mem {l : List GNMsg} {m x : GNMsg} : x ∈ poolF l m ↔ x ∈ l ∨ x = m := by
  unfold poolF
  split
  · rename_i h
    exact ⟨.inl, fun q => q.elim id fun e => e ▸ hasM_iff.1 h⟩
  · simp
theorem poolTo_mem {x : GNMsg} : ∀ {more l : List GNMsg}, x ∈ poolTo l more ↔ x ∈ l ∨ x ∈ more
  | [], l => by simp [poolTo]
  | m :: r, l => by
    have e : poolTo l (m :: r) = poolTo (poolF l m) r := rfl
    rw [e, poolTo_mem, poolF_mem, List.mem_cons, or_assoc]
theorem poolF_nodup {l : List GNMsg} {m : GNMsg} (h : l.Nodup) : (poolF l m).Nodup := by
  unfold poolF
  split
  · exact h
  · rename_i q
    rw [Bool.not_eq_true] at q
    rw [List.nodup_append]
    exact ⟨h, by simp, fun x hx y hy => by rw [List.mem_singleton] at hy; subst hy; exact fun e => hasM_no.1 q (e ▸ hx)⟩
theorem poolTo_nodup : ∀ {more l : List GNMsg}, l.Nodup → (poolTo l more).Nodup
  | [], _, h => h
  | m :: r, l, h => poolTo_nodup (more := r) (l := poolF l m) (poolF_nodup h)
def is4 (m : GNMsg) : Bool := decide (m.fFrom = 4)
theorem poolTo_is4 : ∀ {more l : List GNMsg}, (∀ m ∈ more, m.fFrom ≠ 4) → (poolTo l more).filter is4 = l.filter is4
  | [], _, _ => rfl
  | m :: r, l, h => by
    have e : poolTo l (m :: r) = poolTo (poolF l m) r := rfl
    rw [e, poolTo_is4 fun x hx => h x (by simp [hx])]
    unfold poolF
    split
    · rfl
    · rw [List.filter_append]
      simp [is4, h m (by simp)]
structure NI (pool : List GNMsg) (i : Int) (n : GNode) : Prop where
  la : LA pool i (n, [])
  re : rule (n, []) = none
structure LInv (x : GNet) (L : Nat) : Prop where
  n3 : x.fNodes.length = 3
  ni : ∀ (k : Nat) n, x.fNodes[k]? = some n → NI x.fPool (k + 1) n
  um : ∀ m ∈ x.fPool, UM m
  nd : x.fPool.Nodup
  pp : mP ∈ x.fPool
  l4 : (x.fPool.filter is4).length ≤ L
theorem filter_len : ∀ (l : List GNMsg), l.length = (l.filter is4).length + (l.filter fun m => !is4 m).length
  | [] => rfl
  | m :: r => by
    have := filter_len r
    rw [List.filter_cons, List.filter_cons, List.length_cons]
    cases is4 m <;> simp <;> omega
theorem LInv.len {x : GNet} {L : Nat} (h : LInv x L) : x.fPool.length ≤ 7 + L := by
  have h1 := filter_len x.fPool
  have h2 : (x.fPool.filter fun m => !is4 m).length ≤ [mP, mV 2 1, mV 2 2, mV 2 3, mV 3 1, mV 3 2, mV 3 3].length := nodup_leM (h.nd.filter _) fun m hm => by
    rw [List.mem_filter] at hm
    obtain ⟨hm, h4⟩ := hm
    simp only [is4, Bool.not_eq_true', decide_eq_false_iff_not] at h4
    have u := h.um m hm
    by_cases hk : m.fKind = 1
    · rw [u.k1 hk]; simp
    · have e := u.kv hk h4
      have fr := u.ok.fr
      have hf : m.fFrom = 1 ∨ m.fFrom = 2 ∨ m.fFrom = 3 := by omega
      rw [e]
      rcases u.ok.kd with q | q | q
      · exact absurd q hk
      all_goals (rw [q]; rcases hf with f | f | f <;> rw [f] <;> simp)
  have := h.l4
  simp at h2
  omega
theorem LA.mono {p q : List GNMsg} (h : ∀ m ∈ p, m ∈ q) {i : Int} {a : Acting} (la : LA p i a) : LA q i a :=
  ⟨la.ok, la.me, la.rd, la.i3, fun m hm => (la.ms m hm).imp (h m) id, la.sn, fun s => (la.s2 s).imp (h _) id, fun s => (la.s3 s).imp (h _) id, la.lk, la.pk, la.de⟩
theorem LA.put {p : List GNMsg} {i : Int} {a : Acting} (la : LA p i a) : LA (poolTo p a.2) i (a.1, []) :=
  ⟨la.ok, la.me, la.rd, la.i3, fun m hm => .inl (poolTo_mem.2 (la.ms m hm)), fun m hm => (by cases hm), fun s => .inl (poolTo_mem.2 (la.s2 s)), fun s => .inl (poolTo_mem.2 (la.s3 s)), la.lk, la.pk, la.de⟩
theorem rule_none {n : GNode} {s : List GNMsg} (h : rule (n, s) = none) (u : List GNMsg) : rule (n, u) = none := by
  unfold rule at h ⊢
  dsimp only at h ⊢
  split
  · rfl
  · rename_i hc
    rw [if_neg hc] at h
    split
    · rename_i e; rw [e] at h; cases h
    · rename_i e
      rw [e] at h
      dsimp only at h
      split
      · rename_i e2; rw [e2] at h; cases h
      · rename_i e2
        rw [e2] at h
        dsimp only at h
        split
        · rename_i e3
          rw [if_pos e3] at h
          split
          · rename_i e4; rw [e4] at h; cases h
          · rename_i e4
            rw [e4] at h
            dsimp only at h
            split
            · rename_i e5; rw [e5] at h; cases h
            · rfl
        · rename_i e3
          rw [if_neg e3] at h
          split
          · rename_i e4; rw [e4] at h; cases h
          · rename_i e4
            rw [e4] at h
            dsimp only at h
            split
            · rename_i e5; rw [if_pos e5] at h; cases h
            · rfl
theorem LInv.ok {x : GNet} {L : Nat} (h : LInv x L) (hL : L ≤ 3) : netOk x = true := by
  have hl := h.len
  unfold netOk
  rw [Bool.and_eq_true, Bool.and_eq_true, Bool.and_eq_true, msgsOk_iff, decide_eq_true_eq, decide_eq_true_eq]
  refine ⟨⟨h.n3, ⟨⟨fun m hm => msgOk_iff.2 (h.um m hm).ok, h.nd⟩, by omega⟩⟩, allTo_end fun i _ => ?_⟩
  unfold netOkAt
  split
  · rfl
  · rename_i n hn
    have ni := (h.ni i n hn).la
    rw [Bool.and_eq_true, Bool.and_eq_true, decide_eq_true_eq, List.all_eq_true]
    refine ⟨⟨nodeOk_iff.2 ni.ok, ni.me⟩, fun m hm => ?_⟩
    rw [Bool.or_eq_true]
    refine .inr (hasM_iff.2 ?_)
    rcases ni.ms m hm with q | q
    · exact q
    · cases q
/-- A message of the pool stands with node k. -/
def Has (x : GNet) (k : Nat) (m : GNMsg) : Prop := ∀ n, x.fNodes[k]? = some n → m ∈ n.fMsgs
structure Give (x y : GNet) : Prop where
  p : ∃ l, y.fPool = x.fPool ++ l
  h : ∀ k m, Has x k m → Has y k m
theorem Give.refl (x : GNet) : Give x x := ⟨⟨[], by simp⟩, fun _ _ q => q⟩
def giveA (i : Int) (b : Nat) : GNetAct := ⟨2, i, b, msg0⟩
theorem give_spec {x : GNet} {L : Nat} (h : LInv x L) (hL : L ≤ 3) {i : Nat} (hi : i < 3) {b : Nat} {m : GNMsg} (hb : x.fPool[b]? = some m) :
    LInv (netDoC x (giveA (i + 1) b)).1 L ∧ Give x (netDoC x (giveA (i + 1) b)).1 ∧ Has (netDoC x (giveA (i + 1) b)).1 i m := by
  have hbl := (List.getElem?_eq_some_iff.1 hb).1
  have hm := h.um m (List.mem_of_getElem? hb)
  obtain ⟨n, hn⟩ : ∃ n, x.fNodes[i]? = some n := ⟨_, List.getElem?_eq_getElem (by rw [h.n3]; exact hi)⟩
  have ni := h.ni i n hn
  have la := ni.la
  have e1 : ((giveA ((i : Int) + 1) b).fA - 1).toNat = i := by show ((i : Int) + 1 - 1).toNat = i; omega
  have e2 : netDoC x (giveA (i + 1) b) = if (nodeGet n m).2 = false then (x, false) else if 150 < (poolTo x.fPool (nodeGet n m).1.2).length then (x, false) else (netPut x i (nodeGet n m).1, true) := by
    unfold netDoC netDo
    rw [if_pos (h.ok hL), if_neg (show ¬ (giveA ((i : Int) + 1) b).fKind = 4 by simp [giveA]), if_neg ?_, e1, hn]
    · dsimp only
      have e3 : actOf x (giveA ((i : Int) + 1) b) n = nodeGet n m := by
        unfold actOf
        rw [if_neg (show ¬ (giveA ((i : Int) + 1) b).fKind = 1 by simp [giveA]), if_pos (show (giveA ((i : Int) + 1) b).fKind = 2 from rfl)]
        have e4 : x.fPool[(giveA ((i : Int) + 1) b).fB.toNat]? = some m := by
          have e5 : (giveA ((i : Int) + 1) b).fB.toNat = b := by show ((b : Int)).toNat = b; omega
          rw [e5, hb]
        rw [e4]
      rw [e3]
    · have c1 : inB (giveA ((i : Int) + 1) b).fA 1 3 = true := inB_iff.2 (by show 1 ≤ (i : Int) + 1 ∧ (i : Int) + 1 ≤ 3; omega)
      have c2 : inB (giveA ((i : Int) + 1) b).fB 0 ((x.fPool.length : Int) - 1) = true := inB_iff.2 (by show 0 ≤ (b : Int) ∧ (b : Int) ≤ _; omega)
      rw [c1, c2]
      simp
  rw [e2]
  cases hg : (nodeGet n m).2 with
  | false =>
    rw [if_pos rfl]
    refine ⟨h, .refl x, fun n' hn' => ?_⟩
    rw [hn] at hn'
    cases hn'
    unfold nodeGet at hg
    rw [nodeOk_iff.2 la.ok, if_neg (by simp)] at hg
    split at hg
    · rename_i hc
      rcases hc with q | q | q
      · rw [msgOk_iff.2 hm.ok] at q; cases q
      · exact hasM_iff.1 q
      · exfalso
        have : n.fMsgs.length ≤ x.fPool.length := nodup_leM la.ok.nd fun y hy => (la.ms y hy).elim id fun q => by cases q
        have := h.len
        omega
    · cases hg
  | true =>
    rw [if_neg (by simp)]
    obtain ⟨g1, g2⟩ := nodeGet_go hg
    have la2 : LA x.fPool (i + 1) (withMsg n m, []) := by
      refine ⟨g1, la.me, la.rd, la.i3, fun y hy => ?_, la.sn, la.s2, la.s3, la.lk, la.pk, ?_⟩
      · rcases List.mem_append.1 hy with q | q
        · exact la.ms y q
        · rw [List.mem_singleton] at q; subst q; exact .inl (List.mem_of_getElem? hb)
      · rcases la.de with q | ⟨q1, q2⟩
        · exact .inl q
        · exact .inr ⟨q1, Int.le_trans q2 (cntM_mono fun y hy => List.mem_append_left _ hy)⟩
    have la3 : LA x.fPool (i + 1) (nodeGet n m).1 := by rw [g2]; exact restN_la h.um 200 la2
    have re3 : rule (nodeGet n m).1 = none := by rw [g2]; exact (rest_spec g1).2
    have gr : Grow (withMsg n m, []) (nodeGet n m).1 := by rw [g2]; exact (rest_spec (a := (withMsg n m, [])) g1).1
    generalize (nodeGet n m).1 = r at la3 re3 gr ⊢
    obtain ⟨l', hl'⟩ := poolTo_pre r.2 x.fPool
    have hput : (netPut x i r).fNodes[i]? = some r.1 := List.getElem?_set_self (by rw [h.n3]; exact hi)
    have hoth : ∀ k, k ≠ i → (netPut x i r).fNodes[k]? = x.fNodes[k]? := fun k hk => List.getElem?_set_ne (Ne.symm hk)
    have hinv : LInv (netPut x i r) L := by
      refine ⟨by simp [netPut, h.n3], fun k n' hn' => ?_, fun y hy => ?_, poolTo_nodup h.nd, poolTo_mem.2 (.inl h.pp), ?_⟩
      · by_cases hk : k = i
        · subst hk
          rw [hput] at hn'
          cases hn'
          exact ⟨la3.put, rule_none re3 []⟩
        · rw [hoth k hk] at hn'
          have := h.ni k n' hn'
          exact ⟨this.la.mono fun y hy => poolTo_mem.2 (.inl hy), this.re⟩
      · rcases poolTo_mem.1 hy with q | q
        · exact h.um y q
        · exact (la3.sn y q).1
      · show ((poolTo x.fPool r.2).filter is4).length ≤ L
        rw [poolTo_is4 fun y hy => ?_]
        · exact h.l4
        · have := (la3.sn y hy).2
          omega
    have hpl := hinv.len
    rw [if_neg (by show ¬ 150 < (poolTo x.fPool r.2).length; have hpl' : (poolTo x.fPool r.2).length ≤ 7 + L := hpl; omega)]
    refine ⟨hinv, ⟨⟨l', hl'⟩, fun k y hk n' hn' => ?_⟩, fun n' hn' => ?_⟩
    · by_cases e : k = i
      · subst e
        rw [hput] at hn'
        cases hn'
        obtain ⟨u, hu, -⟩ := gr.mg
        rw [hu]
        exact List.mem_append_left _ (List.mem_append_left _ (hk n hn))
      · rw [hoth k e] at hn'
        exact hk n' hn'
    · rw [hput] at hn'
      cases hn'
      obtain ⟨u, hu, -⟩ := gr.mg
      rw [hu]
      exact List.mem_append_left _ (List.mem_append_right _ (by simp))
theorem lie_spec {x : GNet} {L : Nat} (h : LInv x L) (hL : L ≤ 3) {m : GNMsg} (hk : m.fKind = 2 ∨ m.fKind = 3) (hr : m.fRound = 0) (hv : 0 ≤ m.fVal ∧ m.fVal ≤ 20) (hp : m.fPol = -1) (hf : m.fFrom = 4) :
    LInv (netDoC x ⟨4, 0, 0, m⟩).1 (L + 1) := by
  have hm : MOk m := ⟨by omega, by omega, .inr hk, fun q => by omega, fun _ => ⟨hv, hp⟩⟩
  have keep : LInv x (L + 1) := ⟨h.n3, h.ni, h.um, h.nd, h.pp, by have := h.l4; omega⟩
  unfold netDoC netDo
  rw [if_pos (h.ok hL), if_pos rfl]
  split
  · exact keep
  · rename_i hc
    have hn : m ∉ x.fPool := fun q => hc (.inr (.inr (.inl (hasM_iff.2 q))))
    refine ⟨h.n3, fun k n hk => ?_, fun y hy => ?_, ?_, List.mem_append_left _ h.pp, ?_⟩
    · have := h.ni k n hk
      exact ⟨this.la.mono fun y hy => List.mem_append_left _ hy, this.re⟩
    · rcases List.mem_append.1 hy with q | q
      · exact h.um y q
      · rw [List.mem_singleton] at q
        subst q
        exact ⟨hm, hr, fun q => by omega, fun _ q => absurd hf q⟩
    · show (x.fPool ++ [m]).Nodup
      rw [List.nodup_append]
      exact ⟨h.nd, by simp, fun a ha b hb => by rw [List.mem_singleton] at hb; subst hb; exact fun e => hn (e ▸ ha)⟩
    · show ((x.fPool ++ [m]).filter is4).length ≤ L + 1
      rw [List.filter_append, List.length_append]
      have h1 := h.l4
      have h2 : ([m].filter is4).length ≤ 1 := List.length_filter_le _ _
      omega
/-- All that is in the pool stands with all nodes: then all have decided. -/
theorem decided_all {x : GNet} {L : Nat} (h : LInv x L) (hd : ∀ k, k < 3 → ∀ m ∈ x.fPool, Has x k m) : ∀ (k : Nat) n, x.fNodes[k]? = some n → n.fDecided = 11 := by
  have key : ∀ (k : Nat) n, x.fNodes[k]? = some n → (∀ m ∈ x.fPool, m ∈ n.fMsgs) ∧ (∀ m ∈ n.fMsgs, m ∈ x.fPool) ∧ NI x.fPool (k + 1) n := fun k n hk => by
    have hk3 : k < 3 := by have := (List.getElem?_eq_some_iff.1 hk).1; rw [h.n3] at this; exact this
    exact ⟨fun m hm => hd k hk3 m hm n hk, fun m hm => ((h.ni k n hk).la.ms m hm).elim id fun q => (by cases q), h.ni k n hk⟩
  -- whoever sees three precommits has decided
  have dec : ∀ (k : Nat) n, x.fNodes[k]? = some n → 3 ≤ cntM x.fPool 3 0 11 → n.fDecided = 11 := fun k n hk hc => by
    obtain ⟨k1, k2, la, re⟩ := key k n hk
    rcases la.de with q | q
    · exfalso
      have hb : best n.fMsgs ≠ none := fun e => best_none e mP (k1 _ h.pp) ⟨rfl, Int.le_trans hc (cntM_mono k1)⟩
      unfold rule at re
      have hr := la.rd
      dsimp only at re q hr
      rw [if_neg (by omega)] at re
      split at re
      · cases re
      · rename_i e; exact hb e
    · exact q.1
  by_cases hc : 3 ≤ cntM x.fPool 3 0 11
  · exact fun k n hk => dec k n hk hc
  exfalso
  -- nobody has decided
  have no : ∀ (k : Nat) n, x.fNodes[k]? = some n → n.fDecided = 0 ∧ best n.fMsgs = none := fun k n hk => by
    obtain ⟨k1, k2, la, re⟩ := key k n hk
    have hcn : ¬ 3 ≤ cntM n.fMsgs 3 0 11 := fun q => hc (Int.le_trans q (cntM_mono k2))
    have hdz : n.fDecided = 0 := by
      rcases la.de with q | q
      · exact q
      · exact absurd q.2 hcn
    refine ⟨hdz, ?_⟩
    cases hb : best n.fMsgs with
    | none => rfl
    | some m =>
      obtain ⟨b1, b2, b3⟩ := best_some hb
      have := (h.um m (k2 m b1)).k1 b2
      subst this
      exact absurd b3 hcn
  have sk : ∀ (k : Nat) n, x.fNodes[k]? = some n → skipTo n.fMsgs n.fRound (11 - n.fRound).toNat = none := fun k n hk => by
    obtain ⟨k1, k2, la, re⟩ := key k n hk
    cases hs : skipTo n.fMsgs n.fRound (11 - n.fRound).toNat with
    | none => rfl
    | some q =>
      exfalso
      obtain ⟨q1, q2⟩ := skipTo_some hs
      cases hf : froms (isR q) n.fMsgs with
      | nil => rw [hf] at q2; simp at q2
      | cons y r =>
        obtain ⟨m, m1, m2, -⟩ := froms_mem.1 (show y ∈ froms (isR q) n.fMsgs by rw [hf]; simp)
        have h0 := (h.um m (k2 m m1)).r0
        have hr := la.rd
        simp only [isR, decide_eq_true_eq] at m2
        dsimp only at hr
        omega
  have st2 : ∀ (k : Nat) n, x.fNodes[k]? = some n → 2 ≤ n.fStep := fun k n hk => by
    obtain ⟨k1, k2, la, re⟩ := key k n hk
    obtain ⟨hz, hb⟩ := no k n hk
    have hs := sk k n hk
    have hst := la.ok.st
    have hr := la.rd
    dsimp only at hst hr
    refine Classical.byContradiction fun q => ?_
    have h1 : n.fStep = 1 := by omega
    unfold rule at re
    dsimp only at re
    rw [if_neg (by omega), hb] at re
    dsimp only at re
    rw [hs] at re
    dsimp only at re
    rw [if_pos h1] at re
    have hp := propose_ne (l := n.fMsgs) (r := n.fRound) (p := fun m => decide (m.fPol = -1)) (k1 _ h.pp) rfl hr.symm rfl
    split at re
    · cases re
    · rename_i e; exact hp e
  have pv : ∀ k : Nat, k < 3 → mV 2 (k + 1) ∈ x.fPool := fun k hk => by
    obtain ⟨n, hn⟩ : ∃ n, x.fNodes[k]? = some n := ⟨_, List.getElem?_eq_getElem (by rw [h.n3]; exact hk)⟩
    exact ((key k n hn).2.2.la.s2 (st2 k n hn)).elim id fun q => by cases q
  have st3 : ∀ (k : Nat) n, x.fNodes[k]? = some n → n.fStep = 3 := fun k n hk => by
    obtain ⟨k1, k2, la, re⟩ := key k n hk
    obtain ⟨hz, hb⟩ := no k n hk
    have hs := sk k n hk
    have hr := la.rd
    have h2 := st2 k n hk
    dsimp only at hr
    by_cases hpk : n.fPolka = n.fRound
    · exact la.pk (hpk.trans hr)
    exfalso
    unfold rule at re
    dsimp only at re
    rw [if_neg (by omega), hb] at re
    dsimp only at re
    rw [hs] at re
    dsimp only at re
    rw [if_neg (by omega), if_neg hpk] at re
    have hc3 : 3 ≤ cntM n.fMsgs 2 n.fRound 11 := by
      rw [hr]
      refine cntM_ge (fs := [1, 2, 3]) (by decide) fun y hy => ?_
      simp only [List.mem_cons, List.not_mem_nil, or_false] at hy
      rcases hy with rfl | rfl | rfl
      · exact ⟨mV 2 1, k1 _ (pv 0 (by omega)), rfl, rfl⟩
      · exact ⟨mV 2 2, k1 _ (pv 1 (by omega)), rfl, rfl⟩
      · exact ⟨mV 2 3, k1 _ (pv 2 (by omega)), rfl, rfl⟩
    have hp := propose_ne (l := n.fMsgs) (r := n.fRound) (p := fun m => decide (3 ≤ cntM n.fMsgs 2 n.fRound m.fVal)) (k1 _ h.pp) rfl hr.symm (by exact decide_eq_true hc3)
    split at re
    · cases re
    · rename_i e; exact hp e
  have pc : ∀ k : Nat, k < 3 → mV 3 (k + 1) ∈ x.fPool := fun k hk => by
    obtain ⟨n, hn⟩ : ∃ n, x.fNodes[k]? = some n := ⟨_, List.getElem?_eq_getElem (by rw [h.n3]; exact hk)⟩
    exact ((key k n hn).2.2.la.s3 (st3 k n hn)).elim id fun q => by cases q
  refine hc (cntM_ge (fs := [1, 2, 3]) (by decide) fun y hy => ?_)
  simp only [List.mem_cons, List.not_mem_nil, or_false] at hy
  rcases hy with rfl | rfl | rfl
  · exact ⟨mV 3 1, pc 0 (by omega), rfl, rfl⟩
  · exact ⟨mV 3 2, pc 1 (by omega), rfl, rfl⟩
  · exact ⟨mV 3 3, pc 2 (by omega), rfl, rfl⟩
def startA (i : Int) : GNetAct := ⟨1, i, 0, msg0⟩
def net3 : GNet := ⟨[⟨1, 0, 2, 0, -1, 0, -1, -1, 0, [mP, mV 2 1]⟩, ⟨2, 0, 1, 0, -1, 0, -1, -1, 0, []⟩, ⟨3, 0, 1, 0, -1, 0, -1, -1, 0, []⟩], [mP, mV 2 1]⟩
def net1 : GNet := ⟨[⟨1, 0, 2, 0, -1, 0, -1, -1, 0, [mP, mV 2 1]⟩, nodeNew 2, nodeNew 3], [mP, mV 2 1]⟩
def net2 : GNet := ⟨[⟨1, 0, 2, 0, -1, 0, -1, -1, 0, [mP, mV 2 1]⟩, ⟨2, 0, 1, 0, -1, 0, -1, -1, 0, []⟩, nodeNew 3], [mP, mV 2 1]⟩
theorem start1 : netDoC netNew (startA 1) = (net1, true) := by rfl
theorem start2 : netDoC net1 (startA 2) = (net2, true) := by rfl
theorem start3 : netDoC net2 (startA 3) = (net3, true) := by rfl
theorem net3_inv : LInv net3 0 := by
  refine ⟨rfl, fun k n hk => ?_, fun m hm => ?_, (msgsOk_iff.1 (show msgsOk [mP, mV 2 1] = true by decide)).2, by simp [net3], by decide⟩
  · have hk3 := (List.getElem?_eq_some_iff.1 hk).1
    have hk3 : k < 3 := hk3
    rcases k with _ | _ | _ | k
    · cases hk
      refine ⟨⟨nodeOk_iff.1 (by decide), rfl, rfl, by omega, fun m hm => .inl hm, fun m hm => (by cases hm), fun _ => .inl (by simp [net3]), fun q => (by cases q), .inl rfl, fun q => (by cases q), .inl rfl⟩, by rfl⟩
    · cases hk
      refine ⟨⟨nodeOk_iff.1 (by decide), rfl, rfl, by omega, fun m hm => (by cases hm), fun m hm => (by cases hm), fun q => absurd q (by show ¬ (2 : Int) ≤ 1; omega), fun q => (by cases q), .inl rfl, fun q => (by cases q), .inl rfl⟩, by rfl⟩
    · cases hk
      refine ⟨⟨nodeOk_iff.1 (by decide), rfl, rfl, by omega, fun m hm => (by cases hm), fun m hm => (by cases hm), fun q => absurd q (by show ¬ (2 : Int) ≤ 1; omega), fun q => (by cases q), .inl rfl, fun q => (by cases q), .inl rfl⟩, by rfl⟩
    · omega
  · simp only [net3, List.mem_cons, List.not_mem_nil, or_false] at hm
    rcases hm with rfl | rfl
    · exact mP_um
    · exact mV_um (.inl rfl) (by omega)
end Go.Proofs.Ytcbknmnlgoeniaa
