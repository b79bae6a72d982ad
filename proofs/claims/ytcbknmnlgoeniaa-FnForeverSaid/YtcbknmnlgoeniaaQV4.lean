/- What the proof leans on, part 4. -/
import Derived.Test.YtcbknmnlgoeniaaQV3
namespace Go.Proofs.Ytcbknmnlgoeniaa
set_option linter.unusedSimpArgs false
set_option linter.unusedVariables false
open Go.RowKit
set_option maxRecDepth 100000
theorem cells_ptr0 : pcellsOf (.val (.pointer none)) = [.val (.pointer none)] := rfl
theorem one_ptr0 : oneP (.val (.pointer none)) = true := rfl
attribute [push_cast] cells_ptr0 one_ptr0
def bActN (a : Acting) : Hp := bAct a ++ [some (.box [.ptr 0 0])]
theorem actN_vd (a : Acting) (k : Nat) : vwD (k + 4) (bActN a) (.ptr 0 0) = .eptr (fAct a) 0 := act_vd a (k + 2) _
theorem actN_vo (a : Acting) (k : Nat) : vdOk (k + 4) (bActN a) (.ptr 0 0) := act_vo a (k + 2) _
theorem actN_vd3 (a : Acting) (g : FuncId) : vwD 4 (bActN a) (.clo g [.ptr 3 0]) = .clo g [.eptr [.eptr (fAct a) 0] 0] := by
  show PV.clo g [.eptr [vwD 2 (bActN a) (.ptr 0 0)] 0] = _
  rw [show vwD 2 (bActN a) (.ptr 0 0) = .eptr (fAct a) 0 from act_vd a 0 _]
theorem actN_vo3 (a : Acting) (g : FuncId) : vdOk 4 (bActN a) (.clo g [.ptr 3 0]) := by
  intro q hq
  simp only [List.mem_cons, List.not_mem_nil, or_false] at hq
  subst hq
  show ∀ q ∈ [PV.ptr 0 0], vdOk 2 (bActN a) q
  intro q hq
  simp only [List.mem_cons, List.not_mem_nil, or_false] at hq
  subst hq
  exact act_vo a 0 _
theorem iProp1_o (a : Acting) (hl : a.1.fMsgs.length ≤ 1000000) : PCalls Try.prog 82 [.ptr 0 0, .val (.func (.func 83) #[] #[])] (bAct a) (RH (.tup [.agg (pNMsg (optM (propose a.1.fMsgs a.1.fRound (fun m => decide (m.fPol = -1)))).1), .val (.bool (optM (propose a.1.fMsgs a.1.fRound (fun m => decide (m.fPol = -1)))).2)]) (bAct a)) :=
  (iProp1_v a hl).viewD 2 (by have e := act_vd a 0 []; rw [List.append_nil] at e; rw [List.map_cons, e]; rfl) rfl fun p hp => by
    have o := act_vo a 0 []
    rw [List.append_nil] at o
    simp only [List.mem_cons, List.not_mem_nil, or_false] at hp
    rcases hp with rfl | rfl
    · exact o
    · exact rfl
theorem iProp2_o (a : Acting) (hl : a.1.fMsgs.length ≤ 1000000) : PCalls Try.prog 82 [.ptr 0 0, .clo 84 [.ptr 3 0]] (bActN a) (RH (.tup [.agg (pNMsg (optM (propose a.1.fMsgs a.1.fRound (fun m => decide (0 ≤ m.fPol) && decide (3 ≤ cntM a.1.fMsgs 2 m.fPol m.fVal)))).1), .val (.bool (optM (propose a.1.fMsgs a.1.fRound (fun m => decide (0 ≤ m.fPol) && decide (3 ≤ cntM a.1.fMsgs 2 m.fPol m.fVal)))).2)]) (bActN a)) :=
  (iProp2_v a hl).viewD 4 (by rw [List.map_cons, List.map_cons, actN_vd a 0, actN_vd3]; rfl) rfl fun p hp => by
    simp only [List.mem_cons, List.not_mem_nil, or_false] at hp
    rcases hp with rfl | rfl
    · exact actN_vo a 0
    · exact actN_vo3 a _
theorem iProp3_o (a : Acting) (hl : a.1.fMsgs.length ≤ 1000000) : PCalls Try.prog 82 [.ptr 0 0, .clo 86 [.ptr 3 0]] (bActN a) (RH (.tup [.agg (pNMsg (optM (propose a.1.fMsgs a.1.fRound (fun m => decide (3 ≤ cntM a.1.fMsgs 2 a.1.fRound m.fVal)))).1), .val (.bool (optM (propose a.1.fMsgs a.1.fRound (fun m => decide (3 ≤ cntM a.1.fMsgs 2 a.1.fRound m.fVal)))).2)]) (bActN a)) :=
  (iProp3_v a hl).viewD 4 (by rw [List.map_cons, List.map_cons, actN_vd a 0, actN_vd3]; rfl) rfl fun p hp => by
    simp only [List.mem_cons, List.not_mem_nil, or_false] at hp
    rcases hp with rfl | rfl
    · exact actN_vo a 0
    · exact actN_vo3 a _
set_option maxHeartbeats 8000000 in
theorem iRule_a (a : Acting) (ok : NOk a.1) (hs : a.2.length ≤ 900) (c1 : 0 < a.1.fDecided) : PCalls Try.prog 65 [.ptr 0 0] (bAct a) (RH (.val (.bool false)) (bActM a)) := by
  have hl : a.1.fMsgs.length ≤ 1000 ∧ a.2.length ≤ 1000 := ⟨by have := ok.ln; omega, by omega⟩
  have hrd := ok.rd
  have hst := ok.st
  clear ok
  obtain ⟨⟨n1, n2, n3, n4, n5, n6, n7, n8, n9, l⟩, s⟩ := a
  dsimp only at *
  (try simp only [Option.isSome_none, Option.isSome_some])
  refine pcalls_ofR okP Try.func65 rfl ?_
  simp only [Try.f65, List.length_cons, List.length_nil, Nat.reduceAdd, Nat.reduceSub, List.replicate_succ, List.replicate_zero, List.cons_append, List.nil_append, List.length_map]
  refine PWp.mvB 0 9 1 rfl rfl rfl (by decide) ?_
  refine PWp.mvB 0 10 2 rfl rfl rfl (by decide) ?_
  repeat' (first | with_reducible (first | refine wA ?_ | refine wC ?_) | with_reducible (first | refine wq1 ?_ | refine wq3 ?_ | refine wq5 ?_ | refine wq9 ?_) | ((with_reducible refine hK _ ?_); clear hK K) | ((with_reducible refine PWp.condI ?_); refine ⟨_, rfl, fun hg => ?_, fun hg => ?_⟩ <;> first | (exact absurd hg (by decide)) | ((try simp only [Bool.not_true, Bool.not_false] at hg); (try simp only [hg]); (try simp only [push_cast] at hg); (try exact absurd trivial hg); (try (exfalso; omega)))) | ((with_reducible refine pops_plain fun K hK => ?_); simp (disch := omega) only [push_cast, seval, c1]) | ((((with_reducible refine pops_guard ?_); refine ⟨_, rfl, fun K hK => ⟨_, rfl, fun hg => ?_, fun hg => ?_⟩⟩)) <;> first | (exact absurd hg (by decide)) | ((try simp only [Bool.not_true, Bool.not_false] at hg); (try simp only [hg]); (try simp only [push_cast] at hg); (try exact absurd trivial hg); (try (exfalso; omega)); (try simp (disch := omega) only [push_cast, seval, c1]))))
  all_goals ((with_reducible show PPostR _ _ _ _ _ _); exact finH [0, 1, 2, _, _])
set_option maxHeartbeats 8000000 in
theorem iRule_b (a : Acting) (ok : NOk a.1) (hs : a.2.length ≤ 900) (c1 : ¬ 0 < a.1.fDecided) (c2 : a.1.fRound = -1) : PCalls Try.prog 65 [.ptr 0 0] (bAct a) (RH (.val (.bool false)) (bActM a)) := by
  have hl : a.1.fMsgs.length ≤ 1000 ∧ a.2.length ≤ 1000 := ⟨by have := ok.ln; omega, by omega⟩
  have hrd := ok.rd
  have hst := ok.st
  clear ok
  obtain ⟨⟨n1, n2, n3, n4, n5, n6, n7, n8, n9, l⟩, s⟩ := a
  dsimp only at *
  (try simp only [Option.isSome_none, Option.isSome_some])
  refine pcalls_ofR okP Try.func65 rfl ?_
  simp only [Try.f65, List.length_cons, List.length_nil, Nat.reduceAdd, Nat.reduceSub, List.replicate_succ, List.replicate_zero, List.cons_append, List.nil_append, List.length_map]
  refine PWp.mvB 0 9 1 rfl rfl rfl (by decide) ?_
  refine PWp.mvB 0 10 2 rfl rfl rfl (by decide) ?_
  repeat' (first | with_reducible (first | refine wA ?_ | refine wC ?_) | with_reducible (first | refine wq1 ?_ | refine wq3 ?_ | refine wq5 ?_ | refine wq9 ?_) | ((with_reducible refine hK _ ?_); clear hK K) | ((with_reducible refine PWp.condI ?_); refine ⟨_, rfl, fun hg => ?_, fun hg => ?_⟩ <;> first | (exact absurd hg (by decide)) | ((try simp only [Bool.not_true, Bool.not_false] at hg); (try simp only [hg]); (try simp only [push_cast] at hg); (try exact absurd trivial hg); (try (exfalso; omega)))) | ((with_reducible refine pops_plain fun K hK => ?_); simp (disch := omega) only [push_cast, seval, c1, c2]) | ((((with_reducible refine pops_guard ?_); refine ⟨_, rfl, fun K hK => ⟨_, rfl, fun hg => ?_, fun hg => ?_⟩⟩)) <;> first | (exact absurd hg (by decide)) | ((try simp only [Bool.not_true, Bool.not_false] at hg); (try simp only [hg]); (try simp only [push_cast] at hg); (try exact absurd trivial hg); (try (exfalso; omega)); (try simp (disch := omega) only [push_cast, seval, c1, c2]))))
  all_goals ((with_reducible show PPostR _ _ _ _ _ _); exact finH [0, 1, 2, _, _])
set_option maxHeartbeats 8000000 in
theorem iRule_c (a : Acting) (ok : NOk a.1) (hs : a.2.length ≤ 900) (c1 : ¬ 0 < a.1.fDecided) (c2 : a.1.fRound ≠ -1) (m : GNMsg) (hb : best a.1.fMsgs = some m) : PCalls Try.prog 65 [.ptr 0 0] (bAct a) (RH (.val (.bool true)) (bActM ({ a.1 with fDecided := m.fVal }, a.2))) := by
  have hl : a.1.fMsgs.length ≤ 1000 ∧ a.2.length ≤ 1000 := ⟨by have := ok.ln; omega, by omega⟩
  have hrd := ok.rd
  have hst := ok.st
  have cd := iDecide_p a hl.1
  unfold decideD at cd
  rw [hb] at cd
  dsimp only at cd
  clear ok
  obtain ⟨⟨n1, n2, n3, n4, n5, n6, n7, n8, n9, l⟩, s⟩ := a
  dsimp only at *
  (try simp only [Option.isSome_none, Option.isSome_some])
  refine pcalls_ofR okP Try.func65 rfl ?_
  simp only [Try.f65, List.length_cons, List.length_nil, Nat.reduceAdd, Nat.reduceSub, List.replicate_succ, List.replicate_zero, List.cons_append, List.nil_append, List.length_map]
  refine PWp.mvB 0 9 1 rfl rfl rfl (by decide) ?_
  refine PWp.mvB 0 10 2 rfl rfl rfl (by decide) ?_
  repeat' (first | with_reducible (first | refine wA ?_ | refine wC ?_) | with_reducible (first | refine wq1 ?_ | refine wq3 ?_ | refine wq5 ?_ | refine wq9 ?_ | refine wS ?_) | ((with_reducible refine hK _ ?_); clear hK K) | ((with_reducible refine PWp.condI ?_); refine ⟨_, rfl, fun hg => ?_, fun hg => ?_⟩ <;> first | (exact absurd hg (by decide)) | ((try simp only [Bool.not_true, Bool.not_false] at hg); (try simp only [hg]); (try simp only [push_cast] at hg); (try exact absurd trivial hg); (try (exfalso; omega)))) | ((with_reducible refine pops_plain fun K hK => ?_); simp (disch := omega) only [push_cast, seval, c1, c2]) | ((((with_reducible refine pops_guard ?_); refine ⟨_, rfl, fun K hK => ⟨_, rfl, fun hg => ?_, fun hg => ?_⟩⟩)) <;> first | (exact absurd hg (by decide)) | ((try simp only [Bool.not_true, Bool.not_false] at hg); (try simp only [hg]); (try simp only [push_cast] at hg); (try exact absurd trivial hg); (try (exfalso; omega)); (try simp (disch := omega) only [push_cast, seval, c1, c2]))) | ((with_reducible show pcall _ _ _ _ _ _); ((refine pcO (cf Try.func80) [_, _, _] (cd) ?_)); (try simp (disch := omega) only [push_cast, seval, c1, c2])))
  all_goals ((with_reducible show PPostR _ _ _ _ _ _); exact finH [0, 1, 2, _, _])
set_option maxHeartbeats 8000000 in
theorem iRule_d (a : Acting) (ok : NOk a.1) (hs : a.2.length ≤ 900) (c1 : ¬ 0 < a.1.fDecided) (c2 : a.1.fRound ≠ -1) (hb : best a.1.fMsgs = none) (q : Int) (hk : skipTo a.1.fMsgs a.1.fRound (11 - a.1.fRound).toNat = some q) : PCalls Try.prog 65 [.ptr 0 0] (bAct a) (RH (.val (.bool true)) (bActM (beginR a q))) := by
  have hl : a.1.fMsgs.length ≤ 1000 ∧ a.2.length ≤ 1000 := ⟨by have := ok.ln; omega, by omega⟩
  have hrd := ok.rd
  have hst := ok.st
  have cd := iDecide_p a hl.1
  unfold decideD at cd
  rw [hb] at cd
  dsimp only at cd
  have ck := iSkip_p a ok.rd ok.me hl
  unfold skipD at ck
  rw [hk] at ck
  dsimp only at ck
  generalize beginR a q = r at ck ⊢
  obtain ⟨⟨r1, r2, r3, r4, r5, r6, r7, r8, r9, rl⟩, rs⟩ := r
  clear ok
  obtain ⟨⟨n1, n2, n3, n4, n5, n6, n7, n8, n9, l⟩, s⟩ := a
  dsimp only at *
  (try simp only [Option.isSome_none, Option.isSome_some])
  refine pcalls_ofR okP Try.func65 rfl ?_
  simp only [Try.f65, List.length_cons, List.length_nil, Nat.reduceAdd, Nat.reduceSub, List.replicate_succ, List.replicate_zero, List.cons_append, List.nil_append, List.length_map]
  refine PWp.mvB 0 9 1 rfl rfl rfl (by decide) ?_
  refine PWp.mvB 0 10 2 rfl rfl rfl (by decide) ?_
  repeat' (first | with_reducible (first | refine wA ?_ | refine wC ?_) | with_reducible (first | refine wq1 ?_ | refine wq3 ?_ | refine wq5 ?_ | refine wq9 ?_ | refine wS ?_) | ((with_reducible refine hK _ ?_); clear hK K) | ((with_reducible refine PWp.condI ?_); refine ⟨_, rfl, fun hg => ?_, fun hg => ?_⟩ <;> first | (exact absurd hg (by decide)) | ((try simp only [Bool.not_true, Bool.not_false] at hg); (try simp only [hg]); (try simp only [push_cast] at hg); (try exact absurd trivial hg); (try (exfalso; omega)))) | ((with_reducible refine pops_plain fun K hK => ?_); simp (disch := omega) only [push_cast, seval, c1, c2]) | ((((with_reducible refine pops_guard ?_); refine ⟨_, rfl, fun K hK => ⟨_, rfl, fun hg => ?_, fun hg => ?_⟩⟩)) <;> first | (exact absurd hg (by decide)) | ((try simp only [Bool.not_true, Bool.not_false] at hg); (try simp only [hg]); (try simp only [push_cast] at hg); (try exact absurd trivial hg); (try (exfalso; omega)); (try simp (disch := omega) only [push_cast, seval, c1, c2]))) | ((with_reducible show pcall _ _ _ _ _ _); (first | (refine pcO (cf Try.func80) [_, _, _] (cd) ?_) | (refine pcO (cf Try.func81) [_, _, _] (ck) ?_)); (try simp (disch := omega) only [push_cast, seval, c1, c2])))
  all_goals ((with_reducible show PPostR _ _ _ _ _ _); exact finH [0, 1, 2, _, _])
set_option maxHeartbeats 8000000 in
theorem iRule_e (a : Acting) (ok : NOk a.1) (hs : a.2.length ≤ 900) (c1 : ¬ 0 < a.1.fDecided) (c2 : a.1.fRound ≠ -1) (hb : best a.1.fMsgs = none) (hk : skipTo a.1.fMsgs a.1.fRound (11 - a.1.fRound).toNat = none) (c3 : a.1.fStep = 1) (m : GNMsg) (hp1 : propose a.1.fMsgs a.1.fRound (fun m : GNMsg => decide (m.fPol = -1)) = some m) (y : Bool) (hy : y = (decide (a.1.fLockRound = -1) || decide (a.1.fLockVal = m.fVal))) : PCalls Try.prog 65 [.ptr 0 0] (bAct a) (RH (.val (.bool true)) (bActM (prevote a m.fVal y))) := by
  have hl : a.1.fMsgs.length ≤ 1000 ∧ a.2.length ≤ 1000 := ⟨by have := ok.ln; omega, by omega⟩
  have hrd := ok.rd
  have hst := ok.st
  have cd := iDecide_p a hl.1
  unfold decideD at cd
  rw [hb] at cd
  dsimp only at cd
  have ck := iSkip_p a ok.rd ok.me hl
  unfold skipD at ck
  rw [hk] at ck
  dsimp only at ck
  have cp1 := iProp1_o a (by omega)
  rw [hp1] at cp1
  simp only [optM] at cp1
  have cy := iPrevote_p a m.fVal y hl
  generalize prevote a m.fVal y = r at cy ⊢
  obtain ⟨⟨r1, r2, r3, r4, r5, r6, r7, r8, r9, rl⟩, rs⟩ := r
  obtain ⟨m1, m2, m3, m4, m5⟩ := m
  clear ok
  obtain ⟨⟨n1, n2, n3, n4, n5, n6, n7, n8, n9, l⟩, s⟩ := a
  dsimp only at *
  by_cases q1 : n5 = -1
  all_goals by_cases q2 : n4 = m3
  all_goals
    simp only [q1, q2, decide_true, decide_false, Bool.or_true, Bool.true_or, Bool.or_false, Bool.or_self] at hy
    subst y
    (try simp only [Option.isSome_none, Option.isSome_some])
    refine pcalls_ofR okP Try.func65 rfl ?_
    simp only [Try.f65, List.length_cons, List.length_nil, Nat.reduceAdd, Nat.reduceSub, List.replicate_succ, List.replicate_zero, List.cons_append, List.nil_append, List.length_map]
    refine PWp.mvB 0 9 1 rfl rfl rfl (by decide) ?_
    refine PWp.mvB 0 10 2 rfl rfl rfl (by decide) ?_
    repeat' (first | with_reducible (first | refine wA ?_ | refine wC ?_) | with_reducible refine PWp.drawC (id := 9) okP true [17] [0, 1, 2, 3, 4, 5, 6, 7, 8, 9, 10, 11, 12, 13, 14, 15, 16, 17] (by kernel_rfl) ?_ | with_reducible (first | refine wq1 ?_ | refine wq3 ?_ | refine wq5 ?_ | refine wq9 ?_ | refine wS ?_) | ((with_reducible refine hK _ ?_); clear hK K) | ((with_reducible refine PWp.condI ?_); refine ⟨_, rfl, fun hg => ?_, fun hg => ?_⟩ <;> first | (exact absurd hg (by decide)) | ((try simp only [Bool.not_true, Bool.not_false] at hg); (try simp only [hg]); (try simp only [push_cast] at hg); (try exact absurd trivial hg); (try (exfalso; omega)))) | with_reducible refine panyC_nil ?_ | ((with_reducible refine panyC_I ?_); refine ⟨_, rfl, fun K hK => ?_⟩) | ((with_reducible refine panyC_w ?_ ?_); exact rfl) | ((with_reducible refine panyC_s (cm := true) ?_ ?_ ?_); exact rfl; exact rfl; simp (disch := omega) only [push_cast, seval, c1, c2, c3, q1, q2]) | ((with_reducible refine pops_plain fun K hK => ?_); simp (disch := omega) only [push_cast, seval, c1, c2, c3, q1, q2]) | ((((with_reducible refine pD_y ?_ ?_); exact rfl)); simp (disch := omega) only [push_cast, seval, c1, c2, c3, q1, q2]) | ((first | ((with_reducible refine pops_guard ?_); refine ⟨_, rfl, fun K hK => ⟨_, rfl, fun hg => ?_, fun hg => ?_⟩⟩) | ((first | ((with_reducible refine pD_gy ?_ ?_); exact rfl) | ((with_reducible refine pD_gx ?_ ?_); exact rfl)); refine ⟨_, rfl, _, rfl, fun hg => ?_, fun hg => ?_⟩)) <;> first | (exact absurd hg (by decide)) | ((try simp only [Bool.not_true, Bool.not_false] at hg); (try simp only [hg]); (try simp only [push_cast] at hg); (try exact absurd trivial hg); (try (exfalso; omega)); (try simp (disch := omega) only [push_cast, seval, c1, c2, c3, q1, q2]))) | ((with_reducible show pcall _ _ _ _ _ _); (first | (refine pcO (cf Try.func43) [_, _, _] (cy) ?_) | (refine pcO (cf Try.func80) [_, _, _] (cd) ?_) | (refine pcO (cf Try.func81) [_, _, _] (ck) ?_) | (refine pcO (cf Try.func82) [_, _, _] (cp1) ?_)); (try simp (disch := omega) only [push_cast, seval, c1, c2, c3, q1, q2])))
    all_goals ((with_reducible show PPostR _ _ _ _ _ _); exact finH [0, 1, 2, _, _])
set_option maxHeartbeats 8000000 in
theorem iRule_f (a : Acting) (ok : NOk a.1) (hs : a.2.length ≤ 900) (c1 : ¬ 0 < a.1.fDecided) (c2 : a.1.fRound ≠ -1) (hb : best a.1.fMsgs = none) (hk : skipTo a.1.fMsgs a.1.fRound (11 - a.1.fRound).toNat = none) (c3 : a.1.fStep = 1) (hp1 : propose a.1.fMsgs a.1.fRound (fun m : GNMsg => decide (m.fPol = -1)) = none) (m : GNMsg) (hp2 : propose a.1.fMsgs a.1.fRound (fun m : GNMsg => decide (0 ≤ m.fPol) && decide (3 ≤ cntM a.1.fMsgs 2 m.fPol m.fVal)) = some m) (y : Bool) (hy : y = (decide (a.1.fLockRound ≤ m.fPol) || decide (a.1.fLockVal = m.fVal))) : PCalls Try.prog 65 [.ptr 0 0] (bAct a) (RH (.val (.bool true)) (bActM (prevote a m.fVal y))) := by
  have hl : a.1.fMsgs.length ≤ 1000 ∧ a.2.length ≤ 1000 := ⟨by have := ok.ln; omega, by omega⟩
  have hrd := ok.rd
  have hst := ok.st
  have cd := iDecide_p a hl.1
  unfold decideD at cd
  rw [hb] at cd
  dsimp only at cd
  have ck := iSkip_p a ok.rd ok.me hl
  unfold skipD at ck
  rw [hk] at ck
  dsimp only at ck
  have cp1 := iProp1_o a (by omega)
  rw [hp1] at cp1
  simp only [optM] at cp1
  have cp2 := iProp2_o a (by omega)
  rw [hp2] at cp2
  simp only [optM] at cp2
  unfold bActN at cp2
  have cy := iPrevote_p a m.fVal y hl
  generalize prevote a m.fVal y = r at cy ⊢
  obtain ⟨⟨r1, r2, r3, r4, r5, r6, r7, r8, r9, rl⟩, rs⟩ := r
  obtain ⟨m1, m2, m3, m4, m5⟩ := m
  clear ok
  obtain ⟨⟨n1, n2, n3, n4, n5, n6, n7, n8, n9, l⟩, s⟩ := a
  dsimp only at *
  by_cases q1 : n5 ≤ m4
  all_goals by_cases q2 : n4 = m3
  all_goals
    simp only [q1, q2, decide_true, decide_false, Bool.or_true, Bool.true_or, Bool.or_false, Bool.or_self] at hy
    subst y
    (try simp only [Option.isSome_none, Option.isSome_some])
    refine pcalls_ofR okP Try.func65 rfl ?_
    simp only [Try.f65, List.length_cons, List.length_nil, Nat.reduceAdd, Nat.reduceSub, List.replicate_succ, List.replicate_zero, List.cons_append, List.nil_append, List.length_map]
    refine PWp.mvB 0 9 1 rfl rfl rfl (by decide) ?_
    refine PWp.mvB 0 10 2 rfl rfl rfl (by decide) ?_
    repeat' (first | with_reducible (first | refine wA ?_ | refine wC ?_) | with_reducible refine PWp.drawC (id := 13) okP true [19] [0, 1, 2, 3, 4, 5, 6, 7, 8, 9, 10, 11, 12, 13, 14, 15, 16, 17, 18, 19] (by kernel_rfl) ?_ | with_reducible (first | refine wq1 ?_ | refine wq3 ?_ | refine wq5 ?_ | refine wq9 ?_ | refine wS ?_) | ((with_reducible refine hK _ ?_); clear hK K) | ((with_reducible refine PWp.condI ?_); refine ⟨_, rfl, fun hg => ?_, fun hg => ?_⟩ <;> first | (exact absurd hg (by decide)) | ((try simp only [Bool.not_true, Bool.not_false] at hg); (try simp only [hg]); (try simp only [push_cast] at hg); (try exact absurd trivial hg); (try (exfalso; omega)))) | with_reducible refine panyC_nil ?_ | ((with_reducible refine panyC_I ?_); refine ⟨_, rfl, fun K hK => ?_⟩) | ((with_reducible refine panyC_w ?_ ?_); exact rfl) | ((with_reducible refine panyC_s (cm := true) ?_ ?_ ?_); exact rfl; exact rfl; simp (disch := omega) only [push_cast, seval, c1, c2, c3, q1, q2]) | ((with_reducible refine pops_plain fun K hK => ?_); simp (disch := omega) only [push_cast, seval, c1, c2, c3, q1, q2]) | ((((with_reducible refine pD_y ?_ ?_); exact rfl)); simp (disch := omega) only [push_cast, seval, c1, c2, c3, q1, q2]) | ((first | ((with_reducible refine pops_guard ?_); refine ⟨_, rfl, fun K hK => ⟨_, rfl, fun hg => ?_, fun hg => ?_⟩⟩) | ((first | ((with_reducible refine pD_gy ?_ ?_); exact rfl) | ((with_reducible refine pD_gx ?_ ?_); exact rfl)); refine ⟨_, rfl, _, rfl, fun hg => ?_, fun hg => ?_⟩)) <;> first | (exact absurd hg (by decide)) | ((try simp only [Bool.not_true, Bool.not_false] at hg); (try simp only [hg]); (try simp only [push_cast] at hg); (try exact absurd trivial hg); (try (exfalso; omega)); (try simp (disch := omega) only [push_cast, seval, c1, c2, c3, q1, q2]))) | ((with_reducible show pcall _ _ _ _ _ _); (first | (refine pcO (cf Try.func43) [_, _, _] (cy) ?_) | (refine pcO (cf Try.func80) [_, _, _] (cd) ?_) | (refine pcO (cf Try.func81) [_, _, _] (ck) ?_) | (refine pcall_RGo (cf Try.func82) [?_, ?_, ?_] ?_ ?_ ?_ ?_ (cp1) ?_; rotate_left 3; (· ((try simp (disch := omega) only [push_cast, seval]); (repeat' (first | exact trivial | exact rfl | refine And.intro ?_ ?_ | omega)))); (· ((try (unfold bAct)); (try simp (disch := omega) only [push_cast, seval]); (repeat' (first | exact trivial | exact rfl | refine And.intro ?_ ?_ | omega)))); (· exact rfl); (· exact rfl); rotate_right 1; rotate_left 1; (all_goals (try (first | omega | exact (show _ = _ by assumption))))) | (refine pcO (cf Try.func82) [_, _, _, _] (cp2) ?_)); (try simp (disch := omega) only [push_cast, seval, c1, c2, c3, q1, q2])))
    all_goals ((with_reducible show PPostR _ _ _ _ _ _); exact finH [0, 1, 2, _, _])
set_option maxHeartbeats 8000000 in
theorem iRule_g (a : Acting) (ok : NOk a.1) (hs : a.2.length ≤ 900) (c1 : ¬ 0 < a.1.fDecided) (c2 : a.1.fRound ≠ -1) (hb : best a.1.fMsgs = none) (hk : skipTo a.1.fMsgs a.1.fRound (11 - a.1.fRound).toNat = none) (c3 : a.1.fStep = 1) (hp1 : propose a.1.fMsgs a.1.fRound (fun m : GNMsg => decide (m.fPol = -1)) = none) (hp2 : propose a.1.fMsgs a.1.fRound (fun m : GNMsg => decide (0 ≤ m.fPol) && decide (3 ≤ cntM a.1.fMsgs 2 m.fPol m.fVal)) = none) : PCalls Try.prog 65 [.ptr 0 0] (bAct a) (RH (.val (.bool false)) (bActM a)) := by
  have hl : a.1.fMsgs.length ≤ 1000 ∧ a.2.length ≤ 1000 := ⟨by have := ok.ln; omega, by omega⟩
  have hrd := ok.rd
  have hst := ok.st
  have cd := iDecide_p a hl.1
  unfold decideD at cd
  rw [hb] at cd
  dsimp only at cd
  have ck := iSkip_p a ok.rd ok.me hl
  unfold skipD at ck
  rw [hk] at ck
  dsimp only at ck
  have cp1 := iProp1_o a (by omega)
  rw [hp1] at cp1
  simp only [optM] at cp1
  have cp2 := iProp2_o a (by omega)
  rw [hp2] at cp2
  simp only [optM] at cp2
  unfold bActN at cp2
  clear ok
  obtain ⟨⟨n1, n2, n3, n4, n5, n6, n7, n8, n9, l⟩, s⟩ := a
  dsimp only at *
  (try simp only [Option.isSome_none, Option.isSome_some])
  refine pcalls_ofR okP Try.func65 rfl ?_
  simp only [Try.f65, List.length_cons, List.length_nil, Nat.reduceAdd, Nat.reduceSub, List.replicate_succ, List.replicate_zero, List.cons_append, List.nil_append, List.length_map]
  refine PWp.mvB 0 9 1 rfl rfl rfl (by decide) ?_
  refine PWp.mvB 0 10 2 rfl rfl rfl (by decide) ?_
  repeat' (first | with_reducible (first | refine wA ?_ | refine wC ?_) | with_reducible (first | refine wq1 ?_ | refine wq3 ?_ | refine wq5 ?_ | refine wq9 ?_ | refine wS ?_) | ((with_reducible refine hK _ ?_); clear hK K) | ((with_reducible refine PWp.condI ?_); refine ⟨_, rfl, fun hg => ?_, fun hg => ?_⟩ <;> first | (exact absurd hg (by decide)) | ((try simp only [Bool.not_true, Bool.not_false] at hg); (try simp only [hg]); (try simp only [push_cast] at hg); (try exact absurd trivial hg); (try (exfalso; omega)))) | ((with_reducible refine pops_plain fun K hK => ?_); simp (disch := omega) only [push_cast, seval, c1, c2, c3]) | ((((with_reducible refine pops_guard ?_); refine ⟨_, rfl, fun K hK => ⟨_, rfl, fun hg => ?_, fun hg => ?_⟩⟩)) <;> first | (exact absurd hg (by decide)) | ((try simp only [Bool.not_true, Bool.not_false] at hg); (try simp only [hg]); (try simp only [push_cast] at hg); (try exact absurd trivial hg); (try (exfalso; omega)); (try simp (disch := omega) only [push_cast, seval, c1, c2, c3]))) | ((with_reducible show pcall _ _ _ _ _ _); (first | (refine pcO (cf Try.func80) [_, _, _] (cd) ?_) | (refine pcO (cf Try.func81) [_, _, _] (ck) ?_) | (refine pcall_RGo (cf Try.func82) [?_, ?_, ?_] ?_ ?_ ?_ ?_ (cp1) ?_; rotate_left 3; (· ((try simp (disch := omega) only [push_cast, seval]); (repeat' (first | exact trivial | exact rfl | refine And.intro ?_ ?_ | omega)))); (· ((try (unfold bAct)); (try simp (disch := omega) only [push_cast, seval]); (repeat' (first | exact trivial | exact rfl | refine And.intro ?_ ?_ | omega)))); (· exact rfl); (· exact rfl); rotate_right 1; rotate_left 1; (all_goals (try (first | omega | exact (show _ = _ by assumption))))) | (refine pcO (cf Try.func82) [_, _, _, _] (cp2) ?_)); (try simp (disch := omega) only [push_cast, seval, c1, c2, c3])))
  all_goals ((with_reducible show PPostR _ _ _ _ _ _); exact finH [0, 1, 2, _, _])
set_option maxHeartbeats 8000000 in
theorem iRule_h (a : Acting) (ok : NOk a.1) (hs : a.2.length ≤ 900) (c1 : ¬ 0 < a.1.fDecided) (c2 : a.1.fRound ≠ -1) (hb : best a.1.fMsgs = none) (hk : skipTo a.1.fMsgs a.1.fRound (11 - a.1.fRound).toNat = none) (c3 : ¬ a.1.fStep = 1) (c4 : ¬ a.1.fPolka = a.1.fRound) (m : GNMsg) (hp3 : propose a.1.fMsgs a.1.fRound (fun m : GNMsg => decide (3 ≤ cntM a.1.fMsgs 2 a.1.fRound m.fVal)) = some m) (c5 : ¬ a.1.fStep = 2) : PCalls Try.prog 65 [.ptr 0 0] (bAct a) (RH (.val (.bool true)) (bActM (polkaD a m.fVal))) := by
  have hl : a.1.fMsgs.length ≤ 1000 ∧ a.2.length ≤ 1000 := ⟨by have := ok.ln; omega, by omega⟩
  have hrd := ok.rd
  have hst := ok.st
  have cd := iDecide_p a hl.1
  unfold decideD at cd
  rw [hb] at cd
  dsimp only at cd
  have ck := iSkip_p a ok.rd ok.me hl
  unfold skipD at ck
  rw [hk] at ck
  dsimp only at ck
  have cp3 := iProp3_o a (by omega)
  rw [hp3] at cp3
  simp only [optM] at cp3
  unfold bActN at cp3
  unfold polkaD
  obtain ⟨m1, m2, m3, m4, m5⟩ := m
  clear ok
  obtain ⟨⟨n1, n2, n3, n4, n5, n6, n7, n8, n9, l⟩, s⟩ := a
  dsimp only at *
  (try simp only [Option.isSome_none, Option.isSome_some])
  refine pcalls_ofR okP Try.func65 rfl ?_
  simp only [Try.f65, List.length_cons, List.length_nil, Nat.reduceAdd, Nat.reduceSub, List.replicate_succ, List.replicate_zero, List.cons_append, List.nil_append, List.length_map]
  refine PWp.mvB 0 9 1 rfl rfl rfl (by decide) ?_
  refine PWp.mvB 0 10 2 rfl rfl rfl (by decide) ?_
  repeat' (first | with_reducible (first | refine wA ?_ | refine wC ?_) | with_reducible refine PWp.draw (id := 16) okP true [0, 1, 2, 3, 4, 5, 6, 7, 8] (by kernel_rfl) ?_ | with_reducible refine PWp.draw (id := 25) okP true [0, 1, 2, 3, 4, 5, 6, 7] (by kernel_rfl) ?_ | with_reducible refine PWp.draw (id := 26) okP true [0, 1, 2, 3, 4, 5, 6, 7] (by kernel_rfl) ?_ | with_reducible (first | refine wq1 ?_ | refine wq2 ?_ | refine wq3 ?_ | refine wq5 ?_ | refine wq9 ?_ | refine wS ?_) | ((with_reducible refine hK _ ?_); clear hK K) | ((with_reducible refine PWp.condI ?_); refine ⟨_, rfl, fun hg => ?_, fun hg => ?_⟩ <;> first | (exact absurd hg (by decide)) | ((try simp only [Bool.not_true, Bool.not_false] at hg); (try simp only [hg]); (try simp only [push_cast] at hg); (try exact absurd trivial hg); (try (exfalso; omega)))) | ((with_reducible refine pany_I ?_); refine ⟨_, rfl, fun K hK => ?_⟩) | ((with_reducible refine pops_plain fun K hK => ?_); simp (disch := omega) only [push_cast, seval, c1, c2, c3, c4, c5]) | ((first | ((with_reducible refine pD_y ?_ ?_); exact rfl) | ((with_reducible refine pD_x ?_ ?_); exact rfl)); simp (disch := omega) only [push_cast, seval, c1, c2, c3, c4, c5]) | ((((with_reducible refine pops_guard ?_); refine ⟨_, rfl, fun K hK => ⟨_, rfl, fun hg => ?_, fun hg => ?_⟩⟩)) <;> first | (exact absurd hg (by decide)) | ((try simp only [Bool.not_true, Bool.not_false] at hg); (try simp only [hg]); (try simp only [push_cast] at hg); (try exact absurd trivial hg); (try (exfalso; omega)); (try simp (disch := omega) only [push_cast, seval, c1, c2, c3, c4, c5]))) | ((with_reducible show pcall _ _ _ _ _ _); (first | (refine pcO (cf Try.func80) [_, _, _] (cd) ?_) | (refine pcO (cf Try.func81) [_, _, _] (ck) ?_) | (refine pcO (cf Try.func82) [_, _, _, _] (cp3) ?_)); (try simp (disch := omega) only [push_cast, seval, c1, c2, c3, c4, c5])))
  all_goals ((with_reducible show PPostR _ _ _ _ _ _); exact finH [0, 1, 2, _, _])
set_option maxHeartbeats 8000000 in
theorem iRule_i (a : Acting) (ok : NOk a.1) (hs : a.2.length ≤ 900) (c1 : ¬ 0 < a.1.fDecided) (c2 : a.1.fRound ≠ -1) (hb : best a.1.fMsgs = none) (hk : skipTo a.1.fMsgs a.1.fRound (11 - a.1.fRound).toNat = none) (c3 : ¬ a.1.fStep = 1) (c4 : ¬ a.1.fPolka = a.1.fRound) (m : GNMsg) (hp3 : propose a.1.fMsgs a.1.fRound (fun m : GNMsg => decide (3 ≤ cntM a.1.fMsgs 2 a.1.fRound m.fVal)) = some m) (c5 : a.1.fStep = 2) : PCalls Try.prog 65 [.ptr 0 0] (bAct a) (RH (.val (.bool true)) (bActM (polkaD (precommit (lockD a m.fVal) m.fVal) m.fVal))) := by
  have hl : a.1.fMsgs.length ≤ 1000 ∧ a.2.length ≤ 1000 := ⟨by have := ok.ln; omega, by omega⟩
  have hrd := ok.rd
  have hst := ok.st
  have cd := iDecide_p a hl.1
  unfold decideD at cd
  rw [hb] at cd
  dsimp only at cd
  have ck := iSkip_p a ok.rd ok.me hl
  unfold skipD at ck
  rw [hk] at ck
  dsimp only at ck
  have cp3 := iProp3_o a (by omega)
  rw [hp3] at cp3
  simp only [optM] at cp3
  unfold bActN at cp3
  have cs := iSend_p (lockD a m.fVal) 3 m.fVal (-1) hl
  unfold precommit
  generalize send (lockD a m.fVal) 3 m.fVal (-1) = r at cs ⊢
  obtain ⟨⟨r1, r2, r3, r4, r5, r6, r7, r8, r9, rl⟩, rs⟩ := r
  unfold stepTo polkaD
  unfold lockD at cs
  obtain ⟨m1, m2, m3, m4, m5⟩ := m
  clear ok
  obtain ⟨⟨n1, n2, n3, n4, n5, n6, n7, n8, n9, l⟩, s⟩ := a
  dsimp only at *
  (try simp only [Option.isSome_none, Option.isSome_some])
  refine pcalls_ofR okP Try.func65 rfl ?_
  simp only [Try.f65, List.length_cons, List.length_nil, Nat.reduceAdd, Nat.reduceSub, List.replicate_succ, List.replicate_zero, List.cons_append, List.nil_append, List.length_map]
  refine PWp.mvB 0 9 1 rfl rfl rfl (by decide) ?_
  refine PWp.mvB 0 10 2 rfl rfl rfl (by decide) ?_
  repeat' (first | with_reducible (first | refine wA ?_ | refine wC ?_) | with_reducible refine PWp.draw (id := 16) okP true [0, 1, 2, 3, 4, 5, 6, 7, 8] (by kernel_rfl) ?_ | with_reducible refine PWp.draw (id := 21) okP true [0, 1, 2, 3, 4, 5, 6, 7] (by kernel_rfl) ?_ | with_reducible refine PWp.draw (id := 25) okP true [0, 1, 2, 3, 4, 5, 6, 7] (by kernel_rfl) ?_ | with_reducible refine PWp.draw (id := 26) okP true [0, 1, 2, 3, 4, 5, 6, 7] (by kernel_rfl) ?_ | with_reducible (first | refine wq1 ?_ | refine wq2 ?_ | refine wq3 ?_ | refine wq5 ?_ | refine wq9 ?_ | refine wS ?_) | ((with_reducible refine hK _ ?_); clear hK K) | ((with_reducible refine PWp.condI ?_); refine ⟨_, rfl, fun hg => ?_, fun hg => ?_⟩ <;> first | (exact absurd hg (by decide)) | ((try simp only [Bool.not_true, Bool.not_false] at hg); (try simp only [hg]); (try simp only [push_cast] at hg); (try exact absurd trivial hg); (try (exfalso; omega)))) | ((with_reducible refine pany_I ?_); refine ⟨_, rfl, fun K hK => ?_⟩) | ((with_reducible refine pops_plain fun K hK => ?_); simp (disch := omega) only [push_cast, seval, c1, c2, c3, c4, c5]) | ((first | ((with_reducible refine pD_y ?_ ?_); exact rfl) | ((with_reducible refine pD_x ?_ ?_); exact rfl)); simp (disch := omega) only [push_cast, seval, c1, c2, c3, c4, c5]) | ((((with_reducible refine pops_guard ?_); refine ⟨_, rfl, fun K hK => ⟨_, rfl, fun hg => ?_, fun hg => ?_⟩⟩)) <;> first | (exact absurd hg (by decide)) | ((try simp only [Bool.not_true, Bool.not_false] at hg); (try simp only [hg]); (try simp only [push_cast] at hg); (try exact absurd trivial hg); (try (exfalso; omega)); (try simp (disch := omega) only [push_cast, seval, c1, c2, c3, c4, c5]))) | ((with_reducible show pcall _ _ _ _ _ _); (first | (refine pcO (cf Try.func44) [_, _, _] (cs) ?_) | (refine pcO (cf Try.func80) [_, _, _] (cd) ?_) | (refine pcO (cf Try.func81) [_, _, _] (ck) ?_) | (refine pcO (cf Try.func82) [_, _, _, _] (cp3) ?_)); (try simp (disch := omega) only [push_cast, seval, c1, c2, c3, c4, c5])))
  all_goals ((with_reducible show PPostR _ _ _ _ _ _); exact finH [0, 1, 2, _, _])
set_option maxHeartbeats 8000000 in
theorem iRule_j1 (a : Acting) (ok : NOk a.1) (hs : a.2.length ≤ 900) (c1 : ¬ 0 < a.1.fDecided) (c2 : a.1.fRound ≠ -1) (hb : best a.1.fMsgs = none) (hk : skipTo a.1.fMsgs a.1.fRound (11 - a.1.fRound).toNat = none) (c3 : ¬ a.1.fStep = 1) (c4 : a.1.fPolka = a.1.fRound) (c5 : ¬ a.1.fStep = 2) : PCalls Try.prog 65 [.ptr 0 0] (bAct a) (RH (.val (.bool false)) (bActM a)) := by
  have hl : a.1.fMsgs.length ≤ 1000 ∧ a.2.length ≤ 1000 := ⟨by have := ok.ln; omega, by omega⟩
  have hrd := ok.rd
  have hst := ok.st
  have cd := iDecide_p a hl.1
  unfold decideD at cd
  rw [hb] at cd
  dsimp only at cd
  have ck := iSkip_p a ok.rd ok.me hl
  unfold skipD at ck
  rw [hk] at ck
  dsimp only at ck
  clear ok
  obtain ⟨⟨n1, n2, n3, n4, n5, n6, n7, n8, n9, l⟩, s⟩ := a
  dsimp only at *
  (try simp only [Option.isSome_none, Option.isSome_some])
  refine pcalls_ofR okP Try.func65 rfl ?_
  simp only [Try.f65, List.length_cons, List.length_nil, Nat.reduceAdd, Nat.reduceSub, List.replicate_succ, List.replicate_zero, List.cons_append, List.nil_append, List.length_map]
  refine PWp.mvB 0 9 1 rfl rfl rfl (by decide) ?_
  refine PWp.mvB 0 10 2 rfl rfl rfl (by decide) ?_
  repeat' (first | with_reducible (first | refine wA ?_ | refine wC ?_) | with_reducible refine PWp.drawC (id := 28) okP true [11] [0, 1, 2, 3, 4, 5, 6, 7, 8, 9, 10, 11, 12, 13] (by kernel_rfl) ?_ | with_reducible refine PWp.draw (id := 16) okP true [0, 1, 2, 3, 4, 5, 6, 7, 8] (by kernel_rfl) ?_ | with_reducible (first | refine wq1 ?_ | refine wq2 ?_ | refine wq3 ?_ | refine wq9 ?_ | refine wS ?_) | ((with_reducible refine hK _ ?_); clear hK K) | ((with_reducible refine PWp.condI ?_); refine ⟨_, rfl, fun hg => ?_, fun hg => ?_⟩ <;> first | (exact absurd hg (by decide)) | ((try simp only [Bool.not_true, Bool.not_false] at hg); (try simp only [hg]); (try simp only [push_cast] at hg); (try exact absurd trivial hg); (try (exfalso; omega)))) | with_reducible refine panyC_nil ?_ | ((with_reducible refine panyC_I ?_); refine ⟨_, rfl, fun K hK => ?_⟩) | ((with_reducible refine panyC_w ?_ ?_); exact rfl) | (((with_reducible refine panyC_g (cm := true) ?_ ?_ ?_); exact rfl; exact rfl; refine ⟨_, rfl, _, rfl, fun hg => ?_, fun hg => ?_⟩) <;> first | (exact absurd hg (by decide)) | ((try simp only [Bool.not_true, Bool.not_false] at hg); (try simp only [hg]); (try simp only [push_cast] at hg); (try exact absurd trivial hg); (try (exfalso; omega)); (try simp (disch := omega) only [push_cast, seval, c1, c2, c3, c4, c5]))) | ((with_reducible refine pany_I ?_); refine ⟨_, rfl, fun K hK => ?_⟩) | ((with_reducible refine pops_plain fun K hK => ?_); simp (disch := omega) only [push_cast, seval, c1, c2, c3, c4, c5]) | ((((with_reducible refine pD_y ?_ ?_); exact rfl)); simp (disch := omega) only [push_cast, seval, c1, c2, c3, c4, c5]) | ((first | ((with_reducible refine pops_guard ?_); refine ⟨_, rfl, fun K hK => ⟨_, rfl, fun hg => ?_, fun hg => ?_⟩⟩) | ((first | ((with_reducible refine pD_gy ?_ ?_); exact rfl) | ((with_reducible refine pD_gx ?_ ?_); exact rfl)); refine ⟨_, rfl, _, rfl, fun hg => ?_, fun hg => ?_⟩)) <;> first | (exact absurd hg (by decide)) | ((try simp only [Bool.not_true, Bool.not_false] at hg); (try simp only [hg]); (try simp only [push_cast] at hg); (try exact absurd trivial hg); (try (exfalso; omega)); (try simp (disch := omega) only [push_cast, seval, c1, c2, c3, c4, c5]))) | ((with_reducible show pcall _ _ _ _ _ _); (first | (refine pcO (cf Try.func80) [_, _, _] (cd) ?_) | (refine pcO (cf Try.func81) [_, _, _] (ck) ?_)); (try simp (disch := omega) only [push_cast, seval, c1, c2, c3, c4, c5])))
  all_goals ((with_reducible show PPostR _ _ _ _ _ _); exact finH [0, 1, 2, _, _])
set_option maxHeartbeats 8000000 in
theorem iRule_j2 (a : Acting) (ok : NOk a.1) (hs : a.2.length ≤ 900) (c1 : ¬ 0 < a.1.fDecided) (c2 : a.1.fRound ≠ -1) (hb : best a.1.fMsgs = none) (hk : skipTo a.1.fMsgs a.1.fRound (11 - a.1.fRound).toNat = none) (c3 : ¬ a.1.fStep = 1) (c4 : a.1.fPolka = a.1.fRound) (c5 : a.1.fStep = 2) (c6 : ¬ 3 ≤ cntM a.1.fMsgs 2 a.1.fRound 0) : PCalls Try.prog 65 [.ptr 0 0] (bAct a) (RH (.val (.bool false)) (bActM a)) := by
  have hl : a.1.fMsgs.length ≤ 1000 ∧ a.2.length ≤ 1000 := ⟨by have := ok.ln; omega, by omega⟩
  have hrd := ok.rd
  have hst := ok.st
  have cd := iDecide_p a hl.1
  unfold decideD at cd
  rw [hb] at cd
  dsimp only at cd
  have ck := iSkip_p a ok.rd ok.me hl
  unfold skipD at ck
  rw [hk] at ck
  dsimp only at ck
  have cn := fun r v => iCount_o a 2 r v (by omega)
  clear ok
  obtain ⟨⟨n1, n2, n3, n4, n5, n6, n7, n8, n9, l⟩, s⟩ := a
  dsimp only at *
  (try simp only [Option.isSome_none, Option.isSome_some])
  refine pcalls_ofR okP Try.func65 rfl ?_
  simp only [Try.f65, List.length_cons, List.length_nil, Nat.reduceAdd, Nat.reduceSub, List.replicate_succ, List.replicate_zero, List.cons_append, List.nil_append, List.length_map]
  refine PWp.mvB 0 9 1 rfl rfl rfl (by decide) ?_
  refine PWp.mvB 0 10 2 rfl rfl rfl (by decide) ?_
  repeat' (first | with_reducible (first | refine wA ?_ | refine wC ?_) | with_reducible refine PWp.drawC (id := 28) okP true [11] [0, 1, 2, 3, 4, 5, 6, 7, 8, 9, 10, 11, 12, 13] (by kernel_rfl) ?_ | with_reducible refine PWp.draw (id := 16) okP true [0, 1, 2, 3, 4, 5, 6, 7, 8] (by kernel_rfl) ?_ | with_reducible (first | refine wq1 ?_ | refine wq2 ?_ | refine wq3 ?_ | refine wq9 ?_ | refine wS ?_) | ((with_reducible refine hK _ ?_); clear hK K) | ((with_reducible refine PWp.condI ?_); refine ⟨_, rfl, fun hg => ?_, fun hg => ?_⟩ <;> first | (exact absurd hg (by decide)) | ((try simp only [Bool.not_true, Bool.not_false] at hg); (try simp only [hg]); (try simp only [push_cast] at hg); (try exact absurd trivial hg); (try (exfalso; omega)))) | with_reducible refine panyC_nil ?_ | ((with_reducible refine panyC_I ?_); refine ⟨_, rfl, fun K hK => ?_⟩) | ((with_reducible refine panyC_w ?_ ?_); exact rfl) | (((with_reducible refine panyC_g (cm := true) ?_ ?_ ?_); exact rfl; exact rfl; refine ⟨_, rfl, _, rfl, fun hg => ?_, fun hg => ?_⟩) <;> first | (exact absurd hg (by decide)) | ((try simp only [Bool.not_true, Bool.not_false] at hg); (try simp only [hg]); (try simp only [push_cast] at hg); (try exact absurd trivial hg); (try (exfalso; omega)); (try simp (disch := omega) only [push_cast, seval, c1, c2, c3, c4, c5, c6]))) | ((with_reducible refine pany_I ?_); refine ⟨_, rfl, fun K hK => ?_⟩) | ((with_reducible refine pops_plain fun K hK => ?_); simp (disch := omega) only [push_cast, seval, c1, c2, c3, c4, c5, c6]) | ((((with_reducible refine pD_y ?_ ?_); exact rfl)); simp (disch := omega) only [push_cast, seval, c1, c2, c3, c4, c5, c6]) | ((first | ((with_reducible refine pops_guard ?_); refine ⟨_, rfl, fun K hK => ⟨_, rfl, fun hg => ?_, fun hg => ?_⟩⟩) | ((first | ((with_reducible refine pD_gy ?_ ?_); exact rfl) | ((with_reducible refine pD_gx ?_ ?_); exact rfl)); refine ⟨_, rfl, _, rfl, fun hg => ?_, fun hg => ?_⟩)) <;> first | (exact absurd hg (by decide)) | ((try simp only [Bool.not_true, Bool.not_false] at hg); (try simp only [hg]); (try simp only [push_cast] at hg); (try exact absurd trivial hg); (try (exfalso; omega)); (try simp (disch := omega) only [push_cast, seval, c1, c2, c3, c4, c5, c6]))) | ((with_reducible show pcall _ _ _ _ _ _); (first | (refine pcO (cf Try.func80) [_, _, _] (cd) ?_) | (refine pcO (cf Try.func81) [_, _, _] (ck) ?_) | (refine pcall_RGo (cf Try.func85) [?_, ?_, ?_] ?_ ?_ ?_ ?_ (cn ?_ ?_) ?_; rotate_left 3; (· ((try simp (disch := omega) only [push_cast, seval]); (repeat' (first | exact trivial | exact rfl | refine And.intro ?_ ?_ | omega)))); (· ((try (unfold bAct)); (try simp (disch := omega) only [push_cast, seval]); (repeat' (first | exact trivial | exact rfl | refine And.intro ?_ ?_ | omega)))); (· exact rfl); (· exact rfl); rotate_right 1; rotate_left 1; (all_goals (try (first | omega | exact (show _ = _ by assumption)))))); (try simp (disch := omega) only [push_cast, seval, c1, c2, c3, c4, c5, c6])))
  all_goals ((with_reducible show PPostR _ _ _ _ _ _); exact finH [0, 1, 2, _, _])
set_option maxHeartbeats 8000000 in
theorem iRule_j3 (a : Acting) (ok : NOk a.1) (hs : a.2.length ≤ 900) (c1 : ¬ 0 < a.1.fDecided) (c2 : a.1.fRound ≠ -1) (hb : best a.1.fMsgs = none) (hk : skipTo a.1.fMsgs a.1.fRound (11 - a.1.fRound).toNat = none) (c3 : ¬ a.1.fStep = 1) (c4 : a.1.fPolka = a.1.fRound) (c5 : a.1.fStep = 2) (c6 : 3 ≤ cntM a.1.fMsgs 2 a.1.fRound 0) : PCalls Try.prog 65 [.ptr 0 0] (bAct a) (RH (.val (.bool true)) (bActM (precommit a 0))) := by
  have hl : a.1.fMsgs.length ≤ 1000 ∧ a.2.length ≤ 1000 := ⟨by have := ok.ln; omega, by omega⟩
  have hrd := ok.rd
  have hst := ok.st
  have cd := iDecide_p a hl.1
  unfold decideD at cd
  rw [hb] at cd
  dsimp only at cd
  have ck := iSkip_p a ok.rd ok.me hl
  unfold skipD at ck
  rw [hk] at ck
  dsimp only at ck
  have cn := fun r v => iCount_o a 2 r v (by omega)
  have cs := iSend_p a 3 0 (-1) hl
  unfold precommit
  generalize send a 3 0 (-1) = r at cs ⊢
  obtain ⟨⟨r1, r2, r3, r4, r5, r6, r7, r8, r9, rl⟩, rs⟩ := r
  unfold stepTo
  clear ok
  obtain ⟨⟨n1, n2, n3, n4, n5, n6, n7, n8, n9, l⟩, s⟩ := a
  dsimp only at *
  (try simp only [Option.isSome_none, Option.isSome_some])
  refine pcalls_ofR okP Try.func65 rfl ?_
  simp only [Try.f65, List.length_cons, List.length_nil, Nat.reduceAdd, Nat.reduceSub, List.replicate_succ, List.replicate_zero, List.cons_append, List.nil_append, List.length_map]
  refine PWp.mvB 0 9 1 rfl rfl rfl (by decide) ?_
  refine PWp.mvB 0 10 2 rfl rfl rfl (by decide) ?_
  repeat' (first | with_reducible (first | refine wA ?_ | refine wC ?_) | with_reducible refine PWp.drawC (id := 28) okP true [11] [0, 1, 2, 3, 4, 5, 6, 7, 8, 9, 10, 11, 12, 13] (by kernel_rfl) ?_ | with_reducible refine PWp.draw (id := 16) okP true [0, 1, 2, 3, 4, 5, 6, 7, 8] (by kernel_rfl) ?_ | with_reducible (first | refine wq1 ?_ | refine wq2 ?_ | refine wq3 ?_ | refine wq5 ?_ | refine wq9 ?_ | refine wS ?_) | ((with_reducible refine hK _ ?_); clear hK K) | ((with_reducible refine PWp.condI ?_); refine ⟨_, rfl, fun hg => ?_, fun hg => ?_⟩ <;> first | (exact absurd hg (by decide)) | ((try simp only [Bool.not_true, Bool.not_false] at hg); (try simp only [hg]); (try simp only [push_cast] at hg); (try exact absurd trivial hg); (try (exfalso; omega)))) | with_reducible refine panyC_nil ?_ | ((with_reducible refine panyC_I ?_); refine ⟨_, rfl, fun K hK => ?_⟩) | ((with_reducible refine panyC_w ?_ ?_); exact rfl) | (((with_reducible refine panyC_g (cm := true) ?_ ?_ ?_); exact rfl; exact rfl; refine ⟨_, rfl, _, rfl, fun hg => ?_, fun hg => ?_⟩) <;> first | (exact absurd hg (by decide)) | ((try simp only [Bool.not_true, Bool.not_false] at hg); (try simp only [hg]); (try simp only [push_cast] at hg); (try exact absurd trivial hg); (try (exfalso; omega)); (try simp (disch := omega) only [push_cast, seval, c1, c2, c3, c4, c5, c6]))) | ((with_reducible refine pany_I ?_); refine ⟨_, rfl, fun K hK => ?_⟩) | ((with_reducible refine pops_plain fun K hK => ?_); simp (disch := omega) only [push_cast, seval, c1, c2, c3, c4, c5, c6]) | ((((with_reducible refine pD_y ?_ ?_); exact rfl)); simp (disch := omega) only [push_cast, seval, c1, c2, c3, c4, c5, c6]) | ((first | ((with_reducible refine pops_guard ?_); refine ⟨_, rfl, fun K hK => ⟨_, rfl, fun hg => ?_, fun hg => ?_⟩⟩) | ((first | ((with_reducible refine pD_gy ?_ ?_); exact rfl) | ((with_reducible refine pD_gx ?_ ?_); exact rfl)); refine ⟨_, rfl, _, rfl, fun hg => ?_, fun hg => ?_⟩)) <;> first | (exact absurd hg (by decide)) | ((try simp only [Bool.not_true, Bool.not_false] at hg); (try simp only [hg]); (try simp only [push_cast] at hg); (try exact absurd trivial hg); (try (exfalso; omega)); (try simp (disch := omega) only [push_cast, seval, c1, c2, c3, c4, c5, c6]))) | ((with_reducible show pcall _ _ _ _ _ _); (first | (refine pcO (cf Try.func44) [_, _, _] (cs) ?_) | (refine pcO (cf Try.func80) [_, _, _] (cd) ?_) | (refine pcO (cf Try.func81) [_, _, _] (ck) ?_) | (refine pcall_RGo (cf Try.func85) [?_, ?_, ?_] ?_ ?_ ?_ ?_ (cn ?_ ?_) ?_; rotate_left 3; (· ((try simp (disch := omega) only [push_cast, seval]); (repeat' (first | exact trivial | exact rfl | refine And.intro ?_ ?_ | omega)))); (· ((try (unfold bAct)); (try simp (disch := omega) only [push_cast, seval]); (repeat' (first | exact trivial | exact rfl | refine And.intro ?_ ?_ | omega)))); (· exact rfl); (· exact rfl); rotate_right 1; rotate_left 1; (all_goals (try (first | omega | exact (show _ = _ by assumption)))))); (try simp (disch := omega) only [push_cast, seval, c1, c2, c3, c4, c5, c6])))
  all_goals ((with_reducible show PPostR _ _ _ _ _ _); exact finH [0, 1, 2, _, _])
set_option maxHeartbeats 8000000 in
theorem iRule_k1 (a : Acting) (ok : NOk a.1) (hs : a.2.length ≤ 900) (c1 : ¬ 0 < a.1.fDecided) (c2 : a.1.fRound ≠ -1) (hb : best a.1.fMsgs = none) (hk : skipTo a.1.fMsgs a.1.fRound (11 - a.1.fRound).toNat = none) (c3 : ¬ a.1.fStep = 1) (c4 : ¬ a.1.fPolka = a.1.fRound) (hp3 : propose a.1.fMsgs a.1.fRound (fun m : GNMsg => decide (3 ≤ cntM a.1.fMsgs 2 a.1.fRound m.fVal)) = none) (c5 : ¬ a.1.fStep = 2) : PCalls Try.prog 65 [.ptr 0 0] (bAct a) (RH (.val (.bool false)) (bActM a)) := by
  have hl : a.1.fMsgs.length ≤ 1000 ∧ a.2.length ≤ 1000 := ⟨by have := ok.ln; omega, by omega⟩
  have hrd := ok.rd
  have hst := ok.st
  have cd := iDecide_p a hl.1
  unfold decideD at cd
  rw [hb] at cd
  dsimp only at cd
  have ck := iSkip_p a ok.rd ok.me hl
  unfold skipD at ck
  rw [hk] at ck
  dsimp only at ck
  have cp3 := iProp3_o a (by omega)
  rw [hp3] at cp3
  simp only [optM] at cp3
  unfold bActN at cp3
  clear ok
  obtain ⟨⟨n1, n2, n3, n4, n5, n6, n7, n8, n9, l⟩, s⟩ := a
  dsimp only at *
  (try simp only [Option.isSome_none, Option.isSome_some])
  refine pcalls_ofR okP Try.func65 rfl ?_
  simp only [Try.f65, List.length_cons, List.length_nil, Nat.reduceAdd, Nat.reduceSub, List.replicate_succ, List.replicate_zero, List.cons_append, List.nil_append, List.length_map]
  refine PWp.mvB 0 9 1 rfl rfl rfl (by decide) ?_
  refine PWp.mvB 0 10 2 rfl rfl rfl (by decide) ?_
  repeat' (first | with_reducible (first | refine wA ?_ | refine wC ?_) | with_reducible refine PWp.drawC (id := 28) okP true [11] [0, 1, 2, 3, 4, 5, 6, 7, 8, 9, 10, 11, 12, 13] (by kernel_rfl) ?_ | with_reducible refine PWp.draw (id := 16) okP true [0, 1, 2, 3, 4, 5, 6, 7, 8] (by kernel_rfl) ?_ | with_reducible (first | refine wq1 ?_ | refine wq2 ?_ | refine wq3 ?_ | refine wq9 ?_ | refine wS ?_) | ((with_reducible refine hK _ ?_); clear hK K) | ((with_reducible refine PWp.condI ?_); refine ⟨_, rfl, fun hg => ?_, fun hg => ?_⟩ <;> first | (exact absurd hg (by decide)) | ((try simp only [Bool.not_true, Bool.not_false] at hg); (try simp only [hg]); (try simp only [push_cast] at hg); (try exact absurd trivial hg); (try (exfalso; omega)))) | with_reducible refine panyC_nil ?_ | ((with_reducible refine panyC_I ?_); refine ⟨_, rfl, fun K hK => ?_⟩) | ((with_reducible refine panyC_w ?_ ?_); exact rfl) | (((with_reducible refine panyC_g (cm := true) ?_ ?_ ?_); exact rfl; exact rfl; refine ⟨_, rfl, _, rfl, fun hg => ?_, fun hg => ?_⟩) <;> first | (exact absurd hg (by decide)) | ((try simp only [Bool.not_true, Bool.not_false] at hg); (try simp only [hg]); (try simp only [push_cast] at hg); (try exact absurd trivial hg); (try (exfalso; omega)); (try simp (disch := omega) only [push_cast, seval, c1, c2, c3, c4, c5]))) | ((with_reducible refine pany_I ?_); refine ⟨_, rfl, fun K hK => ?_⟩) | ((with_reducible refine pops_plain fun K hK => ?_); simp (disch := omega) only [push_cast, seval, c1, c2, c3, c4, c5]) | ((((with_reducible refine pD_y ?_ ?_); exact rfl)); simp (disch := omega) only [push_cast, seval, c1, c2, c3, c4, c5]) | ((first | ((with_reducible refine pops_guard ?_); refine ⟨_, rfl, fun K hK => ⟨_, rfl, fun hg => ?_, fun hg => ?_⟩⟩) | ((first | ((with_reducible refine pD_gy ?_ ?_); exact rfl) | ((with_reducible refine pD_gx ?_ ?_); exact rfl)); refine ⟨_, rfl, _, rfl, fun hg => ?_, fun hg => ?_⟩)) <;> first | (exact absurd hg (by decide)) | ((try simp only [Bool.not_true, Bool.not_false] at hg); (try simp only [hg]); (try simp only [push_cast] at hg); (try exact absurd trivial hg); (try (exfalso; omega)); (try simp (disch := omega) only [push_cast, seval, c1, c2, c3, c4, c5]))) | ((with_reducible show pcall _ _ _ _ _ _); (first | (refine pcO (cf Try.func80) [_, _, _] (cd) ?_) | (refine pcO (cf Try.func81) [_, _, _] (ck) ?_) | (refine pcO (cf Try.func82) [_, _, _, _] (cp3) ?_)); (try simp (disch := omega) only [push_cast, seval, c1, c2, c3, c4, c5])))
  all_goals ((with_reducible show PPostR _ _ _ _ _ _); exact finH [0, 1, 2, _, _])
set_option maxHeartbeats 8000000 in
theorem iRule_k2 (a : Acting) (ok : NOk a.1) (hs : a.2.length ≤ 900) (c1 : ¬ 0 < a.1.fDecided) (c2 : a.1.fRound ≠ -1) (hb : best a.1.fMsgs = none) (hk : skipTo a.1.fMsgs a.1.fRound (11 - a.1.fRound).toNat = none) (c3 : ¬ a.1.fStep = 1) (c4 : ¬ a.1.fPolka = a.1.fRound) (hp3 : propose a.1.fMsgs a.1.fRound (fun m : GNMsg => decide (3 ≤ cntM a.1.fMsgs 2 a.1.fRound m.fVal)) = none) (c5 : a.1.fStep = 2) (c6 : ¬ 3 ≤ cntM a.1.fMsgs 2 a.1.fRound 0) : PCalls Try.prog 65 [.ptr 0 0] (bAct a) (RH (.val (.bool false)) (bActM a)) := by
  have hl : a.1.fMsgs.length ≤ 1000 ∧ a.2.length ≤ 1000 := ⟨by have := ok.ln; omega, by omega⟩
  have hrd := ok.rd
  have hst := ok.st
  have cd := iDecide_p a hl.1
  unfold decideD at cd
  rw [hb] at cd
  dsimp only at cd
  have ck := iSkip_p a ok.rd ok.me hl
  unfold skipD at ck
  rw [hk] at ck
  dsimp only at ck
  have cp3 := iProp3_o a (by omega)
  rw [hp3] at cp3
  simp only [optM] at cp3
  unfold bActN at cp3
  have cn := fun r v => iCount_o a 2 r v (by omega)
  clear ok
  obtain ⟨⟨n1, n2, n3, n4, n5, n6, n7, n8, n9, l⟩, s⟩ := a
  dsimp only at *
  (try simp only [Option.isSome_none, Option.isSome_some])
  refine pcalls_ofR okP Try.func65 rfl ?_
  simp only [Try.f65, List.length_cons, List.length_nil, Nat.reduceAdd, Nat.reduceSub, List.replicate_succ, List.replicate_zero, List.cons_append, List.nil_append, List.length_map]
  refine PWp.mvB 0 9 1 rfl rfl rfl (by decide) ?_
  refine PWp.mvB 0 10 2 rfl rfl rfl (by decide) ?_
  repeat' (first | with_reducible (first | refine wA ?_ | refine wC ?_) | with_reducible refine PWp.drawC (id := 28) okP true [11] [0, 1, 2, 3, 4, 5, 6, 7, 8, 9, 10, 11, 12, 13] (by kernel_rfl) ?_ | with_reducible refine PWp.draw (id := 16) okP true [0, 1, 2, 3, 4, 5, 6, 7, 8] (by kernel_rfl) ?_ | with_reducible (first | refine wq1 ?_ | refine wq2 ?_ | refine wq3 ?_ | refine wq9 ?_ | refine wS ?_) | ((with_reducible refine hK _ ?_); clear hK K) | ((with_reducible refine PWp.condI ?_); refine ⟨_, rfl, fun hg => ?_, fun hg => ?_⟩ <;> first | (exact absurd hg (by decide)) | ((try simp only [Bool.not_true, Bool.not_false] at hg); (try simp only [hg]); (try simp only [push_cast] at hg); (try exact absurd trivial hg); (try (exfalso; omega)))) | with_reducible refine panyC_nil ?_ | ((with_reducible refine panyC_I ?_); refine ⟨_, rfl, fun K hK => ?_⟩) | ((with_reducible refine panyC_w ?_ ?_); exact rfl) | (((with_reducible refine panyC_g (cm := true) ?_ ?_ ?_); exact rfl; exact rfl; refine ⟨_, rfl, _, rfl, fun hg => ?_, fun hg => ?_⟩) <;> first | (exact absurd hg (by decide)) | ((try simp only [Bool.not_true, Bool.not_false] at hg); (try simp only [hg]); (try simp only [push_cast] at hg); (try exact absurd trivial hg); (try (exfalso; omega)); (try simp (disch := omega) only [push_cast, seval, c1, c2, c3, c4, c5, c6]))) | ((with_reducible refine pany_I ?_); refine ⟨_, rfl, fun K hK => ?_⟩) | ((with_reducible refine pops_plain fun K hK => ?_); simp (disch := omega) only [push_cast, seval, c1, c2, c3, c4, c5, c6]) | ((((with_reducible refine pD_y ?_ ?_); exact rfl)); simp (disch := omega) only [push_cast, seval, c1, c2, c3, c4, c5, c6]) | ((first | ((with_reducible refine pops_guard ?_); refine ⟨_, rfl, fun K hK => ⟨_, rfl, fun hg => ?_, fun hg => ?_⟩⟩) | ((first | ((with_reducible refine pD_gy ?_ ?_); exact rfl) | ((with_reducible refine pD_gx ?_ ?_); exact rfl)); refine ⟨_, rfl, _, rfl, fun hg => ?_, fun hg => ?_⟩)) <;> first | (exact absurd hg (by decide)) | ((try simp only [Bool.not_true, Bool.not_false] at hg); (try simp only [hg]); (try simp only [push_cast] at hg); (try exact absurd trivial hg); (try (exfalso; omega)); (try simp (disch := omega) only [push_cast, seval, c1, c2, c3, c4, c5, c6]))) | ((with_reducible show pcall _ _ _ _ _ _); (first | (refine pcO (cf Try.func80) [_, _, _] (cd) ?_) | (refine pcO (cf Try.func81) [_, _, _] (ck) ?_) | (refine pcO (cf Try.func82) [_, _, _, _] (cp3) ?_) | (refine pcall_RGo (cf Try.func85) [?_, ?_, ?_] ?_ ?_ ?_ ?_ (cn ?_ ?_) ?_; rotate_left 3; (· ((try simp (disch := omega) only [push_cast, seval]); (repeat' (first | exact trivial | exact rfl | refine And.intro ?_ ?_ | omega)))); (· ((try (unfold bAct)); (try simp (disch := omega) only [push_cast, seval]); (repeat' (first | exact trivial | exact rfl | refine And.intro ?_ ?_ | omega)))); (· exact rfl); (· exact rfl); rotate_right 1; rotate_left 1; (all_goals (try (first | omega | exact (show _ = _ by assumption)))))); (try simp (disch := omega) only [push_cast, seval, c1, c2, c3, c4, c5, c6])))
  all_goals ((with_reducible show PPostR _ _ _ _ _ _); exact finH [0, 1, 2, _, _])
set_option maxHeartbeats 8000000 in
theorem iRule_k3 (a : Acting) (ok : NOk a.1) (hs : a.2.length ≤ 900) (c1 : ¬ 0 < a.1.fDecided) (c2 : a.1.fRound ≠ -1) (hb : best a.1.fMsgs = none) (hk : skipTo a.1.fMsgs a.1.fRound (11 - a.1.fRound).toNat = none) (c3 : ¬ a.1.fStep = 1) (c4 : ¬ a.1.fPolka = a.1.fRound) (hp3 : propose a.1.fMsgs a.1.fRound (fun m : GNMsg => decide (3 ≤ cntM a.1.fMsgs 2 a.1.fRound m.fVal)) = none) (c5 : a.1.fStep = 2) (c6 : 3 ≤ cntM a.1.fMsgs 2 a.1.fRound 0) : PCalls Try.prog 65 [.ptr 0 0] (bAct a) (RH (.val (.bool true)) (bActM (precommit a 0))) := by
  have hl : a.1.fMsgs.length ≤ 1000 ∧ a.2.length ≤ 1000 := ⟨by have := ok.ln; omega, by omega⟩
  have hrd := ok.rd
  have hst := ok.st
  have cd := iDecide_p a hl.1
  unfold decideD at cd
  rw [hb] at cd
  dsimp only at cd
  have ck := iSkip_p a ok.rd ok.me hl
  unfold skipD at ck
  rw [hk] at ck
  dsimp only at ck
  have cp3 := iProp3_o a (by omega)
  rw [hp3] at cp3
  simp only [optM] at cp3
  unfold bActN at cp3
  have cn := fun r v => iCount_o a 2 r v (by omega)
  have cs := iSend_p a 3 0 (-1) hl
  unfold precommit
  generalize send a 3 0 (-1) = r at cs ⊢
  obtain ⟨⟨r1, r2, r3, r4, r5, r6, r7, r8, r9, rl⟩, rs⟩ := r
  unfold stepTo
  clear ok
  obtain ⟨⟨n1, n2, n3, n4, n5, n6, n7, n8, n9, l⟩, s⟩ := a
  dsimp only at *
  (try simp only [Option.isSome_none, Option.isSome_some])
  refine pcalls_ofR okP Try.func65 rfl ?_
  simp only [Try.f65, List.length_cons, List.length_nil, Nat.reduceAdd, Nat.reduceSub, List.replicate_succ, List.replicate_zero, List.cons_append, List.nil_append, List.length_map]
  refine PWp.mvB 0 9 1 rfl rfl rfl (by decide) ?_
  refine PWp.mvB 0 10 2 rfl rfl rfl (by decide) ?_
  repeat' (first | with_reducible (first | refine wA ?_ | refine wC ?_) | with_reducible refine PWp.drawC (id := 28) okP true [11] [0, 1, 2, 3, 4, 5, 6, 7, 8, 9, 10, 11, 12, 13] (by kernel_rfl) ?_ | with_reducible refine PWp.draw (id := 16) okP true [0, 1, 2, 3, 4, 5, 6, 7, 8] (by kernel_rfl) ?_ | with_reducible (first | refine wq1 ?_ | refine wq2 ?_ | refine wq3 ?_ | refine wq5 ?_ | refine wq9 ?_ | refine wS ?_) | ((with_reducible refine hK _ ?_); clear hK K) | ((with_reducible refine PWp.condI ?_); refine ⟨_, rfl, fun hg => ?_, fun hg => ?_⟩ <;> first | (exact absurd hg (by decide)) | ((try simp only [Bool.not_true, Bool.not_false] at hg); (try simp only [hg]); (try simp only [push_cast] at hg); (try exact absurd trivial hg); (try (exfalso; omega)))) | with_reducible refine panyC_nil ?_ | ((with_reducible refine panyC_I ?_); refine ⟨_, rfl, fun K hK => ?_⟩) | ((with_reducible refine panyC_w ?_ ?_); exact rfl) | (((with_reducible refine panyC_g (cm := true) ?_ ?_ ?_); exact rfl; exact rfl; refine ⟨_, rfl, _, rfl, fun hg => ?_, fun hg => ?_⟩) <;> first | (exact absurd hg (by decide)) | ((try simp only [Bool.not_true, Bool.not_false] at hg); (try simp only [hg]); (try simp only [push_cast] at hg); (try exact absurd trivial hg); (try (exfalso; omega)); (try simp (disch := omega) only [push_cast, seval, c1, c2, c3, c4, c5, c6]))) | ((with_reducible refine pany_I ?_); refine ⟨_, rfl, fun K hK => ?_⟩) | ((with_reducible refine pops_plain fun K hK => ?_); simp (disch := omega) only [push_cast, seval, c1, c2, c3, c4, c5, c6]) | ((((with_reducible refine pD_y ?_ ?_); exact rfl)); simp (disch := omega) only [push_cast, seval, c1, c2, c3, c4, c5, c6]) | ((first | ((with_reducible refine pops_guard ?_); refine ⟨_, rfl, fun K hK => ⟨_, rfl, fun hg => ?_, fun hg => ?_⟩⟩) | ((first | ((with_reducible refine pD_gy ?_ ?_); exact rfl) | ((with_reducible refine pD_gx ?_ ?_); exact rfl)); refine ⟨_, rfl, _, rfl, fun hg => ?_, fun hg => ?_⟩)) <;> first | (exact absurd hg (by decide)) | ((try simp only [Bool.not_true, Bool.not_false] at hg); (try simp only [hg]); (try simp only [push_cast] at hg); (try exact absurd trivial hg); (try (exfalso; omega)); (try simp (disch := omega) only [push_cast, seval, c1, c2, c3, c4, c5, c6]))) | ((with_reducible show pcall _ _ _ _ _ _); (first | (refine pcO (cf Try.func44) [_, _, _] (cs) ?_) | (refine pcO (cf Try.func80) [_, _, _] (cd) ?_) | (refine pcO (cf Try.func81) [_, _, _] (ck) ?_) | (refine pcO (cf Try.func82) [_, _, _, _] (cp3) ?_) | (refine pcall_RGo (cf Try.func85) [?_, ?_, ?_] ?_ ?_ ?_ ?_ (cn ?_ ?_) ?_; rotate_left 3; (· ((try simp (disch := omega) only [push_cast, seval]); (repeat' (first | exact trivial | exact rfl | refine And.intro ?_ ?_ | omega)))); (· ((try (unfold bAct)); (try simp (disch := omega) only [push_cast, seval]); (repeat' (first | exact trivial | exact rfl | refine And.intro ?_ ?_ | omega)))); (· exact rfl); (· exact rfl); rotate_right 1; rotate_left 1; (all_goals (try (first | omega | exact (show _ = _ by assumption)))))); (try simp (disch := omega) only [push_cast, seval, c1, c2, c3, c4, c5, c6])))
  all_goals ((with_reducible show PPostR _ _ _ _ _ _); exact finH [0, 1, 2, _, _])
theorem iRule_p (a : Acting) (ok : NOk a.1) (hs : a.2.length ≤ 900) : PCalls Try.prog 65 [.ptr 0 0] (bAct a) (RH (.val (.bool (rule a).isSome)) (bActM ((rule a).getD a))) := by
  unfold rule
  by_cases c1 : 0 < a.1.fDecided
  · rw [if_pos (.inl c1)]; exact iRule_a a ok hs c1
  by_cases c2 : a.1.fRound = -1
  · rw [if_pos (.inr c2)]; exact iRule_b a ok hs c1 c2
  rw [if_neg (by simp [c1, c2])]
  cases hb : best a.1.fMsgs with
  | some m => exact iRule_c a ok hs c1 c2 m hb
  | none =>
  cases hk : skipTo a.1.fMsgs a.1.fRound (11 - a.1.fRound).toNat with
  | some q => exact iRule_d a ok hs c1 c2 hb q hk
  | none =>
  dsimp only
  by_cases c3 : a.1.fStep = 1
  · rw [if_pos c3]
    cases hp1 : propose a.1.fMsgs a.1.fRound (fun m => decide (m.fPol = -1)) with
    | some m => exact iRule_e a ok hs c1 c2 hb hk c3 m hp1 _ rfl
    | none =>
    dsimp only
    cases hp2 : propose a.1.fMsgs a.1.fRound (fun m => decide (0 ≤ m.fPol) && decide (3 ≤ cntM a.1.fMsgs 2 m.fPol m.fVal)) with
    | some m => exact iRule_f a ok hs c1 c2 hb hk c3 hp1 m hp2 _ rfl
    | none => exact iRule_g a ok hs c1 c2 hb hk c3 hp1 hp2
  rw [if_neg c3]
  by_cases c4 : a.1.fPolka = a.1.fRound
  · rw [if_pos c4]
    dsimp only
    by_cases c5 : a.1.fStep = 2
    · by_cases c6 : 3 ≤ cntM a.1.fMsgs 2 a.1.fRound 0
      · rw [if_pos ⟨c5, c6⟩]; exact iRule_j3 a ok hs c1 c2 hb hk c3 c4 c5 c6
      · rw [if_neg fun q => c6 q.2]; exact iRule_j2 a ok hs c1 c2 hb hk c3 c4 c5 c6
    · rw [if_neg fun q => c5 q.1]; exact iRule_j1 a ok hs c1 c2 hb hk c3 c4 c5
  rw [if_neg c4]
  cases hp3 : propose a.1.fMsgs a.1.fRound (fun m => decide (3 ≤ cntM a.1.fMsgs 2 a.1.fRound m.fVal)) with
  | some m =>
    dsimp only
    by_cases c5 : a.1.fStep = 2
    · rw [if_pos c5]; exact iRule_i a ok hs c1 c2 hb hk c3 c4 m hp3 c5
    · rw [if_neg c5]; exact iRule_h a ok hs c1 c2 hb hk c3 c4 m hp3 c5
  | none =>
    dsimp only
    by_cases c5 : a.1.fStep = 2
    · by_cases c6 : 3 ≤ cntM a.1.fMsgs 2 a.1.fRound 0
      · rw [if_pos ⟨c5, c6⟩]; exact iRule_k3 a ok hs c1 c2 hb hk c3 c4 hp3 c5 c6
      · rw [if_neg fun q => c6 q.2]; exact iRule_k2 a ok hs c1 c2 hb hk c3 c4 hp3 c5 c6
    · rw [if_neg fun q => c5 q.1]; exact iRule_k1 a ok hs c1 c2 hb hk c3 c4 hp3 c5
theorem rule_len {a b : Acting} (hl : a.1.fMsgs.length ≤ 1000) (e : rule a = some b) : b.2.length ≤ a.2.length + 1 := by
  have hsn : ∀ (c : Acting) (k v p : Int), (send c k v p).2.length = c.2.length + 1 := fun c k v p => by unfold send sendM; simp
  have hb : ∀ q, (beginR a q).2.length ≤ a.2.length + 1 := fun q => by
    unfold beginR
    split
    · split <;> (rw [hsn]; exact Nat.le_refl _)
    · exact Nat.le_succ _
  unfold rule at e
  repeat' (first | (cases e; done) | split at e)
  all_goals first
    | (cases e; exact Nat.le_succ _)
    | (cases e; exact hb _)
    | (cases e; unfold prevote stepTo; dsimp only; rw [hsn]; exact Nat.le_refl _)
    | (cases e; unfold precommit stepTo; dsimp only; rw [hsn]; exact Nat.le_refl _)
    | (cases e; unfold polkaD precommit stepTo lockD; dsimp only; rw [hsn]; exact Nat.le_refl _)
set_option maxHeartbeats 2000000 in
theorem iRest_p (a : Acting) (ok : NOk a.1) (hs : a.2.length ≤ 300) : PCalls Try.prog 42 [.ptr 0 0] (bAct a) (RH (.tup [.agg (pNodeX (rest a).1 (.own 3)), .own 4, .val (.bool true)]) (bActM (rest a))) := by
  have hm := mu_lt ok
  unfold rest
  obtain ⟨z, hz⟩ : ∃ z, z = restN 200 a := ⟨_, rfl⟩
  rw [← hz]
  obtain ⟨y, hy⟩ : ∃ y : Acting × Nat, y = (a, 200) := ⟨_, rfl⟩
  have h0 : NOk y.1.1 ∧ y.1.2.length + y.2 ≤ 600 ∧ mu y.1.1 < y.2 ∧ z = restN y.2 y.1 := by subst hy; exact ⟨ok, by dsimp only; omega, hm, hz⟩
  have ea : a = y.1 := by rw [hy]
  rw [ea]
  clear hy ea hz hm ok hs
  obtain ⟨⟨⟨a1, a2, a3, a4, a5, a6, a7, a8, a9, al⟩, az⟩, ak⟩ := y
  dsimp only at h0 ⊢
  refine pcalls_ofR okP Try.func42 rfl ?_
  simp only [Try.f42, List.length_cons, List.length_nil, Nat.reduceAdd, Nat.reduceSub, List.replicate_succ, List.replicate_zero, List.cons_append, List.nil_append, List.length_map]
  refine PWp.mvB 0 9 1 rfl rfl rfl (by decide) ?_
  refine PWp.mvB 0 10 2 rfl rfl rfl (by decide) ?_
  repeat' (first | with_reducible (first | refine wA ?_ | refine wB ?_ | refine wC ?_) | with_reducible (first | refine wq1 ?_ | refine wq3 ?_) | ((with_reducible refine hK _ ?_); clear hK K) | ((with_reducible refine pops_plain fun K hK => ?_); simp (disch := omega) only [push_cast, seval]))
  refine PWp.loopK (α := Acting × Nat) (fun x => match x with | (x, k) => [(0, .ptr 0 0), (2, .ptr 5 0)]) [1, 5, 6] (fun x => match x with | (x, k) => [some (.box (pActX x.1 (.own 3) (.own 4))), none, none, some (.row 32 5 (x.1.fMsgs.map pNMsg)), some (.row 32 5 (x.2.map pNMsg)), some (.box [.val (.int .i64 0), .val (.int .i64 0), .val (.int .i64 0), .val (.int .i64 0), .val (.int .i64 0), .val (.int .i64 0), .val (.int .i64 0), .val (.int .i64 0), .val (.int .i64 0), .val (.slice none 0 0)])]) (fun x => match x with | (x, k) => NOk x.1 ∧ x.2.length + k ≤ 600 ∧ mu x.1 < k ∧ z = restN k x) (fun x => match x with | (x, k) => k) (((⟨a1, a2, a3, a4, a5, a6, a7, a8, a9, al⟩, az), ak)) (h0) (by exact fitA [0, 1, 2, _, _, _]) ?_
  intro x ρ hI; obtain ⟨x, k⟩ := x
  (try dsimp only at hI)
  refine PWp.at (tm' := ?_) (H' := ?_) ?_ ?_ ?_; rotate_left 2; (· ((try simp only [push_cast, seval]); exact rfl)); (· ((try dsimp only); exact rfl))
  obtain ⟨ok, hl, hm, hA⟩ := hI
  have cr := iRule_p x ok (by omega)
  have rl := fun b => rule_len (a := x) (b := b) (by have := ok.ln; omega)
  cases hr : rule x with
  | some b =>
    obtain ⟨g, hmu⟩ := rule_grow ok hr
    have hb := rl b hr
    obtain ⟨i, rfl⟩ : ∃ i, k = i + 1 := ⟨k - 1, by omega⟩
    rw [restN_succ hr] at hA
    rw [hr] at cr
    simp only [Option.isSome_some, Option.getD_some] at cr
    have gok := g.ok
    clear g rl hr
    obtain ⟨⟨b1, b2, b3, b4, b5, b6, b7, b8, b9, bl⟩, bs⟩ := b
    obtain ⟨⟨n1, n2, n3, n4, n5, n6, n7, n8, n9, l⟩, s⟩ := x
    repeat' (first | with_reducible (first | refine wA ?_ | refine wB ?_ | refine wC ?_) | with_reducible (first | refine wq1 ?_ | refine wq3 ?_ | refine wq4 ?_ | refine wS ?_) | ((with_reducible refine hK _ ?_); clear hK K) | ((with_reducible refine PWp.condI ?_); refine ⟨_, rfl, fun hg => ?_, fun hg => ?_⟩ <;> first | (exact absurd hg (by decide)) | ((try simp only [Bool.not_true, Bool.not_false] at hg); (try simp only [hg]); (try simp only [push_cast] at hg); (try exact absurd trivial hg); (try (exfalso; omega)))) | ((with_reducible refine pops_plain fun K hK => ?_); simp (disch := omega) only [push_cast, seval]) | ((with_reducible show pcall _ _ _ _ _ _); ((refine pcO (cf Try.func65) [_, _, _] (cr) ?_)); (try simp (disch := omega) only [push_cast, seval])))
    (refine ⟨((⟨b1, b2, b3, b4, b5, b6, b7, b8, b9, bl⟩, bs), i), by ((try dsimp only); omega), ?_, by exact fitA [0, 1, 2, _, _, _]⟩)
    exact ⟨gok, by dsimp only at hb hl ⊢; omega, by dsimp only at hmu hm ⊢; omega, hA⟩
  | none =>
    rw [restN_done hr] at hA
    subst z
    rw [hr] at cr
    simp only [Option.isSome_none, Option.getD_none] at cr
    obtain ⟨⟨n1, n2, n3, n4, n5, n6, n7, n8, n9, l⟩, s⟩ := x
    repeat' (first | with_reducible (first | refine wA ?_ | refine wC ?_) | with_reducible refine PWp.drawT (id := 2) okP true (.step 0 (.step 1 (.step 2 (.step 3 (.step 4 (.step 5 (.step 6 (.fork (.alt 7 (.step 8 (.step 9 (.step 10 .done))) (.alt 8 (.step 7 (.step 9 (.step 10 .done))) .stop)))))))))) (by kernel_rfl) ?_ | with_reducible (first | refine wq1 ?_ | refine wq3 ?_ | refine wq7 ?_ | refine wq8 ?_ | refine wq9 ?_ | refine wE ?_) | ((with_reducible refine hK _ ?_); clear hK K) | ((with_reducible refine PWp.condI ?_); refine ⟨_, rfl, fun hg => ?_, fun hg => ?_⟩ <;> first | (exact absurd hg (by decide)) | ((try simp only [Bool.not_true, Bool.not_false] at hg); (try simp only [hg]); (try simp only [push_cast] at hg); (try exact absurd trivial hg); (try (exfalso; omega)))) | with_reducible (first | refine ptree_done ?_ | exact ptree_stop | refine ptree_fork ?_) | ((with_reducible refine ptree_I ?_); refine ⟨_, rfl, fun K hK => ?_⟩) | ((with_reducible refine ptree_A ?_ ?_); (refine ⟨_, rfl, fun K hK => ?_⟩)) | ((with_reducible refine pops_plain fun K hK => ?_); simp (disch := omega) only [push_cast, seval]) | ((first | ((with_reducible refine pD_y ?_ ?_); exact rfl) | ((with_reducible refine pD_x ?_ ?_); exact rfl)); simp (disch := omega) only [push_cast, seval]) | ((with_reducible show pcall _ _ _ _ _ _); ((refine pcO (cf Try.func65) [_, _, _] (cr) ?_)); (try simp (disch := omega) only [push_cast, seval])))
    all_goals ((with_reducible show PPostR _ _ _ _ _ _); exact finH [0, 1, 2, _, _])
end Go.Proofs.Ytcbknmnlgoeniaa
namespace Go.Proofs.Ytcbknmnlgoeniaa
set_option linter.unusedSimpArgs false
set_option linter.unusedVariables false
open Go.RowKit
def Mk (p : Prop) : Prop := p
theorem Mk.of {p : Prop} (h : p) : Mk p := h
theorem mkRegion {P : Program} {N : Nat} {id : Nat} {ops : Array Oper} {b : Bool} {Q : Exit → St → Prop} {σ : St} (h : Mk (PWp P N (.region id ops b) Q σ)) : PWp P N (.region id ops b) Q σ := h
theorem PWp.cap {P : Program} {N : Nat} {c cb : Code} {Q Qb : Exit → St → Prop} {tm0 : List PV} {Hb : Hp} {α : Type} (car : α → List (Nat × PV)) (fgt : List Nat) (HH : α → Hp) (I : α → Prop)
    (main : (∀ x tm H, I x → FitsR N (patK (car x) fgt tm0) (HH x) ⟨tm, H⟩ → PWp P N c Q ⟨tm, H⟩) → PWp P N cb Qb ⟨tm0, Hb⟩)
    (t : ∀ x ρ, I x → PWp P N c Q ⟨instP ρ 0 (patK (car x) fgt tm0), HH x⟩) : PWp P N cb Qb ⟨tm0, Hb⟩ :=
  main fun x tm H hx f E a w hN r => by
    subst hN
    obtain ⟨ρ, r'⟩ := f.rel r
    exact t x ρ hx E a w rfl r'
end Go.Proofs.Ytcbknmnlgoeniaa
namespace Go.Proofs.Ytcbknmnlgoeniaa
set_option linter.unusedSimpArgs false
set_option linter.unusedVariables false
open Go.RowKit
set_option maxRecDepth 100000
theorem iCopyNode_p (n : GNode) (hl : n.fMsgs.length ≤ 1000000) : PCalls Try.prog 39 [.agg (pNode n)] [] (RH (.agg (pNodeX n (.own 0))) [some (.row 32 5 (n.fMsgs.map pNMsg))]) := by
  refine pcalls_ofR okP Try.func39 rfl ?_
  simp only [Try.f39, List.length_cons, List.length_nil, Nat.reduceAdd, Nat.reduceSub, List.replicate_succ, List.replicate_zero, List.cons_append, List.nil_append, List.length_map]
  repeat' (first | with_reducible (first | refine wA ?_ | refine wC ?_) | with_reducible (first | refine wq1 ?_ | refine wq3 ?_ | refine wq9 ?_) | ((with_reducible refine hK _ ?_); clear hK K) | ((with_reducible refine pops_plain fun K hK => ?_); simp (disch := omega) only [push_cast, seval]) | ((with_reducible refine And.intro ?_ ?_); omega))
  all_goals
    ((with_reducible show PPostR _ _ _ _ _ _); exact finH [_])
theorem iCopyNode_f (n : GNode) (hl : n.fMsgs.length ≤ 1000000) : PCalls Try.prog 39 [.agg (pNode n)] [] (RH (.agg (pNode n)) []) := (iCopyNode_p n hl).thawH 0 [] rfl (of_eq_true (pNMsg_rc _)) rfl rfl trivial trivial
theorem iNodeNew_n (me : Int) (h : inB me 1 4 = true) : PCalls Try.prog 13 [.val (.int .i64 me)] [] (RH (.tup [.agg [.val (.int .i64 me), .val (.int .i64 (-1)), .val (.int .i64 1), .val (.int .i64 0), .val (.int .i64 (-1)), .val (.int .i64 0), .val (.int .i64 (-1)), .val (.int .i64 (-1)), .val (.int .i64 0), .val (.slice none 0 0)], .val (.bool true)]) []) := by
  refine pcalls_ofR okP Try.func13 rfl ?_
  simp only [Try.f13, List.length_cons, List.length_nil, Nat.reduceAdd, Nat.reduceSub, List.replicate_succ, List.replicate_zero, List.cons_append, List.nil_append, List.length_map]
  repeat' (first | with_reducible (first | refine wA ?_ | refine wC ?_) | with_reducible (first | refine wq1 ?_ | refine wq3 ?_ | refine wq9 ?_ | refine wS ?_) | ((with_reducible refine hK _ ?_); clear hK K) | ((with_reducible refine PWp.condI ?_); refine ⟨_, rfl, fun hg => ?_, fun hg => ?_⟩ <;> first | (exact absurd hg (by decide)) | ((try simp only [Bool.not_true, Bool.not_false] at hg); (try simp only [hg]); (try simp only [push_cast] at hg); (try exact absurd trivial hg); (try (exfalso; omega)))) | ((with_reducible refine pops_plain fun K hK => popO_build ?_); refine ⟨_, rfl, _, rfl, ?_⟩; simp (disch := omega) only [push_cast, seval, h]) | ((with_reducible refine pops_plain fun K hK => ?_); simp (disch := omega) only [push_cast, seval, h]) | ((with_reducible show pcall _ _ _ _ _ _); ((refine pcV (cf Try.func23) (within_p _ _ _) ?_)); (try simp (disch := omega) only [push_cast, seval, h])))
  ((with_reducible show PPostR _ _ _ _ _ _); exact finH [])
theorem iNodeNew_p (me : Int) (h : inB me 1 4 = true) : PCalls Try.prog 13 [.val (.int .i64 me)] [] (RH (.tup [.agg (pNode (nodeNew me)), .val (.bool true)]) []) := (iNodeNew_n me h).wkR (by (repeat' (first | exact Wk.rfl _ | exact Wk.nil _ | exact trivial | refine And.intro ?_ ?_ | refine wk_agg ?_ | refine wk_tup ?_)))
theorem thawN (b sz : Nat) (es : List (List PV)) (l : List GNMsg) : (l.map pNMsg).map (fun row => row.map (thaw1 b sz es)) = l.map pNMsg := by
  rw [List.map_map]
  exact congrArg (fun f => List.map f l) (funext fun x => rfl)
theorem node_thaw {f : FuncId} {args : List PV} {r : Acting} {b : Bool} (h : PCalls Try.prog f args [] (RH (.tup [.agg (pNodeX r.1 (.own 0)), .own 1, .val (.bool b)]) [some (.row 32 5 (r.1.fMsgs.map pNMsg)), some (.row 32 5 (r.2.map pNMsg))])) : PCalls Try.prog f args [] (RH (.tup [.agg (pNode r.1), .sl 5 (r.2.map pNMsg), .val (.bool b)]) []) := by
  have h1 := h.thawH (v' := .tup [.agg (pNodeX r.1 (.own 0)), .sl 5 (r.2.map pNMsg), .val (.bool b)]) (H' := [some (.row 32 5 (r.1.fMsgs.map pNMsg))]) 1 [0] rfl (of_eq_true (pNMsg_rc _)) rfl rfl trivial ⟨by
    show some (thawB 1 5 _ (some (.row 32 5 (r.1.fMsgs.map pNMsg)))) = _
    simp only [thawB, thawN, renB_row, pNMsg_ren], trivial⟩
  exact h1.thawH 0 [] rfl (of_eq_true (pNMsg_rc _)) rfl rfl trivial trivial
theorem node_thaw0 {f : FuncId} {args : List PV} {n : GNode} {b : Bool} (h : PCalls Try.prog f args [] (RH (.tup [.agg (pNodeX n (.own 0)), .val (.slice none 0 0), .val (.bool b)]) [some (.row 32 5 (n.fMsgs.map pNMsg))])) : PCalls Try.prog f args [] (RH (.tup [.agg (pNode n), .sl 5 [], .val (.bool b)]) []) :=
  PCalls.wkR (v := .tup [.agg (pNode n), .val (.slice none 0 0), .val (.bool b)]) (h.thawH 0 [] rfl (of_eq_true (pNMsg_rc _)) rfl rfl trivial trivial) (by (repeat' (first | exact Wk.rfl _ | exact Wk.nil _ | exact trivial | refine And.intro ?_ ?_ | refine wk_agg ?_ | refine wk_tup ?_)))
set_option maxHeartbeats 4000000 in
theorem iNodeStart_p (n : GNode) (hl : n.fMsgs.length ≤ 1000000) : PCalls Try.prog 29 [.agg (pNode n)] [] (RH (.tup [.agg (pNode (nodeStart n).1.1), .sl 5 ((nodeStart n).1.2.map pNMsg), .val (.bool (nodeStart n).2)]) []) := by
  unfold nodeStart
  cases ho : nodeOk n with
  | false =>
    simp only [if_true, node0, pNode, List.map_nil]
    refine PCalls.wkR (v := .tup [.agg [.val (.int .i64 0), .val (.int .i64 0), .val (.int .i64 0), .val (.int .i64 0), .val (.int .i64 0), .val (.int .i64 0), .val (.int .i64 0), .val (.int .i64 0), .val (.int .i64 0), .val (.slice none 0 0)], .val (.slice none 0 0), .val (.bool false)]) ?_ (by (repeat' (first | exact Wk.rfl _ | exact Wk.nil _ | exact trivial | refine And.intro ?_ ?_ | refine wk_agg ?_ | refine wk_tup ?_)))
    refine pcalls_ofR okP Try.func29 rfl ?_
    simp only [Try.f29, List.length_cons, List.length_nil, Nat.reduceAdd, Nat.reduceSub, List.replicate_succ, List.replicate_zero, List.cons_append, List.nil_append, List.length_map]
    repeat' (first | with_reducible (first | refine wA ?_ | refine wC ?_) | with_reducible (first | refine wq1 ?_ | refine wq3 ?_ | refine wq5 ?_ | refine wq9 ?_) | ((with_reducible refine hK _ ?_); clear hK K) | ((with_reducible refine PWp.condI ?_); refine ⟨_, rfl, fun hg => ?_, fun hg => ?_⟩ <;> first | (exact absurd hg (by decide)) | ((try simp only [Bool.not_true, Bool.not_false] at hg); (try simp only [hg]); (try simp only [push_cast] at hg); (try exact absurd trivial hg); (try (exfalso; omega)))) | ((with_reducible refine pops_plain fun K hK => popO_build ?_); refine ⟨_, rfl, _, rfl, ?_⟩; simp (disch := omega) only [push_cast, seval, ho]) | ((with_reducible refine pops_plain fun K hK => ?_); simp (disch := omega) only [push_cast, seval, ho]) | ((with_reducible show pcall _ _ _ _ _ _); ((refine pcV (cf Try.func25) (iNodeOk_p ⟨_, _, _, _, _, _, _, _, _, _⟩ sd) ?_)); (try simp (disch := omega) only [push_cast, seval, ho])))
    ((with_reducible show PPostR _ _ _ _ _ _); exact finH [])
  | true =>
    have ok := nodeOk_iff.1 ho
    have hln := ok.ln
    have hme := ok.me
    rw [if_neg (by simp)]
    by_cases hr : n.fRound = -1
    case neg =>
      rw [if_pos hr]
      refine node_thaw0 ?_
      obtain ⟨n1, n2, n3, n4, n5, n6, n7, n8, n9, l⟩ := n
      dsimp only at hr hl hln ⊢
      refine pcalls_ofR okP Try.func29 rfl ?_
      simp only [Try.f29, List.length_cons, List.length_nil, Nat.reduceAdd, Nat.reduceSub, List.replicate_succ, List.replicate_zero, List.cons_append, List.nil_append, List.length_map]
      repeat' (first | with_reducible (first | refine wA ?_ | refine wC ?_) | with_reducible (first | refine wq1 ?_ | refine wq3 ?_ | refine wq5 ?_ | refine wq9 ?_ | refine wS ?_) | ((with_reducible refine hK _ ?_); clear hK K) | ((with_reducible refine PWp.condI ?_); refine ⟨_, rfl, fun hg => ?_, fun hg => ?_⟩ <;> first | (exact absurd hg (by decide)) | ((try simp only [Bool.not_true, Bool.not_false] at hg); (try simp only [hg]); (try simp only [push_cast] at hg); (try exact absurd trivial hg); (try (exfalso; omega)))) | ((with_reducible refine pops_plain fun K hK => popO_build ?_); refine ⟨_, rfl, _, rfl, ?_⟩; simp (disch := omega) only [push_cast, seval, ho, hr]) | ((with_reducible refine pops_plain fun K hK => ?_); simp (disch := omega) only [push_cast, seval, ho, hr]) | ((with_reducible show pcall _ _ _ _ _ _); (first | (refine pcV (cf Try.func25) (iNodeOk_p ⟨_, _, _, _, _, _, _, _, _, _⟩ sd) ?_) | (refine pcH (cf Try.func39) (iCopyNode_p ⟨_, _, _, _, _, _, _, _, _, _⟩ sd) ?_)); (try simp (disch := omega) only [push_cast, seval, ho, hr])))
      ((with_reducible show PPostR _ _ _ _ _ _); exact finH [_])
    rw [if_neg (by simp [hr])]
    refine node_thaw ?_
    have c := iStart_p (n, []) 0 (by omega) hme ⟨by dsimp only; omega, by simp⟩
    have g := beginR0_grow ok hr
    have hb : (beginR (n, []) 0).2.length ≤ 1 := by
      unfold beginR send sendM
      split
      · split <;> simp
      · simp
    have c2 := iRest_p (beginR (n, []) 0) g.ok (by omega)
    clear g hb
    generalize rest (beginR (n, []) 0) = q at c2 ⊢
    generalize beginR (n, []) 0 = r at c c2
    obtain ⟨n1, n2, n3, n4, n5, n6, n7, n8, n9, l⟩ := n
    obtain ⟨⟨r1, r2, r3, r4, r5, r6, r7, r8, r9, rl⟩, rs⟩ := r
    obtain ⟨⟨q1, q2, q3, q4, q5, q6, q7, q8, q9, ql⟩, qs⟩ := q
    dsimp only at hr hl hln c ⊢
    refine pcalls_ofR okP Try.func29 rfl ?_
    simp only [Try.f29, List.length_cons, List.length_nil, Nat.reduceAdd, Nat.reduceSub, List.replicate_succ, List.replicate_zero, List.cons_append, List.nil_append, List.length_map]
    repeat' (first | with_reducible refine mkRegion (id := 4) ?_ | with_reducible (first | refine wA ?_ | refine wC ?_) | with_reducible (first | refine wq1 ?_ | refine wq3 ?_ | refine wS ?_) | ((with_reducible refine hK _ ?_); clear hK K) | ((with_reducible refine PWp.condI ?_); refine ⟨_, rfl, fun hg => ?_, fun hg => ?_⟩ <;> first | (exact absurd hg (by decide)) | ((try simp only [Bool.not_true, Bool.not_false] at hg); (try simp only [hg]); (try simp only [push_cast] at hg); (try exact absurd trivial hg); (try (exfalso; omega)))) | ((with_reducible refine pops_plain fun K hK => popO_build ?_); refine ⟨_, rfl, _, rfl, ?_⟩; simp (disch := omega) only [push_cast, seval, ho]) | ((with_reducible refine pops_plain fun K hK => ?_); simp (disch := omega) only [push_cast, seval, ho]) | ((with_reducible show pcall _ _ _ _ _ _); (first | (refine pcV (cf Try.func25) (iNodeOk_p ⟨_, _, _, _, _, _, _, _, _, _⟩ sd) ?_) | (refine pcH (cf Try.func39) (iCopyNode_p ⟨_, _, _, _, _, _, _, _, _, _⟩ sd) ?_)); (try simp (disch := omega) only [push_cast, seval, ho])))
    refine Mk.of ?_
    refine PWp.nilB 3 10 32 5 rfl rfl ?_
    repeat' (first | with_reducible (first | refine wA ?_ | refine wC ?_) | with_reducible (first | refine wq1 ?_ | refine wq3 ?_ | refine wq9 ?_ | refine wS ?_) | ((with_reducible refine hK _ ?_); clear hK K) | ((with_reducible refine PWp.condI ?_); refine ⟨_, rfl, fun hg => ?_, fun hg => ?_⟩ <;> first | (exact absurd hg (by decide)) | ((try simp only [Bool.not_true, Bool.not_false] at hg); (try simp only [hg]); (try simp only [push_cast] at hg); (try exact absurd trivial hg); (try (exfalso; omega)))) | ((with_reducible refine pops_plain fun K hK => ?_); simp (disch := omega) only [push_cast, seval, hr]) | ((with_reducible show pcall _ _ _ _ _ _); (first | (refine pcO (cf Try.func41) [_, _, _] (c) ?_) | (refine pcO (cf Try.func42) [_, _, _] (c2) ?_)); (try simp (disch := omega) only [push_cast, seval, hr])))
    ((with_reducible show PPostR _ _ _ _ _ _); exact finH [_, _])
set_option maxHeartbeats 4000000 in
theorem iNodeGet_p (n : GNode) (m : GNMsg) (hl : n.fMsgs.length ≤ 1000000) : PCalls Try.prog 30 [.agg (pNode n), .agg (pNMsg m)] [] (RH (.tup [.agg (pNode (nodeGet n m).1.1), .sl 5 ((nodeGet n m).1.2.map pNMsg), .val (.bool (nodeGet n m).2)]) []) := by
  unfold nodeGet
  cases ho : nodeOk n with
  | false =>
    simp only [if_true, node0, pNode, List.map_nil]
    refine PCalls.wkR (v := .tup [.agg [.val (.int .i64 0), .val (.int .i64 0), .val (.int .i64 0), .val (.int .i64 0), .val (.int .i64 0), .val (.int .i64 0), .val (.int .i64 0), .val (.int .i64 0), .val (.int .i64 0), .val (.slice none 0 0)], .val (.slice none 0 0), .val (.bool false)]) ?_ (by (repeat' (first | exact Wk.rfl _ | exact Wk.nil _ | exact trivial | refine And.intro ?_ ?_ | refine wk_agg ?_ | refine wk_tup ?_)))
    obtain ⟨m1, m2, m3, m4, m5⟩ := m
    refine pcalls_ofR okP Try.func30 rfl ?_
    simp only [Try.f30, List.length_cons, List.length_nil, Nat.reduceAdd, Nat.reduceSub, List.replicate_succ, List.replicate_zero, List.cons_append, List.nil_append, List.length_map]
    repeat' (first | with_reducible (first | refine wA ?_ | refine wC ?_) | with_reducible (first | refine wq1 ?_ | refine wq3 ?_ | refine wq5 ?_ | refine wq9 ?_) | ((with_reducible refine hK _ ?_); clear hK K) | ((with_reducible refine PWp.condI ?_); refine ⟨_, rfl, fun hg => ?_, fun hg => ?_⟩ <;> first | (exact absurd hg (by decide)) | ((try simp only [Bool.not_true, Bool.not_false] at hg); (try simp only [hg]); (try simp only [push_cast] at hg); (try exact absurd trivial hg); (try (exfalso; omega)))) | ((with_reducible refine pops_plain fun K hK => popO_build ?_); refine ⟨_, rfl, _, rfl, ?_⟩; simp (disch := omega) only [push_cast, seval, ho]) | ((with_reducible refine pops_plain fun K hK => ?_); simp (disch := omega) only [push_cast, seval, ho]) | ((with_reducible show pcall _ _ _ _ _ _); ((refine pcV (cf Try.func25) (iNodeOk_p ⟨_, _, _, _, _, _, _, _, _, _⟩ sd) ?_)); (try simp (disch := omega) only [push_cast, seval, ho])))
    ((with_reducible show PPostR _ _ _ _ _ _); exact finH [])
  | true =>
    have ok := nodeOk_iff.1 ho
    have hln := ok.ln
    rw [if_neg (by simp)]
    by_cases hc : msgOk m = false ∨ hasM n.fMsgs m = true ∨ n.fMsgs.length = 90
    case pos =>
      rw [if_pos hc]
      refine node_thaw0 ?_
      obtain ⟨n1, n2, n3, n4, n5, n6, n7, n8, n9, l⟩ := n
      obtain ⟨m1, m2, m3, m4, m5⟩ := m
      dsimp only at hc hl hln ⊢
      cases h1 : msgOk ⟨m1, m2, m3, m4, m5⟩ with
      | false =>
        refine pcalls_ofR okP Try.func30 rfl ?_
        simp only [Try.f30, List.length_cons, List.length_nil, Nat.reduceAdd, Nat.reduceSub, List.replicate_succ, List.replicate_zero, List.cons_append, List.nil_append, List.length_map]
        repeat' (first | with_reducible (first | refine wA ?_ | refine wC ?_) | with_reducible (first | refine wq1 ?_ | refine wq3 ?_ | refine wq5 ?_ | refine wq9 ?_ | refine wS ?_) | ((with_reducible refine hK _ ?_); clear hK K) | ((with_reducible refine PWp.condI ?_); refine ⟨_, rfl, fun hg => ?_, fun hg => ?_⟩ <;> first | (exact absurd hg (by decide)) | ((try simp only [Bool.not_true, Bool.not_false] at hg); (try simp only [hg]); (try simp only [push_cast] at hg); (try exact absurd trivial hg); (try (exfalso; omega)))) | ((with_reducible refine pops_plain fun K hK => popO_build ?_); refine ⟨_, rfl, _, rfl, ?_⟩; simp (disch := omega) only [push_cast, seval, ho, h1]) | ((with_reducible refine pops_plain fun K hK => ?_); simp (disch := omega) only [push_cast, seval, ho, h1]) | ((((with_reducible refine pops_guard ?_); refine ⟨_, rfl, fun K hK => ⟨_, rfl, fun hg => ?_, fun hg => ?_⟩⟩)) <;> first | (exact absurd hg (by decide)) | ((try simp only [Bool.not_true, Bool.not_false] at hg); (try simp only [hg]); (try simp only [push_cast] at hg); (try exact absurd trivial hg); (try (exfalso; omega)); (try simp (disch := omega) only [push_cast, seval, ho, h1]))) | ((with_reducible show pcall _ _ _ _ _ _); (first | (refine pcV (cf Try.func25) (iNodeOk_p ⟨_, _, _, _, _, _, _, _, _, _⟩ sd) ?_) | (refine pcV (cf Try.func28) (iMsgOk_p ⟨_, _, _, _, _⟩) ?_) | (refine pcH (cf Try.func39) (iCopyNode_p ⟨_, _, _, _, _, _, _, _, _, _⟩ sd) ?_)); (try simp (disch := omega) only [push_cast, seval, ho, h1])))
        ((with_reducible show PPostR _ _ _ _ _ _); exact finH [_])
      | true =>
        cases h2 : hasM l ⟨m1, m2, m3, m4, m5⟩ with
        | true =>
          refine pcalls_ofR okP Try.func30 rfl ?_
          simp only [Try.f30, List.length_cons, List.length_nil, Nat.reduceAdd, Nat.reduceSub, List.replicate_succ, List.replicate_zero, List.cons_append, List.nil_append, List.length_map]
          repeat' (first | with_reducible (first | refine wA ?_ | refine wC ?_) | with_reducible (first | refine wq1 ?_ | refine wq3 ?_ | refine wq5 ?_ | refine wq9 ?_ | refine wS ?_) | ((with_reducible refine hK _ ?_); clear hK K) | ((with_reducible refine PWp.condI ?_); refine ⟨_, rfl, fun hg => ?_, fun hg => ?_⟩ <;> first | (exact absurd hg (by decide)) | ((try simp only [Bool.not_true, Bool.not_false] at hg); (try simp only [hg]); (try simp only [push_cast] at hg); (try exact absurd trivial hg); (try (exfalso; omega)))) | ((with_reducible refine pops_plain fun K hK => popO_build ?_); refine ⟨_, rfl, _, rfl, ?_⟩; simp (disch := omega) only [push_cast, seval, ho, h1, h2]) | ((with_reducible refine pops_plain fun K hK => ?_); simp (disch := omega) only [push_cast, seval, ho, h1, h2]) | ((((with_reducible refine pops_guard ?_); refine ⟨_, rfl, fun K hK => ⟨_, rfl, fun hg => ?_, fun hg => ?_⟩⟩)) <;> first | (exact absurd hg (by decide)) | ((try simp only [Bool.not_true, Bool.not_false] at hg); (try simp only [hg]); (try simp only [push_cast] at hg); (try exact absurd trivial hg); (try (exfalso; omega)); (try simp (disch := omega) only [push_cast, seval, ho, h1, h2]))) | ((with_reducible show pcall _ _ _ _ _ _); (first | (refine pcV (cf Try.func25) (iNodeOk_p ⟨_, _, _, _, _, _, _, _, _, _⟩ sd) ?_) | (refine pcV (cf Try.func26) (containsM_p _ ⟨_, _, _, _, _⟩ sd) ?_) | (refine pcV (cf Try.func28) (iMsgOk_p ⟨_, _, _, _, _⟩) ?_) | (refine pcH (cf Try.func39) (iCopyNode_p ⟨_, _, _, _, _, _, _, _, _, _⟩ sd) ?_)); (try simp (disch := omega) only [push_cast, seval, ho, h1, h2])))
          ((with_reducible show PPostR _ _ _ _ _ _); exact finH [_])
        | false =>
          have h3 : (l.length : Int) = 90 := by simp [h1, h2] at hc; omega
          refine pcalls_ofR okP Try.func30 rfl ?_
          simp only [Try.f30, List.length_cons, List.length_nil, Nat.reduceAdd, Nat.reduceSub, List.replicate_succ, List.replicate_zero, List.cons_append, List.nil_append, List.length_map]
          repeat' (first | with_reducible (first | refine wA ?_ | refine wC ?_) | with_reducible (first | refine wq1 ?_ | refine wq3 ?_ | refine wq5 ?_ | refine wq9 ?_ | refine wS ?_) | ((with_reducible refine hK _ ?_); clear hK K) | ((with_reducible refine PWp.condI ?_); refine ⟨_, rfl, fun hg => ?_, fun hg => ?_⟩ <;> first | (exact absurd hg (by decide)) | ((try simp only [Bool.not_true, Bool.not_false] at hg); (try simp only [hg]); (try simp only [push_cast] at hg); (try exact absurd trivial hg); (try (exfalso; omega)))) | ((with_reducible refine pops_plain fun K hK => popO_build ?_); refine ⟨_, rfl, _, rfl, ?_⟩; simp (disch := omega) only [push_cast, seval, ho, h1, h2, h3]) | ((with_reducible refine pops_plain fun K hK => ?_); simp (disch := omega) only [push_cast, seval, ho, h1, h2, h3]) | ((((with_reducible refine pops_guard ?_); refine ⟨_, rfl, fun K hK => ⟨_, rfl, fun hg => ?_, fun hg => ?_⟩⟩)) <;> first | (exact absurd hg (by decide)) | ((try simp only [Bool.not_true, Bool.not_false] at hg); (try simp only [hg]); (try simp only [push_cast] at hg); (try exact absurd trivial hg); (try (exfalso; omega)); (try simp (disch := omega) only [push_cast, seval, ho, h1, h2, h3]))) | ((with_reducible show pcall _ _ _ _ _ _); (first | (refine pcV (cf Try.func25) (iNodeOk_p ⟨_, _, _, _, _, _, _, _, _, _⟩ sd) ?_) | (refine pcV (cf Try.func26) (containsM_p _ ⟨_, _, _, _, _⟩ sd) ?_) | (refine pcV (cf Try.func28) (iMsgOk_p ⟨_, _, _, _, _⟩) ?_) | (refine pcH (cf Try.func39) (iCopyNode_p ⟨_, _, _, _, _, _, _, _, _, _⟩ sd) ?_)); (try simp (disch := omega) only [push_cast, seval, ho, h1, h2, h3])))
          ((with_reducible show PPostR _ _ _ _ _ _); exact finH [_])
    rw [if_neg hc]
    refine node_thaw ?_
    have hok2 : NOk (withMsg n m) := withMsg_ok ok (msgOk_iff.1 (by cases h : msgOk m; exact absurd (.inl h) hc; rfl)) (fun q => hc (.inr (.inl (hasM_iff.2 q)))) (fun q => hc (.inr (.inr q)))
    have c2 := iRest_p (withMsg n m, []) hok2 (by simp)
    generalize rest (withMsg n m, []) = q at c2 ⊢
    have h1 : msgOk m = true := by cases h : msgOk m; exact absurd (.inl h) hc; rfl
    have h2 : hasM n.fMsgs m = false := by cases h : hasM n.fMsgs m; rfl; exact absurd (.inr (.inl h)) hc
    have h3 : ¬ (n.fMsgs.length : Int) = 90 := fun q => hc (.inr (.inr (by omega)))
    clear hc hok2 ok
    unfold withMsg at c2
    obtain ⟨n1, n2, n3, n4, n5, n6, n7, n8, n9, l⟩ := n
    obtain ⟨m1, m2, m3, m4, m5⟩ := m
    obtain ⟨⟨q1, q2, q3, q4, q5, q6, q7, q8, q9, ql⟩, qs⟩ := q
    dsimp only at hl hln c2 h2 h3 ⊢
    rw [bAct] at c2
    simp only [List.map_append, List.map_cons, List.map_nil, pNMsg] at c2
    refine pcalls_ofR okP Try.func30 rfl ?_
    simp only [Try.f30, List.length_cons, List.length_nil, Nat.reduceAdd, Nat.reduceSub, List.replicate_succ, List.replicate_zero, List.cons_append, List.nil_append, List.length_map]
    repeat' (first | with_reducible refine mkRegion (id := 4) ?_ | with_reducible (first | refine wA ?_ | refine wC ?_) | with_reducible (first | refine wq1 ?_ | refine wq3 ?_ | refine wS ?_) | ((with_reducible refine hK _ ?_); clear hK K) | ((with_reducible refine PWp.condI ?_); refine ⟨_, rfl, fun hg => ?_, fun hg => ?_⟩ <;> first | (exact absurd hg (by decide)) | ((try simp only [Bool.not_true, Bool.not_false] at hg); (try simp only [hg]); (try simp only [push_cast] at hg); (try exact absurd trivial hg); (try (exfalso; omega)))) | ((with_reducible refine pops_plain fun K hK => popO_build ?_); refine ⟨_, rfl, _, rfl, ?_⟩; simp (disch := omega) only [push_cast, seval, ho]) | ((with_reducible refine pops_plain fun K hK => ?_); simp (disch := omega) only [push_cast, seval, ho]) | ((with_reducible show pcall _ _ _ _ _ _); (first | (refine pcV (cf Try.func25) (iNodeOk_p ⟨_, _, _, _, _, _, _, _, _, _⟩ sd) ?_) | (refine pcH (cf Try.func39) (iCopyNode_p ⟨_, _, _, _, _, _, _, _, _, _⟩ sd) ?_)); (try simp (disch := omega) only [push_cast, seval, ho])))
    refine Mk.of ?_
    refine PWp.nilB 4 10 32 5 rfl rfl ?_
    repeat' (first | with_reducible (first | refine wA ?_ | refine wC ?_) | with_reducible refine PWp.draw (id := 6) okP true [0, 1, 2, 3, 4, 5, 6, 7, 8, 9, 10, 11, 12] (by kernel_rfl) ?_ | with_reducible (first | refine wq1 ?_ | refine wq2 ?_ | refine wq3 ?_ | refine wq9 ?_ | refine wS ?_) | ((with_reducible refine hK _ ?_); clear hK K) | ((with_reducible refine PWp.condI ?_); refine ⟨_, rfl, fun hg => ?_, fun hg => ?_⟩ <;> first | (exact absurd hg (by decide)) | ((try simp only [Bool.not_true, Bool.not_false] at hg); (try simp only [hg]); (try simp only [push_cast] at hg); (try exact absurd trivial hg); (try (exfalso; omega)))) | ((with_reducible refine pany_I ?_); refine ⟨_, rfl, fun K hK => ?_⟩) | ((with_reducible refine pD_x ?_ (popO_row ?_)); exact rfl; refine ⟨_, _, _, _, _, rfl, rfl, rfl, rfl, rfl, ?_⟩; simp (disch := omega) only [push_cast, seval, h1, h2, h3]) | ((with_reducible refine pops_plain fun K hK => ?_); simp (disch := omega) only [push_cast, seval, h1, h2, h3]) | ((first | ((with_reducible refine pD_y ?_ ?_); exact rfl) | ((with_reducible refine pD_x ?_ ?_); exact rfl)); simp (disch := omega) only [push_cast, seval, h1, h2, h3]) | ((((with_reducible refine pops_guard ?_); refine ⟨_, rfl, fun K hK => ⟨_, rfl, fun hg => ?_, fun hg => ?_⟩⟩)) <;> first | (exact absurd hg (by decide)) | ((try simp only [Bool.not_true, Bool.not_false] at hg); (try simp only [hg]); (try simp only [push_cast] at hg); (try exact absurd trivial hg); (try (exfalso; omega)); (try simp (disch := omega) only [push_cast, seval, h1, h2, h3]))) | ((with_reducible show pcall _ _ _ _ _ _); (first | (refine pcV (cf Try.func26) (containsM_p _ ⟨_, _, _, _, _⟩ sd) ?_) | (refine pcV (cf Try.func28) (iMsgOk_p ⟨_, _, _, _, _⟩) ?_) | (refine pcO (cf Try.func42) [_, _, _] (c2) ?_)); (try simp (disch := omega) only [push_cast, seval, h1, h2, h3])) | ((with_reducible refine And.intro ?_ ?_); omega))
    ((with_reducible show PPostR _ _ _ _ _ _); exact finH [_, _])
end Go.Proofs.Ytcbknmnlgoeniaa
namespace Go.Proofs.Ytcbknmnlgoeniaa
set_option linter.unusedSimpArgs false
set_option linter.unusedVariables false
open Go.RowKit
theorem poolTo_succ {l more : List GNMsg} {k : Nat} {m : GNMsg} (h : more[k]? = some m) : poolTo l (more.take (k + 1)) = poolF (poolTo l (more.take k)) m := by
  unfold poolTo
  rw [List.take_add_one, h, Option.toList_some, List.foldl_append]
  rfl
theorem poolTo_len : ∀ (more l : List GNMsg), (poolTo l more).length ≤ l.length + more.length
  | [], l => by simp [poolTo]
  | m :: r, l => by
    have e : poolTo l (m :: r) = poolTo (poolF l m) r := rfl
    have h1 := poolTo_len r (poolF l m)
    have h2 : (poolF l m).length ≤ l.length + 1 := by unfold poolF; split <;> simp
    rw [e, List.length_cons]
    omega
theorem restN_len : ∀ (k : Nat) {a : Acting}, NOk a.1 → (restN k a).2.length ≤ a.2.length + k
  | 0, _, _ => Nat.le_refl _
  | k + 1, a, h => by
    unfold restN
    split
    · rename_i b e
      have h1 := restN_len k (rule_grow h e).1.ok
      have h2 := rule_len (by have := h.ln; omega) e
      omega
    · omega
theorem nodeStart_len (n : GNode) : (nodeStart n).1.2.length ≤ 300 := by
  by_cases h : (nodeStart n).2 = true
  · obtain ⟨h1, h2, h3⟩ := nodeStart_go h
    have g := beginR0_grow h1 h2
    have hb : (beginR (n, []) 0).2.length ≤ 1 := by
      unfold beginR send sendM
      split
      · split <;> simp
      · simp
    have := restN_len 200 g.ok
    rw [h3]
    unfold rest
    omega
  · unfold nodeStart at h ⊢
    split
    · simp
    · split
      · simp
      · rename_i q1 q2
        rw [if_neg q1, if_neg q2] at h
        exact absurd rfl h
theorem nodeGet_len (n : GNode) (m : GNMsg) : (nodeGet n m).1.2.length ≤ 300 := by
  by_cases h : (nodeGet n m).2 = true
  · obtain ⟨h1, h2⟩ := nodeGet_go h
    have := restN_len 200 (a := (withMsg n m, [])) h1
    rw [h2]
    unfold rest
    simp only [List.length_nil] at this
    omega
  · unfold nodeGet at h ⊢
    split
    · simp
    · split
      · simp
      · rename_i q1 q2
        rw [if_neg q1, if_neg q2] at h
        exact absurd rfl h
theorem timeD_len (n : GNode) (step : Int) : (timeD n step).2.length ≤ 1 := by
  unfold timeD prevote precommit stepTo beginR send sendM
  repeat' split
  all_goals simp
theorem nodeTime_len (n : GNode) (step : Int) : (nodeTime n step).1.2.length ≤ 300 := by
  by_cases h : (nodeTime n step).2 = true
  · obtain ⟨h1, h2, h3⟩ := nodeTime_go h
    have := restN_len 200 h2.ok
    have := timeD_len n step
    rw [h3]
    unfold rest
    omega
  · unfold nodeTime at h ⊢
    split
    · simp
    · split
      · simp
      · rename_i q1 q2
        rw [if_neg q1, if_neg q2] at h
        exact absurd rfl h
end Go.Proofs.Ytcbknmnlgoeniaa
namespace Go.Proofs.Ytcbknmnlgoeniaa
set_option linter.unusedSimpArgs false
set_option linter.unusedVariables false
open Go.RowKit
theorem actOf_ok {x : GNet} {a : GNetAct} {n : GNode} (h : (actOf x a n).2 = true) : NOk (actOf x a n).1.1 := by
  unfold actOf at h ⊢
  split at h
  · rename_i e
    rw [if_pos e]
    obtain ⟨h1, h2, h3⟩ := nodeStart_go h
    rw [h3]
    exact (rest_spec (beginR0_grow h1 h2).ok).1.ok
  · rename_i e
    rw [if_neg e]
    split at h
    · rename_i e2
      rw [if_pos e2]
      split at h
      · rename_i m hm
        obtain ⟨h1, h2⟩ := nodeGet_go h
        rw [h2]
        exact (rest_spec (a := (withMsg n m, [])) h1).1.ok
      · cases h
    · rename_i e2
      rw [if_neg e2]
      split at h
      · rename_i e3
        rw [if_pos e3]
        obtain ⟨h1, h2, h3⟩ := nodeTime_go h
        rw [h3]
        exact (rest_spec h2.ok).1.ok
      · cases h
structure NInv (x : GNet) : Prop where
  n3 : x.fNodes.length = 3
  ok : ∀ n ∈ x.fNodes, NOk n
  p : x.fPool.length ≤ 150
theorem netDo_inv {x : GNet} (h : NInv x) (a : GNetAct) : NInv (netDo x a).1 := by
  have h3 := (netDo_len x a).trans h.n3
  unfold netDo at h3 ⊢
  split
  · split
    · exact h
    · rename_i hc
      refine ⟨h.n3, h.ok, ?_⟩
      have : ¬ 150 ≤ x.fPool.length := fun q => hc (.inr (.inr (.inr q)))
      show (x.fPool ++ [a.fMsg]).length ≤ 150
      rw [List.length_append, List.length_singleton]
      omega
  · split
    · exact h
    · split
      · exact h
      · rename_i n hn
        split
        · exact h
        · rename_i ha
          split
          · exact h
          · rename_i hp
            refine ⟨by simp [netPut, h.n3], fun m hm => ?_, by show (poolTo x.fPool (actOf x a n).1.2).length ≤ 150; omega⟩
            have hm : m ∈ x.fNodes.set (a.fA - 1).toNat (actOf x a n).1.1 := hm
            rcases List.mem_or_eq_of_mem_set hm with q | q
            · exact h.ok m q
            · rw [q]; exact actOf_ok (by simpa using ha)
theorem netNew_inv : NInv netNew := by
  refine ⟨rfl, fun n hn => ?_, by simp [netNew]⟩
  simp only [netNew, List.mem_cons, List.not_mem_nil, or_false] at hn
  rcases hn with rfl | rfl | rfl <;> exact nodeOk_iff.1 (by decide)
theorem playF_inv : ∀ (l : List GNetAct) (s : GNet × Int), NInv s.1 → NInv (l.foldl playF s).1
  | [], _, h => h
  | a :: r, s, h => playF_inv r (playF s a) (netDo_inv h a)
theorem netPlay_inv (l : List GNetAct) : NInv (netPlay l).1 := playF_inv l (netNew, 0) netNew_inv
end Go.Proofs.Ytcbknmnlgoeniaa
namespace Go.Proofs.Ytcbknmnlgoeniaa
set_option linter.unusedSimpArgs false
set_option linter.unusedVariables false
open Go.RowKit
set_option maxRecDepth 100000
def atC (code : List UInt8) (i : Nat) : Nat := match code[i]? with | some b => b.toNat | none => (i * 37 + code.length * 11) % 256
theorem big_p (code : List UInt8) (h : code.length ≤ 9223372036854775807) : PCalls Try.prog 5 [.sl 1 (code.map pU8)] [] (RV (.val (.bool (decide (1048576 < code.length))))) := by
  refine pcalls_ofR okP Try.func5 rfl ?_
  simp only [Try.f5, List.length_cons, List.length_nil, Nat.reduceAdd, Nat.reduceSub, List.replicate_succ, List.replicate_zero, List.cons_append, List.nil_append, List.length_map]
  repeat' (first | with_reducible (first | refine wA ?_ | refine wC ?_) | with_reducible (first | refine wq1 ?_ | refine wq3 ?_ | refine wq9 ?_) | ((with_reducible refine hK _ ?_); clear hK K) | ((with_reducible refine pops_plain fun K hK => ?_); simp (disch := omega) only [push_cast, seval]))
  ((with_reducible show PPostR _ _ _ _ _ _); refine finV ?_; (try simp only [push_cast, seval]))
  simp
  omega
set_option maxHeartbeats 4000000 in
theorem at_p (code : List UInt8) (i : Nat) (hi : i ≤ 1048576) (hc : code.length ≤ 1048576) : PCalls Try.prog 8 [.sl 1 (code.map pU8), .val (.int .i64 (i : Int))] [] (RV (.val (.int .i64 ((atC code i : Nat) : Int)))) := by
  refine pcalls_ofR okP Try.func8 rfl ?_
  simp only [Try.f8, List.length_cons, List.length_nil, Nat.reduceAdd, Nat.reduceSub, List.replicate_succ, List.replicate_zero, List.cons_append, List.nil_append, List.length_map]
  by_cases hlt : i < code.length
  · obtain ⟨b, hb⟩ : ∃ b, code[i]? = some b := ⟨_, List.getElem?_eq_getElem hlt⟩
    have e : atC code i = b.toNat := by unfold atC; rw [hb]
    have hb8 := b.toNat_lt
    repeat' (first | with_reducible (first | refine wA ?_ | refine wC ?_) | with_reducible (first | refine wq1 ?_ | refine wq3 ?_ | refine wq5 ?_ | refine wq9 ?_) | ((with_reducible refine hK _ ?_); clear hK K) | ((with_reducible refine PWp.condI ?_); refine ⟨_, rfl, fun hg => ?_, fun hg => ?_⟩ <;> first | (exact absurd hg (by decide)) | ((try simp only [Bool.not_true, Bool.not_false] at hg); (try simp only [hg]); (try simp only [push_cast] at hg); (try exact absurd trivial hg); (try (exfalso; omega)))) | ((with_reducible refine pops_plain fun K hK => ?_); simp (disch := omega) only [push_cast, seval, hb, pU8]) | ((with_reducible refine And.intro ?_ ?_); omega))
    ((with_reducible show PPostR _ _ _ _ _ _); refine finV ?_; (try simp only [push_cast, seval]))
    rw [e]
  · have e : atC code i = (i * 37 + code.length * 11) % 256 := by unfold atC; rw [List.getElem?_eq_none (by omega)]
    repeat' (first | with_reducible (first | refine wA ?_ | refine wC ?_) | with_reducible (first | refine wq1 ?_ | refine wq3 ?_ | refine wq9 ?_ | refine wS ?_) | ((with_reducible refine hK _ ?_); clear hK K) | ((with_reducible refine PWp.condI ?_); refine ⟨_, rfl, fun hg => ?_, fun hg => ?_⟩ <;> first | (exact absurd hg (by decide)) | ((try simp only [Bool.not_true, Bool.not_false] at hg); (try simp only [hg]); (try simp only [push_cast] at hg); (try exact absurd trivial hg); (try (exfalso; omega)))) | ((with_reducible refine pops_plain fun K hK => ?_); simp (disch := omega) only [push_cast, seval]))
    ((with_reducible show PPostR _ _ _ _ _ _); refine finV ?_; (try simp only [push_cast, seval]))
    rw [e]
    omega
end Go.Proofs.Ytcbknmnlgoeniaa
namespace Go.Proofs.Ytcbknmnlgoeniaa
set_option linter.unusedSimpArgs false
set_option linter.unusedVariables false
open Go.RowKit Go.ChangeShapes Go.WideShapes
def cellU8 (x : UInt8) : List Value := [.int .u8 (x.toNat : Nat)]
theorem u8_dec {W : World} {n : Nat} (cs : List Value) (h : All2 (CellN W n) [.int .u8] cs) : ∃ a : UInt8, cs = cellU8 a ∧ True := by
  match cs, h with
  | [_], ⟨k1, _⟩ =>
    obtain ⟨i, rfl, h1⟩ := cell_int k1
    have hb : 0 ≤ i ∧ i ≤ 255 := by
      simp [Lit.wf, IntKind.min, IntKind.max, IntKind.signed, IntKind.bits] at h1
      omega
    obtain ⟨j, rfl⟩ := Int.eq_ofNat_of_zero_le hb.1
    refine ⟨UInt8.ofNat j, ?_, trivial⟩
    have : (UInt8.ofNat j).toNat = j := by rw [UInt8.toNat_ofNat']; omega
    simp [cellU8, this]
theorem sl_code {W : World} {v : Value} {xs : List UInt8} (h : Sl cellU8 1 W v xs) (hm : Home) : VR (memW W) hm (.sl 1 (xs.map pU8)) v := by
  rcases h with ⟨o, cap, rfl, rfl⟩ | ⟨b, off, cap, rfl, h1, h2, h3, h4, h5⟩
  · exact .sl0 1 o cap
  · have := VR.sl (M := memW W) (h := hm) 1 (xs.map pU8) b off cap (fun i _ => .int .u8 ((xs.getD i 0).toNat : Nat)) (by simpa using h1) (by simpa using h2) h3 (fun row hr => by obtain ⟨x, _, rfl⟩ := List.mem_map.1 hr; rfl)
      (fun i j row pv a d => by
        rw [List.getElem?_map, Option.map_eq_some_iff] at a
        obtain ⟨x, a, rfl⟩ := a
        cases j with
        | succ j => simp [pU8] at d
        | zero =>
          refine memW_of ?_ rfl
          rw [h5 i x a 0 (by omega), List.getD_eq_getElem?_getD, a]
          rfl)
      (fun i j row pv a d => by
        rw [List.getElem?_map, Option.map_eq_some_iff] at a
        obtain ⟨x, a, rfl⟩ := a
        cases j with
        | succ j => simp [pU8] at d
        | zero =>
          simp [pU8] at d
          subst d
          rw [List.getD_eq_getElem?_getD, a]
          exact .val _)
    simpa using this
set_option maxRecDepth 100000 in
theorem code_law {f : FuncId} (hp : ∀ code : List UInt8, code.length ≤ 9223372036854775807 → PCalls Try.prog f [.sl 1 (code.map pU8)] [] (RV (.val (.bool true)))) {H : Type} {enc : TypeId × Value → H} (W : World) (base : Nat) (args : Array Value) (ds : List (DataW H)) (p : List MemPlace) (hG : GlobW W)
    (hval : ∀ (j : Nat) t v, #[22][j]? = some t → args[j]? = some v → Value.okWide Try.prog W .any base t v)
    (hA : DataW.TrodAll enc Try.prog W 0 (fun _ => true) true #[22].toList args.toList ds p) :
    Calls Try.prog f args W fun e W' => e = .returned (.bool true) ∧ Ext W W' := by
  obtain ⟨v0, d0, rfl, rfl, h0⟩ := trodAll_one hA
  have hc := read_slice Try.underlying22 (n := 4) (s := .sl [.int .u8]) (by kernel_rfl) (hval 0 _ _ rfl rfl) h0
  obtain ⟨xs, hx, _⟩ := sl_read (by decide) u8_dec hc
  have hl : xs.length ≤ 9223372036854775807 := by have := hx.len; unfold maxLen at this; omega
  refine ((hp xs hl).use (w := W) hG.mem (vs := #[v0]) ⟨rfl, fun i pv v a b => ?_⟩).mono fun e w' ⟨v, M', h', pv, H', e1, e2, e3, _, e5, _⟩ => ?_
  · cases i with
    | zero => simp at a b; subst a; subst b; exact sl_code hx _
    | succ i => simp at a
  · cases e2
    have := vr_val e3
    subst this
    exact ⟨e1, e5⟩
end Go.Proofs.Ytcbknmnlgoeniaa
