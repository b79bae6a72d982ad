/- What the proof leans on, part 7. -/
import Derived.Test.YtcbknmnlgoeniaaQV6
namespace Go.Proofs.Ytcbknmnlgoeniaa
set_option linter.unusedSimpArgs false
set_option linter.unusedVariables false
open Go.RowKit
set_option maxRecDepth 100000
set_option maxHeartbeats 4000000 in
theorem sRules_p (a : Acting) (ok : NOk a.1) (hs : a.2.length ≤ 300) : PCalls Try.prog 89 [.agg (pActX a.1 (.own 0) (.own 1))] (hRun a) (RH (.agg (pActX (rest a).1 (.own 2) (.own 3))) (hRunM (rest a))) := by
  have hm := mu_lt ok
  unfold rest
  obtain ⟨z, hz⟩ : ∃ z, z = restN 200 a := ⟨_, rfl⟩
  rw [← hz]
  obtain ⟨y, hy⟩ : ∃ y : Acting × Nat, y = (a, 200) := ⟨_, rfl⟩
  have h0 : NOk y.1.1 ∧ y.1.2.length + y.2 ≤ 600 ∧ mu y.1.1 < y.2 ∧ z = restN y.2 y.1 := by subst hy; exact ⟨ok, by dsimp only; omega, hm, hz⟩
  have ea : a = y.1 := by rw [hy]
  rw [ea]
  clear hy ea hz hm ok hs
  obtain ⟨⟨⟨a1, a2, a3, a4, a5, a6, a7, a8, a9, al⟩, az⟩, ak⟩ := y
  dsimp only at h0 ⊢
  refine pcalls_ofR okP Try.func89 rfl ?_
  simp only [Try.f89, List.length_cons, List.length_nil, Nat.reduceAdd, Nat.reduceSub, List.replicate_succ, List.replicate_zero, List.cons_append, List.nil_append, List.length_map]
  repeat' (first | with_reducible (first | refine wA ?_ | refine wB ?_ | refine wC ?_) | with_reducible (first | refine wq1 ?_ | refine wq3 ?_) | ((with_reducible refine hK _ ?_); clear hK K) | ((with_reducible refine pops_plain fun K hK => ?_); simp (disch := omega) only [push_cast, seval]))
  refine PWp.mvB 2 9 0 rfl rfl rfl (by decide) ?_
  refine PWp.mvB 2 10 1 rfl rfl rfl (by decide) ?_
  refine PWp.loopK (α := Acting × Nat) (fun x => match x with | (x, k) => [(1, .ptr 2 0), (2, .ptr 3 0)]) [0, 3, 4, 5, 6, 7, 8, 9, 10, 11, 12, 13] (fun x => match x with | (x, k) => [none, none, some (.box (pActX x.1 (.own 4) (.own 5))), some (.box [.val (.int .i64 0), .val (.int .i64 0), .val (.int .i64 0), .val (.int .i64 0), .val (.int .i64 0), .val (.int .i64 0), .val (.int .i64 0), .val (.int .i64 0), .val (.int .i64 0), .val (.slice none 0 0), .val (.slice none 0 0)]), some (.row 32 5 (x.1.fMsgs.map pNMsg)), some (.row 32 5 (x.2.map pNMsg))]) (fun x => match x with | (x, k) => NOk x.1 ∧ x.2.length + k ≤ 600 ∧ mu x.1 < k ∧ z = restN k x) (fun x => match x with | (x, k) => k) (((⟨a1, a2, a3, a4, a5, a6, a7, a8, a9, al⟩, az), ak)) (h0) (by exact fitA [0, 1, _, _, _, _]) ?_
  intro x ρ hI; obtain ⟨x, k⟩ := x
  (try dsimp only at hI)
  refine PWp.at (tm' := ?_) (H' := ?_) ?_ ?_ ?_; rotate_left 2; (· ((try simp only [push_cast, seval]); exact rfl)); (· ((try dsimp only); exact rfl))
  obtain ⟨ok, hl, hm, hA⟩ := hI
  have cr := sOne_p x ok (by omega)
  have rl := fun b => rule_len (a := x) (b := b) (by have := ok.ln; omega)
  unfold oneR at cr
  cases hr : rule x with
  | some b =>
    obtain ⟨g, hmu⟩ := rule_grow ok hr
    have hb := rl b hr
    obtain ⟨i, rfl⟩ : ∃ i, k = i + 1 := ⟨k - 1, by omega⟩
    rw [restN_succ hr] at hA
    rw [hr] at cr
    dsimp only at cr
    have gok := g.ok
    clear g rl hr
    obtain ⟨⟨b1, b2, b3, b4, b5, b6, b7, b8, b9, bl⟩, bs⟩ := b
    obtain ⟨⟨n1, n2, n3, n4, n5, n6, n7, n8, n9, l⟩, s⟩ := x
    repeat' (first | with_reducible (first | refine wA ?_ | refine wB ?_ | refine wC ?_) | with_reducible (first | refine wq1 ?_ | refine wq3 ?_ | refine wq4 ?_ | refine wS ?_) | ((with_reducible refine hK _ ?_); clear hK K) | ((with_reducible refine PWp.condI ?_); refine ⟨_, rfl, fun hg => ?_, fun hg => ?_⟩ <;> first | (exact absurd hg (by decide)) | ((try simp only [Bool.not_true, Bool.not_false] at hg); (try simp only [hg]); (try simp only [push_cast] at hg); (try exact absurd trivial hg); (try (exfalso; omega)))) | ((with_reducible refine pops_plain fun K hK => ?_); simp (disch := omega) only [push_cast, seval]) | ((with_reducible show pcall _ _ _ _ _ _); ((refine pcO (cf Try.func92) [_, _] (cr) ?_)); (try simp (disch := omega) only [push_cast, seval])))
    (refine ⟨((⟨b1, b2, b3, b4, b5, b6, b7, b8, b9, bl⟩, bs), i), by ((try dsimp only); omega), ?_, by exact fitA [0, 1, _, _, _, _]⟩)
    exact ⟨gok, by dsimp only at hb hl ⊢; omega, by dsimp only at hmu hm ⊢; omega, hA⟩
  | none =>
    rw [restN_done hr] at hA
    subst z
    rw [hr] at cr
    dsimp only at cr
    obtain ⟨⟨n1, n2, n3, n4, n5, n6, n7, n8, n9, l⟩, s⟩ := x
    repeat' (first | with_reducible (first | refine wA ?_ | refine wB ?_ | refine wC ?_) | with_reducible (first | refine wq1 ?_ | refine wq3 ?_ | refine wq5 ?_ | refine wq6 ?_ | refine wq9 ?_) | ((with_reducible refine hK _ ?_); clear hK K) | ((with_reducible refine PWp.condI ?_); refine ⟨_, rfl, fun hg => ?_, fun hg => ?_⟩ <;> first | (exact absurd hg (by decide)) | ((try simp only [Bool.not_true, Bool.not_false] at hg); (try simp only [hg]); (try simp only [push_cast] at hg); (try exact absurd trivial hg); (try (exfalso; omega)))) | ((with_reducible refine pops_plain fun K hK => ?_); simp (disch := omega) only [push_cast, seval]) | ((with_reducible show pcall _ _ _ _ _ _); ((refine pcO (cf Try.func92) [_, _] (cr) ?_)); (try simp (disch := omega) only [push_cast, seval])))
    all_goals ((with_reducible show PPostR _ _ _ _ _ _); exact finH [0, 1, _, _])
theorem rest_len {a : Acting} (ok : NOk a.1) (hs : a.2.length ≤ 300) : (rest a).1.fMsgs.length ≤ 90 ∧ (rest a).2.length ≤ 500 := by
  have key : ∀ (k : Nat) (a : Acting), NOk a.1 → a.2.length + k ≤ 500 → (restN k a).2.length ≤ 500 := by
    intro k
    induction k with
    | zero => intro a _ h; unfold restN; omega
    | succ k ih =>
      intro a ok h
      unfold restN
      split
      · rename_i b hr
        have := rule_len (by have := ok.ln; omega) hr
        exact ih b (rule_grow ok hr).1.ok (by omega)
      · omega
  exact ⟨(rest_spec ok).1.ok.ln, key 200 a ok (by omega)⟩
set_option maxHeartbeats 2000000 in
theorem sTold_p (a : Acting) (ok : NOk a.1) (hs : a.2.length ≤ 300) : PCalls Try.prog 75 [.agg (pActX a.1 (.own 0) (.own 1))] (hRun a) (RH (.tup [.agg (pNodeX (rest a).1 (.own 2)), .own 3, .val (.bool true)]) (hRunM (rest a))) := by
  have c := sRules_p a ok hs
  have hl := rest_len ok hs
  clear ok hs
  generalize rest a = r at c hl ⊢
  obtain ⟨⟨n1, n2, n3, n4, n5, n6, n7, n8, n9, l⟩, s⟩ := a
  obtain ⟨⟨r1, r2, r3, r4, r5, r6, r7, r8, r9, rl⟩, rs⟩ := r
  dsimp only at hl
  refine pcalls_ofR okP Try.func75 rfl ?_
  simp only [Try.f75, List.length_cons, List.length_nil, Nat.reduceAdd, Nat.reduceSub, List.replicate_succ, List.replicate_zero, List.cons_append, List.nil_append, List.length_map]
  repeat' (first | with_reducible (first | refine wA ?_ | refine wC ?_) | with_reducible refine PWp.drawT (id := 2) okP true (.step 0 (.step 1 (.step 4 (.step 5 (.fork (.alt 2 (.step 3 (.step 6 (.step 7 (.step 8 (.step 9 .done))))) (.alt 3 (.step 2 (.step 6 (.step 7 (.step 8 (.step 9 .done))))) .stop))))))) (by kernel_rfl) ?_ | with_reducible (first | refine wq1 ?_ | refine wq3 ?_ | refine wq9 ?_) | ((with_reducible refine hK _ ?_); clear hK K) | with_reducible (first | refine ptree_done ?_ | exact ptree_stop | refine ptree_fork ?_) | ((with_reducible refine ptree_I ?_); refine ⟨_, rfl, fun K hK => ?_⟩) | ((with_reducible refine ptree_A ?_ ?_); (refine ⟨_, rfl, fun K hK => ?_⟩)) | ((with_reducible refine pD_x ?_ (popO_row ?_)); exact rfl; refine ⟨_, _, _, _, _, rfl, rfl, rfl, rfl, rfl, ?_⟩; simp (disch := omega) only [push_cast, seval]) | ((with_reducible refine pops_plain fun K hK => ?_); simp (disch := omega) only [push_cast, seval]) | ((first | ((with_reducible refine pD_y ?_ ?_); exact rfl) | ((with_reducible refine pD_x ?_ ?_); exact rfl)); simp (disch := omega) only [push_cast, seval]) | ((with_reducible show pcall _ _ _ _ _ _); (first | (refine pcH (cf Try.func74) (sL16Copy_p ⟨_, _, _, _, _, _, _, _, _, _⟩ sd) ?_) | (refine pcO (cf Try.func89) [_, _] (c) ?_)); (try simp (disch := omega) only [push_cast, seval])) | ((with_reducible refine And.intro ?_ ?_); omega))
  all_goals ((with_reducible show PPostR _ _ _ _ _ _); exact finH [0, 1, _, _])
theorem sTold_n (n : GNode) (ok : NOk n) : PCalls Try.prog 75 [.agg (pActX n (.own 0) (.val (.slice none 0 0)))] [some (.row 32 5 (n.fMsgs.map pNMsg))] (RH (.tup [.agg (pNodeX (rest (n, [])).1 (.own 1)), .own 2, .val (.bool true)]) [none, some (.row 32 5 ((rest (n, [])).1.fMsgs.map pNMsg)), some (.row 32 5 ((rest (n, [])).2.map pNMsg))]) := by
  have c := sRules_p (n, []) ok (by simp)
  have hl := rest_len (a := (n, [])) ok (by simp)
  clear ok
  generalize rest (n, []) = r at c hl ⊢
  obtain ⟨n1, n2, n3, n4, n5, n6, n7, n8, n9, l⟩ := n
  obtain ⟨⟨r1, r2, r3, r4, r5, r6, r7, r8, r9, rl⟩, rs⟩ := r
  dsimp only at hl
  simp only [push_cast, List.map_nil] at c
  refine pcalls_ofR okP Try.func75 rfl ?_
  simp only [Try.f75, List.length_cons, List.length_nil, Nat.reduceAdd, Nat.reduceSub, List.replicate_succ, List.replicate_zero, List.cons_append, List.nil_append, List.length_map]
  repeat' (first | with_reducible refine mkRegion (id := 1) ?_ | with_reducible (first | refine wA ?_ | refine wC ?_) | with_reducible (first | refine wq1 ?_ | refine wq3 ?_) | ((with_reducible refine hK _ ?_); clear hK K) | ((with_reducible refine pops_plain fun K hK => ?_); simp (disch := omega) only [push_cast, seval]))
  refine Mk.of ?_
  refine PWp.nilB 1 10 32 5 rfl rfl ?_
  repeat' (first | with_reducible (first | refine wA ?_ | refine wC ?_) | with_reducible refine PWp.drawT (id := 2) okP true (.step 0 (.step 1 (.step 4 (.step 5 (.fork (.alt 2 (.step 3 (.step 6 (.step 7 (.step 8 (.step 9 .done))))) (.alt 3 (.step 2 (.step 6 (.step 7 (.step 8 (.step 9 .done))))) .stop))))))) (by kernel_rfl) ?_ | with_reducible (first | refine wq1 ?_ | refine wq3 ?_ | refine wq9 ?_) | ((with_reducible refine hK _ ?_); clear hK K) | with_reducible (first | refine ptree_done ?_ | exact ptree_stop | refine ptree_fork ?_) | ((with_reducible refine ptree_I ?_); refine ⟨_, rfl, fun K hK => ?_⟩) | ((with_reducible refine ptree_A ?_ ?_); (refine ⟨_, rfl, fun K hK => ?_⟩)) | ((with_reducible refine pD_x ?_ (popO_row ?_)); exact rfl; refine ⟨_, _, _, _, _, rfl, rfl, rfl, rfl, rfl, ?_⟩; simp (disch := omega) only [push_cast, seval]) | ((with_reducible refine pops_plain fun K hK => ?_); simp (disch := omega) only [push_cast, seval]) | ((first | ((with_reducible refine pD_y ?_ ?_); exact rfl) | ((with_reducible refine pD_x ?_ ?_); exact rfl)); simp (disch := omega) only [push_cast, seval]) | ((with_reducible show pcall _ _ _ _ _ _); (first | (refine pcH (cf Try.func74) (sL16Copy_p ⟨_, _, _, _, _, _, _, _, _, _⟩ sd) ?_) | (refine pcO (cf Try.func89) [_, _] (c) ?_)); (try simp (disch := omega) only [push_cast, seval])) | ((with_reducible refine And.intro ?_ ?_); omega))
  all_goals ((with_reducible show PPostR _ _ _ _ _ _); exact finH [0, _, _])
set_option maxHeartbeats 2000000 in
theorem sBegin_n (n : GNode) (round : Int) (hr : 0 ≤ round ∧ round ≤ 11) (hm : 1 ≤ n.fMe ∧ n.fMe ≤ 4) (hv0 : -1 ≤ n.fValidRound) (hl : n.fMsgs.length ≤ 1000) : PCalls Try.prog 76 [.agg (pActX n (.own 0) (.val (.slice none 0 0))), .val (.int .i64 round)] [some (.row 32 5 (n.fMsgs.map pNMsg))] (RH (.agg (pActX (beginR (n, []) round).1 (.own 1) (.own 2))) [none, some (.row 32 5 ((beginR (n, []) round).1.fMsgs.map pNMsg)), some (.row 32 5 ((beginR (n, []) round).2.map pNMsg))]) := by
  obtain ⟨n1, n2, n3, n4, n5, n6, n7, n8, n9, l⟩ := n
  dsimp only at hl hm hv0
  unfold beginR
  dsimp only
  by_cases hp : propOf round = n1
  case neg =>
    rw [if_neg hp]
    refine pcalls_ofR okP Try.func76 rfl ?_
    simp only [Try.f76, List.length_cons, List.length_nil, Nat.reduceAdd, Nat.reduceSub, List.replicate_succ, List.replicate_zero, List.cons_append, List.nil_append, List.length_map]
    repeat' (first | with_reducible refine mkRegion (id := 1) ?_ | with_reducible (first | refine wA ?_ | refine wC ?_) | with_reducible (first | refine wq1 ?_ | refine wq3 ?_) | ((with_reducible refine hK _ ?_); clear hK K) | ((with_reducible refine pops_plain fun K hK => ?_); simp (disch := omega) only [push_cast, seval]))
    refine Mk.of ?_
    refine PWp.nilB 1 10 32 5 rfl rfl ?_
    refine PWp.mvB 1 9 0 rfl rfl rfl (by decide) ?_
    repeat' (first | with_reducible (first | refine wA ?_ | refine wC ?_) | with_reducible refine PWp.draw (id := 3) okP true [0, 2, 3, 4, 1, 5] (by kernel_rfl) ?_ | with_reducible (first | refine wq1 ?_ | refine wq2 ?_ | refine wq3 ?_ | refine wq5 ?_ | refine wq9 ?_) | ((with_reducible refine hK _ ?_); clear hK K) | ((with_reducible refine PWp.condI ?_); refine ⟨_, rfl, fun hg => ?_, fun hg => ?_⟩ <;> first | (exact absurd hg (by decide)) | ((try simp only [Bool.not_true, Bool.not_false] at hg); (try simp only [hg]); (try simp only [push_cast] at hg); (try exact absurd trivial hg); (try (exfalso; omega)))) | ((with_reducible refine pany_I ?_); refine ⟨_, rfl, fun K hK => ?_⟩) | ((with_reducible refine pops_plain fun K hK => ?_); simp (disch := omega) only [push_cast, seval, hp]) | ((first | ((with_reducible refine pD_y ?_ ?_); exact rfl) | ((with_reducible refine pD_x ?_ ?_); exact rfl)); simp (disch := omega) only [push_cast, seval, hp]) | ((with_reducible show pcall _ _ _ _ _ _); ((refine pcV (cf Try.func72) (sPropOf_p _ sd) ?_)); (try simp (disch := omega) only [push_cast, seval, hp])))
    ((with_reducible show PPostR _ _ _ _ _ _); exact finH [0, _, _])
  rw [if_pos hp]
  by_cases hv : n7 = -1
  · rw [if_pos hv]
    have hv' : ¬ n7 ≥ 0 := by omega
    have c := sSend_p (⟨n1, round, 1, n4, n5, n6, n7, n8, n9, l⟩, []) 1 (10 + n1) (-1) ⟨hl, by simp⟩
    generalize send (⟨n1, round, 1, n4, n5, n6, n7, n8, n9, l⟩, []) 1 (10 + n1) (-1) = r at c ⊢
    obtain ⟨⟨r1, r2, r3, r4, r5, r6, r7, r8, r9, rl⟩, rs⟩ := r
    simp only [push_cast, List.map_nil] at c
    refine pcalls_ofR okP Try.func76 rfl ?_
    simp only [Try.f76, List.length_cons, List.length_nil, Nat.reduceAdd, Nat.reduceSub, List.replicate_succ, List.replicate_zero, List.cons_append, List.nil_append, List.length_map]
    repeat' (first | with_reducible refine mkRegion (id := 1) ?_ | with_reducible (first | refine wA ?_ | refine wC ?_) | with_reducible (first | refine wq1 ?_ | refine wq3 ?_) | ((with_reducible refine hK _ ?_); clear hK K) | ((with_reducible refine pops_plain fun K hK => ?_); simp (disch := omega) only [push_cast, seval]))
    refine Mk.of ?_
    refine PWp.nilB 1 10 32 5 rfl rfl ?_
    repeat' (first | with_reducible (first | refine wA ?_ | refine wC ?_) | with_reducible refine PWp.draw (id := 3) okP true [0, 2, 3, 4, 1, 5] (by kernel_rfl) ?_ | with_reducible (first | refine wq1 ?_ | refine wq2 ?_ | refine wq3 ?_ | refine wq9 ?_ | refine wS ?_) | ((with_reducible refine hK _ ?_); clear hK K) | ((with_reducible refine PWp.condI ?_); refine ⟨_, rfl, fun hg => ?_, fun hg => ?_⟩ <;> first | (exact absurd hg (by decide)) | ((try simp only [Bool.not_true, Bool.not_false] at hg); (try simp only [hg]); (try simp only [push_cast] at hg); (try exact absurd trivial hg); (try (exfalso; omega)))) | ((with_reducible refine pany_I ?_); refine ⟨_, rfl, fun K hK => ?_⟩) | ((with_reducible refine pops_plain fun K hK => ?_); simp (disch := omega) only [push_cast, seval, hp, hv']) | ((first | ((with_reducible refine pD_y ?_ ?_); exact rfl) | ((with_reducible refine pD_x ?_ ?_); exact rfl)); simp (disch := omega) only [push_cast, seval, hp, hv']) | ((with_reducible show pcall _ _ _ _ _ _); (first | (refine pcV (cf Try.func72) (sPropOf_p _ sd) ?_) | (refine pcO (cf Try.func90) [_, _] (c) ?_)); (try simp (disch := omega) only [push_cast, seval, hp, hv'])))
    ((with_reducible show PPostR _ _ _ _ _ _); exact finH [0, _, _])
  · rw [if_neg hv]
    have hv' : n7 ≥ 0 := by omega
    have c := sSend_p (⟨n1, round, 1, n4, n5, n6, n7, n8, n9, l⟩, []) 1 n6 n7 ⟨hl, by simp⟩
    generalize send (⟨n1, round, 1, n4, n5, n6, n7, n8, n9, l⟩, []) 1 n6 n7 = r at c ⊢
    obtain ⟨⟨r1, r2, r3, r4, r5, r6, r7, r8, r9, rl⟩, rs⟩ := r
    simp only [push_cast, List.map_nil] at c
    refine pcalls_ofR okP Try.func76 rfl ?_
    simp only [Try.f76, List.length_cons, List.length_nil, Nat.reduceAdd, Nat.reduceSub, List.replicate_succ, List.replicate_zero, List.cons_append, List.nil_append, List.length_map]
    repeat' (first | with_reducible refine mkRegion (id := 1) ?_ | with_reducible (first | refine wA ?_ | refine wC ?_) | with_reducible (first | refine wq1 ?_ | refine wq3 ?_) | ((with_reducible refine hK _ ?_); clear hK K) | ((with_reducible refine pops_plain fun K hK => ?_); simp (disch := omega) only [push_cast, seval]))
    refine Mk.of ?_
    refine PWp.nilB 1 10 32 5 rfl rfl ?_
    repeat' (first | with_reducible (first | refine wA ?_ | refine wC ?_) | with_reducible refine PWp.draw (id := 3) okP true [0, 2, 3, 4, 1, 5] (by kernel_rfl) ?_ | with_reducible (first | refine wq1 ?_ | refine wq2 ?_ | refine wq3 ?_ | refine wq5 ?_ | refine wq9 ?_ | refine wS ?_) | ((with_reducible refine hK _ ?_); clear hK K) | ((with_reducible refine PWp.condI ?_); refine ⟨_, rfl, fun hg => ?_, fun hg => ?_⟩ <;> first | (exact absurd hg (by decide)) | ((try simp only [Bool.not_true, Bool.not_false] at hg); (try simp only [hg]); (try simp only [push_cast] at hg); (try exact absurd trivial hg); (try (exfalso; omega)))) | ((with_reducible refine pany_I ?_); refine ⟨_, rfl, fun K hK => ?_⟩) | ((with_reducible refine pops_plain fun K hK => ?_); simp (disch := omega) only [push_cast, seval, hp, hv']) | ((first | ((with_reducible refine pD_y ?_ ?_); exact rfl) | ((with_reducible refine pD_x ?_ ?_); exact rfl)); simp (disch := omega) only [push_cast, seval, hp, hv']) | ((with_reducible show pcall _ _ _ _ _ _); (first | (refine pcV (cf Try.func72) (sPropOf_p _ sd) ?_) | (refine pcO (cf Try.func90) [_, _] (c) ?_)); (try simp (disch := omega) only [push_cast, seval, hp, hv'])))
    ((with_reducible show PPostR _ _ _ _ _ _); exact finH [0, _, _])
end Go.Proofs.Ytcbknmnlgoeniaa
namespace Go.Proofs.Ytcbknmnlgoeniaa
set_option linter.unusedSimpArgs false
set_option linter.unusedVariables false
open Go.RowKit
set_option maxRecDepth 100000
set_option maxHeartbeats 4000000 in
theorem sNodeStart_p (n : GNode) (ok : NOk n) : PCalls Try.prog 60 [.agg (pNode n)] [] (RH (.tup [.agg (pNode (nodeStart n).1.1), .sl 5 ((nodeStart n).1.2.map pNMsg), .val (.bool (nodeStart n).2)]) []) := by
  have ho := nodeOk_iff.2 ok
  have hln := ok.ln
  have hme := ok.me
  have hrd := ok.rd
  have hl : n.fMsgs.length ≤ 1000000 := by omega
  unfold nodeStart
  rw [if_neg (by simp [ho])]
  by_cases hr : n.fRound = -1
  case neg =>
    rw [if_pos hr]
    have hr' : n.fRound ≥ 0 := by omega
    refine node_thaw ?_
    clear ok
    obtain ⟨n1, n2, n3, n4, n5, n6, n7, n8, n9, l⟩ := n
    dsimp only at hr hr' hl hln ⊢
    refine pcalls_ofR okP Try.func60 rfl ?_
    simp only [Try.f60, List.length_cons, List.length_nil, Nat.reduceAdd, Nat.reduceSub, List.replicate_succ, List.replicate_zero, List.cons_append, List.nil_append, List.length_map]
    repeat' (first | with_reducible (first | refine wA ?_ | refine wC ?_) | with_reducible (first | refine wq1 ?_ | refine wq3 ?_ | refine wq5 ?_ | refine wq9 ?_ | refine wS ?_) | ((with_reducible refine hK _ ?_); clear hK K) | ((with_reducible refine PWp.condI ?_); refine ⟨_, rfl, fun hg => ?_, fun hg => ?_⟩ <;> first | (exact absurd hg (by decide)) | ((try simp only [Bool.not_true, Bool.not_false] at hg); (try simp only [hg]); (try simp only [push_cast] at hg); (try exact absurd trivial hg); (try (exfalso; omega)))) | ((with_reducible refine pops_plain fun K hK => popO_row ?_); refine ⟨_, _, _, _, _, rfl, rfl, rfl, rfl, rfl, ?_⟩; simp (disch := omega) only [push_cast, seval, ho, hr']) | ((with_reducible refine pops_plain fun K hK => ?_); simp (disch := omega) only [push_cast, seval, ho, hr']) | ((with_reducible show pcall _ _ _ _ _ _); (first | (refine pcV (cf Try.func73) (sNodeOk_p ⟨_, _, _, _, _, _, _, _, _, _⟩ sd) ?_) | (refine pcH (cf Try.func74) (sL16Copy_p ⟨_, _, _, _, _, _, _, _, _, _⟩ sd) ?_)); (try simp (disch := omega) only [push_cast, seval, ho, hr'])))
    ((with_reducible show PPostR _ _ _ _ _ _); exact finH [_, _])
  rw [if_neg (by simp [hr])]
  refine node_thaw ?_
  have c := sBegin_n n 0 (by omega) hme ok.vr.1 (by omega)
  have g := beginR0_grow ok hr
  have hb : (beginR (n, []) 0).2.length ≤ 1 := by
    unfold beginR send sendM
    split
    · split <;> simp
    · simp
  have c2 := sTold_p (beginR (n, []) 0) g.ok (by omega)
  clear g hb ok
  generalize rest (beginR (n, []) 0) = q at c2 ⊢
  generalize beginR (n, []) 0 = r at c c2
  obtain ⟨n1, n2, n3, n4, n5, n6, n7, n8, n9, l⟩ := n
  obtain ⟨⟨r1, r2, r3, r4, r5, r6, r7, r8, r9, rl⟩, rs⟩ := r
  obtain ⟨⟨q1, q2, q3, q4, q5, q6, q7, q8, q9, ql⟩, qs⟩ := q
  dsimp only at hr hl hln c ⊢
  have hr' : ¬ n2 ≥ 0 := by omega
  refine pcalls_ofR okP Try.func60 rfl ?_
  simp only [Try.f60, List.length_cons, List.length_nil, Nat.reduceAdd, Nat.reduceSub, List.replicate_succ, List.replicate_zero, List.cons_append, List.nil_append, List.length_map]
  repeat' (first | with_reducible (first | refine wA ?_ | refine wC ?_) | with_reducible (first | refine wq1 ?_ | refine wq3 ?_ | refine wq9 ?_ | refine wS ?_) | ((with_reducible refine hK _ ?_); clear hK K) | ((with_reducible refine PWp.condI ?_); refine ⟨_, rfl, fun hg => ?_, fun hg => ?_⟩ <;> first | (exact absurd hg (by decide)) | ((try simp only [Bool.not_true, Bool.not_false] at hg); (try simp only [hg]); (try simp only [push_cast] at hg); (try exact absurd trivial hg); (try (exfalso; omega)))) | ((with_reducible refine pops_plain fun K hK => popO_build ?_); refine ⟨_, rfl, _, rfl, ?_⟩; simp (disch := omega) only [push_cast, seval, ho, hr']) | ((with_reducible refine pops_plain fun K hK => ?_); simp (disch := omega) only [push_cast, seval, ho, hr']) | ((with_reducible show pcall _ _ _ _ _ _); (first | (refine pcV (cf Try.func73) (sNodeOk_p ⟨_, _, _, _, _, _, _, _, _, _⟩ sd) ?_) | (refine pcH (cf Try.func74) (sL16Copy_p ⟨_, _, _, _, _, _, _, _, _, _⟩ sd) ?_) | (refine pcO (cf Try.func75) [_, _] (c2) ?_) | (refine pcO (cf Try.func76) [_] (c) ?_)); (try simp (disch := omega) only [push_cast, seval, ho, hr'])))
  all_goals ((with_reducible show PPostR _ _ _ _ _ _); exact finH [_, _])
set_option maxHeartbeats 4000000 in
theorem sNodeGet_p (n : GNode) (m : GNMsg) (ok : NOk n) : PCalls Try.prog 61 [.agg (pNode n), .agg (pNMsg m)] [] (RH (.tup [.agg (pNode (nodeGet n m).1.1), .sl 5 ((nodeGet n m).1.2.map pNMsg), .val (.bool (nodeGet n m).2)]) []) := by
  have ho := nodeOk_iff.2 ok
  have hln := ok.ln
  have hl : n.fMsgs.length ≤ 1000000 := by omega
  unfold nodeGet
  rw [if_neg (by simp [ho])]
  by_cases hc : msgOk m = false ∨ hasM n.fMsgs m = true ∨ n.fMsgs.length = 90
  case pos =>
    rw [if_pos hc]
    refine node_thaw ?_
    clear ok
    obtain ⟨n1, n2, n3, n4, n5, n6, n7, n8, n9, l⟩ := n
    obtain ⟨m1, m2, m3, m4, m5⟩ := m
    dsimp only at hc hl hln ⊢
    cases h1 : msgOk ⟨m1, m2, m3, m4, m5⟩ with
    | false =>
      refine pcalls_ofR okP Try.func61 rfl ?_
      simp only [Try.f61, List.length_cons, List.length_nil, Nat.reduceAdd, Nat.reduceSub, List.replicate_succ, List.replicate_zero, List.cons_append, List.nil_append, List.length_map]
      repeat' (first | with_reducible (first | refine wA ?_ | refine wC ?_) | with_reducible (first | refine wq1 ?_ | refine wq3 ?_ | refine wq5 ?_ | refine wq9 ?_ | refine wS ?_) | ((with_reducible refine hK _ ?_); clear hK K) | ((with_reducible refine PWp.condI ?_); refine ⟨_, rfl, fun hg => ?_, fun hg => ?_⟩ <;> first | (exact absurd hg (by decide)) | ((try simp only [Bool.not_true, Bool.not_false] at hg); (try simp only [hg]); (try simp only [push_cast] at hg); (try exact absurd trivial hg); (try (exfalso; omega)))) | ((with_reducible refine pops_plain fun K hK => popO_row ?_); refine ⟨_, _, _, _, _, rfl, rfl, rfl, rfl, rfl, ?_⟩; simp (disch := omega) only [push_cast, seval, ho, h1]) | ((with_reducible refine pops_plain fun K hK => ?_); simp (disch := omega) only [push_cast, seval, ho, h1]) | ((with_reducible refine pops_guard ?_); refine ⟨_, rfl, fun K hK => ⟨_, rfl, fun hg => ?_, fun hg => ?_⟩⟩ <;> first | (exact absurd hg (by decide)) | ((try simp only [Bool.not_true, Bool.not_false] at hg); (try simp only [hg]); (try simp only [push_cast] at hg); (try exact absurd trivial hg); (try (exfalso; omega)); (try simp (disch := omega) only [push_cast, seval, ho, h1]))) | ((with_reducible show pcall _ _ _ _ _ _); (first | (refine pcV (cf Try.func57) (sMsgOk_p ⟨_, _, _, _, _⟩) ?_) | (refine pcV (cf Try.func73) (sNodeOk_p ⟨_, _, _, _, _, _, _, _, _, _⟩ sd) ?_) | (refine pcH (cf Try.func74) (sL16Copy_p ⟨_, _, _, _, _, _, _, _, _, _⟩ sd) ?_)); (try simp (disch := omega) only [push_cast, seval, ho, h1])))
      all_goals ((with_reducible show PPostR _ _ _ _ _ _); exact finH [_, _])
    | true =>
      cases h2 : hasM l ⟨m1, m2, m3, m4, m5⟩ with
      | true =>
        refine pcalls_ofR okP Try.func61 rfl ?_
        simp only [Try.f61, List.length_cons, List.length_nil, Nat.reduceAdd, Nat.reduceSub, List.replicate_succ, List.replicate_zero, List.cons_append, List.nil_append, List.length_map]
        repeat' (first | with_reducible (first | refine wA ?_ | refine wC ?_) | with_reducible (first | refine wq1 ?_ | refine wq3 ?_ | refine wq5 ?_ | refine wq9 ?_ | refine wS ?_) | ((with_reducible refine hK _ ?_); clear hK K) | ((with_reducible refine PWp.condI ?_); refine ⟨_, rfl, fun hg => ?_, fun hg => ?_⟩ <;> first | (exact absurd hg (by decide)) | ((try simp only [Bool.not_true, Bool.not_false] at hg); (try simp only [hg]); (try simp only [push_cast] at hg); (try exact absurd trivial hg); (try (exfalso; omega)))) | ((with_reducible refine pops_plain fun K hK => popO_row ?_); refine ⟨_, _, _, _, _, rfl, rfl, rfl, rfl, rfl, ?_⟩; simp (disch := omega) only [push_cast, seval, ho, h1, h2]) | ((with_reducible refine pops_plain fun K hK => ?_); simp (disch := omega) only [push_cast, seval, ho, h1, h2]) | ((with_reducible refine pops_guard ?_); refine ⟨_, rfl, fun K hK => ⟨_, rfl, fun hg => ?_, fun hg => ?_⟩⟩ <;> first | (exact absurd hg (by decide)) | ((try simp only [Bool.not_true, Bool.not_false] at hg); (try simp only [hg]); (try simp only [push_cast] at hg); (try exact absurd trivial hg); (try (exfalso; omega)); (try simp (disch := omega) only [push_cast, seval, ho, h1, h2]))) | ((with_reducible show pcall _ _ _ _ _ _); (first | (refine pcV (cf Try.func57) (sMsgOk_p ⟨_, _, _, _, _⟩) ?_) | (refine pcV (cf Try.func58) (sL16Has_p _ ⟨_, _, _, _, _⟩ sd) ?_) | (refine pcV (cf Try.func73) (sNodeOk_p ⟨_, _, _, _, _, _, _, _, _, _⟩ sd) ?_) | (refine pcH (cf Try.func74) (sL16Copy_p ⟨_, _, _, _, _, _, _, _, _, _⟩ sd) ?_)); (try simp (disch := omega) only [push_cast, seval, ho, h1, h2])))
        all_goals ((with_reducible show PPostR _ _ _ _ _ _); exact finH [_, _])
      | false =>
        have h3 : (l.length : Int) ≥ 90 := by simp [h1, h2] at hc; omega
        refine pcalls_ofR okP Try.func61 rfl ?_
        simp only [Try.f61, List.length_cons, List.length_nil, Nat.reduceAdd, Nat.reduceSub, List.replicate_succ, List.replicate_zero, List.cons_append, List.nil_append, List.length_map]
        repeat' (first | with_reducible (first | refine wA ?_ | refine wC ?_) | with_reducible (first | refine wq1 ?_ | refine wq3 ?_ | refine wq5 ?_ | refine wq9 ?_ | refine wS ?_) | ((with_reducible refine hK _ ?_); clear hK K) | ((with_reducible refine PWp.condI ?_); refine ⟨_, rfl, fun hg => ?_, fun hg => ?_⟩ <;> first | (exact absurd hg (by decide)) | ((try simp only [Bool.not_true, Bool.not_false] at hg); (try simp only [hg]); (try simp only [push_cast] at hg); (try exact absurd trivial hg); (try (exfalso; omega)))) | ((with_reducible refine pops_plain fun K hK => popO_row ?_); refine ⟨_, _, _, _, _, rfl, rfl, rfl, rfl, rfl, ?_⟩; simp (disch := omega) only [push_cast, seval, ho, h1, h2, h3]) | ((with_reducible refine pops_plain fun K hK => ?_); simp (disch := omega) only [push_cast, seval, ho, h1, h2, h3]) | ((with_reducible refine pops_guard ?_); refine ⟨_, rfl, fun K hK => ⟨_, rfl, fun hg => ?_, fun hg => ?_⟩⟩ <;> first | (exact absurd hg (by decide)) | ((try simp only [Bool.not_true, Bool.not_false] at hg); (try simp only [hg]); (try simp only [push_cast] at hg); (try exact absurd trivial hg); (try (exfalso; omega)); (try simp (disch := omega) only [push_cast, seval, ho, h1, h2, h3]))) | ((with_reducible show pcall _ _ _ _ _ _); (first | (refine pcV (cf Try.func57) (sMsgOk_p ⟨_, _, _, _, _⟩) ?_) | (refine pcV (cf Try.func58) (sL16Has_p _ ⟨_, _, _, _, _⟩ sd) ?_) | (refine pcV (cf Try.func73) (sNodeOk_p ⟨_, _, _, _, _, _, _, _, _, _⟩ sd) ?_) | (refine pcH (cf Try.func74) (sL16Copy_p ⟨_, _, _, _, _, _, _, _, _, _⟩ sd) ?_)); (try simp (disch := omega) only [push_cast, seval, ho, h1, h2, h3])))
        all_goals ((with_reducible show PPostR _ _ _ _ _ _); exact finH [_, _])
  rw [if_neg hc]
  refine node_thaw ?_
  have hok2 : NOk (withMsg n m) := withMsg_ok ok (msgOk_iff.1 (by cases h : msgOk m; exact absurd (.inl h) hc; rfl)) (fun q => hc (.inr (.inl (hasM_iff.2 q)))) (fun q => hc (.inr (.inr q)))
  have c2 := sTold_n (withMsg n m) hok2
  generalize rest (withMsg n m, []) = q at c2 ⊢
  have h1 : msgOk m = true := by cases h : msgOk m; exact absurd (.inl h) hc; rfl
  have h2 : hasM n.fMsgs m = false := by cases h : hasM n.fMsgs m; rfl; exact absurd (.inr (.inl h)) hc
  have h3 : ¬ (n.fMsgs.length : Int) ≥ 90 := fun q => hc (.inr (.inr (by omega)))
  clear hc hok2 ok
  unfold withMsg at c2
  obtain ⟨n1, n2, n3, n4, n5, n6, n7, n8, n9, l⟩ := n
  obtain ⟨m1, m2, m3, m4, m5⟩ := m
  obtain ⟨⟨q1, q2, q3, q4, q5, q6, q7, q8, q9, ql⟩, qs⟩ := q
  dsimp only at hl hln c2 h2 h3 ⊢
  simp only [List.map_append, List.map_cons, List.map_nil, pNMsg] at c2
  refine pcalls_ofR okP Try.func61 rfl ?_
  simp only [Try.f61, List.length_cons, List.length_nil, Nat.reduceAdd, Nat.reduceSub, List.replicate_succ, List.replicate_zero, List.cons_append, List.nil_append, List.length_map]
  repeat' (first | with_reducible (first | refine wA ?_ | refine wC ?_) | with_reducible (first | refine wq1 ?_ | refine wq3 ?_ | refine wq9 ?_ | refine wS ?_) | ((with_reducible refine hK _ ?_); clear hK K) | ((with_reducible refine PWp.condI ?_); refine ⟨_, rfl, fun hg => ?_, fun hg => ?_⟩ <;> first | (exact absurd hg (by decide)) | ((try simp only [Bool.not_true, Bool.not_false] at hg); (try simp only [hg]); (try simp only [push_cast] at hg); (try exact absurd trivial hg); (try (exfalso; omega)))) | ((with_reducible refine pops_plain fun K hK => popO_row ?_); refine ⟨_, _, _, _, _, rfl, rfl, rfl, rfl, rfl, ?_⟩; simp (disch := omega) only [push_cast, seval, ho, h1, h2, h3]) | ((with_reducible refine pops_plain fun K hK => popO_build ?_); refine ⟨_, rfl, _, rfl, ?_⟩; simp (disch := omega) only [push_cast, seval, ho, h1, h2, h3]) | ((with_reducible refine pops_plain fun K hK => ?_); simp (disch := omega) only [push_cast, seval, ho, h1, h2, h3]) | ((with_reducible refine pops_guard ?_); refine ⟨_, rfl, fun K hK => ⟨_, rfl, fun hg => ?_, fun hg => ?_⟩⟩ <;> first | (exact absurd hg (by decide)) | ((try simp only [Bool.not_true, Bool.not_false] at hg); (try simp only [hg]); (try simp only [push_cast] at hg); (try exact absurd trivial hg); (try (exfalso; omega)); (try simp (disch := omega) only [push_cast, seval, ho, h1, h2, h3]))) | ((with_reducible show pcall _ _ _ _ _ _); (first | (refine pcV (cf Try.func57) (sMsgOk_p ⟨_, _, _, _, _⟩) ?_) | (refine pcV (cf Try.func58) (sL16Has_p _ ⟨_, _, _, _, _⟩ sd) ?_) | (refine pcV (cf Try.func73) (sNodeOk_p ⟨_, _, _, _, _, _, _, _, _, _⟩ sd) ?_) | (refine pcH (cf Try.func74) (sL16Copy_p ⟨_, _, _, _, _, _, _, _, _, _⟩ sd) ?_) | (refine pcO (cf Try.func75) [_] (c2) ?_)); (try simp (disch := omega) only [push_cast, seval, ho, h1, h2, h3])) | ((with_reducible refine And.intro ?_ ?_); omega))
  all_goals ((with_reducible show PPostR _ _ _ _ _ _); exact finH [_, _])
set_option maxHeartbeats 4000000 in
theorem sNodeTime_p (n : GNode) (step : Int) (ok : NOk n) : PCalls Try.prog 62 [.agg (pNode n), .val (.int .i64 step)] [] (RH (.tup [.agg (pNode (nodeTime n step).1.1), .sl 5 ((nodeTime n step).1.2.map pNMsg), .val (.bool (nodeTime n step).2)]) []) := by
  have ho := nodeOk_iff.2 ok
  have hln := ok.ln
  have hl : n.fMsgs.length ≤ 1000000 := by omega
  have hme := ok.me
  have hst := ok.st
  have hrd := ok.rd
  have hvr := ok.vr.1
  unfold nodeTime
  rw [if_neg (by simp [ho])]
  by_cases hc : n.fStep ≠ step ∨ n.fRound = -1 ∨ 0 < n.fDecided ∨ (step = 3 ∧ n.fRound = 11)
  case pos =>
    rw [if_pos hc]
    refine node_thaw ?_
    clear ok
    obtain ⟨n1, n2, n3, n4, n5, n6, n7, n8, n9, l⟩ := n
    dsimp only at *
    by_cases h1 : n3 = step
    case neg =>
      refine pcalls_ofR okP Try.func62 rfl ?_
      simp only [Try.f62, List.length_cons, List.length_nil, Nat.reduceAdd, Nat.reduceSub, List.replicate_succ, List.replicate_zero, List.cons_append, List.nil_append, List.length_map]
      repeat' (first | with_reducible (first | refine wA ?_ | refine wC ?_) | with_reducible (first | refine wq1 ?_ | refine wq3 ?_ | refine wq5 ?_ | refine wq9 ?_ | refine wS ?_) | ((with_reducible refine hK _ ?_); clear hK K) | ((with_reducible refine PWp.condI ?_); refine ⟨_, rfl, fun hg => ?_, fun hg => ?_⟩ <;> first | (exact absurd hg (by decide)) | ((try simp only [Bool.not_true, Bool.not_false] at hg); (try simp only [hg]); (try simp only [push_cast] at hg); (try exact absurd trivial hg); (try (exfalso; omega)))) | ((with_reducible refine pops_guard0 ?_); refine ⟨_, rfl, fun K hK => ⟨rfl, ?_⟩⟩; (try simp (disch := omega) only [push_cast, seval, ho, h1])) | ((with_reducible refine pops_plain fun K hK => popO_row ?_); refine ⟨_, _, _, _, _, rfl, rfl, rfl, rfl, rfl, ?_⟩; simp (disch := omega) only [push_cast, seval, ho, h1]) | ((with_reducible refine pops_plain fun K hK => popO_build ?_); refine ⟨_, rfl, _, rfl, ?_⟩; simp (disch := omega) only [push_cast, seval, ho, h1]) | ((with_reducible refine pops_plain fun K hK => ?_); simp (disch := omega) only [push_cast, seval, ho, h1]) | ((with_reducible refine pops_guard ?_); refine ⟨_, rfl, fun K hK => ⟨_, rfl, fun hg => ?_, fun hg => ?_⟩⟩ <;> first | (exact absurd hg (by decide)) | ((try simp only [Bool.not_true, Bool.not_false] at hg); (try simp only [hg]); (try simp only [push_cast] at hg); (try exact absurd trivial hg); (try (exfalso; omega)); (try simp (disch := omega) only [push_cast, seval, ho, h1]))) | ((with_reducible show pcall _ _ _ _ _ _); (first | (refine pcV (cf Try.func73) (sNodeOk_p ⟨_, _, _, _, _, _, _, _, _, _⟩ sd) ?_) | (refine pcH (cf Try.func74) (sL16Copy_p ⟨_, _, _, _, _, _, _, _, _, _⟩ sd) ?_)); (try simp (disch := omega) only [push_cast, seval, ho, h1])))
      all_goals ((with_reducible show PPostR _ _ _ _ _ _); exact finH [_, _])
    subst h1
    by_cases h2 : n2 = -1
    case pos =>
      subst h2
      refine pcalls_ofR okP Try.func62 rfl ?_
      simp only [Try.f62, List.length_cons, List.length_nil, Nat.reduceAdd, Nat.reduceSub, List.replicate_succ, List.replicate_zero, List.cons_append, List.nil_append, List.length_map]
      repeat' (first | with_reducible (first | refine wA ?_ | refine wC ?_) | with_reducible (first | refine wq1 ?_ | refine wq3 ?_ | refine wq5 ?_ | refine wq9 ?_ | refine wS ?_) | ((with_reducible refine hK _ ?_); clear hK K) | ((with_reducible refine PWp.condI ?_); refine ⟨_, rfl, fun hg => ?_, fun hg => ?_⟩ <;> first | (exact absurd hg (by decide)) | ((try simp only [Bool.not_true, Bool.not_false] at hg); (try simp only [hg]); (try simp only [push_cast] at hg); (try exact absurd trivial hg); (try (exfalso; omega)))) | ((with_reducible refine pops_guard0 ?_); refine ⟨_, rfl, fun K hK => ⟨rfl, ?_⟩⟩; (try simp (disch := omega) only [push_cast, seval, ho])) | ((with_reducible refine pops_plain fun K hK => popO_row ?_); refine ⟨_, _, _, _, _, rfl, rfl, rfl, rfl, rfl, ?_⟩; simp (disch := omega) only [push_cast, seval, ho]) | ((with_reducible refine pops_plain fun K hK => popO_build ?_); refine ⟨_, rfl, _, rfl, ?_⟩; simp (disch := omega) only [push_cast, seval, ho]) | ((with_reducible refine pops_plain fun K hK => ?_); simp (disch := omega) only [push_cast, seval, ho]) | ((with_reducible refine pops_guard ?_); refine ⟨_, rfl, fun K hK => ⟨_, rfl, fun hg => ?_, fun hg => ?_⟩⟩ <;> first | (exact absurd hg (by decide)) | ((try simp only [Bool.not_true, Bool.not_false] at hg); (try simp only [hg]); (try simp only [push_cast] at hg); (try exact absurd trivial hg); (try (exfalso; omega)); (try simp (disch := omega) only [push_cast, seval, ho]))) | ((with_reducible show pcall _ _ _ _ _ _); (first | (refine pcV (cf Try.func73) (sNodeOk_p ⟨_, _, _, _, _, _, _, _, _, _⟩ sd) ?_) | (refine pcH (cf Try.func74) (sL16Copy_p ⟨_, _, _, _, _, _, _, _, _, _⟩ sd) ?_)); (try simp (disch := omega) only [push_cast, seval, ho])))
      all_goals ((with_reducible show PPostR _ _ _ _ _ _); exact finH [_, _])
    have h2' : ¬ n2 < 0 := by omega
    by_cases h3 : 0 < n9
    case pos =>
      refine pcalls_ofR okP Try.func62 rfl ?_
      simp only [Try.f62, List.length_cons, List.length_nil, Nat.reduceAdd, Nat.reduceSub, List.replicate_succ, List.replicate_zero, List.cons_append, List.nil_append, List.length_map]
      repeat' (first | with_reducible (first | refine wA ?_ | refine wC ?_) | with_reducible (first | refine wq1 ?_ | refine wq3 ?_ | refine wq5 ?_ | refine wq9 ?_ | refine wS ?_) | ((with_reducible refine hK _ ?_); clear hK K) | ((with_reducible refine PWp.condI ?_); refine ⟨_, rfl, fun hg => ?_, fun hg => ?_⟩ <;> first | (exact absurd hg (by decide)) | ((try simp only [Bool.not_true, Bool.not_false] at hg); (try simp only [hg]); (try simp only [push_cast] at hg); (try exact absurd trivial hg); (try (exfalso; omega)))) | ((with_reducible refine pops_guard0 ?_); refine ⟨_, rfl, fun K hK => ⟨rfl, ?_⟩⟩; (try simp (disch := omega) only [push_cast, seval, ho, h2', h3])) | ((with_reducible refine pops_plain fun K hK => popO_row ?_); refine ⟨_, _, _, _, _, rfl, rfl, rfl, rfl, rfl, ?_⟩; simp (disch := omega) only [push_cast, seval, ho, h2', h3]) | ((with_reducible refine pops_plain fun K hK => popO_build ?_); refine ⟨_, rfl, _, rfl, ?_⟩; simp (disch := omega) only [push_cast, seval, ho, h2', h3]) | ((with_reducible refine pops_plain fun K hK => ?_); simp (disch := omega) only [push_cast, seval, ho, h2', h3]) | ((with_reducible refine pops_guard ?_); refine ⟨_, rfl, fun K hK => ⟨_, rfl, fun hg => ?_, fun hg => ?_⟩⟩ <;> first | (exact absurd hg (by decide)) | ((try simp only [Bool.not_true, Bool.not_false] at hg); (try simp only [hg]); (try simp only [push_cast] at hg); (try exact absurd trivial hg); (try (exfalso; omega)); (try simp (disch := omega) only [push_cast, seval, ho, h2', h3]))) | ((with_reducible show pcall _ _ _ _ _ _); (first | (refine pcV (cf Try.func73) (sNodeOk_p ⟨_, _, _, _, _, _, _, _, _, _⟩ sd) ?_) | (refine pcH (cf Try.func74) (sL16Copy_p ⟨_, _, _, _, _, _, _, _, _, _⟩ sd) ?_)); (try simp (disch := omega) only [push_cast, seval, ho, h2', h3])))
      all_goals ((with_reducible show PPostR _ _ _ _ _ _); exact finH [_, _])
    obtain rfl : n3 = 3 := by omega
    obtain rfl : n2 = 11 := by omega
    refine pcalls_ofR okP Try.func62 rfl ?_
    simp only [Try.f62, List.length_cons, List.length_nil, Nat.reduceAdd, Nat.reduceSub, List.replicate_succ, List.replicate_zero, List.cons_append, List.nil_append, List.length_map]
    repeat' (first | with_reducible (first | refine wA ?_ | refine wC ?_) | with_reducible (first | refine wq1 ?_ | refine wq3 ?_ | refine wq5 ?_ | refine wq9 ?_ | refine wS ?_) | ((with_reducible refine hK _ ?_); clear hK K) | ((with_reducible refine PWp.condI ?_); refine ⟨_, rfl, fun hg => ?_, fun hg => ?_⟩ <;> first | (exact absurd hg (by decide)) | ((try simp only [Bool.not_true, Bool.not_false] at hg); (try simp only [hg]); (try simp only [push_cast] at hg); (try exact absurd trivial hg); (try (exfalso; omega)))) | ((with_reducible refine pops_plain fun K hK => popO_row ?_); refine ⟨_, _, _, _, _, rfl, rfl, rfl, rfl, rfl, ?_⟩; simp (disch := omega) only [push_cast, seval, ho, h3]) | ((with_reducible refine pops_plain fun K hK => popO_build ?_); refine ⟨_, rfl, _, rfl, ?_⟩; simp (disch := omega) only [push_cast, seval, ho, h3]) | ((with_reducible refine pops_plain fun K hK => ?_); simp (disch := omega) only [push_cast, seval, ho, h3]) | ((with_reducible refine pops_guard ?_); refine ⟨_, rfl, fun K hK => ⟨_, rfl, fun hg => ?_, fun hg => ?_⟩⟩ <;> first | (exact absurd hg (by decide)) | ((try simp only [Bool.not_true, Bool.not_false] at hg); (try simp only [hg]); (try simp only [push_cast] at hg); (try exact absurd trivial hg); (try (exfalso; omega)); (try simp (disch := omega) only [push_cast, seval, ho, h3]))) | ((with_reducible show pcall _ _ _ _ _ _); (first | (refine pcV (cf Try.func73) (sNodeOk_p ⟨_, _, _, _, _, _, _, _, _, _⟩ sd) ?_) | (refine pcH (cf Try.func74) (sL16Copy_p ⟨_, _, _, _, _, _, _, _, _, _⟩ sd) ?_)); (try simp (disch := omega) only [push_cast, seval, ho, h3])))
    all_goals ((with_reducible show PPostR _ _ _ _ _ _); exact finH [_, _])
  rw [if_neg hc]
  refine node_thaw ?_
  have h1 : n.fStep = step := Classical.byContradiction fun q => hc (.inl q)
  have h2 : n.fRound ≠ -1 := fun q => hc (.inr (.inl q))
  have h3 : ¬ 0 < n.fDecided := fun q => hc (.inr (.inr (.inl q)))
  have h4 : ¬ (step = 3 ∧ n.fRound = 11) := fun q => hc (.inr (.inr (.inr q)))
  have h2' : ¬ n.fRound < 0 := by omega
  have g := timeD_grow ok h1 h2 h4
  have hb : (timeD n step).2.length ≤ 1 := by
    unfold timeD prevote precommit stepTo beginR send sendM
    repeat' split
    all_goals simp
  have c2 := sTold_p (timeD n step) g.ok (by omega)
  generalize rest (timeD n step) = q at c2 ⊢
  clear hc g hb
  unfold timeD at c2
  have cl : n.fMsgs.length ≤ 1000 ∧ ([] : List GNMsg).length ≤ 1000 := ⟨by omega, by simp⟩
  by_cases s1 : step = 1
  · rw [if_pos s1] at c2
    have c := sPrevote_p (n, []) 0 cl
    generalize prevote (n, []) 0 true = r at c c2
    clear ok
    obtain ⟨n1, n2, n3, n4, n5, n6, n7, n8, n9, l⟩ := n
    obtain ⟨⟨q1, q2, q3, q4, q5, q6, q7, q8, q9, ql⟩, qs⟩ := q
    obtain ⟨⟨r1, r2, r3, r4, r5, r6, r7, r8, r9, rl⟩, rs⟩ := r
    simp only [push_cast, List.map_nil] at c
    dsimp only at *
    subst h1
    subst s1
    refine pcalls_ofR okP Try.func62 rfl ?_
    simp only [Try.f62, List.length_cons, List.length_nil, Nat.reduceAdd, Nat.reduceSub, List.replicate_succ, List.replicate_zero, List.cons_append, List.nil_append, List.length_map]
    repeat' (first | with_reducible refine mkRegion (id := 4) ?_ | with_reducible (first | refine wA ?_ | refine wC ?_) | with_reducible (first | refine wq1 ?_ | refine wq3 ?_ | refine wS ?_) | ((with_reducible refine hK _ ?_); clear hK K) | ((with_reducible refine PWp.condI ?_); refine ⟨_, rfl, fun hg => ?_, fun hg => ?_⟩ <;> first | (exact absurd hg (by decide)) | ((try simp only [Bool.not_true, Bool.not_false] at hg); (try simp only [hg]); (try simp only [push_cast] at hg); (try exact absurd trivial hg); (try (exfalso; omega)))) | ((with_reducible refine pops_plain fun K hK => popO_build ?_); refine ⟨_, rfl, _, rfl, ?_⟩; simp (disch := omega) only [push_cast, seval, ho]) | ((with_reducible refine pops_plain fun K hK => ?_); simp (disch := omega) only [push_cast, seval, ho]) | ((with_reducible show pcall _ _ _ _ _ _); (first | (refine pcV (cf Try.func73) (sNodeOk_p ⟨_, _, _, _, _, _, _, _, _, _⟩ sd) ?_) | (refine pcH (cf Try.func74) (sL16Copy_p ⟨_, _, _, _, _, _, _, _, _, _⟩ sd) ?_)); (try simp (disch := omega) only [push_cast, seval, ho])))
    refine Mk.of ?_
    refine PWp.nilB 3 10 32 5 rfl rfl ?_
    repeat' (first | with_reducible (first | refine wA ?_ | refine wB ?_ | refine wC ?_) | with_reducible (first | refine wq1 ?_ | refine wq3 ?_ | refine wq4 ?_ | refine wq9 ?_ | refine wS ?_) | ((with_reducible refine hK _ ?_); clear hK K) | ((with_reducible refine PWp.condI ?_); refine ⟨_, rfl, fun hg => ?_, fun hg => ?_⟩ <;> first | (exact absurd hg (by decide)) | ((try simp only [Bool.not_true, Bool.not_false] at hg); (try simp only [hg]); (try simp only [push_cast] at hg); (try exact absurd trivial hg); (try (exfalso; omega)))) | ((with_reducible refine pops_plain fun K hK => ?_); simp (disch := omega) only [push_cast, seval, h2', h3]) | ((with_reducible refine pops_guard ?_); refine ⟨_, rfl, fun K hK => ⟨_, rfl, fun hg => ?_, fun hg => ?_⟩⟩ <;> first | (exact absurd hg (by decide)) | ((try simp only [Bool.not_true, Bool.not_false] at hg); (try simp only [hg]); (try simp only [push_cast] at hg); (try exact absurd trivial hg); (try (exfalso; omega)); (try simp (disch := omega) only [push_cast, seval, h2', h3]))) | ((with_reducible show pcall _ _ _ _ _ _); (first | (refine pcO (cf Try.func75) [_, _] (c2) ?_) | (refine pcO (cf Try.func77) [_, _] (c) ?_)); (try simp (disch := omega) only [push_cast, seval, h2', h3])))
    all_goals first
      | (exfalso; omega)
      | ((with_reducible show PPostR _ _ _ _ _ _); exact finH [_, _])
  by_cases s2 : step = 2
  · rw [if_neg s1, if_pos s2] at c2
    have c := sPrecommit_p (n, []) 0 cl
    generalize precommit (n, []) 0 = r at c c2
    clear ok
    obtain ⟨n1, n2, n3, n4, n5, n6, n7, n8, n9, l⟩ := n
    obtain ⟨⟨q1, q2, q3, q4, q5, q6, q7, q8, q9, ql⟩, qs⟩ := q
    obtain ⟨⟨r1, r2, r3, r4, r5, r6, r7, r8, r9, rl⟩, rs⟩ := r
    simp only [push_cast, List.map_nil] at c
    dsimp only at *
    subst h1
    subst s2
    refine pcalls_ofR okP Try.func62 rfl ?_
    simp only [Try.f62, List.length_cons, List.length_nil, Nat.reduceAdd, Nat.reduceSub, List.replicate_succ, List.replicate_zero, List.cons_append, List.nil_append, List.length_map]
    repeat' (first | with_reducible refine mkRegion (id := 4) ?_ | with_reducible (first | refine wA ?_ | refine wC ?_) | with_reducible (first | refine wq1 ?_ | refine wq3 ?_ | refine wS ?_) | ((with_reducible refine hK _ ?_); clear hK K) | ((with_reducible refine PWp.condI ?_); refine ⟨_, rfl, fun hg => ?_, fun hg => ?_⟩ <;> first | (exact absurd hg (by decide)) | ((try simp only [Bool.not_true, Bool.not_false] at hg); (try simp only [hg]); (try simp only [push_cast] at hg); (try exact absurd trivial hg); (try (exfalso; omega)))) | ((with_reducible refine pops_plain fun K hK => popO_build ?_); refine ⟨_, rfl, _, rfl, ?_⟩; simp (disch := omega) only [push_cast, seval, ho]) | ((with_reducible refine pops_plain fun K hK => ?_); simp (disch := omega) only [push_cast, seval, ho]) | ((with_reducible show pcall _ _ _ _ _ _); (first | (refine pcV (cf Try.func73) (sNodeOk_p ⟨_, _, _, _, _, _, _, _, _, _⟩ sd) ?_) | (refine pcH (cf Try.func74) (sL16Copy_p ⟨_, _, _, _, _, _, _, _, _, _⟩ sd) ?_)); (try simp (disch := omega) only [push_cast, seval, ho])))
    refine Mk.of ?_
    refine PWp.nilB 3 10 32 5 rfl rfl ?_
    repeat' (first | with_reducible (first | refine wA ?_ | refine wB ?_ | refine wC ?_) | with_reducible (first | refine wq1 ?_ | refine wq3 ?_ | refine wq4 ?_ | refine wq9 ?_ | refine wS ?_) | ((with_reducible refine hK _ ?_); clear hK K) | ((with_reducible refine PWp.condI ?_); refine ⟨_, rfl, fun hg => ?_, fun hg => ?_⟩ <;> first | (exact absurd hg (by decide)) | ((try simp only [Bool.not_true, Bool.not_false] at hg); (try simp only [hg]); (try simp only [push_cast] at hg); (try exact absurd trivial hg); (try (exfalso; omega)))) | ((with_reducible refine pops_plain fun K hK => ?_); simp (disch := omega) only [push_cast, seval, h2', h3]) | ((with_reducible refine pops_guard ?_); refine ⟨_, rfl, fun K hK => ⟨_, rfl, fun hg => ?_, fun hg => ?_⟩⟩ <;> first | (exact absurd hg (by decide)) | ((try simp only [Bool.not_true, Bool.not_false] at hg); (try simp only [hg]); (try simp only [push_cast] at hg); (try exact absurd trivial hg); (try (exfalso; omega)); (try simp (disch := omega) only [push_cast, seval, h2', h3]))) | ((with_reducible show pcall _ _ _ _ _ _); (first | (refine pcO (cf Try.func75) [_, _] (c2) ?_) | (refine pcO (cf Try.func78) [_, _] (c) ?_)); (try simp (disch := omega) only [push_cast, seval, h2', h3])))
    all_goals first
      | (exfalso; omega)
      | ((with_reducible show PPostR _ _ _ _ _ _); exact finH [_, _])
  rw [if_neg s1, if_neg s2] at c2
  have c := sBegin_p (n, []) (n.fRound + 1) (by omega) hme hvr cl
  generalize beginR (n, []) (n.fRound + 1) = r at c c2
  have h5 : ¬ n.fRound ≥ 11 := by omega
  clear ok
  obtain ⟨n1, n2, n3, n4, n5, n6, n7, n8, n9, l⟩ := n
  obtain ⟨⟨q1, q2, q3, q4, q5, q6, q7, q8, q9, ql⟩, qs⟩ := q
  obtain ⟨⟨r1, r2, r3, r4, r5, r6, r7, r8, r9, rl⟩, rs⟩ := r
  simp only [push_cast, List.map_nil] at c
  dsimp only at *
  subst h1
  refine pcalls_ofR okP Try.func62 rfl ?_
  simp only [Try.f62, List.length_cons, List.length_nil, Nat.reduceAdd, Nat.reduceSub, List.replicate_succ, List.replicate_zero, List.cons_append, List.nil_append, List.length_map]
  repeat' (first | with_reducible refine mkRegion (id := 4) ?_ | with_reducible (first | refine wA ?_ | refine wC ?_) | with_reducible (first | refine wq1 ?_ | refine wq3 ?_ | refine wS ?_) | ((with_reducible refine hK _ ?_); clear hK K) | ((with_reducible refine PWp.condI ?_); refine ⟨_, rfl, fun hg => ?_, fun hg => ?_⟩ <;> first | (exact absurd hg (by decide)) | ((try simp only [Bool.not_true, Bool.not_false] at hg); (try simp only [hg]); (try simp only [push_cast] at hg); (try exact absurd trivial hg); (try (exfalso; omega)))) | ((with_reducible refine pops_plain fun K hK => popO_build ?_); refine ⟨_, rfl, _, rfl, ?_⟩; simp (disch := omega) only [push_cast, seval, ho]) | ((with_reducible refine pops_plain fun K hK => ?_); simp (disch := omega) only [push_cast, seval, ho]) | ((with_reducible show pcall _ _ _ _ _ _); (first | (refine pcV (cf Try.func73) (sNodeOk_p ⟨_, _, _, _, _, _, _, _, _, _⟩ sd) ?_) | (refine pcH (cf Try.func74) (sL16Copy_p ⟨_, _, _, _, _, _, _, _, _, _⟩ sd) ?_)); (try simp (disch := omega) only [push_cast, seval, ho])))
  refine Mk.of ?_
  refine PWp.nilB 3 10 32 5 rfl rfl ?_
  repeat' (first | with_reducible (first | refine wA ?_ | refine wB ?_ | refine wC ?_) | with_reducible (first | refine wq1 ?_ | refine wq3 ?_ | refine wq4 ?_ | refine wq9 ?_ | refine wS ?_) | ((with_reducible refine hK _ ?_); clear hK K) | ((with_reducible refine PWp.condI ?_); refine ⟨_, rfl, fun hg => ?_, fun hg => ?_⟩ <;> first | (exact absurd hg (by decide)) | ((try simp only [Bool.not_true, Bool.not_false] at hg); (try simp only [hg]); (try simp only [push_cast] at hg); (try exact absurd trivial hg); (try (exfalso; omega)))) | ((with_reducible refine pops_plain fun K hK => ?_); simp (disch := omega) only [push_cast, seval, h2', h3, h5, s1, s2]) | ((with_reducible refine pops_guard ?_); refine ⟨_, rfl, fun K hK => ⟨_, rfl, fun hg => ?_, fun hg => ?_⟩⟩ <;> first | (exact absurd hg (by decide)) | ((try simp only [Bool.not_true, Bool.not_false] at hg); (try simp only [hg]); (try simp only [push_cast] at hg); (try exact absurd trivial hg); (try (exfalso; omega)); (try simp (disch := omega) only [push_cast, seval, h2', h3, h5, s1, s2]))) | ((with_reducible show pcall _ _ _ _ _ _); (first | (refine pcO (cf Try.func75) [_, _] (c2) ?_) | (refine pcO (cf Try.func76) [_, _] (c) ?_)); (try simp (disch := omega) only [push_cast, seval, h2', h3, h5, s1, s2])))
  all_goals first
    | (exfalso; omega)
    | ((with_reducible show PPostR _ _ _ _ _ _); exact finH [_, _])
end Go.Proofs.Ytcbknmnlgoeniaa
namespace Go.Proofs.Ytcbknmnlgoeniaa
set_option linter.unusedSimpArgs false
set_option linter.unusedVariables false
open Go.RowKit
theorem PWp.mvS {P : Program} {N : Nat} {c : Code} {Q : Exit → St → Prop} {tm : List PV} {H : Hp} (j b : Nat) {B : Blk} (hj : tm[j]? = some (.own b)) (hB : H[b]? = some (some B)) (h : PWp P N c Q ⟨tm.set j (.own H.length), (H.set b none) ++ [some B]⟩) : PWp P N c Q ⟨tm, H⟩ := fun E a w hN r => by
  obtain ⟨M, hh, s, t, d⟩ := r
  have I : Inv M hh H w := s.inv
  have hbl := (List.getElem?_eq_some_iff.1 hB).1
  obtain ⟨v, hv, rB⟩ := I.blk b B hB
  have hle : HLe hh (upd hh H.length v) := fun k u q => by
    have := I.len k u q
    unfold upd
    rw [if_neg (by omega)]
    exact q
  have old : ∀ {k : Nat} {C : Blk}, ((H.set b none) ++ [some B])[k]? = some (some C) → (k = H.length ∧ C = B) ∨ (k ≠ b ∧ k < H.length ∧ H[k]? = some (some C)) := fun {k C} q => by
    have hk := (List.getElem?_eq_some_iff.1 q).1
    simp only [List.length_append, List.length_set, List.length_singleton] at hk
    by_cases e2 : k = H.length
    · subst e2
      rw [List.getElem?_append_right (by simp)] at q
      simp only [List.length_set, Nat.sub_self, List.getElem?_cons_zero, Option.some.injEq] at q
      exact .inl ⟨rfl, q.symm⟩
    · have hk' : k < H.length := by omega
      rw [List.getElem?_append_left (by simpa using hk')] at q
      by_cases e3 : b = k
      · subst e3
        rw [List.getElem?_set_self hbl] at q
        cases q
      · rw [List.getElem?_set_ne e3] at q
        exact .inr ⟨fun e => e3 e.symm, hk', q⟩
  have back : ∀ {k : Nat} {C : Blk} {u : Value}, ((H.set b none) ++ [some B])[k]? = some (some C) → upd hh H.length v k = some u → ∃ k', H[k']? = some (some C) ∧ hh k' = some u ∧ (k' = b ∧ k = H.length ∨ k' = k ∧ k ≠ b) := fun {k C u} q1 q2 => by
    rcases old q1 with ⟨rfl, rfl⟩ | ⟨e1, e3, e4⟩
    · rw [upd_self] at q2
      cases q2
      exact ⟨b, hB, hv, .inl ⟨rfl, rfl⟩⟩
    · refine ⟨k, e4, ?_, .inr ⟨rfl, e1⟩⟩
      unfold upd at q2
      rwa [if_neg (by omega)] at q2
  have hom : ∀ z, Homes (upd hh H.length v) ((H.set b none) ++ [some B]) z → Homes hh H z := fun z ⟨k, C, u, q1, q2, q3⟩ => by
    obtain ⟨k', g1, g2, -⟩ := back q1 q2
    exact ⟨k', C, u, g1, g2, q3⟩
  have I2 : Inv M (upd hh H.length v) ((H.set b none) ++ [some B]) w := by
    refine ⟨I.mem, I.one, fun k C q => ?_, fun z hz o => I.sep z (hom z hz) o, fun k k' C C' u u' z g1 g2 g3 g4 g5 g6 => ?_, fun k u q => ?_, I.glob⟩
    · rcases old q with ⟨rfl, rfl⟩ | ⟨e1, e3, e4⟩
      · exact ⟨v, upd_self, rB.mono (.refl _) hle fun _ _ => rfl⟩
      · obtain ⟨u, q1, q2⟩ := I.blk k C e4
        exact ⟨u, hle _ _ q1, q2.mono (.refl _) hle fun _ _ => rfl⟩
    · obtain ⟨i, a1, a2, a3⟩ := back g1 g3
      obtain ⟨i', b1, b2, b3⟩ := back g2 g4
      have := I.inj i i' C C' u u' z a1 b1 a2 b2 g5 g6
      omega
    · unfold upd at q
      simp only [List.length_set, List.length_append, List.length_singleton]
      split at q
      · omega
      · have := I.len k u q; omega
  refine h E a w hN ⟨M, _, s.trans ⟨.refl _, hle, I2, .refl, fun z hz => .inl (hom z hz), fun _ _ _ q => .inl q⟩, ⟨?_, fun i y u h1 h2 => ?_⟩, d⟩
  · simpa using t.size
  · by_cases e : j = i
    · subst e
      rw [List.getElem?_set_self (List.getElem?_eq_some_iff.1 hj).1] at h1
      cases h1
      have r0 := t.vr j (.own b) u hj h2
      cases r0 with
      | own _ o m k hb =>
        rw [hv] at hb
        cases hb
        exact .own _ o m k upd_self
    · rw [List.getElem?_set_ne e] at h1
      exact (t.vr i y u h1 h2).mono (.refl _) hle
end Go.Proofs.Ytcbknmnlgoeniaa
namespace Go.Proofs.Ytcbknmnlgoeniaa
set_option linter.unusedSimpArgs false
set_option linter.unusedVariables false
open Go.RowKit
set_option maxRecDepth 100000
set_option maxHeartbeats 4000000 in
theorem sPool_p (l more : List GNMsg) (hl : l.length ≤ 1000000) (hm : more.length ≤ 1000) : PCalls Try.prog 63 [.own 0, .sl 5 (more.map pNMsg)] [some (.row 32 5 (l.map pNMsg))] (RH (.tup [.own 1, .val (.bool (decide ((poolTo l more).length ≤ 150)))]) [none, some (.row 32 5 ((poolTo l more).map pNMsg))]) := by
  refine pcalls_ofR okP Try.func63 rfl ?_
  simp only [Try.f63, List.length_cons, List.length_nil, Nat.reduceAdd, Nat.reduceSub, List.replicate_succ, List.replicate_zero, List.cons_append, List.nil_append, List.length_map]
  refine PWp.mvS 0 0 rfl rfl ?_
  repeat' (first | with_reducible (first | refine wA ?_ | refine wB ?_ | refine wC ?_) | with_reducible (first | refine wq1 ?_ | refine wq3 ?_) | ((with_reducible refine hK _ ?_); clear hK K) | ((with_reducible refine pops_plain fun K hK => ?_); simp (disch := omega) only [push_cast, seval]))
  refine PWp.loopK (α := Nat) (fun j => [(0, .own 1), (6, .val (.int .i64 (j : Int)))]) [2, 3, 7, 8, 9, 10, 11, 12, 13, 14, 15, 16, 17, 18, 19, 20, 21, 22, 23, 24, 25, 26] (fun j => [none, some (.row 32 5 ((poolTo l (more.take j)).map pNMsg))]) (fun j => j ≤ more.length) (fun j => more.length - j) (0) (Nat.zero_le _) (by exact fitA [0, _]) ?_
  intro j ρ hI
  (try dsimp only at hI)
  refine PWp.at (tm' := ?_) (H' := ?_) ?_ ?_ ?_; rotate_left 2; (· ((try simp only [push_cast, seval]); exact rfl)); (· ((try dsimp only); exact rfl))
  have hpl : (poolTo l (more.take j)).length ≤ 1001000 := by
    have h5 := poolTo_len (more.take j) l
    rw [List.length_take] at h5
    have h6 := Nat.min_le_right j more.length
    omega
  by_cases hlt : j < more.length
  case pos =>
    obtain ⟨y, hy⟩ : ∃ y, more[j]? = some y := ⟨_, List.getElem?_eq_getElem hlt⟩
    have es := poolTo_succ (l := l) hy
    obtain ⟨y1, y2, y3, y4, y5⟩ := y
    unfold poolF at es
    cases g1 : hasM (poolTo l (more.take j)) ⟨y1, y2, y3, y4, y5⟩ with
    | true =>
      rw [if_pos g1] at es
      repeat' (first | with_reducible (first | refine wA ?_ | refine wB ?_ | refine wC ?_) | with_reducible (first | refine wq1 ?_ | refine wq3 ?_ | refine wq4 ?_ | refine wS ?_) | ((with_reducible refine hK _ ?_); clear hK K) | ((with_reducible refine PWp.condI ?_); refine ⟨_, rfl, fun hg => ?_, fun hg => ?_⟩ <;> first | (exact absurd hg (by decide)) | ((try simp only [Bool.not_true, Bool.not_false] at hg); (try simp only [hg]); (try simp only [push_cast] at hg); (try exact absurd trivial hg); (try (exfalso; omega)))) | ((with_reducible refine pops_plain fun K hK => ?_); simp (disch := omega) only [push_cast, seval, hy, g1]) | ((with_reducible show pcall _ _ _ _ _ _); ((refine pcV (cf Try.func58) (sL16Has_p _ ⟨_, _, _, _, _⟩ sd) ?_)); (try simp (disch := omega) only [push_cast, seval, hy, g1])) | ((with_reducible refine And.intro ?_ ?_); omega))
      (refine ⟨j + 1, by ((try dsimp only); omega), ?_, by (refine ⟨[0, ?_], ?_, ?_, ?_, ?_⟩; rotate_left 1; (· ((first | simp (disch := omega) only [push_cast, seval, es] | simp (disch := omega) only [push_cast, seval] | skip); (repeat' (first | exact trivial | exact rfl | refine And.intro ?_ ?_ | omega)))); (· ((first | simp (disch := omega) only [push_cast, seval, es] | simp (disch := omega) only [push_cast, seval] | skip); (repeat' (first | exact trivial | exact rfl | refine And.intro ?_ ?_ | omega)); (try (repeat' (first | exact trivial | exact rfl | refine And.intro ?_ ?_ | omega))))); (· exact rfl); (· (first | exact trivial | exact ⟨rfl, trivial⟩ | exact ⟨rfl, rfl, trivial⟩ | exact ⟨rfl, rfl, rfl, trivial⟩)))⟩)
      exact hlt
    | false =>
      rw [if_neg (by simp [g1])] at es
      repeat' (first | with_reducible (first | refine wA ?_ | refine wB ?_ | refine wC ?_) | with_reducible (first | refine wq1 ?_ | refine wq3 ?_ | refine wq4 ?_ | refine wS ?_) | ((with_reducible refine hK _ ?_); clear hK K) | ((with_reducible refine PWp.condI ?_); refine ⟨_, rfl, fun hg => ?_, fun hg => ?_⟩ <;> first | (exact absurd hg (by decide)) | ((try simp only [Bool.not_true, Bool.not_false] at hg); (try simp only [hg]); (try simp only [push_cast] at hg); (try exact absurd trivial hg); (try (exfalso; omega)))) | ((with_reducible refine pops_plain fun K hK => popO_row ?_); refine ⟨_, _, _, _, _, rfl, rfl, rfl, rfl, rfl, ?_⟩; simp (disch := omega) only [push_cast, seval, hy, g1]) | ((with_reducible refine pops_plain fun K hK => ?_); simp (disch := omega) only [push_cast, seval, hy, g1]) | ((with_reducible show pcall _ _ _ _ _ _); ((refine pcV (cf Try.func58) (sL16Has_p _ ⟨_, _, _, _, _⟩ sd) ?_)); (try simp (disch := omega) only [push_cast, seval, hy, g1])) | ((with_reducible refine And.intro ?_ ?_); omega))
      (refine ⟨j + 1, by ((try dsimp only); omega), ?_, by (refine ⟨[0, ?_], ?_, ?_, ?_, ?_⟩; rotate_left 1; (· ((first | simp (disch := omega) only [push_cast, seval, es, List.map_append, List.map_cons, List.map_nil, pNMsg] | simp (disch := omega) only [push_cast, seval] | skip); (repeat' (first | exact trivial | exact rfl | refine And.intro ?_ ?_ | omega)))); (· ((first | simp (disch := omega) only [push_cast, seval, es, List.map_append, List.map_cons, List.map_nil, pNMsg] | simp (disch := omega) only [push_cast, seval] | skip); (repeat' (first | exact trivial | exact rfl | refine And.intro ?_ ?_ | omega)); (try (repeat' (first | exact trivial | exact rfl | refine And.intro ?_ ?_ | omega))))); (· exact rfl); (· (first | exact trivial | exact ⟨rfl, trivial⟩ | exact ⟨rfl, rfl, trivial⟩ | exact ⟨rfl, rfl, rfl, trivial⟩)))⟩)
      exact hlt
  obtain rfl : j = more.length := by omega
  rw [List.take_length] at *
  by_cases h : ((poolTo l more).length : Int) ≤ 150
  · rw [decide_eq_true (by omega)]
    repeat' (first | with_reducible (first | refine wA ?_ | refine wC ?_) | with_reducible (first | refine wq1 ?_ | refine wq3 ?_ | refine wq7 ?_ | refine wq8 ?_ | refine wq9 ?_ | refine wE ?_) | ((with_reducible refine hK _ ?_); clear hK K) | ((with_reducible refine PWp.condI ?_); refine ⟨_, rfl, fun hg => ?_, fun hg => ?_⟩ <;> first | (exact absurd hg (by decide)) | ((try simp only [Bool.not_true, Bool.not_false] at hg); (try simp only [hg]); (try simp only [push_cast] at hg); (try exact absurd trivial hg); (try (exfalso; omega)))) | ((with_reducible refine pops_plain fun K hK => ?_); simp (disch := omega) only [push_cast, seval, h]))
    ((with_reducible show PPostR _ _ _ _ _ _); exact finH [0, _])
  · rw [decide_eq_false (by omega)]
    repeat' (first | with_reducible (first | refine wA ?_ | refine wC ?_) | with_reducible (first | refine wq1 ?_ | refine wq3 ?_ | refine wq7 ?_ | refine wq8 ?_ | refine wq9 ?_ | refine wE ?_) | ((with_reducible refine hK _ ?_); clear hK K) | ((with_reducible refine PWp.condI ?_); refine ⟨_, rfl, fun hg => ?_, fun hg => ?_⟩ <;> first | (exact absurd hg (by decide)) | ((try simp only [Bool.not_true, Bool.not_false] at hg); (try simp only [hg]); (try simp only [push_cast] at hg); (try exact absurd trivial hg); (try (exfalso; omega)))) | ((with_reducible refine pops_plain fun K hK => ?_); simp (disch := omega) only [push_cast, seval, h]))
    ((with_reducible show PPostR _ _ _ _ _ _); exact finH [0, _])
end Go.Proofs.Ytcbknmnlgoeniaa
namespace Go.Proofs.Ytcbknmnlgoeniaa
set_option linter.unusedSimpArgs false
set_option linter.unusedVariables false
open Go.RowKit
set_option maxRecDepth 100000
def hNet (x : GNet) : Hp := [some (.row 39 10 (x.fNodes.map pNode)), some (.row 32 5 (x.fPool.map pNMsg))]
def hNetM (x : GNet) : Hp := [none, none, some (.row 39 10 (x.fNodes.map pNode)), some (.row 32 5 (x.fPool.map pNMsg))]
attribute [push_cast] hNet hNetM
theorem nset_ren2 {φ : List Nat} {n k : Nat} {N : List GNode} {r : List PV} : ((N.map pNode).set k r).map (renL φ n) = (N.map pNode).set k (renL φ n r) := by rw [List.map_set, pNode_ren]
attribute [push_cast] nset_ren2
set_option maxHeartbeats 8000000 in
theorem sDo_lie (x : GNet) (a : GNetAct) (hv : NInv x) (h4 : a.fKind = 4) : PCalls Try.prog 35 [.agg [.own 0, .own 1], .agg (pNetAct a)] (hNet x) (RH (.tup [.agg [.own 2, .own 3], .val (.bool (netDo x a).2)]) (hNetM (netDo x a).1)) := by
  have h3 := hv.p
  clear hv
  unfold netDo
  rw [if_pos h4]
  obtain ⟨N, P⟩ := x
  obtain ⟨a1, a2, a3, ⟨m1, m2, m3, m4, m5⟩⟩ := a
  dsimp only at *
  cases c1 : msgOk ⟨m1, m2, m3, m4, m5⟩ with
  | false =>
    rw [if_pos (.inl rfl)]
    refine pcalls_ofR okP Try.func35 rfl ?_
    simp only [Try.f35, List.length_cons, List.length_nil, Nat.reduceAdd, Nat.reduceSub, List.replicate_succ, List.replicate_zero, List.cons_append, List.nil_append, List.length_map]
    repeat' (first | with_reducible refine mkRegion (id := 1) ?_ | with_reducible (first | refine wA ?_ | refine wC ?_) | with_reducible (first | refine wq1 ?_ | refine wq3 ?_) | ((with_reducible refine hK _ ?_); clear hK K) | ((with_reducible refine pops_plain fun K hK => ?_); simp (disch := omega) only [push_cast, seval]))
    refine Mk.of ?_
    refine PWp.mvB 2 0 0 rfl rfl rfl (by decide) ?_
    refine PWp.mvB 2 1 1 rfl rfl rfl (by decide) ?_
    repeat' (first | with_reducible (first | refine wA ?_ | refine wC ?_) | with_reducible (first | refine wq1 ?_ | refine wq3 ?_ | refine wq5 ?_ | refine wq9 ?_) | ((with_reducible refine hK _ ?_); clear hK K) | ((with_reducible refine PWp.condI ?_); refine ⟨_, rfl, fun hg => ?_, fun hg => ?_⟩ <;> first | (exact absurd hg (by decide)) | ((try simp only [Bool.not_true, Bool.not_false] at hg); (try simp only [hg]); (try simp only [push_cast] at hg); (try exact absurd trivial hg); (try (exfalso; omega)))) | ((with_reducible refine pops_plain fun K hK => ?_); simp (disch := omega) only [push_cast, seval, h4, c1]) | ((((with_reducible refine pops_guard ?_); refine ⟨_, rfl, fun K hK => ⟨_, rfl, fun hg => ?_, fun hg => ?_⟩⟩)) <;> first | (exact absurd hg (by decide)) | ((try simp only [Bool.not_true, Bool.not_false] at hg); (try simp only [hg]); (try simp only [push_cast] at hg); (try exact absurd trivial hg); (try (exfalso; omega)); (try simp (disch := omega) only [push_cast, seval, h4, c1]))) | ((with_reducible show pcall _ _ _ _ _ _); ((refine pcV (cf Try.func57) (sMsgOk_p ⟨_, _, _, _, _⟩) ?_)); (try simp (disch := omega) only [push_cast, seval, h4, c1])))
    all_goals ((with_reducible show PPostR _ _ _ _ _ _); exact finH [0, 1, _, _])
  | true =>
  by_cases c2 : m5 = 4
  case neg =>
    rw [if_pos (.inr (.inl c2))]
    refine pcalls_ofR okP Try.func35 rfl ?_
    simp only [Try.f35, List.length_cons, List.length_nil, Nat.reduceAdd, Nat.reduceSub, List.replicate_succ, List.replicate_zero, List.cons_append, List.nil_append, List.length_map]
    repeat' (first | with_reducible refine mkRegion (id := 1) ?_ | with_reducible (first | refine wA ?_ | refine wC ?_) | with_reducible (first | refine wq1 ?_ | refine wq3 ?_) | ((with_reducible refine hK _ ?_); clear hK K) | ((with_reducible refine pops_plain fun K hK => ?_); simp (disch := omega) only [push_cast, seval]))
    refine Mk.of ?_
    refine PWp.mvB 2 0 0 rfl rfl rfl (by decide) ?_
    refine PWp.mvB 2 1 1 rfl rfl rfl (by decide) ?_
    repeat' (first | with_reducible (first | refine wA ?_ | refine wC ?_) | with_reducible (first | refine wq1 ?_ | refine wq3 ?_ | refine wq5 ?_ | refine wq9 ?_) | ((with_reducible refine hK _ ?_); clear hK K) | ((with_reducible refine PWp.condI ?_); refine ⟨_, rfl, fun hg => ?_, fun hg => ?_⟩ <;> first | (exact absurd hg (by decide)) | ((try simp only [Bool.not_true, Bool.not_false] at hg); (try simp only [hg]); (try simp only [push_cast] at hg); (try exact absurd trivial hg); (try (exfalso; omega)))) | ((with_reducible refine pops_plain fun K hK => ?_); simp (disch := omega) only [push_cast, seval, h4, c1, c2]) | ((((with_reducible refine pops_guard ?_); refine ⟨_, rfl, fun K hK => ⟨_, rfl, fun hg => ?_, fun hg => ?_⟩⟩)) <;> first | (exact absurd hg (by decide)) | ((try simp only [Bool.not_true, Bool.not_false] at hg); (try simp only [hg]); (try simp only [push_cast] at hg); (try exact absurd trivial hg); (try (exfalso; omega)); (try simp (disch := omega) only [push_cast, seval, h4, c1, c2]))) | ((with_reducible show pcall _ _ _ _ _ _); ((refine pcV (cf Try.func57) (sMsgOk_p ⟨_, _, _, _, _⟩) ?_)); (try simp (disch := omega) only [push_cast, seval, h4, c1, c2])))
    all_goals ((with_reducible show PPostR _ _ _ _ _ _); exact finH [0, 1, _, _])
  subst c2
  cases c3 : hasM P ⟨m1, m2, m3, m4, 4⟩ with
  | true =>
    rw [if_pos (.inr (.inr (.inl rfl)))]
    refine pcalls_ofR okP Try.func35 rfl ?_
    simp only [Try.f35, List.length_cons, List.length_nil, Nat.reduceAdd, Nat.reduceSub, List.replicate_succ, List.replicate_zero, List.cons_append, List.nil_append, List.length_map]
    repeat' (first | with_reducible refine mkRegion (id := 1) ?_ | with_reducible (first | refine wA ?_ | refine wC ?_) | with_reducible (first | refine wq1 ?_ | refine wq3 ?_) | ((with_reducible refine hK _ ?_); clear hK K) | ((with_reducible refine pops_plain fun K hK => ?_); simp (disch := omega) only [push_cast, seval]))
    refine Mk.of ?_
    refine PWp.mvB 2 0 0 rfl rfl rfl (by decide) ?_
    refine PWp.mvB 2 1 1 rfl rfl rfl (by decide) ?_
    repeat' (first | with_reducible (first | refine wA ?_ | refine wC ?_) | with_reducible (first | refine wq1 ?_ | refine wq3 ?_ | refine wq5 ?_ | refine wq9 ?_) | ((with_reducible refine hK _ ?_); clear hK K) | ((with_reducible refine PWp.condI ?_); refine ⟨_, rfl, fun hg => ?_, fun hg => ?_⟩ <;> first | (exact absurd hg (by decide)) | ((try simp only [Bool.not_true, Bool.not_false] at hg); (try simp only [hg]); (try simp only [push_cast] at hg); (try exact absurd trivial hg); (try (exfalso; omega)))) | ((with_reducible refine pops_plain fun K hK => ?_); simp (disch := omega) only [push_cast, seval, h4, c1, c3]) | ((((with_reducible refine pops_guard ?_); refine ⟨_, rfl, fun K hK => ⟨_, rfl, fun hg => ?_, fun hg => ?_⟩⟩)) <;> first | (exact absurd hg (by decide)) | ((try simp only [Bool.not_true, Bool.not_false] at hg); (try simp only [hg]); (try simp only [push_cast] at hg); (try exact absurd trivial hg); (try (exfalso; omega)); (try simp (disch := omega) only [push_cast, seval, h4, c1, c3]))) | ((with_reducible show pcall _ _ _ _ _ _); (first | (refine pcV (cf Try.func57) (sMsgOk_p ⟨_, _, _, _, _⟩) ?_) | (refine pcV (cf Try.func58) (sL16Has_p _ ⟨_, _, _, _, _⟩ sd) ?_)); (try simp (disch := omega) only [push_cast, seval, h4, c1, c3])))
    all_goals ((with_reducible show PPostR _ _ _ _ _ _); exact finH [0, 1, _, _])
  | false =>
  by_cases c4 : 150 ≤ P.length
  · rw [if_pos (.inr (.inr (.inr c4)))]
    have c5 : (P.length : Int) ≥ 150 := by omega
    refine pcalls_ofR okP Try.func35 rfl ?_
    simp only [Try.f35, List.length_cons, List.length_nil, Nat.reduceAdd, Nat.reduceSub, List.replicate_succ, List.replicate_zero, List.cons_append, List.nil_append, List.length_map]
    repeat' (first | with_reducible refine mkRegion (id := 1) ?_ | with_reducible (first | refine wA ?_ | refine wC ?_) | with_reducible (first | refine wq1 ?_ | refine wq3 ?_) | ((with_reducible refine hK _ ?_); clear hK K) | ((with_reducible refine pops_plain fun K hK => ?_); simp (disch := omega) only [push_cast, seval]))
    refine Mk.of ?_
    refine PWp.mvB 2 0 0 rfl rfl rfl (by decide) ?_
    refine PWp.mvB 2 1 1 rfl rfl rfl (by decide) ?_
    repeat' (first | with_reducible (first | refine wA ?_ | refine wC ?_) | with_reducible (first | refine wq1 ?_ | refine wq3 ?_ | refine wq5 ?_ | refine wq9 ?_) | ((with_reducible refine hK _ ?_); clear hK K) | ((with_reducible refine PWp.condI ?_); refine ⟨_, rfl, fun hg => ?_, fun hg => ?_⟩ <;> first | (exact absurd hg (by decide)) | ((try simp only [Bool.not_true, Bool.not_false] at hg); (try simp only [hg]); (try simp only [push_cast] at hg); (try exact absurd trivial hg); (try (exfalso; omega)))) | ((with_reducible refine pops_plain fun K hK => ?_); simp (disch := omega) only [push_cast, seval, h4, c1, c3, c5]) | ((((with_reducible refine pops_guard ?_); refine ⟨_, rfl, fun K hK => ⟨_, rfl, fun hg => ?_, fun hg => ?_⟩⟩)) <;> first | (exact absurd hg (by decide)) | ((try simp only [Bool.not_true, Bool.not_false] at hg); (try simp only [hg]); (try simp only [push_cast] at hg); (try exact absurd trivial hg); (try (exfalso; omega)); (try simp (disch := omega) only [push_cast, seval, h4, c1, c3, c5]))) | ((with_reducible show pcall _ _ _ _ _ _); (first | (refine pcV (cf Try.func57) (sMsgOk_p ⟨_, _, _, _, _⟩) ?_) | (refine pcV (cf Try.func58) (sL16Has_p _ ⟨_, _, _, _, _⟩ sd) ?_)); (try simp (disch := omega) only [push_cast, seval, h4, c1, c3, c5])))
    all_goals ((with_reducible show PPostR _ _ _ _ _ _); exact finH [0, 1, _, _])
  · rw [if_neg (by simp [c3, c4])]
    have c5 : ¬ (P.length : Int) ≥ 150 := by omega
    refine pcalls_ofR okP Try.func35 rfl ?_
    simp only [Try.f35, List.length_cons, List.length_nil, Nat.reduceAdd, Nat.reduceSub, List.replicate_succ, List.replicate_zero, List.cons_append, List.nil_append, List.length_map]
    repeat' (first | with_reducible refine mkRegion (id := 1) ?_ | with_reducible (first | refine wA ?_ | refine wC ?_) | with_reducible (first | refine wq1 ?_ | refine wq3 ?_) | ((with_reducible refine hK _ ?_); clear hK K) | ((with_reducible refine pops_plain fun K hK => ?_); simp (disch := omega) only [push_cast, seval]))
    refine Mk.of ?_
    refine PWp.mvB 2 0 0 rfl rfl rfl (by decide) ?_
    refine PWp.mvB 2 1 1 rfl rfl rfl (by decide) ?_
    repeat' (first | with_reducible (first | refine wA ?_ | refine wC ?_) | with_reducible (first | refine wq1 ?_ | refine wq3 ?_ | refine wq5 ?_ | refine wq9 ?_ | refine wS ?_) | ((with_reducible refine hK _ ?_); clear hK K) | ((with_reducible refine PWp.condI ?_); refine ⟨_, rfl, fun hg => ?_, fun hg => ?_⟩ <;> first | (exact absurd hg (by decide)) | ((try simp only [Bool.not_true, Bool.not_false] at hg); (try simp only [hg]); (try simp only [push_cast] at hg); (try exact absurd trivial hg); (try (exfalso; omega)))) | ((with_reducible refine pops_plain fun K hK => popO_row ?_); refine ⟨_, _, _, _, _, rfl, rfl, rfl, rfl, rfl, ?_⟩; simp (disch := omega) only [push_cast, seval, h4, c1, c3, c5]) | ((with_reducible refine pops_plain fun K hK => ?_); simp (disch := omega) only [push_cast, seval, h4, c1, c3, c5]) | ((((with_reducible refine pops_guard ?_); refine ⟨_, rfl, fun K hK => ⟨_, rfl, fun hg => ?_, fun hg => ?_⟩⟩)) <;> first | (exact absurd hg (by decide)) | ((try simp only [Bool.not_true, Bool.not_false] at hg); (try simp only [hg]); (try simp only [push_cast] at hg); (try exact absurd trivial hg); (try (exfalso; omega)); (try simp (disch := omega) only [push_cast, seval, h4, c1, c3, c5]))) | ((with_reducible show pcall _ _ _ _ _ _); (first | (refine pcV (cf Try.func57) (sMsgOk_p ⟨_, _, _, _, _⟩) ?_) | (refine pcV (cf Try.func58) (sL16Has_p _ ⟨_, _, _, _, _⟩ sd) ?_)); (try simp (disch := omega) only [push_cast, seval, h4, c1, c3, c5])) | ((with_reducible refine And.intro ?_ ?_); omega))
    all_goals ((with_reducible show PPostR _ _ _ _ _ _); exact finH [0, 1, _, _])
set_option maxHeartbeats 8000000 in
theorem sDo_out (x : GNet) (a : GNetAct) (na : ¬ a.fKind = 4) (c1 : inB a.fA 1 3 = false) : PCalls Try.prog 35 [.agg [.own 0, .own 1], .agg (pNetAct a)] (hNet x) (RH (.tup [.agg [.own 2, .own 3], .val (.bool (netDo x a).2)]) (hNetM (netDo x a).1)) := by
  have e : netDo x a = (x, false) := by unfold netDo; rw [if_neg na, if_pos (.inl c1)]
  rw [e]
  clear e
  obtain ⟨N, P⟩ := x
  obtain ⟨a1, a2, a3, ⟨m1, m2, m3, m4, m5⟩⟩ := a
  dsimp only at *
  refine pcalls_ofR okP Try.func35 rfl ?_
  simp only [Try.f35, List.length_cons, List.length_nil, Nat.reduceAdd, Nat.reduceSub, List.replicate_succ, List.replicate_zero, List.cons_append, List.nil_append, List.length_map]
  repeat' (first | with_reducible refine mkRegion (id := 1) ?_ | with_reducible (first | refine wA ?_ | refine wC ?_) | with_reducible (first | refine wq1 ?_ | refine wq3 ?_) | ((with_reducible refine hK _ ?_); clear hK K) | ((with_reducible refine pops_plain fun K hK => ?_); simp (disch := omega) only [push_cast, seval]))
  refine Mk.of ?_
  refine PWp.mvB 2 0 0 rfl rfl rfl (by decide) ?_
  refine PWp.mvB 2 1 1 rfl rfl rfl (by decide) ?_
  repeat' (first | with_reducible (first | refine wA ?_ | refine wC ?_) | with_reducible (first | refine wq1 ?_ | refine wq3 ?_ | refine wq5 ?_ | refine wq9 ?_ | refine wS ?_) | ((with_reducible refine hK _ ?_); clear hK K) | ((with_reducible refine PWp.condI ?_); refine ⟨_, rfl, fun hg => ?_, fun hg => ?_⟩ <;> first | (exact absurd hg (by decide)) | ((try simp only [Bool.not_true, Bool.not_false] at hg); (try simp only [hg]); (try simp only [push_cast] at hg); (try exact absurd trivial hg); (try (exfalso; omega)))) | ((with_reducible refine pops_plain fun K hK => ?_); simp (disch := omega) only [push_cast, seval, na, c1]) | ((with_reducible show pcall _ _ _ _ _ _); ((refine pcV (cf Try.func59) (l1In_p _ _ _) ?_)); (try simp (disch := omega) only [push_cast, seval, na, c1])))
  all_goals ((with_reducible show PPostR _ _ _ _ _ _); exact finH [0, 1, _, _])
set_option maxHeartbeats 8000000 in
theorem sDo_none (x : GNet) (a : GNetAct) (hv : NInv x) (hK : a.fKind ≠ 1 ∧ a.fKind ≠ 2 ∧ a.fKind ≠ 3 ∧ a.fKind ≠ 4) (c1 : inB a.fA 1 3 = true) : PCalls Try.prog 35 [.agg [.own 0, .own 1], .agg (pNetAct a)] (hNet x) (RH (.tup [.agg [.own 2, .own 3], .val (.bool (netDo x a).2)]) (hNetM (netDo x a).1)) := by
  obtain ⟨k1, k2, k3, na⟩ := hK
  have hA := inB_iff.1 c1
  obtain ⟨k, hk⟩ : ∃ k : Nat, a.fA = (k : Int) + 1 := ⟨(a.fA - 1).toNat, by omega⟩
  have hk3 : k < 3 := by omega
  have hn3 := hv.n3
  have hp := hv.p
  obtain ⟨u, hx⟩ : ∃ u, x.fNodes[k]? = some u := ⟨_, List.getElem?_eq_getElem (by omega)⟩
  have hu := hv.ok u (List.mem_of_getElem? hx)
  have e1 : (a.fA - 1).toNat = k := by omega
  have e : netDo x a = (x, false) := by
    unfold netDo
    rw [if_neg na, if_neg (by rw [c1]; simp [k2]), e1, hx]
    dsimp only
    unfold actOf
    rw [if_neg k1, if_neg k2, if_neg k3]
    simp
  rw [e]
  clear e hu hA e1 hv
  obtain ⟨N, P⟩ := x
  obtain ⟨a1, a2, a3, ⟨m1, m2, m3, m4, m5⟩⟩ := a
  dsimp only at *
  obtain ⟨n1, n2, n3, n4, n5, n6, n7, n8, n9, l⟩ := u
  subst hk
  refine pcalls_ofR okP Try.func35 rfl ?_
  simp only [Try.f35, List.length_cons, List.length_nil, Nat.reduceAdd, Nat.reduceSub, List.replicate_succ, List.replicate_zero, List.cons_append, List.nil_append, List.length_map]
  repeat' (first | with_reducible refine mkRegion (id := 1) ?_ | with_reducible (first | refine wA ?_ | refine wC ?_) | with_reducible (first | refine wq1 ?_ | refine wq3 ?_) | ((with_reducible refine hK _ ?_); clear hK K) | ((with_reducible refine pops_plain fun K hK => ?_); simp (disch := omega) only [push_cast, seval]))
  refine Mk.of ?_
  refine PWp.mvB 2 0 0 rfl rfl rfl (by decide) ?_
  refine PWp.mvB 2 1 1 rfl rfl rfl (by decide) ?_
  repeat' (first | with_reducible (first | refine wA ?_ | refine wB ?_ | refine wC ?_) | with_reducible (first | refine wq1 ?_ | refine wq3 ?_ | refine wq4 ?_ | refine wq5 ?_ | refine wq9 ?_ | refine wS ?_) | ((with_reducible refine hK _ ?_); clear hK K) | ((with_reducible refine PWp.condI ?_); refine ⟨_, rfl, fun hg => ?_, fun hg => ?_⟩ <;> first | (exact absurd hg (by decide)) | ((try simp only [Bool.not_true, Bool.not_false] at hg); (try simp only [hg]); (try simp only [push_cast] at hg); (try exact absurd trivial hg); (try (exfalso; omega)))) | ((with_reducible refine pops_plain fun K hK => popO_row ?_); refine ⟨_, _, _, _, _, rfl, rfl, rfl, rfl, rfl, ?_⟩; simp (disch := omega) only [push_cast, seval, na, c1, k1, k2, k3, hx]) | ((with_reducible refine pops_plain fun K hK => ?_); simp (disch := omega) only [push_cast, seval, na, c1, k1, k2, k3, hx]) | ((with_reducible show pcall _ _ _ _ _ _); ((refine pcV (cf Try.func59) (l1In_p _ _ _) ?_)); (try simp (disch := omega) only [push_cast, seval, na, c1, k1, k2, k3, hx])) | ((with_reducible refine And.intro ?_ ?_); omega))
  all_goals ((with_reducible show PPostR _ _ _ _ _ _); exact finH [0, 1, _, _])
end Go.Proofs.Ytcbknmnlgoeniaa
namespace Go.Proofs.Ytcbknmnlgoeniaa
set_option linter.unusedSimpArgs false
set_option linter.unusedVariables false
open Go.RowKit
set_option maxRecDepth 100000
-- more steps
set_option maxHeartbeats 16000000 in
theorem sDo_time (x : GNet) (a : GNetAct) (hv : NInv x) (hK : a.fKind = 3) (c1 : inB a.fA 1 3 = true) : PCalls Try.prog 35 [.agg [.own 0, .own 1], .agg (pNetAct a)] (hNet x) (RH (.tup [.agg [.own 2, .own 3], .val (.bool (netDo x a).2)]) (hNetM (netDo x a).1)) := by
  have na : ¬ a.fKind = 4 := by omega
  have hA := inB_iff.1 c1
  obtain ⟨k, hk⟩ : ∃ k : Nat, a.fA = (k : Int) + 1 := ⟨(a.fA - 1).toNat, by omega⟩
  have hk3 : k < 3 := by omega
  have hn3 := hv.n3
  have hp := hv.p
  obtain ⟨u, hx⟩ : ∃ u, x.fNodes[k]? = some u := ⟨_, List.getElem?_eq_getElem (by omega)⟩
  have hu := hv.ok u (List.mem_of_getElem? hx)
  have e1 : (a.fA - 1).toNat = k := by omega
  have cr := sNodeTime_p u a.fB hu
  generalize hr : nodeTime u a.fB = r at cr
  have ea : actOf x a u = r := by rw [← hr]; unfold actOf; rw [if_neg (by omega), if_neg (by omega), if_pos hK]
  obtain ⟨⟨w, sent⟩, okb⟩ := r
  have hsl : sent.length ≤ 300 := by
    have := congrArg (fun z : Acting × Bool => z.1.2) hr
    dsimp only at this
    rw [← this]
    exact nodeTime_len u a.fB
  have e : netDo x a = if okb = false then (x, false) else if 150 < (poolTo x.fPool sent).length then (x, false) else (netPut x k (w, sent), true) := by
    unfold netDo
    rw [if_neg na, if_neg (by rw [c1]; simp [hK]), e1, hx]
    dsimp only
    rw [ea]
  rw [e]
  have cp := sPool_p x.fPool sent (by omega) (by omega)
  clear e ea hr hA e1 hv hu
  obtain ⟨N, P⟩ := x
  obtain ⟨a1, a2, a3, ⟨m1, m2, m3, m4, m5⟩⟩ := a
  obtain ⟨n1, n2, n3, n4, n5, n6, n7, n8, n9, l⟩ := u
  obtain ⟨w1, w2, w3, w4, w5, w6, w7, w8, w9, wl⟩ := w
  dsimp only at *
  subst hk
  cases okb with
  | false =>
    rw [if_pos rfl]
    refine pcalls_ofR okP Try.func35 rfl ?_
    simp only [Try.f35, List.length_cons, List.length_nil, Nat.reduceAdd, Nat.reduceSub, List.replicate_succ, List.replicate_zero, List.cons_append, List.nil_append, List.length_map]
    repeat' (first | with_reducible refine mkRegion (id := 1) ?_ | with_reducible (first | refine wA ?_ | refine wC ?_) | with_reducible (first | refine wq1 ?_ | refine wq3 ?_) | ((with_reducible refine hK _ ?_); clear hK K) | ((with_reducible refine pops_plain fun K hK => ?_); simp (maxSteps := 1000000) (disch := omega) only [push_cast, seval]))
    refine Mk.of ?_
    refine PWp.mvB 2 0 0 rfl rfl rfl (by decide) ?_
    refine PWp.mvB 2 1 1 rfl rfl rfl (by decide) ?_
    repeat' (first | with_reducible (first | refine wA ?_ | refine wB ?_ | refine wC ?_) | with_reducible (first | refine wq1 ?_ | refine wq3 ?_ | refine wq4 ?_ | refine wq5 ?_ | refine wq9 ?_ | refine wS ?_) | ((with_reducible refine hK _ ?_); clear hK K) | ((with_reducible refine PWp.condI ?_); refine ⟨_, rfl, fun hg => ?_, fun hg => ?_⟩ <;> first | (exact absurd hg (by decide)) | ((try simp only [Bool.not_true, Bool.not_false] at hg); (try simp only [hg]); (try simp only [push_cast] at hg); (try exact absurd trivial hg); (try (exfalso; omega)))) | ((with_reducible refine pops_plain fun K hK => popO_row ?_); refine ⟨_, _, _, _, _, rfl, rfl, rfl, rfl, rfl, ?_⟩; simp (maxSteps := 1000000) (disch := omega) only [push_cast, seval, na, hK, c1, hx]) | ((with_reducible refine pops_plain fun K hK => ?_); simp (maxSteps := 1000000) (disch := omega) only [push_cast, seval, na, hK, c1, hx]) | ((with_reducible show pcall _ _ _ _ _ _); (first | (refine pcV (cf Try.func59) (l1In_p _ _ _) ?_) | (refine pcF (cf Try.func62) (cr) ?_)); (try simp (maxSteps := 1000000) (disch := omega) only [push_cast, seval, na, hK, c1, hx])) | ((with_reducible refine And.intro ?_ ?_); omega))
    all_goals ((with_reducible show PPostR _ _ _ _ _ _); exact finH [0, 1, _, _])
  | true =>
  rw [if_neg (by simp)]
  by_cases c9 : 150 < (poolTo P sent).length
  case pos =>
    rw [if_pos c9]
    rw [decide_eq_false (by omega)] at cp
    refine pcalls_ofR okP Try.func35 rfl ?_
    simp only [Try.f35, List.length_cons, List.length_nil, Nat.reduceAdd, Nat.reduceSub, List.replicate_succ, List.replicate_zero, List.cons_append, List.nil_append, List.length_map]
    repeat' (first | with_reducible refine mkRegion (id := 1) ?_ | with_reducible (first | refine wA ?_ | refine wC ?_) | with_reducible (first | refine wq1 ?_ | refine wq3 ?_) | ((with_reducible refine hK _ ?_); clear hK K) | ((with_reducible refine pops_plain fun K hK => ?_); simp (maxSteps := 1000000) (disch := omega) only [push_cast, seval]))
    refine Mk.of ?_
    refine PWp.mvB 2 0 0 rfl rfl rfl (by decide) ?_
    refine PWp.mvB 2 1 1 rfl rfl rfl (by decide) ?_
    repeat' (first | with_reducible (first | refine wA ?_ | refine wB ?_ | refine wC ?_) | with_reducible (first | refine wq1 ?_ | refine wq3 ?_ | refine wq4 ?_ | refine wq5 ?_ | refine wq9 ?_ | refine wS ?_) | ((with_reducible refine hK _ ?_); clear hK K) | ((with_reducible refine PWp.condI ?_); refine ⟨_, rfl, fun hg => ?_, fun hg => ?_⟩ <;> first | (exact absurd hg (by decide)) | ((try simp only [Bool.not_true, Bool.not_false] at hg); (try simp only [hg]); (try simp only [push_cast] at hg); (try exact absurd trivial hg); (try (exfalso; omega)))) | ((with_reducible refine pops_plain fun K hK => popO_row ?_); refine ⟨_, _, _, _, _, rfl, rfl, rfl, rfl, rfl, ?_⟩; simp (maxSteps := 1000000) (disch := omega) only [push_cast, seval, na, hK, c1, hx]) | ((with_reducible refine pops_plain fun K hK => ?_); simp (maxSteps := 1000000) (disch := omega) only [push_cast, seval, na, hK, c1, hx]) | ((with_reducible show pcall _ _ _ _ _ _); (first | (refine pcV (cf Try.func59) (l1In_p _ _ _) ?_) | (refine pcF (cf Try.func62) (cr) ?_) | (refine pcall_RGo (cf Try.func63) [?_] ?_ ?_ ?_ ?_ (cp) ?_; rotate_left 1; (· ((try simp (maxSteps := 1000000) (disch := omega) only [push_cast, seval]); (repeat' (first | exact trivial | exact rfl | refine And.intro ?_ ?_ | omega)))); (· ((try (unfold bAct)); (try simp (maxSteps := 1000000) (disch := omega) only [push_cast, seval]); (repeat' (first | exact trivial | exact rfl | refine And.intro ?_ ?_ | omega)))); (· exact rfl); (· exact rfl); rotate_right 1; rotate_left 1; (all_goals (try (first | omega | exact (show _ = _ by assumption)))))); (try simp (maxSteps := 1000000) (disch := omega) only [push_cast, seval, na, hK, c1, hx])) | ((with_reducible refine And.intro ?_ ?_); omega))
    all_goals ((with_reducible show PPostR _ _ _ _ _ _); exact finH [0, 1, _, _])
  case neg =>
    rw [if_neg c9]
    rw [decide_eq_true (by omega)] at cp
    have ep : (N.set k ⟨w1, w2, w3, w4, w5, w6, w7, w8, w9, wl⟩).map pNode = (N.map pNode).set k (pNode ⟨w1, w2, w3, w4, w5, w6, w7, w8, w9, wl⟩) := List.map_set
    unfold netPut hNetM
    dsimp only
    rw [ep]
    refine pcalls_ofR okP Try.func35 rfl ?_
    simp only [Try.f35, List.length_cons, List.length_nil, Nat.reduceAdd, Nat.reduceSub, List.replicate_succ, List.replicate_zero, List.cons_append, List.nil_append, List.length_map]
    repeat' (first | with_reducible refine mkRegion (id := 1) ?_ | with_reducible (first | refine wA ?_ | refine wC ?_) | with_reducible (first | refine wq1 ?_ | refine wq3 ?_) | ((with_reducible refine hK _ ?_); clear hK K) | ((with_reducible refine pops_plain fun K hK => ?_); simp (maxSteps := 1000000) (disch := omega) only [push_cast, seval]))
    refine Mk.of ?_
    refine PWp.mvB 2 0 0 rfl rfl rfl (by decide) ?_
    refine PWp.mvB 2 1 1 rfl rfl rfl (by decide) ?_
    repeat' (first | with_reducible (first | refine wA ?_ | refine wB ?_ | refine wC ?_) | with_reducible (first | refine wq1 ?_ | refine wq3 ?_ | refine wq4 ?_ | refine wq9 ?_ | refine wS ?_) | ((with_reducible refine hK _ ?_); clear hK K) | ((with_reducible refine PWp.condI ?_); refine ⟨_, rfl, fun hg => ?_, fun hg => ?_⟩ <;> first | (exact absurd hg (by decide)) | ((try simp only [Bool.not_true, Bool.not_false] at hg); (try simp only [hg]); (try simp only [push_cast] at hg); (try exact absurd trivial hg); (try (exfalso; omega)))) | ((with_reducible refine pops_plain fun K hK => popO_row ?_); refine ⟨_, _, _, _, _, rfl, rfl, rfl, rfl, rfl, ?_⟩; simp (maxSteps := 1000000) (disch := omega) only [push_cast, seval, na, hK, c1, hx]) | ((with_reducible refine pops_plain fun K hK => ?_); simp (maxSteps := 1000000) (disch := omega) only [push_cast, seval, na, hK, c1, hx]) | ((with_reducible show pcall _ _ _ _ _ _); (first | (refine pcV (cf Try.func59) (l1In_p _ _ _) ?_) | (refine pcF (cf Try.func62) (cr) ?_) | (refine pcall_RGo (cf Try.func63) [?_] ?_ ?_ ?_ ?_ (cp) ?_; rotate_left 1; (· ((try simp (maxSteps := 1000000) (disch := omega) only [push_cast, seval]); (repeat' (first | exact trivial | exact rfl | refine And.intro ?_ ?_ | omega)))); (· ((try (unfold bAct)); (try simp (maxSteps := 1000000) (disch := omega) only [push_cast, seval]); (repeat' (first | exact trivial | exact rfl | refine And.intro ?_ ?_ | omega)))); (· exact rfl); (· exact rfl); rotate_right 1; rotate_left 1; (all_goals (try (first | omega | exact (show _ = _ by assumption)))))); (try simp (maxSteps := 1000000) (disch := omega) only [push_cast, seval, na, hK, c1, hx])) | ((with_reducible refine And.intro ?_ ?_); omega))
    all_goals ((with_reducible show PPostR _ _ _ _ _ _); exact finH [0, 1, _, _])
end Go.Proofs.Ytcbknmnlgoeniaa
namespace Go.Proofs.Ytcbknmnlgoeniaa
set_option linter.unusedSimpArgs false
set_option linter.unusedVariables false
open Go.RowKit
set_option maxRecDepth 100000
-- more steps
set_option maxHeartbeats 16000000 in
theorem sDo_give (x : GNet) (a : GNetAct) (hv : NInv x) (hK : a.fKind = 2) (c1 : inB a.fA 1 3 = true) : PCalls Try.prog 35 [.agg [.own 0, .own 1], .agg (pNetAct a)] (hNet x) (RH (.tup [.agg [.own 2, .own 3], .val (.bool (netDo x a).2)]) (hNetM (netDo x a).1)) := by
  have na : ¬ a.fKind = 4 := by omega
  have hA := inB_iff.1 c1
  obtain ⟨k, hk⟩ : ∃ k : Nat, a.fA = (k : Int) + 1 := ⟨(a.fA - 1).toNat, by omega⟩
  have hk3 : k < 3 := by omega
  have hn3 := hv.n3
  have hp := hv.p
  obtain ⟨u, hx⟩ : ∃ u, x.fNodes[k]? = some u := ⟨_, List.getElem?_eq_getElem (by omega)⟩
  have hu := hv.ok u (List.mem_of_getElem? hx)
  have e1 : (a.fA - 1).toNat = k := by omega
  cases cB : inB a.fB 0 ((x.fPool.length : Int) - 1) with
  | false =>
    have e : netDo x a = (x, false) := by unfold netDo; rw [if_neg na, if_pos (.inr ⟨hK, cB⟩)]
    rw [e]
    clear e hu hA e1 hv
    obtain ⟨N, P⟩ := x
    obtain ⟨a1, a2, a3, ⟨m1, m2, m3, m4, m5⟩⟩ := a
    dsimp only at *
    obtain ⟨n1, n2, n3, n4, n5, n6, n7, n8, n9, l⟩ := u
    subst hk
    have hB : a3 < 0 ∨ a3 ≥ (P.length : Int) := by
      rcases Classical.em (0 ≤ a3 ∧ a3 ≤ (P.length : Int) - 1) with q | q
      · rw [inB_iff.2 q] at cB; cases cB
      · omega
    by_cases hB0 : a3 < 0
    case pos =>
      refine pcalls_ofR okP Try.func35 rfl ?_
      simp only [Try.f35, List.length_cons, List.length_nil, Nat.reduceAdd, Nat.reduceSub, List.replicate_succ, List.replicate_zero, List.cons_append, List.nil_append, List.length_map]
      repeat' (first | with_reducible refine mkRegion (id := 1) ?_ | with_reducible (first | refine wA ?_ | refine wC ?_) | with_reducible (first | refine wq1 ?_ | refine wq3 ?_) | ((with_reducible refine hK _ ?_); clear hK K) | ((with_reducible refine pops_plain fun K hK => ?_); simp (maxSteps := 1000000) (disch := omega) only [push_cast, seval]))
      refine Mk.of ?_
      refine PWp.mvB 2 0 0 rfl rfl rfl (by decide) ?_
      refine PWp.mvB 2 1 1 rfl rfl rfl (by decide) ?_
      repeat' (first | with_reducible (first | refine wA ?_ | refine wB ?_ | refine wC ?_) | with_reducible (first | refine wq1 ?_ | refine wq3 ?_ | refine wq5 ?_ | refine wq6 ?_ | refine wq9 ?_ | refine wS ?_) | ((with_reducible refine hK _ ?_); clear hK K) | ((with_reducible refine PWp.condI ?_); refine ⟨_, rfl, fun hg => ?_, fun hg => ?_⟩ <;> first | (exact absurd hg (by decide)) | ((try simp only [Bool.not_true, Bool.not_false] at hg); (try simp only [hg]); (try simp only [push_cast] at hg); (try exact absurd trivial hg); (try (exfalso; omega)))) | ((with_reducible refine pops_plain fun K hK => popO_row ?_); refine ⟨_, _, _, _, _, rfl, rfl, rfl, rfl, rfl, ?_⟩; simp (maxSteps := 1000000) (disch := omega) only [push_cast, seval, na, c1, hK, hx, hB0]) | ((with_reducible refine pops_plain fun K hK => ?_); simp (maxSteps := 1000000) (disch := omega) only [push_cast, seval, na, c1, hK, hx, hB0]) | ((((with_reducible refine pops_guard ?_); refine ⟨_, rfl, fun K hK => ⟨_, rfl, fun hg => ?_, fun hg => ?_⟩⟩)) <;> first | (exact absurd hg (by decide)) | ((try simp only [Bool.not_true, Bool.not_false] at hg); (try simp only [hg]); (try simp only [push_cast] at hg); (try exact absurd trivial hg); (try (exfalso; omega)); (try simp (maxSteps := 1000000) (disch := omega) only [push_cast, seval, na, c1, hK, hx, hB0]))) | ((with_reducible show pcall _ _ _ _ _ _); ((refine pcV (cf Try.func59) (l1In_p _ _ _) ?_)); (try simp (maxSteps := 1000000) (disch := omega) only [push_cast, seval, na, c1, hK, hx, hB0])) | ((with_reducible refine And.intro ?_ ?_); omega))
      all_goals ((with_reducible show PPostR _ _ _ _ _ _); exact finH [0, 1, _, _])
    have hB1 : a3 ≥ (P.length : Int) := by omega
    refine pcalls_ofR okP Try.func35 rfl ?_
    simp only [Try.f35, List.length_cons, List.length_nil, Nat.reduceAdd, Nat.reduceSub, List.replicate_succ, List.replicate_zero, List.cons_append, List.nil_append, List.length_map]
    repeat' (first | with_reducible refine mkRegion (id := 1) ?_ | with_reducible (first | refine wA ?_ | refine wC ?_) | with_reducible (first | refine wq1 ?_ | refine wq3 ?_) | ((with_reducible refine hK _ ?_); clear hK K) | ((with_reducible refine pops_plain fun K hK => ?_); simp (maxSteps := 1000000) (disch := omega) only [push_cast, seval]))
    refine Mk.of ?_
    refine PWp.mvB 2 0 0 rfl rfl rfl (by decide) ?_
    refine PWp.mvB 2 1 1 rfl rfl rfl (by decide) ?_
    repeat' (first | with_reducible (first | refine wA ?_ | refine wB ?_ | refine wC ?_) | with_reducible (first | refine wq1 ?_ | refine wq3 ?_ | refine wq5 ?_ | refine wq6 ?_ | refine wq9 ?_ | refine wS ?_) | ((with_reducible refine hK _ ?_); clear hK K) | ((with_reducible refine PWp.condI ?_); refine ⟨_, rfl, fun hg => ?_, fun hg => ?_⟩ <;> first | (exact absurd hg (by decide)) | ((try simp only [Bool.not_true, Bool.not_false] at hg); (try simp only [hg]); (try simp only [push_cast] at hg); (try exact absurd trivial hg); (try (exfalso; omega)))) | ((with_reducible refine pops_plain fun K hK => popO_row ?_); refine ⟨_, _, _, _, _, rfl, rfl, rfl, rfl, rfl, ?_⟩; simp (maxSteps := 1000000) (disch := omega) only [push_cast, seval, na, c1, hK, hx, hB0, hB1]) | ((with_reducible refine pops_plain fun K hK => ?_); simp (maxSteps := 1000000) (disch := omega) only [push_cast, seval, na, c1, hK, hx, hB0, hB1]) | ((((with_reducible refine pops_guard ?_); refine ⟨_, rfl, fun K hK => ⟨_, rfl, fun hg => ?_, fun hg => ?_⟩⟩)) <;> first | (exact absurd hg (by decide)) | ((try simp only [Bool.not_true, Bool.not_false] at hg); (try simp only [hg]); (try simp only [push_cast] at hg); (try exact absurd trivial hg); (try (exfalso; omega)); (try simp (maxSteps := 1000000) (disch := omega) only [push_cast, seval, na, c1, hK, hx, hB0, hB1]))) | ((with_reducible show pcall _ _ _ _ _ _); ((refine pcV (cf Try.func59) (l1In_p _ _ _) ?_)); (try simp (maxSteps := 1000000) (disch := omega) only [push_cast, seval, na, c1, hK, hx, hB0, hB1])) | ((with_reducible refine And.intro ?_ ?_); omega))
    all_goals ((with_reducible show PPostR _ _ _ _ _ _); exact finH [0, 1, _, _])
  | true =>
  have hB := inB_iff.1 cB
  obtain ⟨b, hb⟩ : ∃ b : Nat, a.fB = (b : Int) := ⟨a.fB.toNat, by omega⟩
  have hbl : b < x.fPool.length := by omega
  have hbl2 : ¬ (b : Int) ≥ (x.fPool.length : Int) := by omega
  obtain ⟨y, hy⟩ : ∃ y, x.fPool[b]? = some y := ⟨_, List.getElem?_eq_getElem (by omega)⟩
  have cr := sNodeGet_p u y hu
  generalize hr : nodeGet u y = r at cr
  have ea : actOf x a u = r := by rw [← hr]; unfold actOf; rw [if_neg (by omega), if_pos hK, show a.fB.toNat = b by omega, hy]
  obtain ⟨⟨w, sent⟩, okb⟩ := r
  have hsl : sent.length ≤ 300 := by
    have := congrArg (fun z : Acting × Bool => z.1.2) hr
    dsimp only at this
    rw [← this]
    exact nodeGet_len u y
  have e : netDo x a = if okb = false then (x, false) else if 150 < (poolTo x.fPool sent).length then (x, false) else (netPut x k (w, sent), true) := by
    unfold netDo
    rw [if_neg na, if_neg (by rw [c1]; simp [hK, cB]), e1, hx]
    dsimp only
    rw [ea]
  rw [e]
  have cp := sPool_p x.fPool sent (by omega) (by omega)
  clear e ea hr hA e1 hv hu hB cB
  obtain ⟨N, P⟩ := x
  obtain ⟨a1, a2, a3, ⟨m1, m2, m3, m4, m5⟩⟩ := a
  obtain ⟨n1, n2, n3, n4, n5, n6, n7, n8, n9, l⟩ := u
  obtain ⟨w1, w2, w3, w4, w5, w6, w7, w8, w9, wl⟩ := w
  obtain ⟨y1, y2, y3, y4, y5⟩ := y
  dsimp only at *
  subst hk
  subst hb
  cases okb with
  | false =>
    rw [if_pos rfl]
    refine pcalls_ofR okP Try.func35 rfl ?_
    simp only [Try.f35, List.length_cons, List.length_nil, Nat.reduceAdd, Nat.reduceSub, List.replicate_succ, List.replicate_zero, List.cons_append, List.nil_append, List.length_map]
    repeat' (first | with_reducible refine mkRegion (id := 1) ?_ | with_reducible (first | refine wA ?_ | refine wC ?_) | with_reducible (first | refine wq1 ?_ | refine wq3 ?_) | ((with_reducible refine hK _ ?_); clear hK K) | ((with_reducible refine pops_plain fun K hK => ?_); simp (maxSteps := 1000000) (disch := omega) only [push_cast, seval]))
    refine Mk.of ?_
    refine PWp.mvB 2 0 0 rfl rfl rfl (by decide) ?_
    refine PWp.mvB 2 1 1 rfl rfl rfl (by decide) ?_
    repeat' (first | with_reducible (first | refine wA ?_ | refine wB ?_ | refine wC ?_) | with_reducible refine PWp.draw (id := 17) okP true [0, 1, 2, 3, 4, 5, 6, 7, 8, 9, 10, 11, 12, 13, 14] (by kernel_rfl) ?_ | with_reducible (first | refine wq1 ?_ | refine wq2 ?_ | refine wq3 ?_ | refine wq4 ?_ | refine wq5 ?_ | refine wq9 ?_ | refine wS ?_) | ((with_reducible refine hK _ ?_); clear hK K) | ((with_reducible refine PWp.condI ?_); refine ⟨_, rfl, fun hg => ?_, fun hg => ?_⟩ <;> first | (exact absurd hg (by decide)) | ((try simp only [Bool.not_true, Bool.not_false] at hg); (try simp only [hg]); (try simp only [push_cast] at hg); (try exact absurd trivial hg); (try (exfalso; omega)))) | ((with_reducible refine pany_I ?_); refine ⟨_, rfl, fun K hK => ?_⟩) | ((with_reducible refine pops_plain fun K hK => popO_row ?_); refine ⟨_, _, _, _, _, rfl, rfl, rfl, rfl, rfl, ?_⟩; simp (maxSteps := 1000000) (disch := omega) only [push_cast, seval, na, hK, c1, hx, hy, hbl2]) | ((with_reducible refine pops_plain fun K hK => ?_); simp (maxSteps := 1000000) (disch := omega) only [push_cast, seval, na, hK, c1, hx, hy, hbl2]) | ((first | ((with_reducible refine pD_y ?_ ?_); exact rfl) | ((with_reducible refine pD_x ?_ ?_); exact rfl)); simp (maxSteps := 1000000) (disch := omega) only [push_cast, seval, na, hK, c1, hx, hy, hbl2]) | ((((with_reducible refine pops_guard ?_); refine ⟨_, rfl, fun K hK => ⟨_, rfl, fun hg => ?_, fun hg => ?_⟩⟩)) <;> first | (exact absurd hg (by decide)) | ((try simp only [Bool.not_true, Bool.not_false] at hg); (try simp only [hg]); (try simp only [push_cast] at hg); (try exact absurd trivial hg); (try (exfalso; omega)); (try simp (maxSteps := 1000000) (disch := omega) only [push_cast, seval, na, hK, c1, hx, hy, hbl2]))) | ((with_reducible show pcall _ _ _ _ _ _); (first | (refine pcV (cf Try.func59) (l1In_p _ _ _) ?_) | (refine pcF (cf Try.func61) (cr) ?_)); (try simp (maxSteps := 1000000) (disch := omega) only [push_cast, seval, na, hK, c1, hx, hy, hbl2])) | ((with_reducible refine And.intro ?_ ?_); omega))
    all_goals ((with_reducible show PPostR _ _ _ _ _ _); exact finH [0, 1, _, _])
  | true =>
  rw [if_neg (by simp)]
  by_cases c9 : 150 < (poolTo P sent).length
  case pos =>
    rw [if_pos c9]
    rw [decide_eq_false (by omega)] at cp
    refine pcalls_ofR okP Try.func35 rfl ?_
    simp only [Try.f35, List.length_cons, List.length_nil, Nat.reduceAdd, Nat.reduceSub, List.replicate_succ, List.replicate_zero, List.cons_append, List.nil_append, List.length_map]
    repeat' (first | with_reducible refine mkRegion (id := 1) ?_ | with_reducible (first | refine wA ?_ | refine wC ?_) | with_reducible (first | refine wq1 ?_ | refine wq3 ?_) | ((with_reducible refine hK _ ?_); clear hK K) | ((with_reducible refine pops_plain fun K hK => ?_); simp (maxSteps := 1000000) (disch := omega) only [push_cast, seval]))
    refine Mk.of ?_
    refine PWp.mvB 2 0 0 rfl rfl rfl (by decide) ?_
    refine PWp.mvB 2 1 1 rfl rfl rfl (by decide) ?_
    repeat' (first | with_reducible (first | refine wA ?_ | refine wB ?_ | refine wC ?_) | with_reducible refine PWp.draw (id := 17) okP true [0, 1, 2, 3, 4, 5, 6, 7, 8, 9, 10, 11, 12, 13, 14] (by kernel_rfl) ?_ | with_reducible (first | refine wq1 ?_ | refine wq2 ?_ | refine wq3 ?_ | refine wq4 ?_ | refine wq5 ?_ | refine wq9 ?_ | refine wS ?_) | ((with_reducible refine hK _ ?_); clear hK K) | ((with_reducible refine PWp.condI ?_); refine ⟨_, rfl, fun hg => ?_, fun hg => ?_⟩ <;> first | (exact absurd hg (by decide)) | ((try simp only [Bool.not_true, Bool.not_false] at hg); (try simp only [hg]); (try simp only [push_cast] at hg); (try exact absurd trivial hg); (try (exfalso; omega)))) | ((with_reducible refine pany_I ?_); refine ⟨_, rfl, fun K hK => ?_⟩) | ((with_reducible refine pops_plain fun K hK => popO_row ?_); refine ⟨_, _, _, _, _, rfl, rfl, rfl, rfl, rfl, ?_⟩; simp (maxSteps := 1000000) (disch := omega) only [push_cast, seval, na, hK, c1, hx, hy, hbl2]) | ((with_reducible refine pops_plain fun K hK => ?_); simp (maxSteps := 1000000) (disch := omega) only [push_cast, seval, na, hK, c1, hx, hy, hbl2]) | ((first | ((with_reducible refine pD_y ?_ ?_); exact rfl) | ((with_reducible refine pD_x ?_ ?_); exact rfl)); simp (maxSteps := 1000000) (disch := omega) only [push_cast, seval, na, hK, c1, hx, hy, hbl2]) | ((((with_reducible refine pops_guard ?_); refine ⟨_, rfl, fun K hK => ⟨_, rfl, fun hg => ?_, fun hg => ?_⟩⟩)) <;> first | (exact absurd hg (by decide)) | ((try simp only [Bool.not_true, Bool.not_false] at hg); (try simp only [hg]); (try simp only [push_cast] at hg); (try exact absurd trivial hg); (try (exfalso; omega)); (try simp (maxSteps := 1000000) (disch := omega) only [push_cast, seval, na, hK, c1, hx, hy, hbl2]))) | ((with_reducible show pcall _ _ _ _ _ _); (first | (refine pcV (cf Try.func59) (l1In_p _ _ _) ?_) | (refine pcF (cf Try.func61) (cr) ?_) | (refine pcall_RGo (cf Try.func63) [?_] ?_ ?_ ?_ ?_ (cp) ?_; rotate_left 1; (· ((try simp (maxSteps := 1000000) (disch := omega) only [push_cast, seval]); (repeat' (first | exact trivial | exact rfl | refine And.intro ?_ ?_ | omega)))); (· ((try (unfold bAct)); (try simp (maxSteps := 1000000) (disch := omega) only [push_cast, seval]); (repeat' (first | exact trivial | exact rfl | refine And.intro ?_ ?_ | omega)))); (· exact rfl); (· exact rfl); rotate_right 1; rotate_left 1; (all_goals (try (first | omega | exact (show _ = _ by assumption)))))); (try simp (maxSteps := 1000000) (disch := omega) only [push_cast, seval, na, hK, c1, hx, hy, hbl2])) | ((with_reducible refine And.intro ?_ ?_); omega))
    all_goals ((with_reducible show PPostR _ _ _ _ _ _); exact finH [0, 1, _, _])
  case neg =>
    rw [if_neg c9]
    rw [decide_eq_true (by omega)] at cp
    have ep : (N.set k ⟨w1, w2, w3, w4, w5, w6, w7, w8, w9, wl⟩).map pNode = (N.map pNode).set k (pNode ⟨w1, w2, w3, w4, w5, w6, w7, w8, w9, wl⟩) := List.map_set
    unfold netPut hNetM
    dsimp only
    rw [ep]
    refine pcalls_ofR okP Try.func35 rfl ?_
    simp only [Try.f35, List.length_cons, List.length_nil, Nat.reduceAdd, Nat.reduceSub, List.replicate_succ, List.replicate_zero, List.cons_append, List.nil_append, List.length_map]
    repeat' (first | with_reducible refine mkRegion (id := 1) ?_ | with_reducible (first | refine wA ?_ | refine wC ?_) | with_reducible (first | refine wq1 ?_ | refine wq3 ?_) | ((with_reducible refine hK _ ?_); clear hK K) | ((with_reducible refine pops_plain fun K hK => ?_); simp (maxSteps := 1000000) (disch := omega) only [push_cast, seval]))
    refine Mk.of ?_
    refine PWp.mvB 2 0 0 rfl rfl rfl (by decide) ?_
    refine PWp.mvB 2 1 1 rfl rfl rfl (by decide) ?_
    repeat' (first | with_reducible (first | refine wA ?_ | refine wB ?_ | refine wC ?_) | with_reducible refine PWp.draw (id := 17) okP true [0, 1, 2, 3, 4, 5, 6, 7, 8, 9, 10, 11, 12, 13, 14] (by kernel_rfl) ?_ | with_reducible (first | refine wq1 ?_ | refine wq2 ?_ | refine wq3 ?_ | refine wq4 ?_ | refine wq9 ?_ | refine wS ?_) | ((with_reducible refine hK _ ?_); clear hK K) | ((with_reducible refine PWp.condI ?_); refine ⟨_, rfl, fun hg => ?_, fun hg => ?_⟩ <;> first | (exact absurd hg (by decide)) | ((try simp only [Bool.not_true, Bool.not_false] at hg); (try simp only [hg]); (try simp only [push_cast] at hg); (try exact absurd trivial hg); (try (exfalso; omega)))) | ((with_reducible refine pany_I ?_); refine ⟨_, rfl, fun K hK => ?_⟩) | ((with_reducible refine pops_plain fun K hK => popO_row ?_); refine ⟨_, _, _, _, _, rfl, rfl, rfl, rfl, rfl, ?_⟩; simp (maxSteps := 1000000) (disch := omega) only [push_cast, seval, na, hK, c1, hx, hy, hbl2]) | ((with_reducible refine pops_plain fun K hK => ?_); simp (maxSteps := 1000000) (disch := omega) only [push_cast, seval, na, hK, c1, hx, hy, hbl2]) | ((first | ((with_reducible refine pD_y ?_ ?_); exact rfl) | ((with_reducible refine pD_x ?_ ?_); exact rfl)); simp (maxSteps := 1000000) (disch := omega) only [push_cast, seval, na, hK, c1, hx, hy, hbl2]) | ((((with_reducible refine pops_guard ?_); refine ⟨_, rfl, fun K hK => ⟨_, rfl, fun hg => ?_, fun hg => ?_⟩⟩)) <;> first | (exact absurd hg (by decide)) | ((try simp only [Bool.not_true, Bool.not_false] at hg); (try simp only [hg]); (try simp only [push_cast] at hg); (try exact absurd trivial hg); (try (exfalso; omega)); (try simp (maxSteps := 1000000) (disch := omega) only [push_cast, seval, na, hK, c1, hx, hy, hbl2]))) | ((with_reducible show pcall _ _ _ _ _ _); (first | (refine pcV (cf Try.func59) (l1In_p _ _ _) ?_) | (refine pcF (cf Try.func61) (cr) ?_) | (refine pcall_RGo (cf Try.func63) [?_] ?_ ?_ ?_ ?_ (cp) ?_; rotate_left 1; (· ((try simp (maxSteps := 1000000) (disch := omega) only [push_cast, seval]); (repeat' (first | exact trivial | exact rfl | refine And.intro ?_ ?_ | omega)))); (· ((try (unfold bAct)); (try simp (maxSteps := 1000000) (disch := omega) only [push_cast, seval]); (repeat' (first | exact trivial | exact rfl | refine And.intro ?_ ?_ | omega)))); (· exact rfl); (· exact rfl); rotate_right 1; rotate_left 1; (all_goals (try (first | omega | exact (show _ = _ by assumption)))))); (try simp (maxSteps := 1000000) (disch := omega) only [push_cast, seval, na, hK, c1, hx, hy, hbl2])) | ((with_reducible refine And.intro ?_ ?_); omega))
    all_goals ((with_reducible show PPostR _ _ _ _ _ _); exact finH [0, 1, _, _])
end Go.Proofs.Ytcbknmnlgoeniaa
namespace Go.Proofs.Ytcbknmnlgoeniaa
set_option linter.unusedSimpArgs false
set_option linter.unusedVariables false
open Go.RowKit
set_option maxRecDepth 100000
-- more steps
set_option maxHeartbeats 16000000 in
theorem sDo_start (x : GNet) (a : GNetAct) (hv : NInv x) (hK : a.fKind = 1) (c1 : inB a.fA 1 3 = true) : PCalls Try.prog 35 [.agg [.own 0, .own 1], .agg (pNetAct a)] (hNet x) (RH (.tup [.agg [.own 2, .own 3], .val (.bool (netDo x a).2)]) (hNetM (netDo x a).1)) := by
  have na : ¬ a.fKind = 4 := by omega
  have hA := inB_iff.1 c1
  obtain ⟨k, hk⟩ : ∃ k : Nat, a.fA = (k : Int) + 1 := ⟨(a.fA - 1).toNat, by omega⟩
  have hk3 : k < 3 := by omega
  have hn3 := hv.n3
  have hp := hv.p
  obtain ⟨u, hx⟩ : ∃ u, x.fNodes[k]? = some u := ⟨_, List.getElem?_eq_getElem (by omega)⟩
  have hu := hv.ok u (List.mem_of_getElem? hx)
  have e1 : (a.fA - 1).toNat = k := by omega
  have cr := sNodeStart_p u hu
  generalize hr : nodeStart u = r at cr
  have ea : actOf x a u = r := by rw [← hr]; unfold actOf; rw [if_pos hK]
  obtain ⟨⟨w, sent⟩, okb⟩ := r
  have hsl : sent.length ≤ 300 := by
    have := congrArg (fun z : Acting × Bool => z.1.2) hr
    dsimp only at this
    rw [← this]
    exact nodeStart_len u
  have e : netDo x a = if okb = false then (x, false) else if 150 < (poolTo x.fPool sent).length then (x, false) else (netPut x k (w, sent), true) := by
    unfold netDo
    rw [if_neg na, if_neg (by rw [c1]; simp [hK]), e1, hx]
    dsimp only
    rw [ea]
  rw [e]
  have cp := sPool_p x.fPool sent (by omega) (by omega)
  clear e ea hr hA e1 hv hu
  obtain ⟨N, P⟩ := x
  obtain ⟨a1, a2, a3, ⟨m1, m2, m3, m4, m5⟩⟩ := a
  obtain ⟨n1, n2, n3, n4, n5, n6, n7, n8, n9, l⟩ := u
  obtain ⟨w1, w2, w3, w4, w5, w6, w7, w8, w9, wl⟩ := w
  dsimp only at *
  subst hk
  cases okb with
  | false =>
    rw [if_pos rfl]
    refine pcalls_ofR okP Try.func35 rfl ?_
    simp only [Try.f35, List.length_cons, List.length_nil, Nat.reduceAdd, Nat.reduceSub, List.replicate_succ, List.replicate_zero, List.cons_append, List.nil_append, List.length_map]
    repeat' (first | with_reducible refine mkRegion (id := 1) ?_ | with_reducible (first | refine wA ?_ | refine wC ?_) | with_reducible (first | refine wq1 ?_ | refine wq3 ?_) | ((with_reducible refine hK _ ?_); clear hK K) | ((with_reducible refine pops_plain fun K hK => ?_); simp (maxSteps := 1000000) (disch := omega) only [push_cast, seval]))
    refine Mk.of ?_
    refine PWp.mvB 2 0 0 rfl rfl rfl (by decide) ?_
    refine PWp.mvB 2 1 1 rfl rfl rfl (by decide) ?_
    repeat' (first | with_reducible (first | refine wA ?_ | refine wB ?_ | refine wC ?_) | with_reducible (first | refine wq1 ?_ | refine wq3 ?_ | refine wq4 ?_ | refine wq5 ?_ | refine wq9 ?_ | refine wS ?_) | ((with_reducible refine hK _ ?_); clear hK K) | ((with_reducible refine PWp.condI ?_); refine ⟨_, rfl, fun hg => ?_, fun hg => ?_⟩ <;> first | (exact absurd hg (by decide)) | ((try simp only [Bool.not_true, Bool.not_false] at hg); (try simp only [hg]); (try simp only [push_cast] at hg); (try exact absurd trivial hg); (try (exfalso; omega)))) | ((with_reducible refine pops_plain fun K hK => popO_row ?_); refine ⟨_, _, _, _, _, rfl, rfl, rfl, rfl, rfl, ?_⟩; simp (maxSteps := 1000000) (disch := omega) only [push_cast, seval, na, hK, c1, hx]) | ((with_reducible refine pops_plain fun K hK => ?_); simp (maxSteps := 1000000) (disch := omega) only [push_cast, seval, na, hK, c1, hx]) | ((with_reducible show pcall _ _ _ _ _ _); (first | (refine pcV (cf Try.func59) (l1In_p _ _ _) ?_) | (refine pcF (cf Try.func60) (cr) ?_)); (try simp (maxSteps := 1000000) (disch := omega) only [push_cast, seval, na, hK, c1, hx])) | ((with_reducible refine And.intro ?_ ?_); omega))
    all_goals ((with_reducible show PPostR _ _ _ _ _ _); exact finH [0, 1, _, _])
  | true =>
  rw [if_neg (by simp)]
  by_cases c9 : 150 < (poolTo P sent).length
  case pos =>
    rw [if_pos c9]
    rw [decide_eq_false (by omega)] at cp
    refine pcalls_ofR okP Try.func35 rfl ?_
    simp only [Try.f35, List.length_cons, List.length_nil, Nat.reduceAdd, Nat.reduceSub, List.replicate_succ, List.replicate_zero, List.cons_append, List.nil_append, List.length_map]
    repeat' (first | with_reducible refine mkRegion (id := 1) ?_ | with_reducible (first | refine wA ?_ | refine wC ?_) | with_reducible (first | refine wq1 ?_ | refine wq3 ?_) | ((with_reducible refine hK _ ?_); clear hK K) | ((with_reducible refine pops_plain fun K hK => ?_); simp (maxSteps := 1000000) (disch := omega) only [push_cast, seval]))
    refine Mk.of ?_
    refine PWp.mvB 2 0 0 rfl rfl rfl (by decide) ?_
    refine PWp.mvB 2 1 1 rfl rfl rfl (by decide) ?_
    repeat' (first | with_reducible (first | refine wA ?_ | refine wB ?_ | refine wC ?_) | with_reducible (first | refine wq1 ?_ | refine wq3 ?_ | refine wq4 ?_ | refine wq5 ?_ | refine wq9 ?_ | refine wS ?_) | ((with_reducible refine hK _ ?_); clear hK K) | ((with_reducible refine PWp.condI ?_); refine ⟨_, rfl, fun hg => ?_, fun hg => ?_⟩ <;> first | (exact absurd hg (by decide)) | ((try simp only [Bool.not_true, Bool.not_false] at hg); (try simp only [hg]); (try simp only [push_cast] at hg); (try exact absurd trivial hg); (try (exfalso; omega)))) | ((with_reducible refine pops_plain fun K hK => popO_row ?_); refine ⟨_, _, _, _, _, rfl, rfl, rfl, rfl, rfl, ?_⟩; simp (maxSteps := 1000000) (disch := omega) only [push_cast, seval, na, hK, c1, hx]) | ((with_reducible refine pops_plain fun K hK => ?_); simp (maxSteps := 1000000) (disch := omega) only [push_cast, seval, na, hK, c1, hx]) | ((with_reducible show pcall _ _ _ _ _ _); (first | (refine pcV (cf Try.func59) (l1In_p _ _ _) ?_) | (refine pcF (cf Try.func60) (cr) ?_) | (refine pcall_RGo (cf Try.func63) [?_] ?_ ?_ ?_ ?_ (cp) ?_; rotate_left 1; (· ((try simp (maxSteps := 1000000) (disch := omega) only [push_cast, seval]); (repeat' (first | exact trivial | exact rfl | refine And.intro ?_ ?_ | omega)))); (· ((try (unfold bAct)); (try simp (maxSteps := 1000000) (disch := omega) only [push_cast, seval]); (repeat' (first | exact trivial | exact rfl | refine And.intro ?_ ?_ | omega)))); (· exact rfl); (· exact rfl); rotate_right 1; rotate_left 1; (all_goals (try (first | omega | exact (show _ = _ by assumption)))))); (try simp (maxSteps := 1000000) (disch := omega) only [push_cast, seval, na, hK, c1, hx])) | ((with_reducible refine And.intro ?_ ?_); omega))
    all_goals ((with_reducible show PPostR _ _ _ _ _ _); exact finH [0, 1, _, _])
  case neg =>
    rw [if_neg c9]
    rw [decide_eq_true (by omega)] at cp
    have ep : (N.set k ⟨w1, w2, w3, w4, w5, w6, w7, w8, w9, wl⟩).map pNode = (N.map pNode).set k (pNode ⟨w1, w2, w3, w4, w5, w6, w7, w8, w9, wl⟩) := List.map_set
    unfold netPut hNetM
    dsimp only
    rw [ep]
    refine pcalls_ofR okP Try.func35 rfl ?_
    simp only [Try.f35, List.length_cons, List.length_nil, Nat.reduceAdd, Nat.reduceSub, List.replicate_succ, List.replicate_zero, List.cons_append, List.nil_append, List.length_map]
    repeat' (first | with_reducible refine mkRegion (id := 1) ?_ | with_reducible (first | refine wA ?_ | refine wC ?_) | with_reducible (first | refine wq1 ?_ | refine wq3 ?_) | ((with_reducible refine hK _ ?_); clear hK K) | ((with_reducible refine pops_plain fun K hK => ?_); simp (maxSteps := 1000000) (disch := omega) only [push_cast, seval]))
    refine Mk.of ?_
    refine PWp.mvB 2 0 0 rfl rfl rfl (by decide) ?_
    refine PWp.mvB 2 1 1 rfl rfl rfl (by decide) ?_
    repeat' (first | with_reducible (first | refine wA ?_ | refine wB ?_ | refine wC ?_) | with_reducible (first | refine wq1 ?_ | refine wq3 ?_ | refine wq4 ?_ | refine wq9 ?_ | refine wS ?_) | ((with_reducible refine hK _ ?_); clear hK K) | ((with_reducible refine PWp.condI ?_); refine ⟨_, rfl, fun hg => ?_, fun hg => ?_⟩ <;> first | (exact absurd hg (by decide)) | ((try simp only [Bool.not_true, Bool.not_false] at hg); (try simp only [hg]); (try simp only [push_cast] at hg); (try exact absurd trivial hg); (try (exfalso; omega)))) | ((with_reducible refine pops_plain fun K hK => popO_row ?_); refine ⟨_, _, _, _, _, rfl, rfl, rfl, rfl, rfl, ?_⟩; simp (maxSteps := 1000000) (disch := omega) only [push_cast, seval, na, hK, c1, hx]) | ((with_reducible refine pops_plain fun K hK => ?_); simp (maxSteps := 1000000) (disch := omega) only [push_cast, seval, na, hK, c1, hx]) | ((with_reducible show pcall _ _ _ _ _ _); (first | (refine pcV (cf Try.func59) (l1In_p _ _ _) ?_) | (refine pcF (cf Try.func60) (cr) ?_) | (refine pcall_RGo (cf Try.func63) [?_] ?_ ?_ ?_ ?_ (cp) ?_; rotate_left 1; (· ((try simp (maxSteps := 1000000) (disch := omega) only [push_cast, seval]); (repeat' (first | exact trivial | exact rfl | refine And.intro ?_ ?_ | omega)))); (· ((try (unfold bAct)); (try simp (maxSteps := 1000000) (disch := omega) only [push_cast, seval]); (repeat' (first | exact trivial | exact rfl | refine And.intro ?_ ?_ | omega)))); (· exact rfl); (· exact rfl); rotate_right 1; rotate_left 1; (all_goals (try (first | omega | exact (show _ = _ by assumption)))))); (try simp (maxSteps := 1000000) (disch := omega) only [push_cast, seval, na, hK, c1, hx])) | ((with_reducible refine And.intro ?_ ?_); omega))
    all_goals ((with_reducible show PPostR _ _ _ _ _ _); exact finH [0, 1, _, _])
end Go.Proofs.Ytcbknmnlgoeniaa
namespace Go.Proofs.Ytcbknmnlgoeniaa
set_option linter.unusedSimpArgs false
set_option linter.unusedVariables false
open Go.RowKit
set_option maxRecDepth 100000
structure Cur where
  bs : List UInt8
  i : Nat
  h : Int
  ok : i ≤ bs.length
  len : bs.length ≤ 1048576
def pCur (c : Cur) : List PV := [.sl 1 (c.bs.map pU8), .val (.int .i64 c.i), .val (.int .i64 c.h)]
theorem pCur_clo (c : Cur) : (pCur c).all cloC = true := rfl
theorem pCur_ren {φ : List Nat} {n : Nat} (c : Cur) : renL φ n (pCur c) = pCur c := renL_flat (pCur_clo c)
attribute [push_cast] pCur_ren
theorem and255_bd (x : Int) : 0 ≤ bits .and .i64 x 255 ∧ bits .and .i64 x 255 < 256 := by
  unfold bits
  simp only
  have h : (BitVec.ofInt (IntKind.bits .i64) x &&& BitVec.ofInt (IntKind.bits .i64) 255).toNat < 256 := by
    rw [BitVec.toNat_and]
    exact Nat.lt_of_le_of_lt Nat.and_le_right (by decide)
  generalize (BitVec.ofInt (IntKind.bits .i64) x &&& BitVec.ofInt (IntKind.bits .i64) 255).toNat = n at h
  rw [IntKind.wrap_i64]
  omega
set_option maxHeartbeats 4000000 in
theorem sL1New_p (code : List UInt8) (hc : code.length ≤ 1048576) : PCalls Try.prog 18 [.sl 1 (code.map pU8)] [] (RX (α := Cur) (fun _ => .ptr 0 0) (fun c => [some (.box (pCur c))]) fun _ => True) := by
  refine pcalls_ofR okP Try.func18 rfl ?_
  simp only [Try.f18, List.length_cons, List.length_nil, Nat.reduceAdd, Nat.reduceSub, List.replicate_succ, List.replicate_zero, List.cons_append, List.nil_append, List.length_map]
  repeat' (first | with_reducible (first | refine wA ?_ | refine wB ?_ | refine wC ?_) | with_reducible (first | refine wq1 ?_ | refine wq3 ?_) | ((with_reducible refine hK _ ?_); clear hK K) | ((with_reducible refine pops_plain fun K hK => ?_); simp (disch := omega) only [push_cast, seval]))
  refine PWp.loopK (α := Nat × Int) (fun x => match x with | (k, h) => [(3, .val (.int .i64 h)), (4, .val (.int .i64 (k : Int)))]) [1, 5, 6, 7, 8, 9, 10, 11, 12, 13, 14, 15, 16, 17, 18, 19, 20, 21, 22, 23, 24, 25, 26, 27] (fun x => match x with | (k, h) => []) (fun x => match x with | (k, h) => k ≤ code.length) (fun x => match x with | (k, h) => code.length - k) ((0, 10101 + (code.length : Int))) (Nat.zero_le _) (by exact fitA []) ?_
  intro x ρ hI; obtain ⟨k, h⟩ := x
  (try dsimp only at hI)
  refine PWp.at (tm' := ?_) (H' := ?_) ?_ ?_ ?_; rotate_left 2; (· ((try simp only [push_cast, seval]); exact rfl)); (· ((try dsimp only); exact rfl))
  by_cases hlt : k < code.length
  · obtain ⟨x, hx⟩ : ∃ x, code[k]? = some x := ⟨_, List.getElem?_eq_getElem hlt⟩
    have hx8 := x.toNat_lt
    repeat' (first | with_reducible (first | refine wA ?_ | refine wB ?_ | refine wC ?_) | with_reducible (first | refine wq1 ?_ | refine wq3 ?_ | refine wq4 ?_ | refine wq7 ?_ | refine wq8 ?_ | refine wq9 ?_ | refine wE ?_ | refine wS ?_) | ((with_reducible refine hK _ ?_); clear hK K) | ((with_reducible refine PWp.condI ?_); refine ⟨_, rfl, fun hg => ?_, fun hg => ?_⟩ <;> first | (exact absurd hg (by decide)) | ((try simp only [Bool.not_true, Bool.not_false] at hg); (try simp only [hg]); (try simp only [push_cast] at hg); (try exact absurd trivial hg); (try (exfalso; omega)))) | ((with_reducible refine pops_plain fun K hK => popO_build ?_); refine ⟨_, rfl, _, rfl, ?_⟩; simp (disch := omega) only [push_cast, seval, hx, pU8]) | ((with_reducible refine pops_plain fun K hK => ?_); simp (disch := omega) only [push_cast, seval, hx, pU8]) | ((with_reducible refine pops_guard ?_); refine ⟨_, rfl, fun K hK => ⟨_, rfl, fun hg => ?_, fun hg => ?_⟩⟩ <;> first | (exact absurd hg (by decide)) | ((try simp only [Bool.not_true, Bool.not_false] at hg); (try simp only [hg]); (try simp only [push_cast] at hg); (try exact absurd trivial hg); (try (exfalso; omega)); (try simp (disch := omega) only [push_cast, seval, hx, pU8]))) | ((with_reducible refine And.intro ?_ ?_); omega))
    · (refine ⟨(k + 1, _), by ((try dsimp only); omega), ?_, by exact fitA []⟩)
      exact hlt
    · ((first | with_reducible (first | refine pendX1 ⟨code, 0, h, by omega, hc⟩ [?_] ?_ ?_ ?_ ?_ ?_ ?_ | refine pendX2 ⟨code, 0, h, by omega, hc⟩ [?_] ?_ ?_ ?_ ?_ ?_ ?_ | refine pendX3 ⟨code, 0, h, by omega, hc⟩ [?_] ?_ ?_ ?_ ?_ ?_ ?_ | refine pendX0 ⟨code, 0, h, by omega, hc⟩ [?_] ?_ ?_ ?_ ?_ ?_ ?_) | refine pendXG ⟨code, 0, h, by omega, hc⟩ [?_] ?_ ?_ ?_ ?_ ?_ ?_); (try (any_goals ((with_reducible show ∃ _ : List PV, _); (apply Exists.intro; apply And.intro; (· repeat' (first | exact presults_nil | apply presults_tmp | (apply presults_agg; (· exact rfl); (· exact rfl); (· exact rfl); (· exact rfl); (· exact rfl); (· first | exact Nat.le_refl _ | decide | simp)) | (apply presults_one; (· exact rfl); (· exact rfl); (· exact rfl); (· exact rfl); (· exact rfl)))))))); (any_goals ((with_reducible show _ ∨ _); (first | exact Or.inl rfl | exact Or.inr rfl))); (any_goals ((with_reducible show (_ : PV) = _); ((try simp (disch := omega) only [push_cast, seval]); (repeat' (first | exact trivial | exact rfl | refine And.intro ?_ ?_ | omega))))); (any_goals ((with_reducible show blkR _ _ _ _ _); ((try simp (disch := omega) only [push_cast, seval]); (repeat' (first | exact trivial | exact rfl | refine And.intro ?_ ?_ | omega))))); (any_goals ((with_reducible show nodupR _ = true); exact rfl)); (any_goals ((with_reducible show preR _ _); (first | exact trivial | exact ⟨rfl, trivial⟩ | exact ⟨rfl, rfl, trivial⟩ | exact ⟨rfl, rfl, rfl, trivial⟩))))
      trivial
  obtain rfl : k = code.length := by omega
  repeat' (first | with_reducible (first | refine wA ?_ | refine wC ?_) | with_reducible (first | refine wq1 ?_ | refine wq3 ?_ | refine wq7 ?_ | refine wq8 ?_ | refine wq9 ?_ | refine wE ?_) | ((with_reducible refine hK _ ?_); clear hK K) | ((with_reducible refine PWp.condI ?_); refine ⟨_, rfl, fun hg => ?_, fun hg => ?_⟩ <;> first | (exact absurd hg (by decide)) | ((try simp only [Bool.not_true, Bool.not_false] at hg); (try simp only [hg]); (try simp only [push_cast] at hg); (try exact absurd trivial hg); (try (exfalso; omega)))) | ((with_reducible refine pops_plain fun K hK => popO_build ?_); refine ⟨_, rfl, _, rfl, ?_⟩; simp (disch := omega) only [push_cast, seval]) | ((with_reducible refine pops_plain fun K hK => ?_); simp (disch := omega) only [push_cast, seval]) | ((with_reducible refine pops_guard ?_); refine ⟨_, rfl, fun K hK => ⟨_, rfl, fun hg => ?_, fun hg => ?_⟩⟩ <;> first | (exact absurd hg (by decide)) | ((try simp only [Bool.not_true, Bool.not_false] at hg); (try simp only [hg]); (try simp only [push_cast] at hg); (try exact absurd trivial hg); (try (exfalso; omega)); (try simp (disch := omega) only [push_cast, seval]))))
  ((first | with_reducible (first | refine pendX1 ⟨code, 0, h, by omega, hc⟩ [?_] ?_ ?_ ?_ ?_ ?_ ?_ | refine pendX2 ⟨code, 0, h, by omega, hc⟩ [?_] ?_ ?_ ?_ ?_ ?_ ?_ | refine pendX3 ⟨code, 0, h, by omega, hc⟩ [?_] ?_ ?_ ?_ ?_ ?_ ?_ | refine pendX0 ⟨code, 0, h, by omega, hc⟩ [?_] ?_ ?_ ?_ ?_ ?_ ?_) | refine pendXG ⟨code, 0, h, by omega, hc⟩ [?_] ?_ ?_ ?_ ?_ ?_ ?_); (try (any_goals ((with_reducible show ∃ _ : List PV, _); (apply Exists.intro; apply And.intro; (· repeat' (first | exact presults_nil | apply presults_tmp | (apply presults_agg; (· exact rfl); (· exact rfl); (· exact rfl); (· exact rfl); (· exact rfl); (· first | exact Nat.le_refl _ | decide | simp)) | (apply presults_one; (· exact rfl); (· exact rfl); (· exact rfl); (· exact rfl); (· exact rfl)))))))); (any_goals ((with_reducible show _ ∨ _); (first | exact Or.inl rfl | exact Or.inr rfl))); (any_goals ((with_reducible show (_ : PV) = _); ((try simp (disch := omega) only [push_cast, seval]); (repeat' (first | exact trivial | exact rfl | refine And.intro ?_ ?_ | omega))))); (any_goals ((with_reducible show blkR _ _ _ _ _); ((try simp (disch := omega) only [push_cast, seval]); (repeat' (first | exact trivial | exact rfl | refine And.intro ?_ ?_ | omega))))); (any_goals ((with_reducible show nodupR _ = true); exact rfl)); (any_goals ((with_reducible show preR _ _); (first | exact trivial | exact ⟨rfl, trivial⟩ | exact ⟨rfl, rfl, trivial⟩ | exact ⟨rfl, rfl, rfl, trivial⟩))))
  trivial
set_option maxHeartbeats 4000000 in
theorem sL1Byte_p (c : Cur) : PCalls Try.prog 37 [.ptr 0 0] [some (.box (pCur c))] (RX (α := Int × Cur) (fun x => .val (.int .i64 x.1)) (fun x => [some (.box (pCur x.2))]) fun | (x, _) => 0 ≤ x ∧ x < 256) := by
  obtain ⟨bs, i, h, ok, len⟩ := c
  by_cases hi : i < bs.length
  · obtain ⟨b, hb⟩ : ∃ b, bs[i]? = some b := ⟨_, List.getElem?_eq_getElem hi⟩
    have hb8 := b.toNat_lt
    refine pcalls_ofR okP Try.func37 rfl ?_
    simp only [Try.f37, List.length_cons, List.length_nil, Nat.reduceAdd, Nat.reduceSub, List.replicate_succ, List.replicate_zero, List.cons_append, List.nil_append, List.length_map]
    repeat' (first | with_reducible (first | refine wA ?_ | refine wC ?_) | with_reducible refine PWp.draw (id := 2) okP true [0, 1, 2, 3, 4, 5, 6, 7, 8, 9, 10, 11, 12] (by kernel_rfl) ?_ | with_reducible refine PWp.draw (id := 3) okP true [0, 1, 2, 3, 4, 5, 6, 7, 8, 9] (by kernel_rfl) ?_ | with_reducible refine PWp.draw (id := 4) okP true [0, 1, 2, 3, 4, 5, 6, 7, 8, 9, 10, 11, 12, 13, 14] (by kernel_rfl) ?_ | with_reducible (first | refine wq1 ?_ | refine wq2 ?_ | refine wq3 ?_ | refine wq9 ?_) | ((with_reducible refine hK _ ?_); clear hK K) | ((with_reducible refine PWp.condI ?_); refine ⟨_, rfl, fun hg => ?_, fun hg => ?_⟩ <;> first | (exact absurd hg (by decide)) | ((try simp only [Bool.not_true, Bool.not_false] at hg); (try simp only [hg]); (try simp only [push_cast] at hg); (try exact absurd trivial hg); (try (exfalso; omega)))) | ((with_reducible refine pany_I ?_); refine ⟨_, rfl, fun K hK => ?_⟩) | ((with_reducible refine pops_plain fun K hK => ?_); simp (disch := omega) only [push_cast, seval, pCur, hb, pU8]) | ((((with_reducible refine pD_y ?_ ?_); exact rfl)); simp (disch := omega) only [push_cast, seval, pCur, hb, pU8]) | ((with_reducible refine And.intro ?_ ?_); omega))
    ((first | with_reducible (first | refine pendX1 (?_, ⟨bs, i + 1, ?_, by omega, by omega⟩) [0] ?_ ?_ ?_ ?_ ?_ ?_ | refine pendX2 (?_, ⟨bs, i + 1, ?_, by omega, by omega⟩) [0] ?_ ?_ ?_ ?_ ?_ ?_ | refine pendX3 (?_, ⟨bs, i + 1, ?_, by omega, by omega⟩) [0] ?_ ?_ ?_ ?_ ?_ ?_ | refine pendX0 (?_, ⟨bs, i + 1, ?_, by omega, by omega⟩) [0] ?_ ?_ ?_ ?_ ?_ ?_) | refine pendXG (?_, ⟨bs, i + 1, ?_, by omega, by omega⟩) [0] ?_ ?_ ?_ ?_ ?_ ?_); (try (any_goals ((with_reducible show ∃ _ : List PV, _); (apply Exists.intro; apply And.intro; (· repeat' (first | exact presults_nil | apply presults_tmp | (apply presults_agg; (· exact rfl); (· exact rfl); (· exact rfl); (· exact rfl); (· exact rfl); (· first | exact Nat.le_refl _ | decide | simp)) | (apply presults_one; (· exact rfl); (· exact rfl); (· exact rfl); (· exact rfl); (· exact rfl)))))))); (any_goals ((with_reducible show _ ∨ _); (first | exact Or.inl rfl | exact Or.inr rfl))); (any_goals ((with_reducible show (_ : PV) = _); ((try simp (disch := omega) only [push_cast, seval]); (repeat' (first | exact trivial | exact rfl | refine And.intro ?_ ?_ | omega))))); (any_goals ((with_reducible show blkR _ _ _ _ _); ((try simp (disch := omega) only [push_cast, seval]); (repeat' (first | exact trivial | exact rfl | refine And.intro ?_ ?_ | omega))))); (any_goals ((with_reducible show nodupR _ = true); exact rfl)); (any_goals ((with_reducible show preR _ _); (first | exact trivial | exact ⟨rfl, trivial⟩ | exact ⟨rfl, rfl, trivial⟩ | exact ⟨rfl, rfl, rfl, trivial⟩))))
    exact and255_bd _
  refine pcalls_ofR okP Try.func37 rfl ?_
  simp only [Try.f37, List.length_cons, List.length_nil, Nat.reduceAdd, Nat.reduceSub, List.replicate_succ, List.replicate_zero, List.cons_append, List.nil_append, List.length_map]
  repeat' (first | with_reducible (first | refine wA ?_ | refine wC ?_) | with_reducible refine PWp.draw (id := 2) okP true [0, 1, 2, 3, 4, 5, 6, 7, 8, 9, 10, 11, 12] (by kernel_rfl) ?_ | with_reducible refine PWp.draw (id := 3) okP true [0, 1, 2, 3, 4, 5, 6, 7, 8, 9] (by kernel_rfl) ?_ | with_reducible (first | refine wq1 ?_ | refine wq2 ?_ | refine wq3 ?_ | refine wq9 ?_ | refine wS ?_) | ((with_reducible refine hK _ ?_); clear hK K) | ((with_reducible refine PWp.condI ?_); refine ⟨_, rfl, fun hg => ?_, fun hg => ?_⟩ <;> first | (exact absurd hg (by decide)) | ((try simp only [Bool.not_true, Bool.not_false] at hg); (try simp only [hg]); (try simp only [push_cast] at hg); (try exact absurd trivial hg); (try (exfalso; omega)))) | ((with_reducible refine pany_I ?_); refine ⟨_, rfl, fun K hK => ?_⟩) | ((with_reducible refine pops_plain fun K hK => ?_); simp (disch := omega) only [push_cast, seval, pCur, pU8]) | ((((with_reducible refine pD_y ?_ ?_); exact rfl)); simp (disch := omega) only [push_cast, seval, pCur, pU8]))
  ((first | with_reducible (first | refine pendX1 (?_, ⟨bs, i, ?_, by omega, by omega⟩) [0] ?_ ?_ ?_ ?_ ?_ ?_ | refine pendX2 (?_, ⟨bs, i, ?_, by omega, by omega⟩) [0] ?_ ?_ ?_ ?_ ?_ ?_ | refine pendX3 (?_, ⟨bs, i, ?_, by omega, by omega⟩) [0] ?_ ?_ ?_ ?_ ?_ ?_ | refine pendX0 (?_, ⟨bs, i, ?_, by omega, by omega⟩) [0] ?_ ?_ ?_ ?_ ?_ ?_) | refine pendXG (?_, ⟨bs, i, ?_, by omega, by omega⟩) [0] ?_ ?_ ?_ ?_ ?_ ?_); (try (any_goals ((with_reducible show ∃ _ : List PV, _); (apply Exists.intro; apply And.intro; (· repeat' (first | exact presults_nil | apply presults_tmp | (apply presults_agg; (· exact rfl); (· exact rfl); (· exact rfl); (· exact rfl); (· exact rfl); (· first | exact Nat.le_refl _ | decide | simp)) | (apply presults_one; (· exact rfl); (· exact rfl); (· exact rfl); (· exact rfl); (· exact rfl)))))))); (any_goals ((with_reducible show _ ∨ _); (first | exact Or.inl rfl | exact Or.inr rfl))); (any_goals ((with_reducible show (_ : PV) = _); ((try simp (disch := omega) only [push_cast, seval]); (repeat' (first | exact trivial | exact rfl | refine And.intro ?_ ?_ | omega))))); (any_goals ((with_reducible show blkR _ _ _ _ _); ((try simp (disch := omega) only [push_cast, seval]); (repeat' (first | exact trivial | exact rfl | refine And.intro ?_ ?_ | omega))))); (any_goals ((with_reducible show nodupR _ = true); exact rfl)); (any_goals ((with_reducible show preR _ _); (first | exact trivial | exact ⟨rfl, trivial⟩ | exact ⟨rfl, rfl, trivial⟩ | exact ⟨rfl, rfl, rfl, trivial⟩))))
  exact and255_bd _
set_option maxHeartbeats 4000000 in
theorem sL1Below_p (c : Cur) (n : Int) (hn : n ≤ 9223372036854775807) : PCalls Try.prog 22 [.ptr 0 0, .val (.int .i64 n)] [some (.box (pCur c))] (RX (α := Int × Cur) (fun x => .val (.int .i64 x.1)) (fun x => [some (.box (pCur x.2))]) fun | (x, _) => 0 ≤ x ∧ (0 < n → x < n) ∧ (n ≤ 0 → x = 0)) := by
  refine pcalls_ofR okP Try.func22 rfl ?_
  simp only [Try.f22, List.length_cons, List.length_nil, Nat.reduceAdd, Nat.reduceSub, List.replicate_succ, List.replicate_zero, List.cons_append, List.nil_append, List.length_map]
  repeat' (first | with_reducible (first | refine wA ?_ | refine wC ?_) | with_reducible (first | refine wq1 ?_ | refine wq3 ?_ | refine wq5 ?_ | refine wq9 ?_ | refine wS ?_) | ((with_reducible refine hK _ ?_); clear hK K) | ((with_reducible refine PWp.condI ?_); refine ⟨_, rfl, fun hg => ?_, fun hg => ?_⟩ <;> first | (exact absurd hg (by decide)) | ((try simp only [Bool.not_true, Bool.not_false] at hg); (try simp only [hg]); (try simp only [push_cast] at hg); (try exact absurd trivial hg); (try (exfalso; omega)))) | ((with_reducible refine pops_plain fun K hK => ?_); simp (disch := omega) only [push_cast, seval]) | ((with_reducible show pcall _ _ _ _ _ _); ((refine pcall_XG (cf Try.func37) [?_] ?_ ?_ ?_ (sL1Byte_p ?_) ?_; (any_goals ((with_reducible show (_ : List PV) = renL _ _ _); ((try simp (disch := omega) only [push_cast, seval]); (repeat' (first | exact trivial | exact rfl | refine And.intro ?_ ?_ | omega))))); (any_goals ((with_reducible show blkE _ _ _ _ _); (repeat' (first | exact trivial | refine And.intro ?_ ?_ | exact ⟨_, rfl⟩ | (simp (disch := omega) only [push_cast, seval]; done) | exact rfl)))); (any_goals ((with_reducible show nodupR _ = true); exact rfl)); rotate_right 1; rintro ⟨x, c⟩ ⟨hx1, hx2⟩; (rotate_left 1; (all_goals (try (first | omega | exact (show _ = _ by assumption)))); rotate_right 1))); (try simp (disch := omega) only [push_cast, seval])))
  · ((first | with_reducible (first | refine pendX1 (?_, ?_) [0] ?_ ?_ ?_ ?_ ?_ ?_ | refine pendX2 (?_, ?_) [0] ?_ ?_ ?_ ?_ ?_ ?_ | refine pendX3 (?_, ?_) [0] ?_ ?_ ?_ ?_ ?_ ?_ | refine pendX0 (?_, ?_) [0] ?_ ?_ ?_ ?_ ?_ ?_) | refine pendXG (?_, ?_) [0] ?_ ?_ ?_ ?_ ?_ ?_); (try (any_goals ((with_reducible show ∃ _ : List PV, _); (apply Exists.intro; apply And.intro; (· repeat' (first | exact presults_nil | apply presults_tmp | (apply presults_agg; (· exact rfl); (· exact rfl); (· exact rfl); (· exact rfl); (· exact rfl); (· first | exact Nat.le_refl _ | decide | simp)) | (apply presults_one; (· exact rfl); (· exact rfl); (· exact rfl); (· exact rfl); (· exact rfl)))))))); (any_goals ((with_reducible show _ ∨ _); (first | exact Or.inl rfl | exact Or.inr rfl))); (any_goals ((with_reducible show (_ : PV) = _); ((try simp (disch := omega) only [push_cast, seval]); (repeat' (first | exact trivial | exact rfl | refine And.intro ?_ ?_ | omega))))); (any_goals ((with_reducible show blkR _ _ _ _ _); ((try simp (disch := omega) only [push_cast, seval]); (repeat' (first | exact trivial | exact rfl | refine And.intro ?_ ?_ | omega))))); (any_goals ((with_reducible show nodupR _ = true); exact rfl)); (any_goals ((with_reducible show preR _ _); (first | exact trivial | exact ⟨rfl, trivial⟩ | exact ⟨rfl, rfl, trivial⟩ | exact ⟨rfl, rfl, rfl, trivial⟩))))
    exact ⟨Int.le_refl _, fun h => by omega, fun _ => rfl⟩
  · have := Int.emod_lt_of_pos x (show 0 < n by omega)
    have := Int.emod_nonneg x (show n ≠ 0 by omega)
    ((first | with_reducible (first | refine pendX1 (?_, ?_) [0] ?_ ?_ ?_ ?_ ?_ ?_ | refine pendX2 (?_, ?_) [0] ?_ ?_ ?_ ?_ ?_ ?_ | refine pendX3 (?_, ?_) [0] ?_ ?_ ?_ ?_ ?_ ?_ | refine pendX0 (?_, ?_) [0] ?_ ?_ ?_ ?_ ?_ ?_) | refine pendXG (?_, ?_) [0] ?_ ?_ ?_ ?_ ?_ ?_); (try (any_goals ((with_reducible show ∃ _ : List PV, _); (apply Exists.intro; apply And.intro; (· repeat' (first | exact presults_nil | apply presults_tmp | (apply presults_agg; (· exact rfl); (· exact rfl); (· exact rfl); (· exact rfl); (· exact rfl); (· first | exact Nat.le_refl _ | decide | simp)) | (apply presults_one; (· exact rfl); (· exact rfl); (· exact rfl); (· exact rfl); (· exact rfl)))))))); (any_goals ((with_reducible show _ ∨ _); (first | exact Or.inl rfl | exact Or.inr rfl))); (any_goals ((with_reducible show (_ : PV) = _); ((try simp (disch := omega) only [push_cast, seval]); (repeat' (first | exact trivial | exact rfl | refine And.intro ?_ ?_ | omega))))); (any_goals ((with_reducible show blkR _ _ _ _ _); ((try simp (disch := omega) only [push_cast, seval]); (repeat' (first | exact trivial | exact rfl | refine And.intro ?_ ?_ | omega))))); (any_goals ((with_reducible show nodupR _ = true); exact rfl)); (any_goals ((with_reducible show preR _ _); (first | exact trivial | exact ⟨rfl, trivial⟩ | exact ⟨rfl, rfl, trivial⟩ | exact ⟨rfl, rfl, rfl, trivial⟩))))
    exact ⟨by omega, fun _ => by omega, fun _ => by omega⟩
  · ((first | with_reducible (first | refine pendX1 (?_, ?_) [0] ?_ ?_ ?_ ?_ ?_ ?_ | refine pendX2 (?_, ?_) [0] ?_ ?_ ?_ ?_ ?_ ?_ | refine pendX3 (?_, ?_) [0] ?_ ?_ ?_ ?_ ?_ ?_ | refine pendX0 (?_, ?_) [0] ?_ ?_ ?_ ?_ ?_ ?_) | refine pendXG (?_, ?_) [0] ?_ ?_ ?_ ?_ ?_ ?_); (try (any_goals ((with_reducible show ∃ _ : List PV, _); (apply Exists.intro; apply And.intro; (· repeat' (first | exact presults_nil | apply presults_tmp | (apply presults_agg; (· exact rfl); (· exact rfl); (· exact rfl); (· exact rfl); (· exact rfl); (· first | exact Nat.le_refl _ | decide | simp)) | (apply presults_one; (· exact rfl); (· exact rfl); (· exact rfl); (· exact rfl); (· exact rfl)))))))); (any_goals ((with_reducible show _ ∨ _); (first | exact Or.inl rfl | exact Or.inr rfl))); (any_goals ((with_reducible show (_ : PV) = _); ((try simp (disch := omega) only [push_cast, seval]); (repeat' (first | exact trivial | exact rfl | refine And.intro ?_ ?_ | omega))))); (any_goals ((with_reducible show blkR _ _ _ _ _); ((try simp (disch := omega) only [push_cast, seval]); (repeat' (first | exact trivial | exact rfl | refine And.intro ?_ ?_ | omega))))); (any_goals ((with_reducible show nodupR _ = true); exact rfl)); (any_goals ((with_reducible show preR _ _); (first | exact trivial | exact ⟨rfl, trivial⟩ | exact ⟨rfl, rfl, trivial⟩ | exact ⟨rfl, rfl, rfl, trivial⟩))))
    exact ⟨Int.emod_nonneg _ (by omega), fun _ => Int.emod_lt_of_pos _ (by omega), fun _ => by omega⟩
end Go.Proofs.Ytcbknmnlgoeniaa
namespace Go.Proofs.Ytcbknmnlgoeniaa
set_option linter.unusedSimpArgs false
set_option linter.unusedVariables false
open Go.RowKit
set_option maxRecDepth 100000
theorem sDo_p (x : GNet) (a : GNetAct) (hv : NInv x) : PCalls Try.prog 35 [.agg [.own 0, .own 1], .agg (pNetAct a)] (hNet x) (RH (.tup [.agg [.own 2, .own 3], .val (.bool (netDo x a).2)]) (hNetM (netDo x a).1)) := by
  by_cases h4 : a.fKind = 4
  · exact sDo_lie x a hv h4
  cases c1 : inB a.fA 1 3 with
  | false => exact sDo_out x a h4 c1
  | true =>
  by_cases h1 : a.fKind = 1
  · exact sDo_start x a hv h1 c1
  by_cases h2 : a.fKind = 2
  · exact sDo_give x a hv h2 c1
  by_cases h3 : a.fKind = 3
  · exact sDo_time x a hv h3 c1
  exact sDo_none x a hv ⟨h1, h2, h3, h4⟩ c1
theorem sL1Once_p (c : Cur) (n : Int) (hn : n ≤ 9223372036854775807) : PCalls Try.prog 21 [.ptr 0 0, .val (.int .i64 n)] [some (.box (pCur c))] (RX (α := Bool × Cur) (fun x => .val (.bool x.1)) (fun x => [some (.box (pCur x.2))]) fun _ => True) := by
  refine pcalls_ofR okP Try.func21 rfl ?_
  simp only [Try.f21, List.length_cons, List.length_nil, Nat.reduceAdd, Nat.reduceSub, List.replicate_succ, List.replicate_zero, List.cons_append, List.nil_append, List.length_map]
  repeat' (first | with_reducible (first | refine wA ?_ | refine wC ?_) | with_reducible (first | refine wq1 ?_ | refine wq3 ?_ | refine wq9 ?_) | ((with_reducible refine hK _ ?_); clear hK K) | ((with_reducible refine pops_plain fun K hK => ?_); simp (disch := omega) only [push_cast, seval]) | ((with_reducible show pcall _ _ _ _ _ _); ((refine pcall_XG (cf Try.func22) [?_] ?_ ?_ ?_ (sL1Below_p ?_ ?_ ?_) ?_; (any_goals ((with_reducible show (_ : List PV) = renL _ _ _); ((try simp (disch := omega) only [push_cast, seval]); (repeat' (first | exact trivial | exact rfl | refine And.intro ?_ ?_ | omega))))); (any_goals ((with_reducible show blkE _ _ _ _ _); (repeat' (first | exact trivial | refine And.intro ?_ ?_ | exact ⟨_, rfl⟩ | (simp (disch := omega) only [push_cast, seval]; done) | exact rfl)))); (any_goals ((with_reducible show nodupR _ = true); exact rfl)); rotate_right 1; rintro ⟨x, c⟩ ⟨hx1, hx2, hx3⟩; (rotate_left 1; (all_goals (try (first | omega | exact (show _ = _ by assumption)))); rotate_right 1))); (try simp (disch := omega) only [push_cast, seval])))
  ((first | with_reducible (first | refine pendX1 (?_, ?_) [0] ?_ ?_ ?_ ?_ ?_ ?_ | refine pendX2 (?_, ?_) [0] ?_ ?_ ?_ ?_ ?_ ?_ | refine pendX3 (?_, ?_) [0] ?_ ?_ ?_ ?_ ?_ ?_ | refine pendX0 (?_, ?_) [0] ?_ ?_ ?_ ?_ ?_ ?_) | refine pendXG (?_, ?_) [0] ?_ ?_ ?_ ?_ ?_ ?_); (try (any_goals ((with_reducible show ∃ _ : List PV, _); (apply Exists.intro; apply And.intro; (· repeat' (first | exact presults_nil | apply presults_tmp | (apply presults_agg; (· exact rfl); (· exact rfl); (· exact rfl); (· exact rfl); (· exact rfl); (· first | exact Nat.le_refl _ | decide | simp)) | (apply presults_one; (· exact rfl); (· exact rfl); (· exact rfl); (· exact rfl); (· exact rfl)))))))); (any_goals ((with_reducible show _ ∨ _); (first | exact Or.inl rfl | exact Or.inr rfl))); (any_goals ((with_reducible show (_ : PV) = _); ((try simp (disch := omega) only [push_cast, seval]); (repeat' (first | exact trivial | exact rfl | refine And.intro ?_ ?_ | omega))))); (any_goals ((with_reducible show blkR _ _ _ _ _); ((try simp (disch := omega) only [push_cast, seval]); (repeat' (first | exact trivial | exact rfl | refine And.intro ?_ ?_ | omega))))); (any_goals ((with_reducible show nodupR _ = true); exact rfl)); (any_goals ((with_reducible show preR _ _); (first | exact trivial | exact ⟨rfl, trivial⟩ | exact ⟨rfl, rfl, trivial⟩ | exact ⟨rfl, rfl, rfl, trivial⟩))))
  trivial
theorem sL1Size_p (code : List UInt8) (hc : code.length ≤ 1048576) : PCalls Try.prog 20 [.sl 1 (code.map pU8), .val (.int .i64 110)] [] (RX (α := Int) (fun n => .val (.int .i64 n)) (fun _ => []) fun n => n ≤ 110 ∧ True) := by
  refine pcalls_ofR okP Try.func20 rfl ?_
  simp only [Try.f20, List.length_cons, List.length_nil, Nat.reduceAdd, Nat.reduceSub, List.replicate_succ, List.replicate_zero, List.cons_append, List.nil_append, List.length_map]
  repeat' (first | with_reducible (first | refine wA ?_ | refine wC ?_) | with_reducible (first | refine wq1 ?_ | refine wq3 ?_ | refine wq5 ?_ | refine wq9 ?_ | refine wS ?_) | ((with_reducible refine hK _ ?_); clear hK K) | ((with_reducible refine PWp.condI ?_); refine ⟨_, rfl, fun hg => ?_, fun hg => ?_⟩ <;> first | (exact absurd hg (by decide)) | ((try simp only [Bool.not_true, Bool.not_false] at hg); (try simp only [hg]); (try simp only [push_cast] at hg); (try exact absurd trivial hg); (try (exfalso; omega)))) | ((with_reducible refine pops_plain fun K hK => ?_); simp (disch := omega) only [push_cast, seval]))
  · ((first | with_reducible (first | refine pendX1 ?_ [] ?_ ?_ ?_ ?_ ?_ ?_ | refine pendX2 ?_ [] ?_ ?_ ?_ ?_ ?_ ?_ | refine pendX3 ?_ [] ?_ ?_ ?_ ?_ ?_ ?_ | refine pendX0 ?_ [] ?_ ?_ ?_ ?_ ?_ ?_) | refine pendXG ?_ [] ?_ ?_ ?_ ?_ ?_ ?_); (try (any_goals ((with_reducible show ∃ _ : List PV, _); (apply Exists.intro; apply And.intro; (· repeat' (first | exact presults_nil | apply presults_tmp | (apply presults_agg; (· exact rfl); (· exact rfl); (· exact rfl); (· exact rfl); (· exact rfl); (· first | exact Nat.le_refl _ | decide | simp)) | (apply presults_one; (· exact rfl); (· exact rfl); (· exact rfl); (· exact rfl); (· exact rfl)))))))); (any_goals ((with_reducible show _ ∨ _); (first | exact Or.inl rfl | exact Or.inr rfl))); (any_goals ((with_reducible show (_ : PV) = _); ((try simp (disch := omega) only [push_cast, seval]); (repeat' (first | exact trivial | exact rfl | refine And.intro ?_ ?_ | omega))))); (any_goals ((with_reducible show blkR _ _ _ _ _); ((try simp (disch := omega) only [push_cast, seval]); (repeat' (first | exact trivial | exact rfl | refine And.intro ?_ ?_ | omega))))); (any_goals ((with_reducible show nodupR _ = true); exact rfl)); (any_goals ((with_reducible show preR _ _); (first | exact trivial | exact ⟨rfl, trivial⟩ | exact ⟨rfl, rfl, trivial⟩ | exact ⟨rfl, rfl, rfl, trivial⟩))))
    exact ⟨by omega, trivial⟩
  · ((first | with_reducible (first | refine pendX1 ?_ [] ?_ ?_ ?_ ?_ ?_ ?_ | refine pendX2 ?_ [] ?_ ?_ ?_ ?_ ?_ ?_ | refine pendX3 ?_ [] ?_ ?_ ?_ ?_ ?_ ?_ | refine pendX0 ?_ [] ?_ ?_ ?_ ?_ ?_ ?_) | refine pendXG ?_ [] ?_ ?_ ?_ ?_ ?_ ?_); (try (any_goals ((with_reducible show ∃ _ : List PV, _); (apply Exists.intro; apply And.intro; (· repeat' (first | exact presults_nil | apply presults_tmp | (apply presults_agg; (· exact rfl); (· exact rfl); (· exact rfl); (· exact rfl); (· exact rfl); (· first | exact Nat.le_refl _ | decide | simp)) | (apply presults_one; (· exact rfl); (· exact rfl); (· exact rfl); (· exact rfl); (· exact rfl)))))))); (any_goals ((with_reducible show _ ∨ _); (first | exact Or.inl rfl | exact Or.inr rfl))); (any_goals ((with_reducible show (_ : PV) = _); ((try simp (disch := omega) only [push_cast, seval]); (repeat' (first | exact trivial | exact rfl | refine And.intro ?_ ?_ | omega))))); (any_goals ((with_reducible show blkR _ _ _ _ _); ((try simp (disch := omega) only [push_cast, seval]); (repeat' (first | exact trivial | exact rfl | refine And.intro ?_ ?_ | omega))))); (any_goals ((with_reducible show nodupR _ = true); exact rfl)); (any_goals ((with_reducible show preR _ _); (first | exact trivial | exact ⟨rfl, trivial⟩ | exact ⟨rfl, rfl, trivial⟩ | exact ⟨rfl, rfl, rfl, trivial⟩))))
    exact ⟨by omega, trivial⟩
theorem int_get {xs : List Int} {n : Nat} (h : n < xs.length) : xs[n]? = some (xs.getD n 0) := by
  rw [List.getD_eq_getElem?_getD, List.getElem?_eq_getElem h]
  rfl
theorem sPickN_p (c : Cur) (xs : List Int) (h1 : 1 ≤ xs.length) (h2 : xs.length ≤ 1000000) : PCalls Try.prog 79 [.ptr 0 0, .own 1] [some (.box (pCur c)), some (.row 3 1 (xs.map pInt))] (RX (α := Int × Cur) (fun x => .val (.int .i64 x.1)) (fun x => [some (.box (pCur x.2)), some (.row 3 1 (xs.map pInt))]) fun _ => True) := by
  refine pcalls_ofR okP Try.func79 rfl ?_
  simp only [Try.f79, List.length_cons, List.length_nil, Nat.reduceAdd, Nat.reduceSub, List.replicate_succ, List.replicate_zero, List.cons_append, List.nil_append, List.length_map]
  repeat' (first | with_reducible (first | refine wA ?_ | refine wC ?_) | with_reducible (first | refine wq1 ?_ | refine wq3 ?_ | refine wq9 ?_) | ((with_reducible refine hK _ ?_); clear hK K) | ((with_reducible refine pops_plain fun K hK => ?_); simp (disch := omega) only [push_cast, seval, int_get]) | ((with_reducible show pcall _ _ _ _ _ _); ((refine pcall_XG (cf Try.func22) [?_] ?_ ?_ ?_ (sL1Below_p ?_ ?_ ?_) ?_; (any_goals ((with_reducible show (_ : List PV) = renL _ _ _); ((try simp (disch := omega) only [push_cast, seval]); (repeat' (first | exact trivial | exact rfl | refine And.intro ?_ ?_ | omega))))); (any_goals ((with_reducible show blkE _ _ _ _ _); (repeat' (first | exact trivial | refine And.intro ?_ ?_ | exact ⟨_, rfl⟩ | (simp (disch := omega) only [push_cast, seval]; done) | exact rfl)))); (any_goals ((with_reducible show nodupR _ = true); exact rfl)); rotate_right 1; rintro ⟨x, c⟩ ⟨hx1, hx2, hx3⟩; (rotate_left 1; (all_goals (try (first | omega | exact (show _ = _ by assumption)))); rotate_right 1))); (try simp (disch := omega) only [push_cast, seval, int_get])) | ((with_reducible refine And.intro ?_ ?_); omega))
  ((first | with_reducible (first | refine pendX1 (?_, ?_) [0, 1] ?_ ?_ ?_ ?_ ?_ ?_ | refine pendX2 (?_, ?_) [0, 1] ?_ ?_ ?_ ?_ ?_ ?_ | refine pendX3 (?_, ?_) [0, 1] ?_ ?_ ?_ ?_ ?_ ?_ | refine pendX0 (?_, ?_) [0, 1] ?_ ?_ ?_ ?_ ?_ ?_) | refine pendXG (?_, ?_) [0, 1] ?_ ?_ ?_ ?_ ?_ ?_); (try (any_goals ((with_reducible show ∃ _ : List PV, _); (apply Exists.intro; apply And.intro; (· repeat' (first | exact presults_nil | apply presults_tmp | (apply presults_agg; (· exact rfl); (· exact rfl); (· exact rfl); (· exact rfl); (· exact rfl); (· first | exact Nat.le_refl _ | decide | simp)) | (apply presults_one; (· exact rfl); (· exact rfl); (· exact rfl); (· exact rfl); (· exact rfl)))))))); (any_goals ((with_reducible show _ ∨ _); (first | exact Or.inl rfl | exact Or.inr rfl))); (any_goals ((with_reducible show (_ : PV) = _); ((try simp (disch := omega) only [push_cast, seval]); (repeat' (first | exact trivial | exact rfl | refine And.intro ?_ ?_ | omega))))); (any_goals ((with_reducible show blkR _ _ _ _ _); ((try simp (disch := omega) only [push_cast, seval]); (repeat' (first | exact trivial | exact rfl | refine And.intro ?_ ?_ | omega))))); (any_goals ((with_reducible show nodupR _ = true); exact rfl)); (any_goals ((with_reducible show preR _ _); (first | exact trivial | exact ⟨rfl, trivial⟩ | exact ⟨rfl, rfl, trivial⟩ | exact ⟨rfl, rfl, rfl, trivial⟩))))
  trivial
theorem pickM6 (c : Cur) : PCalls Try.prog 79 [.ptr 0 0, .own 1] [some (.box (pCur c)), some (.row 3 1 [[.val (.int .i64 11)], [.val (.int .i64 12)], [.val (.int .i64 12)], [.val (.int .i64 11)], [.val (.int .i64 14)], [.val (.int .i64 0)]])] (RX (α := Int × Cur) (fun x => .val (.int .i64 x.1)) (fun x => [some (.box (pCur x.2)), some (.row 3 1 [[.val (.int .i64 11)], [.val (.int .i64 12)], [.val (.int .i64 12)], [.val (.int .i64 11)], [.val (.int .i64 14)], [.val (.int .i64 0)]])]) fun _ => True) := sPickN_p c [11, 12, 12, 11, 14, 0] (by decide) (by decide)
theorem pickR3 (c : Cur) : PCalls Try.prog 79 [.ptr 0 0, .own 1] [some (.box (pCur c)), some (.row 3 1 [[.val (.int .i64 (-1))], [.val (.int .i64 11)], [.val (.int .i64 12)]])] (RX (α := Int × Cur) (fun x => .val (.int .i64 x.1)) (fun x => [some (.box (pCur x.2)), some (.row 3 1 [[.val (.int .i64 (-1))], [.val (.int .i64 11)], [.val (.int .i64 12)]])]) fun _ => True) := sPickN_p c [-1, 11, 12] (by decide) (by decide)
theorem pickV3 (c : Cur) : PCalls Try.prog 79 [.ptr 0 0, .own 1] [some (.box (pCur c)), some (.row 3 1 [[.val (.int .i64 (-1))], [.val (.int .i64 20)], [.val (.int .i64 21)]])] (RX (α := Int × Cur) (fun x => .val (.int .i64 x.1)) (fun x => [some (.box (pCur x.2)), some (.row 3 1 [[.val (.int .i64 (-1))], [.val (.int .i64 20)], [.val (.int .i64 21)]])]) fun _ => True) := sPickN_p c [-1, 20, 21] (by decide) (by decide)
set_option maxHeartbeats 4000000 in
theorem sL16Msg_p (c : Cur) : PCalls Try.prog 64 [.ptr 0 0] [some (.box (pCur c))] (RX (α := GNMsg × Cur) (fun x => .agg (pNMsg x.1)) (fun x => [some (.box (pCur x.2))]) fun _ => True) := by
  refine pcalls_ofR okP Try.func64 rfl ?_
  simp only [Try.f64, List.length_cons, List.length_nil, Nat.reduceAdd, Nat.reduceSub, List.replicate_succ, List.replicate_zero, List.cons_append, List.nil_append, List.length_map]
  apply PWp.cap (α := GNMsg × Cur) (fun x => match x with | (m, c) => [(0, .ptr 0 0), (2, .ptr 1 0), (3, .ptr 2 0)]) [1, 4, 5, 6, 7, 8, 9, 10, 11, 12, 13, 14, 15, 16, 17, 18, 19, 20, 21, 22, 23, 24, 25, 26, 27, 28, 29, 30, 31, 32, 33, 34, 35, 36, 37, 38, 39, 40, 41, 42, 43, 44, 45, 46, 47, 48, 49, 50, 51, 52, 53] (fun x => match x with | (m, c) => [some (.box (pCur c)), some (.box [.val (.int .i64 0), .val (.int .i64 0), .val (.int .i64 0), .val (.int .i64 0), .val (.int .i64 0)]), some (.box (pNMsg m))]) (fun x => match x with | (m, c) => True)
  case main =>
    intro tail
    repeat' (first | with_reducible refine mkRegion (id := 6) ?_ | with_reducible (first | refine wA ?_ | refine wC ?_) | with_reducible (first | refine wq1 ?_ | refine wq3 ?_ | refine wS ?_) | ((with_reducible refine hK _ ?_); clear hK K) | ((with_reducible refine PWp.condI ?_); refine ⟨_, rfl, fun hg => ?_, fun hg => ?_⟩ <;> first | (exact absurd hg (by decide)) | ((try simp only [Bool.not_true, Bool.not_false] at hg); (try simp only [hg]); (try simp only [push_cast] at hg); (try exact absurd trivial hg); (try (exfalso; omega)))) | ((with_reducible refine pops_plain fun K hK => popO_row ?_); refine ⟨_, _, _, _, _, rfl, rfl, rfl, rfl, rfl, ?_⟩; simp (disch := omega) only [push_cast, seval]) | ((with_reducible refine pops_plain fun K hK => popO_build ?_); refine ⟨_, rfl, _, rfl, ?_⟩; simp (disch := omega) only [push_cast, seval]) | ((with_reducible refine pops_plain fun K hK => ?_); simp (disch := omega) only [push_cast, seval]) | ((with_reducible show pcall _ _ _ _ _ _); (first | (refine pcall_XG (cf Try.func21) [?_] ?_ ?_ ?_ (sL1Once_p ?_ ?_ ?_) ?_; (any_goals ((with_reducible show (_ : List PV) = renL _ _ _); ((try simp (disch := omega) only [push_cast, seval]); (repeat' (first | exact trivial | exact rfl | refine And.intro ?_ ?_ | omega))))); (any_goals ((with_reducible show blkE _ _ _ _ _); (repeat' (first | exact trivial | refine And.intro ?_ ?_ | exact ⟨_, rfl⟩ | (simp (disch := omega) only [push_cast, seval]; done) | exact rfl)))); (any_goals ((with_reducible show nodupR _ = true); exact rfl)); rotate_right 1; rintro ⟨b, c⟩ _; (rotate_left 1; (all_goals (try (first | omega | exact (show _ = _ by assumption)))); rotate_right 1)) | (refine pcall_XG (cf Try.func22) [?_] ?_ ?_ ?_ (sL1Below_p ?_ ?_ ?_) ?_; (any_goals ((with_reducible show (_ : List PV) = renL _ _ _); ((try simp (disch := omega) only [push_cast, seval]); (repeat' (first | exact trivial | exact rfl | refine And.intro ?_ ?_ | omega))))); (any_goals ((with_reducible show blkE _ _ _ _ _); (repeat' (first | exact trivial | refine And.intro ?_ ?_ | exact ⟨_, rfl⟩ | (simp (disch := omega) only [push_cast, seval]; done) | exact rfl)))); (any_goals ((with_reducible show nodupR _ = true); exact rfl)); rotate_right 1; rintro ⟨x, c⟩ ⟨hx1, hx2, hx3⟩; (rotate_left 1; (all_goals (try (first | omega | exact (show _ = _ by assumption)))); rotate_right 1)) | (refine pcV (cf Try.func72) (sPropOf_p _ sd) ?_) | (refine pcall_XG (cf Try.func79) [?_, ?_] ?_ ?_ ?_ (pickM6 ?_) ?_; (any_goals ((with_reducible show (_ : List PV) = renL _ _ _); ((try simp (disch := omega) only [push_cast, seval]); (repeat' (first | exact trivial | exact rfl | refine And.intro ?_ ?_ | omega))))); (any_goals ((with_reducible show blkE _ _ _ _ _); (repeat' (first | exact trivial | refine And.intro ?_ ?_ | exact ⟨_, rfl⟩ | (simp (disch := omega) only [push_cast, seval]; done) | exact rfl)))); (any_goals ((with_reducible show nodupR _ = true); exact rfl)); rotate_right 1; rintro ⟨y, c⟩ -; (rotate_left 1; (all_goals (try (first | omega | exact (show _ = _ by assumption)))); rotate_right 1))); (try simp (disch := omega) only [push_cast, seval])))
    all_goals
      (refine Mk.of (tail ((⟨_, _, _, _, _⟩, _)) _ _ ?_ (by exact fitA [_, _, _])))
      trivial
  case t =>
    intro x ρ2 hI; obtain ⟨m, c⟩ := x; (try dsimp only at hI); refine PWp.at (tm' := ?_) (H' := ?_) ?_ ?_ ?_; rotate_left 2; (· ((try simp only [push_cast, seval]); exact rfl)); (· ((try dsimp only); exact rfl))
    obtain ⟨m1, m2, m3, m4, m5⟩ := m
    repeat' (first | with_reducible refine mkRegion (id := 10) ?_ | with_reducible refine mkRegion (id := 14) ?_ | with_reducible (first | refine wA ?_ | refine wB ?_ | refine wC ?_) | with_reducible (first | refine wq1 ?_ | refine wq3 ?_ | refine wq4 ?_ | refine wq9 ?_ | refine wS ?_) | ((with_reducible refine hK _ ?_); clear hK K) | ((with_reducible refine PWp.condI ?_); refine ⟨_, rfl, fun hg => ?_, fun hg => ?_⟩ <;> first | (exact absurd hg (by decide)) | ((try simp only [Bool.not_true, Bool.not_false] at hg); (try simp only [hg]); (try simp only [push_cast] at hg); (try exact absurd trivial hg); (try (exfalso; omega)))) | ((with_reducible refine pops_plain fun K hK => ?_); simp (disch := omega) only [push_cast, seval]) | ((with_reducible show pcall _ _ _ _ _ _); (first | (refine pcall_XG (cf Try.func21) [?_] ?_ ?_ ?_ (sL1Once_p ?_ ?_ ?_) ?_; (any_goals ((with_reducible show (_ : List PV) = renL _ _ _); ((try simp (disch := omega) only [push_cast, seval]); (repeat' (first | exact trivial | exact rfl | refine And.intro ?_ ?_ | omega))))); (any_goals ((with_reducible show blkE _ _ _ _ _); (repeat' (first | exact trivial | refine And.intro ?_ ?_ | exact ⟨_, rfl⟩ | (simp (disch := omega) only [push_cast, seval]; done) | exact rfl)))); (any_goals ((with_reducible show nodupR _ = true); exact rfl)); rotate_right 1; rintro ⟨b, c⟩ _; (rotate_left 1; (all_goals (try (first | omega | exact (show _ = _ by assumption)))); rotate_right 1)) | (refine pcall_XG (cf Try.func22) [?_] ?_ ?_ ?_ (sL1Below_p ?_ ?_ ?_) ?_; (any_goals ((with_reducible show (_ : List PV) = renL _ _ _); ((try simp (disch := omega) only [push_cast, seval]); (repeat' (first | exact trivial | exact rfl | refine And.intro ?_ ?_ | omega))))); (any_goals ((with_reducible show blkE _ _ _ _ _); (repeat' (first | exact trivial | refine And.intro ?_ ?_ | exact ⟨_, rfl⟩ | (simp (disch := omega) only [push_cast, seval]; done) | exact rfl)))); (any_goals ((with_reducible show nodupR _ = true); exact rfl)); rotate_right 1; rintro ⟨x, c⟩ ⟨hx1, hx2, hx3⟩; (rotate_left 1; (all_goals (try (first | omega | exact (show _ = _ by assumption)))); rotate_right 1))); (try simp (disch := omega) only [push_cast, seval])))
    all_goals try (((first | with_reducible (first | refine pendX1 ((⟨?_, ?_, ?_, ?_, ?_⟩ : GNMsg), ?_) [0] ?_ ?_ ?_ ?_ ?_ ?_ | refine pendX2 ((⟨?_, ?_, ?_, ?_, ?_⟩ : GNMsg), ?_) [0] ?_ ?_ ?_ ?_ ?_ ?_ | refine pendX3 ((⟨?_, ?_, ?_, ?_, ?_⟩ : GNMsg), ?_) [0] ?_ ?_ ?_ ?_ ?_ ?_ | refine pendX0 ((⟨?_, ?_, ?_, ?_, ?_⟩ : GNMsg), ?_) [0] ?_ ?_ ?_ ?_ ?_ ?_) | refine pendXG ((⟨?_, ?_, ?_, ?_, ?_⟩ : GNMsg), ?_) [0] ?_ ?_ ?_ ?_ ?_ ?_); (try (any_goals ((with_reducible show ∃ _ : List PV, _); (apply Exists.intro; apply And.intro; (· repeat' (first | exact presults_nil | apply presults_tmp | (apply presults_agg; (· exact rfl); (· exact rfl); (· exact rfl); (· exact rfl); (· exact rfl); (· first | exact Nat.le_refl _ | decide | simp)) | (apply presults_one; (· exact rfl); (· exact rfl); (· exact rfl); (· exact rfl); (· exact rfl)))))))); (any_goals ((with_reducible show _ ∨ _); (first | exact Or.inl rfl | exact Or.inr rfl))); (any_goals ((with_reducible show (_ : PV) = _); ((try simp (disch := omega) only [push_cast, seval]); (repeat' (first | exact trivial | exact rfl | refine And.intro ?_ ?_ | omega))))); (any_goals ((with_reducible show blkR _ _ _ _ _); ((try simp (disch := omega) only [push_cast, seval]); (repeat' (first | exact trivial | exact rfl | refine And.intro ?_ ?_ | omega))))); (any_goals ((with_reducible show nodupR _ = true); exact rfl)); (any_goals ((with_reducible show preR _ _); (first | exact trivial | exact ⟨rfl, trivial⟩ | exact ⟨rfl, rfl, trivial⟩ | exact ⟨rfl, rfl, rfl, trivial⟩)))); trivial)
    ·
      refine Mk.of ?_
      repeat' (first | with_reducible (first | refine wA ?_ | refine wC ?_) | with_reducible (first | refine wq1 ?_ | refine wq3 ?_ | refine wq4 ?_ | refine wq9 ?_) | ((with_reducible refine hK _ ?_); clear hK K) | ((with_reducible refine pops_plain fun K hK => popO_row ?_); refine ⟨_, _, _, _, _, rfl, rfl, rfl, rfl, rfl, ?_⟩; simp (disch := omega) only [push_cast, seval]) | ((with_reducible refine pops_plain fun K hK => ?_); simp (disch := omega) only [push_cast, seval]) | ((with_reducible show pcall _ _ _ _ _ _); ((refine pcall_XG (cf Try.func79) [?_, ?_] ?_ ?_ ?_ (pickR3 ?_) ?_; (any_goals ((with_reducible show (_ : List PV) = renL _ _ _); ((try simp (disch := omega) only [push_cast, seval]); (repeat' (first | exact trivial | exact rfl | refine And.intro ?_ ?_ | omega))))); (any_goals ((with_reducible show blkE _ _ _ _ _); (repeat' (first | exact trivial | refine And.intro ?_ ?_ | exact ⟨_, rfl⟩ | (simp (disch := omega) only [push_cast, seval]; done) | exact rfl)))); (any_goals ((with_reducible show nodupR _ = true); exact rfl)); rotate_right 1; rintro ⟨y, c⟩ -; (rotate_left 1; (all_goals (try (first | omega | exact (show _ = _ by assumption)))); rotate_right 1))); (try simp (disch := omega) only [push_cast, seval])))
      ((first | with_reducible (first | refine pendX1 ((⟨?_, ?_, ?_, ?_, ?_⟩ : GNMsg), ?_) [0] ?_ ?_ ?_ ?_ ?_ ?_ | refine pendX2 ((⟨?_, ?_, ?_, ?_, ?_⟩ : GNMsg), ?_) [0] ?_ ?_ ?_ ?_ ?_ ?_ | refine pendX3 ((⟨?_, ?_, ?_, ?_, ?_⟩ : GNMsg), ?_) [0] ?_ ?_ ?_ ?_ ?_ ?_ | refine pendX0 ((⟨?_, ?_, ?_, ?_, ?_⟩ : GNMsg), ?_) [0] ?_ ?_ ?_ ?_ ?_ ?_) | refine pendXG ((⟨?_, ?_, ?_, ?_, ?_⟩ : GNMsg), ?_) [0] ?_ ?_ ?_ ?_ ?_ ?_); (try (any_goals ((with_reducible show ∃ _ : List PV, _); (apply Exists.intro; apply And.intro; (· repeat' (first | exact presults_nil | apply presults_tmp | (apply presults_agg; (· exact rfl); (· exact rfl); (· exact rfl); (· exact rfl); (· exact rfl); (· first | exact Nat.le_refl _ | decide | simp)) | (apply presults_one; (· exact rfl); (· exact rfl); (· exact rfl); (· exact rfl); (· exact rfl)))))))); (any_goals ((with_reducible show _ ∨ _); (first | exact Or.inl rfl | exact Or.inr rfl))); (any_goals ((with_reducible show (_ : PV) = _); ((try simp (disch := omega) only [push_cast, seval]); (repeat' (first | exact trivial | exact rfl | refine And.intro ?_ ?_ | omega))))); (any_goals ((with_reducible show blkR _ _ _ _ _); ((try simp (disch := omega) only [push_cast, seval]); (repeat' (first | exact trivial | exact rfl | refine And.intro ?_ ?_ | omega))))); (any_goals ((with_reducible show nodupR _ = true); exact rfl)); (any_goals ((with_reducible show preR _ _); (first | exact trivial | exact ⟨rfl, trivial⟩ | exact ⟨rfl, rfl, trivial⟩ | exact ⟨rfl, rfl, rfl, trivial⟩))))
      trivial
    ·
      refine Mk.of ?_
      repeat' (first | with_reducible (first | refine wA ?_ | refine wC ?_) | with_reducible (first | refine wq1 ?_ | refine wq3 ?_ | refine wq4 ?_ | refine wq9 ?_) | ((with_reducible refine hK _ ?_); clear hK K) | ((with_reducible refine pops_plain fun K hK => popO_row ?_); refine ⟨_, _, _, _, _, rfl, rfl, rfl, rfl, rfl, ?_⟩; simp (disch := omega) only [push_cast, seval]) | ((with_reducible refine pops_plain fun K hK => ?_); simp (disch := omega) only [push_cast, seval]) | ((with_reducible show pcall _ _ _ _ _ _); ((refine pcall_XG (cf Try.func79) [?_, ?_] ?_ ?_ ?_ (pickV3 ?_) ?_; (any_goals ((with_reducible show (_ : List PV) = renL _ _ _); ((try simp (disch := omega) only [push_cast, seval]); (repeat' (first | exact trivial | exact rfl | refine And.intro ?_ ?_ | omega))))); (any_goals ((with_reducible show blkE _ _ _ _ _); (repeat' (first | exact trivial | refine And.intro ?_ ?_ | exact ⟨_, rfl⟩ | (simp (disch := omega) only [push_cast, seval]; done) | exact rfl)))); (any_goals ((with_reducible show nodupR _ = true); exact rfl)); rotate_right 1; rintro ⟨y, c⟩ -; (rotate_left 1; (all_goals (try (first | omega | exact (show _ = _ by assumption)))); rotate_right 1))); (try simp (disch := omega) only [push_cast, seval])))
      ((first | with_reducible (first | refine pendX1 ((⟨?_, ?_, ?_, ?_, ?_⟩ : GNMsg), ?_) [0] ?_ ?_ ?_ ?_ ?_ ?_ | refine pendX2 ((⟨?_, ?_, ?_, ?_, ?_⟩ : GNMsg), ?_) [0] ?_ ?_ ?_ ?_ ?_ ?_ | refine pendX3 ((⟨?_, ?_, ?_, ?_, ?_⟩ : GNMsg), ?_) [0] ?_ ?_ ?_ ?_ ?_ ?_ | refine pendX0 ((⟨?_, ?_, ?_, ?_, ?_⟩ : GNMsg), ?_) [0] ?_ ?_ ?_ ?_ ?_ ?_) | refine pendXG ((⟨?_, ?_, ?_, ?_, ?_⟩ : GNMsg), ?_) [0] ?_ ?_ ?_ ?_ ?_ ?_); (try (any_goals ((with_reducible show ∃ _ : List PV, _); (apply Exists.intro; apply And.intro; (· repeat' (first | exact presults_nil | apply presults_tmp | (apply presults_agg; (· exact rfl); (· exact rfl); (· exact rfl); (· exact rfl); (· exact rfl); (· first | exact Nat.le_refl _ | decide | simp)) | (apply presults_one; (· exact rfl); (· exact rfl); (· exact rfl); (· exact rfl); (· exact rfl)))))))); (any_goals ((with_reducible show _ ∨ _); (first | exact Or.inl rfl | exact Or.inr rfl))); (any_goals ((with_reducible show (_ : PV) = _); ((try simp (disch := omega) only [push_cast, seval]); (repeat' (first | exact trivial | exact rfl | refine And.intro ?_ ?_ | omega))))); (any_goals ((with_reducible show blkR _ _ _ _ _); ((try simp (disch := omega) only [push_cast, seval]); (repeat' (first | exact trivial | exact rfl | refine And.intro ?_ ?_ | omega))))); (any_goals ((with_reducible show nodupR _ = true); exact rfl)); (any_goals ((with_reducible show preR _ _); (first | exact trivial | exact ⟨rfl, trivial⟩ | exact ⟨rfl, rfl, trivial⟩ | exact ⟨rfl, rfl, rfl, trivial⟩))))
      trivial
theorem node_get {N : List GNode} {n : Nat} (h : n < N.length) : N[n]? = some (N.getD n node0) := by
  rw [List.getD_eq_getElem?_getD, List.getElem?_eq_getElem h]
  rfl
set_option maxHeartbeats 8000000 in
theorem sL17Act_p (c : Cur) (x : GNet) (hn3 : x.fNodes.length = 3) (hp : x.fPool.length ≤ 150) : PCalls Try.prog 36 [.ptr 0 0, .agg [.own 1, .own 2]] [some (.box (pCur c)), some (.row 39 10 (x.fNodes.map pNode)), some (.row 32 5 (x.fPool.map pNMsg))] (RX (α := GNetAct × Cur) (fun y => .agg (pNetAct y.1)) (fun y => [some (.box (pCur y.2)), some (.row 39 10 (x.fNodes.map pNode)), some (.row 32 5 (x.fPool.map pNMsg))]) fun _ => True) := by
  obtain ⟨N, P⟩ := x
  dsimp only at hn3 hp
  refine pcalls_ofR okP Try.func36 rfl ?_
  simp only [Try.f36, List.length_cons, List.length_nil, Nat.reduceAdd, Nat.reduceSub, List.replicate_succ, List.replicate_zero, List.cons_append, List.nil_append, List.length_map]
  apply PWp.cap (α := GNetAct × Cur) (fun x => match x with | (a, c) => [(0, .ptr 0 0), (3, .ptr 3 0), (4, .ptr 4 0), (5, .ptr 5 0)]) [1, 2, 6, 7, 8, 9, 10, 11, 12, 13, 14, 15, 16, 17, 18, 19, 20, 21, 22, 23, 24, 25, 26, 27, 28, 29, 30, 31, 32, 33, 34, 35, 36, 37, 38, 39, 40, 41, 42, 43, 44, 45, 46, 47, 48, 49, 50, 51, 52, 53, 54, 55, 56, 57, 58, 59, 60, 61] (fun x => match x with | (a, c) => [some (.box (pCur c)), some (.row 39 10 (N.map pNode)), some (.row 32 5 (P.map pNMsg)), some (.box [.own 1, .own 2]), some (.box [.val (.int .i64 0), .val (.int .i64 0), .val (.int .i64 0), .val (.int .i64 0), .val (.int .i64 0), .val (.int .i64 0), .val (.int .i64 0), .val (.int .i64 0)]), some (.box (pNetAct a))]) (fun x => match x with | (a, c) => True)
  case main =>
    intro tail
    repeat' (first | with_reducible refine mkRegion (id := 18) ?_ | with_reducible (first | refine wA ?_ | refine wB ?_ | refine wC ?_) | with_reducible (first | refine wq1 ?_ | refine wq3 ?_ | refine wq4 ?_ | refine wS ?_) | ((with_reducible refine hK _ ?_); clear hK K) | ((with_reducible refine PWp.condI ?_); refine ⟨_, rfl, fun hg => ?_, fun hg => ?_⟩ <;> first | (exact absurd hg (by decide)) | ((try simp only [Bool.not_true, Bool.not_false] at hg); (try simp only [hg]); (try simp only [push_cast] at hg); (try exact absurd trivial hg); (try (exfalso; omega)))) | ((with_reducible refine pops_plain fun K hK => popO_build ?_); refine ⟨_, rfl, _, rfl, ?_⟩; simp (disch := omega) only [push_cast, seval, node_get]) | ((with_reducible refine pops_plain fun K hK => ?_); simp (disch := omega) only [push_cast, seval, node_get]) | ((with_reducible show pcall _ _ _ _ _ _); (first | (refine pcall_XG (cf Try.func22) [?_] ?_ ?_ ?_ (sL1Below_p ?_ ?_ ?_) ?_; (any_goals ((with_reducible show (_ : List PV) = renL _ _ _); ((try simp (disch := omega) only [push_cast, seval]); (repeat' (first | exact trivial | exact rfl | refine And.intro ?_ ?_ | omega))))); (any_goals ((with_reducible show blkE _ _ _ _ _); (repeat' (first | exact trivial | refine And.intro ?_ ?_ | exact ⟨_, rfl⟩ | (simp (disch := omega) only [push_cast, seval]; done) | exact rfl)))); (any_goals ((with_reducible show nodupR _ = true); exact rfl)); rotate_right 1; rintro ⟨x, c⟩ ⟨hx1, hx2, hx3⟩; (rotate_left 1; (all_goals (try (first | omega | exact (show _ = _ by assumption)))); rotate_right 1)) | (refine pcall_XG (cf Try.func64) [?_] ?_ ?_ ?_ (sL16Msg_p ?_) ?_; (any_goals ((with_reducible show (_ : List PV) = renL _ _ _); ((try simp (disch := omega) only [push_cast, seval]); (repeat' (first | exact trivial | exact rfl | refine And.intro ?_ ?_ | omega))))); (any_goals ((with_reducible show blkE _ _ _ _ _); (repeat' (first | exact trivial | refine And.intro ?_ ?_ | exact ⟨_, rfl⟩ | (simp (disch := omega) only [push_cast, seval]; done) | exact rfl)))); (any_goals ((with_reducible show nodupR _ = true); exact rfl)); rotate_right 1; rintro ⟨⟨m1, m2, m3, m4, m5⟩, c⟩ -; (rotate_left 1; (all_goals (try (first | omega | exact (show _ = _ by assumption)))); rotate_right 1))); (try simp (disch := omega) only [push_cast, seval, node_get])) | ((with_reducible refine And.intro ?_ ?_); omega))
    all_goals
      (refine Mk.of (tail ((⟨_, _, _, ⟨_, _, _, _, _⟩⟩, _)) _ _ ?_ (by exact fitA [_, _, _, _, _, _])))
      trivial
  case t =>
    intro x ρ2 hI; obtain ⟨a, c⟩ := x; (try dsimp only at hI); refine PWp.at (tm' := ?_) (H' := ?_) ?_ ?_ ?_; rotate_left 2; (· ((try simp only [push_cast, seval]); exact rfl)); (· ((try dsimp only); exact rfl))
    obtain ⟨a1, a2, a3, ⟨m1, m2, m3, m4, m5⟩⟩ := a
    repeat' (first | with_reducible (first | refine wA ?_ | refine wC ?_) | with_reducible (first | refine wq1 ?_ | refine wq3 ?_ | refine wq9 ?_ | refine wS ?_) | ((with_reducible refine hK _ ?_); clear hK K) | ((with_reducible refine PWp.condI ?_); refine ⟨_, rfl, fun hg => ?_, fun hg => ?_⟩ <;> first | (exact absurd hg (by decide)) | ((try simp only [Bool.not_true, Bool.not_false] at hg); (try simp only [hg]); (try simp only [push_cast] at hg); (try exact absurd trivial hg); (try (exfalso; omega)))) | ((with_reducible refine pops_plain fun K hK => ?_); simp (disch := omega) only [push_cast, seval]) | ((with_reducible show pcall _ _ _ _ _ _); (first | (refine pcall_XG (cf Try.func21) [?_] ?_ ?_ ?_ (sL1Once_p ?_ ?_ ?_) ?_; (any_goals ((with_reducible show (_ : List PV) = renL _ _ _); ((try simp (disch := omega) only [push_cast, seval]); (repeat' (first | exact trivial | exact rfl | refine And.intro ?_ ?_ | omega))))); (any_goals ((with_reducible show blkE _ _ _ _ _); (repeat' (first | exact trivial | refine And.intro ?_ ?_ | exact ⟨_, rfl⟩ | (simp (disch := omega) only [push_cast, seval]; done) | exact rfl)))); (any_goals ((with_reducible show nodupR _ = true); exact rfl)); rotate_right 1; rintro ⟨b, c⟩ _; (rotate_left 1; (all_goals (try (first | omega | exact (show _ = _ by assumption)))); rotate_right 1)) | (refine pcall_XG (cf Try.func22) [?_] ?_ ?_ ?_ (sL1Below_p ?_ ?_ ?_) ?_; (any_goals ((with_reducible show (_ : List PV) = renL _ _ _); ((try simp (disch := omega) only [push_cast, seval]); (repeat' (first | exact trivial | exact rfl | refine And.intro ?_ ?_ | omega))))); (any_goals ((with_reducible show blkE _ _ _ _ _); (repeat' (first | exact trivial | refine And.intro ?_ ?_ | exact ⟨_, rfl⟩ | (simp (disch := omega) only [push_cast, seval]; done) | exact rfl)))); (any_goals ((with_reducible show nodupR _ = true); exact rfl)); rotate_right 1; rintro ⟨x, c⟩ ⟨hx1, hx2, hx3⟩; (rotate_left 1; (all_goals (try (first | omega | exact (show _ = _ by assumption)))); rotate_right 1))); (try simp (disch := omega) only [push_cast, seval])))
    all_goals
      ((first | with_reducible (first | refine pendX1 ((⟨?_, ?_, ?_, ⟨?_, ?_, ?_, ?_, ?_⟩⟩ : GNetAct), ?_) [0, 1, 2] ?_ ?_ ?_ ?_ ?_ ?_ | refine pendX2 ((⟨?_, ?_, ?_, ⟨?_, ?_, ?_, ?_, ?_⟩⟩ : GNetAct), ?_) [0, 1, 2] ?_ ?_ ?_ ?_ ?_ ?_ | refine pendX3 ((⟨?_, ?_, ?_, ⟨?_, ?_, ?_, ?_, ?_⟩⟩ : GNetAct), ?_) [0, 1, 2] ?_ ?_ ?_ ?_ ?_ ?_ | refine pendX0 ((⟨?_, ?_, ?_, ⟨?_, ?_, ?_, ?_, ?_⟩⟩ : GNetAct), ?_) [0, 1, 2] ?_ ?_ ?_ ?_ ?_ ?_) | refine pendXG ((⟨?_, ?_, ?_, ⟨?_, ?_, ?_, ?_, ?_⟩⟩ : GNetAct), ?_) [0, 1, 2] ?_ ?_ ?_ ?_ ?_ ?_); (try (any_goals ((with_reducible show ∃ _ : List PV, _); (apply Exists.intro; apply And.intro; (· repeat' (first | exact presults_nil | apply presults_tmp | (apply presults_agg; (· exact rfl); (· exact rfl); (· exact rfl); (· exact rfl); (· exact rfl); (· first | exact Nat.le_refl _ | decide | simp)) | (apply presults_one; (· exact rfl); (· exact rfl); (· exact rfl); (· exact rfl); (· exact rfl)))))))); (any_goals ((with_reducible show _ ∨ _); (first | exact Or.inl rfl | exact Or.inr rfl))); (any_goals ((with_reducible show (_ : PV) = _); ((try simp (disch := omega) only [push_cast, seval]); (repeat' (first | exact trivial | exact rfl | refine And.intro ?_ ?_ | omega))))); (any_goals ((with_reducible show blkR _ _ _ _ _); ((try simp (disch := omega) only [push_cast, seval]); (repeat' (first | exact trivial | exact rfl | refine And.intro ?_ ?_ | omega))))); (any_goals ((with_reducible show nodupR _ = true); exact rfl)); (any_goals ((with_reducible show preR _ _); (first | exact trivial | exact ⟨rfl, trivial⟩ | exact ⟨rfl, rfl, trivial⟩ | exact ⟨rfl, rfl, rfl, trivial⟩))))
      trivial
end Go.Proofs.Ytcbknmnlgoeniaa
namespace Go.Proofs.Ytcbknmnlgoeniaa
set_option linter.unusedSimpArgs false
set_option linter.unusedVariables false
open Go.RowKit
def OrdT.okC (ops : Array Oper) (tn : List Nat) : OrdT → Array Bool → Bool
  | .done, listed => Region.ready .any ops listed == []
  | .step i t, listed =>
    (Region.ready .any ops listed).contains i &&
    (if kindC ops tn i ≤ 1 then Region.free .any ops listed i && (kindC ops tn i == 0 || (List.range ops.size).all fun j => listed.getD j true || j == i || kindC ops tn j ≤ 2 || waits ops i 6 j)
     else Region.ready .any ops listed == [i]) && t.isTree && t.okC ops tn (listed.setIfInBounds i true)
  | .fork u, listed => (Region.ready .any ops listed).all (fun j => u.heads.contains j) && !(Region.ready .any ops listed).isEmpty && u.okC ops tn listed
  | .alt i t u, listed => t.isTree && t.okC ops tn (listed.setIfInBounds i true) && u.okC ops tn listed
  | .stop, _ => true
def ptreeC (P : Program) (T : Tys) (md : Bool) (ops : Array Oper) (tn : List Nat) (K : St → Prop) : OrdT → St → Prop
  | .done, σ => K σ
  | .step i t, σ => match ops[i]? with
    | none => False
    | some o => if pwanted ops σ.tm o.guard then
        (if kindC ops tn i ≤ 1 then py P T σ.tm σ.H o.op o.type fun pv => ptreeC P T md ops tn K t (σ.put o.dst pv) else pop P T md (tn.contains i) o σ fun pv σ' => ptreeC P T md ops tn K t (σ'.put o.dst pv))
      else ptreeC P T md ops tn K t (σ.put o.dst (.val undef))
  | .fork u, σ => ptreeC P T md ops tn K u σ
  | .alt i t u, σ => (match ops[i]? with
    | none => False
    | some o => if pwanted ops σ.tm o.guard then
        (if kindC ops tn i ≤ 1 then py P T σ.tm σ.H o.op o.type fun pv => ptreeC P T md ops tn K t (σ.put o.dst pv) else pop P T md (tn.contains i) o σ fun pv σ' => ptreeC P T md ops tn K t (σ'.put o.dst pv))
      else ptreeC P T md ops tn K t (σ.put o.dst (.val undef))) ∧ ptreeC P T md ops tn K u σ
  | .stop, _ => True
section
variable {P : Program} {T : Tys} {E : Env}
theorem stepC_ok (hT : TysOk P T) (hE : elemsOk P T) {md : Bool} {ops : Array Oper} {tn : List Nat} {i : Nat} {o : Oper} (hio : ops[i]? = some o) {K' : St → Prop} {Q : Exit → Act → World → Prop} {σ : St} {a : Act} {w : World} (r : Rel E σ a w)
    (hk : if pwanted ops σ.tm o.guard then (if kindC ops tn i ≤ 1 then py P T σ.tm σ.H o.op o.type fun pv => K' (σ.put o.dst pv) else pop P T md (tn.contains i) o σ fun pv σ' => K' (σ'.put o.dst pv)) else K' (σ.put o.dst (.val undef)))
    {R : Act → World → Prop} (hR : ∀ σ' a' w', K' σ' → Rel E σ' a' w' → R a' w') : wpOp P ops Q i (fun a' w' => (kindC ops tn i ≤ 2 → Ext w w') ∧ R a' w') a w := by
  have hw := r.elim fun M q => q.elim fun h q => wanted_eq q.2.1 ops o
  have hka : kindAt ops i = kindOp o.op := by simp [kindAt, hio]
  unfold wpOp
  simp only [hio, hw]
  by_cases hp : pwanted ops σ.tm o.guard = true
  · rw [if_pos hp] at hk
    rw [if_pos hp]
    by_cases hkd : kindC ops tn i ≤ 1
    · rw [if_pos hkd] at hk
      obtain ⟨M, h, s, t, d⟩ := r
      obtain ⟨pv, v, g1, g2, g3⟩ := py_ok hT hE s.inv t o hk
      exact .inl (wp_value (g3 w fun _ => Ext.refl w) ⟨fun _ => Ext.refl w, hR _ _ w g1 ⟨M, h, by rw [St.put_H]; exact s, t.put g2 o.dst, by rw [Act.put_defers']; exact d⟩⟩)
    · rw [if_neg hkd] at hk
      refine .inl (pop_rel hT hE r hk fun pv σ' v w' g1 g2 g3 => ⟨fun hle => ?_, hR _ _ w' g1 g3⟩)
      obtain ⟨hnt, hkk⟩ := kindC_le hle
      rw [hkk, hka] at hle
      rw [hkk, hka] at hkd
      exact g2 hnt (kind_ext hle hkd)
  · rw [if_neg hp] at hk
    rw [if_neg hp]
    exact ⟨fun _ => Ext.refl w, hR _ _ w hk (r.skip o.dst)⟩
theorem ptreeC_ok (hT : TysOk P T) (hE : elemsOk P T) {md : Bool} (ops : Array Oper) (tn : List Nat) (hs : Region.noSelect ops = true) {K : St → Prop} {Q : Exit → Act → World → Prop} (hpan : ∀ c a w, Q (.panic c) a w → False) (hq : ∀ σ' a' w', K σ' → Rel E σ' a' w' → Q .normal a' w') :
    ∀ (t : OrdT) (listed : Array Bool) (σ : St) (a : Act) (w : World), t.okC ops tn listed = true → ClosedL ops listed → ptreeC P T md ops tn K t σ → Rel E σ a w →
      ((t.heads = [] → t ≠ .stop → ∀ fuel, t.depth ≤ fuel → wpC P ops tn Q fuel listed a w) ∧ ∀ j ∈ t.heads, j ∈ Region.ready .any ops listed → ∀ fuel, t.depth ≤ fuel + 1 → wpOp P ops Q j (fun a' w' => (kindC ops tn j ≤ 2 → Ext w w') ∧ wpC P ops tn Q fuel (listed.setIfInBounds j true) a' w') a w)
  | .done, listed, σ, a, w, ho, _, hk, r => by
    refine ⟨fun _ _ fuel _ => ?_, fun j hj => by simp [OrdT.heads] at hj⟩
    have hr : Region.ready .any ops listed = [] := by simpa [OrdT.okC] using ho
    cases fuel with
    | zero => exact ⟨hr, hq σ a w hk r⟩
    | succ fuel => exact ⟨fun _ => hq σ a w hk r, by rw [hr]; simp⟩
  | .stop, _, _, _, _, _, _, _, _ => ⟨fun _ h => absurd rfl h, fun j hj => by simp [OrdT.heads] at hj⟩
  | .alt i t u, listed, σ, a, w, ho, hcl, hk, r => by
    simp only [OrdT.okC, Bool.and_eq_true] at ho
    refine ⟨fun h => by simp [OrdT.heads] at h, fun j hj hjr fuel hf => ?_⟩
    have hf1 : t.depth ≤ fuel := by simp only [OrdT.depth] at hf; omega
    have hf2 : u.depth ≤ fuel + 1 := by simp only [OrdT.depth] at hf; omega
    by_cases hji : j = i
    · subst hji
      obtain ⟨o, hio⟩ := ready_lt hjr
      have hk1 := hk.1
      simp only [hio] at hk1
      refine stepC_ok hT hE hio (K' := ptreeC P T md ops tn K t) r hk1 fun σ' a' w' g1 g2 => ?_
      have next := ptreeC_ok hT hE (md := md) ops tn hs hpan hq t (listed.setIfInBounds j true) σ' a' w' ho.1.2 (hcl.set hjr) g1 g2
      exact next.1 (tree_heads ho.1.1) (tree_stop ho.1.1) fuel hf1
    · have hj' : j ∈ u.heads := by
        simp only [OrdT.heads, List.mem_cons] at hj
        exact hj.resolve_left hji
      exact (ptreeC_ok hT hE (md := md) ops tn hs hpan hq u listed σ a w ho.2 hcl hk.2 r).2 j hj' hjr fuel hf2
  | .fork u, listed, σ, a, w, ho, hcl, hk, r => by
    simp only [OrdT.okC, Bool.and_eq_true, List.all_eq_true, List.contains_eq_mem, decide_eq_true_eq, Bool.not_eq_true', List.isEmpty_eq_false_iff] at ho
    obtain ⟨⟨h1, h2⟩, h3⟩ := ho
    refine ⟨fun _ _ fuel hf => ?_, fun j hj => by simp [OrdT.heads] at hj⟩
    have sub := (ptreeC_ok hT hE (md := md) ops tn hs hpan hq u listed σ a w h3 hcl hk r).2
    cases fuel with
    | zero =>
      exfalso
      obtain ⟨j, hj⟩ := List.exists_mem_of_ne_nil _ h2
      have := h1 j hj
      cases u with
      | alt i t u => simp only [OrdT.depth] at hf; omega
      | _ => simp [OrdT.heads] at this
    | succ fuel => exact ⟨fun h0 => absurd h0 h2, fun j hj => sub j (h1 j hj) hj fuel hf⟩
  | .step i t, listed, σ, a, w, ho, hcl, hk, r => by
    refine ⟨fun _ _ fuel hf => ?_, fun j hj => by simp [OrdT.heads] at hj⟩
    cases fuel with
    | zero => simp [OrdT.depth] at hf
    | succ fuel =>
    have hl' : t.depth ≤ fuel := by simp only [OrdT.depth] at hf; omega
    simp only [OrdT.okC, Bool.and_eq_true] at ho
    obtain ⟨⟨⟨h1, h2⟩, ht⟩, h3⟩ := ho
    have hi : i ∈ Region.ready .any ops listed := by simpa using h1
    obtain ⟨o, hio⟩ := ready_lt hi
    have hw := r.elim fun M q => q.elim fun h q => wanted_eq q.2.1 ops o
    have hka : kindAt ops i = kindOp o.op := by simp [kindAt, hio]
    simp only [ptreeC, hio] at hk
    have next := fun (σ' : St) (a' : Act) (w' : World) (g1 : ptreeC P T md ops tn K t σ') (g2 : Rel E σ' a' w') => (ptreeC_ok hT hE (md := md) ops tn hs hpan hq t (listed.setIfInBounds i true) σ' a' w' h3 (hcl.set hi) g1 g2).1 (tree_heads ht) (tree_stop ht) fuel hl'
    by_cases hkC : kindC ops tn i ≤ 1
    · obtain ⟨_, hkk⟩ := kindC_le (ops := ops) (tn := tn) (i := i) (by omega)
      have hko : kindC ops tn i = kindOp o.op := hkk.trans hka
      have hkd : kindOp o.op ≤ 1 := by omega
      rw [if_pos hkC, Bool.and_eq_true, hko] at h2
      have hfree := Region.free_spec hio h2.1
      have hside : ∀ j oj, ops[j]? = some oj → j ≠ i → listed.getD j true = false → ((∀ e ∈ oj.after, Region.binds .any e = true → e.on ≠ i) → o.apart ops oj = true) ∧ ((kindOp o.op == 1) = true → waits ops i 6 j = false → kindC ops tn j ≤ 2) := fun j oj hj hji hun => by
        refine ⟨fun hno => hfree j oj hj hji hun hno, fun hk1 hnw => ?_⟩
        have hk1' : kindOp o.op = 1 := by simpa using hk1
        have h22 := h2.2
        simp only [hk1', Bool.or_eq_true, beq_iff_eq, List.all_eq_true, List.mem_range] at h22
        rcases h22 with q | q
        · cases q
        · have hjl : j < ops.size := (Array.getElem?_eq_some_iff.1 hj).1
          rcases q j hjl with ((q | q) | q) | q
          · rw [hun] at q; cases q
          · exact absurd q hji
          · simpa using q
          · rw [hnw] at q; cases q
      have hk2 : kindC ops tn i ≤ 2 := by omega
      by_cases hp : pwanted ops σ.tm o.guard = true
      · rw [if_pos hp, if_pos hkC] at hk
        obtain ⟨M, h, s, t', d⟩ := r
        obtain ⟨pv, v, g1, g2, g3⟩ := py_ok hT hE s.inv t' o hk
        refine wpC_first (v := v) hio (noSelect_all hs) hpan (kindOp o.op == 1) fuel listed a w hside hcl hk2 hi (.inl ⟨by rw [hw]; exact hp, fun w' hx => g3 w' fun q => hx (by simpa using q)⟩) ?_
        exact next _ _ w g1 ⟨M, h, by rw [St.put_H]; exact s, t'.put g2 o.dst, by rw [Act.put_defers']; exact d⟩
      · rw [if_neg hp] at hk
        refine wpC_first (v := undef) hio (noSelect_all hs) hpan (kindOp o.op == 1) fuel listed a w hside hcl hk2 hi (.inr ⟨by rw [hw]; simpa using hp, rfl⟩) ?_
        exact next _ _ w hk (r.skip o.dst)
    · rw [if_neg hkC] at h2
      have hrd : Region.ready .any ops listed = [i] := by simpa using h2
      refine ⟨(fun h0 => by rw [hrd] at h0; cases h0), fun j hj => ?_⟩
      rw [hrd, List.mem_singleton] at hj
      subst hj
      exact stepC_ok hT hE hio (K' := ptreeC P T md ops tn K t) r hk fun σ' a' w' g1 g2 => next σ' a' w' g1 g2
end
theorem PWp.drawCT {P : Program} {T : Tys} {Q : Exit → St → Prop} {σ : St} {N : Nat} (ok : Ok P T) (md : Bool) {id : Nat} {ops : Array Oper} (tn : List Nat) (t : OrdT) (ho : (Region.noSelect ops && decide (t.depth ≤ ops.size) && t.isTree && t.okC ops tn (Array.replicate ops.size false)) = true) (h : ptreeC P T md ops tn (Q .normal) t σ) : PWp P N (.region id ops true) Q σ := fun E a w _ r => by
  simp only [Bool.and_eq_true, decide_eq_true_eq] at ho
  refine wp_region_any ok.mix (wpAny_of_C (tn := tn) _ _ _ _ ?_)
  refine (ptreeC_ok ok.ty ok.el (md := md) ops tn ho.1.1.1 (fun _ _ _ q => q) (fun σ' _ _ h1 h2 => ⟨σ', h1, h2⟩) t _ σ a _ ho.2 (ClosedL.start _ _) h ?_).1 (tree_heads ho.1.2) (tree_stop ho.1.2) ops.size ho.1.1.2
  obtain ⟨M, hh, s, t, d⟩ := r
  refine ⟨M, hh, s.trans (Step.ext s.inv ?_), t, d⟩
  exact (Ext.refl w).drew
section
variable {P : Program} {T : Tys} {md : Bool} {ops : Array Oper} {tn : List Nat} {K : St → Prop} {σ : St}
theorem ptreeC_done (h : K σ) : ptreeC P T md ops tn K .done σ := h
theorem ptreeC_stop : ptreeC P T md ops tn K .stop σ := trivial
theorem ptreeC_fork {u : OrdT} (h : ptreeC P T md ops tn K u σ) : ptreeC P T md ops tn K (.fork u) σ := h
def stepC (P : Program) (T : Tys) (md : Bool) (ops : Array Oper) (tn : List Nat) (i : Nat) (o : Oper) (σ : St) (K' : St → Prop) : Prop :=
  if kindC ops tn i ≤ 1 then pstepD P T md ops o σ K' else if pwanted ops σ.tm o.guard then pop P T md (tn.contains i) o σ fun pv σ' => K' (σ'.put o.dst pv) else K' (σ.put o.dst (.val undef))
theorem stepC_of {i : Nat} {o : Oper} {K' : St → Prop} (hi : ops[i]? = some o) (h : stepC P T md ops tn i o σ K') :
    if pwanted ops σ.tm o.guard then (if kindC ops tn i ≤ 1 then py P T σ.tm σ.H o.op o.type fun pv => K' (σ.put o.dst pv) else pop P T md (tn.contains i) o σ fun pv σ' => K' (σ'.put o.dst pv)) else K' (σ.put o.dst (.val undef)) := by
  unfold stepC at h
  split
  · rename_i hw
    split
    · rename_i hk
      rw [if_pos hk] at h
      unfold pstepD at h
      rw [if_pos hw] at h
      have hk1 : kindOp o.op ≤ 1 := by
        have := (kindC_le (ops := ops) (tn := tn) (i := i) (by omega)).2
        have h2 : kindAt ops i = kindOp o.op := by simp [kindAt, hi]
        omega
      rw [if_pos hk1] at h
      exact h
    · rename_i hk
      rw [if_neg hk, if_pos hw] at h
      exact h
  · rename_i hw
    split at h
    · unfold pstepD at h
      rw [if_neg hw] at h
      exact h
    · first | exact h | (rw [if_neg hw] at h; exact h)
theorem ptreeC_I {i : Nat} {t : OrdT} (h : ∃ o, ops.toList[i]? = some o ∧ ∀ K' : St → Prop, (∀ σ, ptreeC P T md ops tn K t σ → K' σ) → stepC P T md ops tn i o σ K') : ptreeC P T md ops tn K (.step i t) σ := by
  obtain ⟨o, hi, h⟩ := h
  rw [Array.getElem?_toList] at hi
  simp only [ptreeC, hi]
  exact stepC_of hi (h _ fun _ h => h)
theorem ptreeC_A {i : Nat} {t u : OrdT} (h : ∃ o, ops.toList[i]? = some o ∧ ∀ K' : St → Prop, (∀ σ, ptreeC P T md ops tn K t σ → K' σ) → stepC P T md ops tn i o σ K') (h2 : ptreeC P T md ops tn K u σ) : ptreeC P T md ops tn K (.alt i t u) σ := by
  obtain ⟨o, hi, h⟩ := h
  rw [Array.getElem?_toList] at hi
  simp only [ptreeC, hi]
  exact ⟨stepC_of hi (h _ fun _ h => h), h2⟩
theorem stepC_w {i : Nat} {o : Oper} {K' : St → Prop} (hk : (decide (kindC ops tn i ≤ 1)) = true) (h : pstepD P T md ops o σ K') : stepC P T md ops tn i o σ K' := by
  unfold stepC
  rw [if_pos (of_decide_eq_true hk)]
  exact h
theorem stepC_s {i : Nat} {dst : Option Tmp} {op : Op} {ty : TypeId} {pos : String} {after : Array Edge} {K' : St → Prop} {cm : Bool} (hk : (decide (kindC ops tn i ≤ 1)) = false) (hc : tn.contains i = cm) (h : popO P T md cm op ty σ fun pv σ' => K' (σ'.put dst pv)) :
    stepC P T md ops tn i ⟨dst, op, ty, pos, after, none⟩ σ K' := by
  unfold stepC
  rw [if_neg (of_decide_eq_false hk)]
  simp only [pwanted, if_true]
  subst hc
  exact h
end
end Go.Proofs.Ytcbknmnlgoeniaa
namespace Go.Proofs.Ytcbknmnlgoeniaa
set_option linter.unusedSimpArgs false
set_option linter.unusedVariables false
open Go.RowKit
set_option maxRecDepth 100000
theorem new_succ {k : Nat} (h : k < 3) : (netNew.fNodes.take (k + 1)).map pNode = (netNew.fNodes.take k).map pNode ++ [pNode (nodeNew ((k : Int) + 1))] := by
  obtain rfl | rfl | rfl : k = 0 ∨ k = 1 ∨ k = 2 := by omega
  all_goals rfl
set_option maxHeartbeats 4000000 in
theorem sNetNew_p : PCalls Try.prog 34 [] [] (RH (.agg [.own 0, .val (.slice none 0 0)]) [some (.row 39 10 (netNew.fNodes.map pNode))]) := by
  refine pcalls_ofR okP Try.func34 rfl ?_
  simp only [Try.f34, List.length_cons, List.length_nil, Nat.reduceAdd, Nat.reduceSub, List.replicate_succ, List.replicate_zero, List.cons_append, List.nil_append, List.length_map]
  repeat' (first | with_reducible (first | refine wA ?_ | refine wB ?_ | refine wC ?_) | with_reducible (first | refine wq1 ?_ | refine wq3 ?_) | ((with_reducible refine hK _ ?_); clear hK K) | ((with_reducible refine pops_plain fun K hK => popO_build ?_); refine ⟨_, rfl, _, rfl, ?_⟩; simp (disch := omega) only [push_cast, seval]) | ((with_reducible refine pops_plain fun K hK => ?_); simp (disch := omega) only [push_cast, seval]))
  refine PWp.nilB 1 0 39 10 rfl rfl ?_
  refine PWp.loopK (α := Nat) (fun k => [(0, .ptr 0 0), (1, .ptr 1 0), (2, .val (.int .i64 ((k : Int) + 1)))]) [3, 4, 5, 6, 7, 8, 9, 10, 11, 12, 13, 14, 15, 16, 17, 18, 19, 20] (fun k => [some (.box [.val (.slice none 0 0), .val (.slice none 0 0)]), some (.box [.own 2, .val (.slice none 0 0)]), some (.row 39 10 ((netNew.fNodes.take k).map pNode))]) (fun k => k ≤ 3) (fun k => 3 - k) (0) (Nat.zero_le _) (by exact fitA [_, _, _]) ?_
  intro k ρ hI
  (try dsimp only at hI)
  refine PWp.at (tm' := ?_) (H' := ?_) ?_ ?_ ?_; rotate_left 2; (· ((try simp only [push_cast, seval]); exact rfl)); (· ((try dsimp only); exact rfl))
  have hz : (netNew.fNodes.take k).length ≤ 3 := by rw [List.length_take]; exact Nat.min_le_right k 3
  by_cases hlt : k < 3
  · have e := new_succ hlt
    have c := sNodeNew_p ((k : Int) + 1) (inB_iff.2 ⟨by omega, by omega⟩)
    repeat' (first | with_reducible (first | refine wA ?_ | refine wB ?_ | refine wC ?_) | with_reducible (first | refine wq1 ?_ | refine wq3 ?_ | refine wq4 ?_ | refine wS ?_) | ((with_reducible refine hK _ ?_); clear hK K) | ((with_reducible refine PWp.condI ?_); refine ⟨_, rfl, fun hg => ?_, fun hg => ?_⟩ <;> first | (exact absurd hg (by decide)) | ((try simp only [Bool.not_true, Bool.not_false] at hg); (try simp only [hg]); (try simp only [push_cast] at hg); (try exact absurd trivial hg); (try (exfalso; omega)))) | ((with_reducible refine pops_plain fun K hK => popO_row ?_); refine ⟨_, _, _, _, _, rfl, rfl, rfl, rfl, rfl, ?_⟩; simp (disch := omega) only [push_cast, seval]) | ((with_reducible refine pops_plain fun K hK => ?_); simp (disch := omega) only [push_cast, seval]) | ((with_reducible show pcall _ _ _ _ _ _); ((refine pcF (cf Try.func56) (c) ?_)); (try simp (disch := omega) only [push_cast, seval])) | ((with_reducible refine And.intro ?_ ?_); omega))
    (refine ⟨k + 1, by ((try dsimp only); omega), ?_, by (refine ⟨[?_, ?_, ?_], ?_, ?_, ?_, ?_⟩; rotate_left 3; (· ((first | simp (disch := omega) only [push_cast, seval, e, nodeNew, pNode, List.map_nil] | simp (disch := omega) only [push_cast, seval] | skip); (repeat' (first | exact trivial | exact rfl | refine And.intro ?_ ?_ | omega)))); (· ((first | simp (disch := omega) only [push_cast, seval, e, nodeNew, pNode, List.map_nil] | simp (disch := omega) only [push_cast, seval] | skip); (repeat' (first | exact trivial | exact rfl | refine And.intro ?_ ?_ | omega)); (try (repeat' (first | exact trivial | exact rfl | refine And.intro ?_ ?_ | omega))))); (· exact rfl); (· (first | exact trivial | exact ⟨rfl, trivial⟩ | exact ⟨rfl, rfl, trivial⟩ | exact ⟨rfl, rfl, rfl, trivial⟩)))⟩)
    exact hlt
  obtain rfl : k = 3 := by omega
  rw [show netNew.fNodes.take 3 = netNew.fNodes from rfl]
  repeat' (first | with_reducible (first | refine wA ?_ | refine wC ?_) | with_reducible (first | refine wq1 ?_ | refine wq3 ?_ | refine wq7 ?_ | refine wq8 ?_ | refine wq9 ?_ | refine wE ?_) | ((with_reducible refine hK _ ?_); clear hK K) | ((with_reducible refine PWp.condI ?_); refine ⟨_, rfl, fun hg => ?_, fun hg => ?_⟩ <;> first | (exact absurd hg (by decide)) | ((try simp only [Bool.not_true, Bool.not_false] at hg); (try simp only [hg]); (try simp only [push_cast] at hg); (try exact absurd trivial hg); (try (exfalso; omega)))) | ((with_reducible refine pops_plain fun K hK => ?_); simp (disch := omega) only [push_cast, seval]))
  all_goals ((with_reducible show PPostR _ _ _ _ _ _); exact finH [_])
theorem app_get {α : Type} {p : α → List PV} {l : List α} {r : List PV} : (l.map p ++ [r])[l.length]? = some r := by simp
set_option maxHeartbeats 8000000 in
theorem sStory_p (c : Cur) (most : Int) (hm : most ≤ 110) : PCalls Try.prog 19 [.ptr 0 0, .val (.int .i64 most)] [some (.box (pCur c))] (RX (α := List GNetAct × Cur) (fun y => .own 1) (fun y => [some (.box (pCur y.2)), some (.row 34 8 (y.1.map pNetAct))]) fun | (l, _) => l.length ≤ 120 ∧ True) := by
  refine pcalls_ofR okP Try.func19 rfl ?_
  simp only [Try.f19, List.length_cons, List.length_nil, Nat.reduceAdd, Nat.reduceSub, List.replicate_succ, List.replicate_zero, List.cons_append, List.nil_append, List.length_map]
  repeat' (first | with_reducible (first | refine wA ?_ | refine wB ?_ | refine wC ?_) | with_reducible (first | refine wq1 ?_ | refine wq3 ?_) | ((with_reducible refine hK _ ?_); clear hK K) | ((with_reducible refine pops_plain fun K hK => popO_row ?_); refine ⟨_, _, _, _, _, rfl, rfl, rfl, rfl, rfl, ?_⟩; simp (disch := omega) only [push_cast, seval]) | ((with_reducible refine pops_plain fun K hK => ?_); simp (disch := omega) only [push_cast, seval]) | ((with_reducible show pcall _ _ _ _ _ _); ((refine pcF (cf Try.func34) (sNetNew_p) ?_)); (try simp (disch := omega) only [push_cast, seval])))
  refine PWp.nilB 2 1 32 5 rfl rfl ?_
  refine PWp.loopK (α := GNet × List GNetAct) (fun x => match x with | (y, l) => [(0, .ptr 0 0), (5, .ptr 1 0), (6, .own 4), (7, .val (.int .i64 ((l.length : Int) + 1)))]) [2, 3, 8, 9, 13, 14, 15, 16, 17, 18, 19, 20, 21, 22, 23, 24, 25, 26, 27, 28, 29, 30, 31, 32, 33, 34, 35] (fun x => match x with | (y, l) => [some (.box (pCur c)), some (.box [.own 2, .own 3]), some (.row 39 10 (y.fNodes.map pNode)), some (.row 32 5 (y.fPool.map pNMsg)), some (.row 34 8 (l.map pNetAct))]) (fun x => match x with | (y, l) => NInv y ∧ l.length ≤ 3) (fun x => match x with | (y, l) => 3 - l.length) ((netNew, [])) (⟨netNew_inv, by simp⟩) (by exact fitA [_, _, _, _, _]) ?_
  intro x ρ hI; obtain ⟨y, l⟩ := x
  (try dsimp only at hI)
  refine PWp.at (tm' := ?_) (H' := ?_) ?_ ?_ ?_; rotate_left 2; (· ((try simp only [push_cast, seval]); exact rfl)); (· ((try dsimp only); exact rfl))
  obtain ⟨hv, hl3⟩ := hI
  by_cases hlt : l.length < 3
  · have cd := sDo_p y ⟨1, (l.length : Int) + 1, 0, ⟨0, 0, 0, 0, 0⟩⟩ hv
    have hv' := netDo_inv hv ⟨1, (l.length : Int) + 1, 0, ⟨0, 0, 0, 0, 0⟩⟩
    generalize netDo y ⟨1, (l.length : Int) + 1, 0, ⟨0, 0, 0, 0, 0⟩⟩ = r at cd hv'
    obtain ⟨⟨N', P'⟩, b⟩ := r
    obtain ⟨N, P⟩ := y
    simp only [push_cast] at cd
    have hl' : (l ++ [(⟨1, (l.length : Int) + 1, 0, ⟨0, 0, 0, 0, 0⟩⟩ : GNetAct)]).length = l.length + 1 := by simp
    repeat' (first | with_reducible (first | refine wA ?_ | refine wB ?_ | refine wC ?_) | with_reducible refine PWp.drawCT (id := 7) okP true [6] (.step 0 (.step 1 (.step 2 (.step 3 (.step 4 (.step 5 (.fork (.alt 6 (.step 7 (.step 8 (.step 9 (.step 10 (.step 11 (.step 12 .done)))))) (.alt 10 (.step 6 (.step 7 (.step 8 (.step 9 (.step 11 (.step 12 .done)))))) .stop))))))))) (by kernel_rfl) ?_ | with_reducible (first | refine wq1 ?_ | refine wq3 ?_ | refine wq4 ?_ | refine wS ?_) | ((with_reducible refine hK _ ?_); clear hK K) | ((with_reducible refine PWp.condI ?_); refine ⟨_, rfl, fun hg => ?_, fun hg => ?_⟩ <;> first | (exact absurd hg (by decide)) | ((try simp only [Bool.not_true, Bool.not_false] at hg); (try simp only [hg]); (try simp only [push_cast] at hg); (try exact absurd trivial hg); (try (exfalso; omega)))) | ((with_reducible refine stepC_s (cm := true) ?_ ?_ ?_); exact rfl; exact rfl; simp (disch := omega) only [push_cast, seval, app_get]) | ((with_reducible refine stepC_s (cm := false) ?_ ?_ ?_); exact rfl; exact rfl; simp (disch := omega) only [push_cast, seval, app_get]) | with_reducible (first | refine ptreeC_done ?_ | exact ptreeC_stop | refine ptreeC_fork ?_) | ((with_reducible refine ptreeC_I ?_); refine ⟨_, rfl, fun K hK => ?_⟩) | ((with_reducible refine ptreeC_A ?_ ?_); (refine ⟨_, rfl, fun K hK => ?_⟩)) | ((with_reducible refine stepC_w ?_ ?_); exact rfl) | ((with_reducible refine pops_plain fun K hK => popO_row ?_); refine ⟨_, _, _, _, _, rfl, rfl, rfl, rfl, rfl, ?_⟩; simp (disch := omega) only [push_cast, seval, app_get]) | ((with_reducible refine pops_plain fun K hK => popO_build ?_); refine ⟨_, rfl, _, rfl, ?_⟩; simp (disch := omega) only [push_cast, seval, app_get]) | ((with_reducible refine pops_plain fun K hK => ?_); simp (disch := omega) only [push_cast, seval, app_get]) | ((((with_reducible refine pD_y ?_ ?_); exact rfl)); simp (disch := omega) only [push_cast, seval, app_get]) | ((with_reducible show pcall _ _ _ _ _ _); ((refine pcO (cf Try.func35) [_, _] (cd) ?_)); (try simp (disch := omega) only [push_cast, seval, app_get])) | ((with_reducible refine And.intro ?_ ?_); omega))
    all_goals
      (refine ⟨(⟨N', P'⟩, l ++ [⟨1, (l.length : Int) + 1, 0, ⟨0, 0, 0, 0, 0⟩⟩]), by ((try dsimp only); omega), ?_, by (refine ⟨[?_, ?_, ?_, ?_, ?_], ?_, ?_, ?_, ?_⟩; rotate_left 5; (· ((first | simp (disch := omega) only [push_cast, seval, List.map_append, List.map_cons, List.map_nil, List.length_append, List.length_cons, List.length_nil, pNetAct] | simp (disch := omega) only [push_cast, seval] | skip); (repeat' (first | exact trivial | exact rfl | refine And.intro ?_ ?_ | omega)))); (· ((first | simp (disch := omega) only [push_cast, seval, List.map_append, List.map_cons, List.map_nil, List.length_append, List.length_cons, List.length_nil, pNetAct] | simp (disch := omega) only [push_cast, seval] | skip); (repeat' (first | exact trivial | exact rfl | refine And.intro ?_ ?_ | omega)); (try (repeat' (first | exact trivial | exact rfl | refine And.intro ?_ ?_ | omega))))); (· exact rfl); (· (first | exact trivial | exact ⟨rfl, trivial⟩ | exact ⟨rfl, rfl, trivial⟩ | exact ⟨rfl, rfl, rfl, trivial⟩)))⟩)
      exact ⟨hv', by simp; omega⟩
  have hl : l.length = 3 := by omega
  repeat' (first | with_reducible (first | refine wA ?_ | refine wB ?_ | refine wC ?_) | with_reducible (first | refine wq1 ?_ | refine wq3 ?_ | refine wq7 ?_ | refine wq8 ?_ | refine wE ?_) | ((with_reducible refine hK _ ?_); clear hK K) | ((with_reducible refine PWp.condI ?_); refine ⟨_, rfl, fun hg => ?_, fun hg => ?_⟩ <;> first | (exact absurd hg (by decide)) | ((try simp only [Bool.not_true, Bool.not_false] at hg); (try simp only [hg]); (try simp only [push_cast] at hg); (try exact absurd trivial hg); (try (exfalso; omega)))) | ((with_reducible refine pops_plain fun K hK => ?_); simp (disch := omega) only [push_cast, seval]) | ((with_reducible show pcall _ _ _ _ _ _); ((refine pcall_XG (cf Try.func22) [?_] ?_ ?_ ?_ (sL1Below_p ?_ ?_ ?_) ?_; (any_goals ((with_reducible show (_ : List PV) = renL _ _ _); ((try simp (disch := omega) only [push_cast, seval]); (repeat' (first | exact trivial | exact rfl | refine And.intro ?_ ?_ | omega))))); (any_goals ((with_reducible show blkE _ _ _ _ _); (repeat' (first | exact trivial | refine And.intro ?_ ?_ | exact ⟨_, rfl⟩ | (simp (disch := omega) only [push_cast, seval]; done) | exact rfl)))); (any_goals ((with_reducible show nodupR _ = true); exact rfl)); rotate_right 1; rintro ⟨x, c⟩ ⟨hx1, hx2, hx3⟩; (rotate_left 1; (all_goals (try (first | omega | exact (show _ = _ by assumption)))); rotate_right 1))); (try simp (disch := omega) only [push_cast, seval])))
  obtain ⟨m, hm2⟩ : ∃ m : Nat, x = m := ⟨x.toNat, by omega⟩
  refine PWp.loopK (α := Nat × GNet × List GNetAct × Cur) (fun x => match x with | (n, x, l, c) => [(0, .ptr 0 0), (5, .ptr 1 0), (6, .own 4), (10, .val (.int .i64 (n : Int)))]) [1, 2, 3, 7, 8, 9, 11, 12, 13, 14, 15, 16, 17, 18, 19, 20, 21, 22, 23, 24, 25, 26, 27, 28, 29, 30, 31, 32, 33, 34, 35, 36, 37, 38, 39, 40, 41, 42, 43, 44, 45, 46, 47, 48, 49, 50, 51, 52, 53, 54, 55, 56] (fun x => match x with | (n, x, l, c) => [some (.box (pCur c)), some (.box [.own 2, .own 3]), some (.row 39 10 (x.fNodes.map pNode)), some (.row 32 5 (x.fPool.map pNMsg)), some (.row 34 8 (l.map pNetAct))]) (fun x => match x with | (n, x, l, c) => NInv x ∧ l.length + n ≤ 120) (fun x => match x with | (n, x, l, c) => n) ((m, y, l, c)) (⟨hv, by omega⟩) (by (refine ⟨[?_, ?_, ?_, ?_, ?_], ?_, ?_, ?_, ?_⟩; rotate_left 5; (· ((first | simp (disch := omega) only [push_cast, seval, hm2] | simp (disch := omega) only [push_cast, seval] | skip); (repeat' (first | exact trivial | exact rfl | refine And.intro ?_ ?_ | omega)))); (· ((first | simp (disch := omega) only [push_cast, seval, hm2] | simp (disch := omega) only [push_cast, seval] | skip); (repeat' (first | exact trivial | exact rfl | refine And.intro ?_ ?_ | omega)); (try (repeat' (first | exact trivial | exact rfl | refine And.intro ?_ ?_ | omega))))); (· exact rfl); (· (first | exact trivial | exact ⟨rfl, trivial⟩ | exact ⟨rfl, rfl, trivial⟩ | exact ⟨rfl, rfl, rfl, trivial⟩)))) ?_
  intro x ρ hI; obtain ⟨n, x, l, c⟩ := x
  (try dsimp only at hI)
  refine PWp.at (tm' := ?_) (H' := ?_) ?_ ?_ ?_; rotate_left 2; (· ((try simp only [push_cast, seval]); exact rfl)); (· ((try dsimp only); exact rfl))
  obtain ⟨hv, hl⟩ := hI
  by_cases hn : 0 < n
  · obtain ⟨j, rfl⟩ : ∃ j, n = j + 1 := ⟨n - 1, by omega⟩
    have hn3 := hv.n3
    have hp := hv.p
    have ca := sL17Act_p c x hn3 hp
    obtain ⟨N, P⟩ := x
    dsimp only at hn3 hp ca
    repeat' (first | with_reducible refine mkRegion (id := 14) ?_ | with_reducible (first | refine wA ?_ | refine wB ?_ | refine wC ?_) | with_reducible (first | refine wq1 ?_ | refine wq3 ?_ | refine wS ?_) | ((with_reducible refine hK _ ?_); clear hK K) | ((with_reducible refine PWp.condI ?_); refine ⟨_, rfl, fun hg => ?_, fun hg => ?_⟩ <;> first | (exact absurd hg (by decide)) | ((try simp only [Bool.not_true, Bool.not_false] at hg); (try simp only [hg]); (try simp only [push_cast] at hg); (try exact absurd trivial hg); (try (exfalso; omega)))) | ((with_reducible refine pops_plain fun K hK => popO_row ?_); refine ⟨_, _, _, _, _, rfl, rfl, rfl, rfl, rfl, ?_⟩; simp (disch := omega) only [push_cast, seval]) | ((with_reducible refine pops_plain fun K hK => ?_); simp (disch := omega) only [push_cast, seval]) | ((with_reducible show pcall _ _ _ _ _ _); ((refine pcall_XG (cf Try.func36) [?_, ?_, ?_] ?_ ?_ ?_ (ca) ?_; (any_goals ((with_reducible show (_ : List PV) = renL _ _ _); ((try simp (disch := omega) only [push_cast, seval]); (repeat' (first | exact trivial | exact rfl | refine And.intro ?_ ?_ | omega))))); (any_goals ((with_reducible show blkE _ _ _ _ _); (repeat' (first | exact trivial | refine And.intro ?_ ?_ | exact ⟨_, rfl⟩ | (simp (disch := omega) only [push_cast, seval]; done) | exact rfl)))); (any_goals ((with_reducible show nodupR _ = true); exact rfl)); rotate_right 1; rintro ⟨⟨a1, a2, a3, ⟨m1, m2, m3, m4, m5⟩⟩, c⟩ -; (rotate_left 1; (all_goals (try (first | omega | exact (show _ = _ by assumption)))); rotate_right 1))); (try simp (disch := omega) only [push_cast, seval])) | ((with_reducible refine And.intro ?_ ?_); omega))
    refine Mk.of ?_
    have cd := sDo_p ⟨N, P⟩ ⟨a1, a2, a3, ⟨m1, m2, m3, m4, m5⟩⟩ hv
    have hv' := netDo_inv hv ⟨a1, a2, a3, ⟨m1, m2, m3, m4, m5⟩⟩
    generalize netDo ⟨N, P⟩ ⟨a1, a2, a3, ⟨m1, m2, m3, m4, m5⟩⟩ = r at cd hv'
    obtain ⟨⟨N', P'⟩, b⟩ := r
    simp only [push_cast] at cd
    repeat' (first | with_reducible refine wC ?_ | with_reducible (first | refine wq1 ?_ | refine wq3 ?_ | refine wq4 ?_) | ((with_reducible refine hK _ ?_); clear hK K) | ((with_reducible refine pops_plain fun K hK => ?_); simp (disch := omega) only [push_cast, seval]) | ((with_reducible show pcall _ _ _ _ _ _); ((refine pcO (cf Try.func35) [_, _] (cd) ?_)); (try simp (disch := omega) only [push_cast, seval])))
    (refine ⟨(j, ⟨N', P'⟩, l ++ [⟨a1, a2, a3, ⟨m1, m2, m3, m4, m5⟩⟩], c), by ((try dsimp only); omega), ?_, by (refine ⟨[?_, ?_, ?_, ?_, ?_], ?_, ?_, ?_, ?_⟩; rotate_left 5; (· ((first | simp (disch := omega) only [push_cast, seval, List.map_append, List.map_cons, List.map_nil, pNetAct] | simp (disch := omega) only [push_cast, seval] | skip); (repeat' (first | exact trivial | exact rfl | refine And.intro ?_ ?_ | omega)))); (· ((first | simp (disch := omega) only [push_cast, seval, List.map_append, List.map_cons, List.map_nil, pNetAct] | simp (disch := omega) only [push_cast, seval] | skip); (repeat' (first | exact trivial | exact rfl | refine And.intro ?_ ?_ | omega)); (try (repeat' (first | exact trivial | exact rfl | refine And.intro ?_ ?_ | omega))))); (· exact rfl); (· (first | exact trivial | exact ⟨rfl, trivial⟩ | exact ⟨rfl, rfl, trivial⟩ | exact ⟨rfl, rfl, rfl, trivial⟩)))⟩)
    exact ⟨hv', by simp only [List.length_append, List.length_singleton]; omega⟩
  obtain rfl : n = 0 := by omega
  repeat' (first | with_reducible (first | refine wA ?_ | refine wC ?_) | with_reducible (first | refine wq1 ?_ | refine wq3 ?_ | refine wq7 ?_ | refine wq8 ?_ | refine wq9 ?_ | refine wE ?_) | ((with_reducible refine hK _ ?_); clear hK K) | ((with_reducible refine PWp.condI ?_); refine ⟨_, rfl, fun hg => ?_, fun hg => ?_⟩ <;> first | (exact absurd hg (by decide)) | ((try simp only [Bool.not_true, Bool.not_false] at hg); (try simp only [hg]); (try simp only [push_cast] at hg); (try exact absurd trivial hg); (try (exfalso; omega)))) | ((with_reducible refine pops_plain fun K hK => ?_); simp (disch := omega) only [push_cast, seval]))
  ((first | with_reducible (first | refine pendX1 (l, ?_) [0, ?_] ?_ ?_ ?_ ?_ ?_ ?_ | refine pendX2 (l, ?_) [0, ?_] ?_ ?_ ?_ ?_ ?_ ?_ | refine pendX3 (l, ?_) [0, ?_] ?_ ?_ ?_ ?_ ?_ ?_ | refine pendX0 (l, ?_) [0, ?_] ?_ ?_ ?_ ?_ ?_ ?_) | refine pendXG (l, ?_) [0, ?_] ?_ ?_ ?_ ?_ ?_ ?_); (try (any_goals ((with_reducible show ∃ _ : List PV, _); (apply Exists.intro; apply And.intro; (· repeat' (first | exact presults_nil | apply presults_tmp | (apply presults_agg; (· exact rfl); (· exact rfl); (· exact rfl); (· exact rfl); (· exact rfl); (· first | exact Nat.le_refl _ | decide | simp)) | (apply presults_one; (· exact rfl); (· exact rfl); (· exact rfl); (· exact rfl); (· exact rfl)))))))); (any_goals ((with_reducible show _ ∨ _); (first | exact Or.inl rfl | exact Or.inr rfl))); (any_goals ((with_reducible show (_ : PV) = _); ((try simp (disch := omega) only [push_cast, seval]); (repeat' (first | exact trivial | exact rfl | refine And.intro ?_ ?_ | omega))))); (any_goals ((with_reducible show blkR _ _ _ _ _); ((try simp (disch := omega) only [push_cast, seval]); (repeat' (first | exact trivial | exact rfl | refine And.intro ?_ ?_ | omega))))); (any_goals ((with_reducible show nodupR _ = true); exact rfl)); (any_goals ((with_reducible show preR _ _); (first | exact trivial | exact ⟨rfl, trivial⟩ | exact ⟨rfl, rfl, trivial⟩ | exact ⟨rfl, rfl, rfl, trivial⟩))))
  exact ⟨by omega, trivial⟩
set_option maxHeartbeats 4000000 in
theorem sDrawPlay_o (code : List UInt8) (hc : code.length ≤ 1048576) : PCalls Try.prog 10 [.sl 1 (code.map pU8)] [] (RX (α := List GNetAct) (fun _ => .own 0) (fun l => [some (.row 34 8 (l.map pNetAct))]) fun l => l.length ≤ 1000 ∧ True) := by
  refine pcalls_ofR okP Try.func10 rfl ?_
  simp only [Try.f10, List.length_cons, List.length_nil, Nat.reduceAdd, Nat.reduceSub, List.replicate_succ, List.replicate_zero, List.cons_append, List.nil_append, List.length_map]
  repeat' (first | with_reducible (first | refine wA ?_ | refine wB ?_ | refine wC ?_) | with_reducible (first | refine wq1 ?_ | refine wq3 ?_ | refine wq9 ?_ | refine wS ?_) | ((with_reducible refine hK _ ?_); clear hK K) | ((with_reducible refine PWp.condI ?_); refine ⟨_, rfl, fun hg => ?_, fun hg => ?_⟩ <;> first | (exact absurd hg (by decide)) | ((try simp only [Bool.not_true, Bool.not_false] at hg); (try simp only [hg]); (try simp only [push_cast] at hg); (try exact absurd trivial hg); (try (exfalso; omega)))) | ((with_reducible refine pops_plain fun K hK => ?_); simp (disch := omega) only [push_cast, seval]) | ((with_reducible show pcall _ _ _ _ _ _); (first | (refine pcall_X1 (cf Try.func18) (by ((try simp (disch := omega) only [push_cast, seval]); first | done | exact rfl)) (sL1New_p _ sd) ?_; rintro c _) | (refine pcall_XG (cf Try.func19) [?_] ?_ ?_ ?_ (sStory_p ?_ ?_ ?_) ?_; (any_goals ((with_reducible show (_ : List PV) = renL _ _ _); ((try simp (disch := omega) only [push_cast, seval]); (repeat' (first | exact trivial | exact rfl | refine And.intro ?_ ?_ | omega))))); (any_goals ((with_reducible show blkE _ _ _ _ _); (repeat' (first | exact trivial | refine And.intro ?_ ?_ | exact ⟨_, rfl⟩ | (simp (disch := omega) only [push_cast, seval]; done) | exact rfl)))); (any_goals ((with_reducible show nodupR _ = true); exact rfl)); rotate_right 1; rintro ⟨l, c⟩ ⟨hl, -⟩; (rotate_left 1; (all_goals (try (first | omega | exact (show _ = _ by assumption)))); rotate_right 1)) | (refine pcall_X1 (cf Try.func20) (by ((try simp (disch := omega) only [push_cast, seval]); first | done | exact rfl)) (sL1Size_p code hc) ?_; rintro z ⟨hz, -⟩) | (refine pcall_XG (cf Try.func21) [?_] ?_ ?_ ?_ (sL1Once_p ?_ ?_ ?_) ?_; (any_goals ((with_reducible show (_ : List PV) = renL _ _ _); ((try simp (disch := omega) only [push_cast, seval]); (repeat' (first | exact trivial | exact rfl | refine And.intro ?_ ?_ | omega))))); (any_goals ((with_reducible show blkE _ _ _ _ _); (repeat' (first | exact trivial | refine And.intro ?_ ?_ | exact ⟨_, rfl⟩ | (simp (disch := omega) only [push_cast, seval]; done) | exact rfl)))); (any_goals ((with_reducible show nodupR _ = true); exact rfl)); rotate_right 1; rintro ⟨b, c⟩ _; (rotate_left 1; (all_goals (try (first | omega | exact (show _ = _ by assumption)))); rotate_right 1)) | (refine pcall_XG (cf Try.func22) [?_] ?_ ?_ ?_ (sL1Below_p ?_ ?_ ?_) ?_; (any_goals ((with_reducible show (_ : List PV) = renL _ _ _); ((try simp (disch := omega) only [push_cast, seval]); (repeat' (first | exact trivial | exact rfl | refine And.intro ?_ ?_ | omega))))); (any_goals ((with_reducible show blkE _ _ _ _ _); (repeat' (first | exact trivial | refine And.intro ?_ ?_ | exact ⟨_, rfl⟩ | (simp (disch := omega) only [push_cast, seval]; done) | exact rfl)))); (any_goals ((with_reducible show nodupR _ = true); exact rfl)); rotate_right 1; rintro ⟨x, c⟩ ⟨hx1, hx2, hx3⟩; (rotate_left 1; (all_goals (try (first | omega | exact (show _ = _ by assumption)))); rotate_right 1))); (try simp (disch := omega) only [push_cast, seval])))
  ·
    refine PWp.loopK (α := List GNetAct) (fun l => [(3, .ptr 0 0), (4, .own 1), (5, .val (.int .i64 (400 + x)))]) [0, 1, 6, 7, 8, 9, 10, 11, 12, 13, 14, 15, 16, 17, 18, 19, 20, 21, 22, 23, 24] (fun l => [some (.box (pCur c)), some (.row 34 8 (l.map pNetAct))]) (fun l => l.length ≤ 402) (fun l => 402 - l.length) (l) (by omega) (by exact fitA [_, _]) ?_
    intro l ρ hI
    (try dsimp only at hI)
    refine PWp.at (tm' := ?_) (H' := ?_) ?_ ?_ ?_; rotate_left 2; (· ((try simp only [push_cast, seval]); exact rfl)); (· ((try dsimp only); exact rfl))
    by_cases hlt : (l.length : Int) < 400 + x
    · have hl' : (l ++ [(⟨1, 1, 0, ⟨0, 0, 0, 0, 0⟩⟩ : GNetAct)]).length = l.length + 1 := by simp
      repeat' (first | with_reducible (first | refine wA ?_ | refine wB ?_ | refine wC ?_) | with_reducible (first | refine wq1 ?_ | refine wq3 ?_ | refine wq4 ?_ | refine wS ?_) | ((with_reducible refine hK _ ?_); clear hK K) | ((with_reducible refine PWp.condI ?_); refine ⟨_, rfl, fun hg => ?_, fun hg => ?_⟩ <;> first | (exact absurd hg (by decide)) | ((try simp only [Bool.not_true, Bool.not_false] at hg); (try simp only [hg]); (try simp only [push_cast] at hg); (try exact absurd trivial hg); (try (exfalso; omega)))) | ((with_reducible refine pops_plain fun K hK => popO_row ?_); refine ⟨_, _, _, _, _, rfl, rfl, rfl, rfl, rfl, ?_⟩; simp (disch := omega) only [push_cast, seval, hlt]) | ((with_reducible refine pops_plain fun K hK => popO_build ?_); refine ⟨_, rfl, _, rfl, ?_⟩; simp (disch := omega) only [push_cast, seval, hlt]) | ((with_reducible refine pops_plain fun K hK => ?_); simp (disch := omega) only [push_cast, seval, hlt]) | ((with_reducible refine And.intro ?_ ?_); omega))
      (refine ⟨l ++ [⟨1, 1, 0, ⟨0, 0, 0, 0, 0⟩⟩], by ((try dsimp only); omega), ?_, by (refine ⟨[?_, ?_], ?_, ?_, ?_, ?_⟩; rotate_left 2; (· ((first | simp (disch := omega) only [push_cast, seval, List.map_append, List.map_cons, List.map_nil, pNetAct] | simp (disch := omega) only [push_cast, seval] | skip); (repeat' (first | exact trivial | exact rfl | refine And.intro ?_ ?_ | omega)))); (· ((first | simp (disch := omega) only [push_cast, seval, List.map_append, List.map_cons, List.map_nil, pNetAct] | simp (disch := omega) only [push_cast, seval] | skip); (repeat' (first | exact trivial | exact rfl | refine And.intro ?_ ?_ | omega)); (try (repeat' (first | exact trivial | exact rfl | refine And.intro ?_ ?_ | omega))))); (· exact rfl); (· (first | exact trivial | exact ⟨rfl, trivial⟩ | exact ⟨rfl, rfl, trivial⟩ | exact ⟨rfl, rfl, rfl, trivial⟩)))⟩)
      simp only [List.length_append, List.length_singleton]; omega
    ·
      repeat' (first | with_reducible (first | refine wA ?_ | refine wC ?_) | with_reducible (first | refine wq1 ?_ | refine wq3 ?_ | refine wq7 ?_ | refine wq8 ?_ | refine wq9 ?_ | refine wE ?_) | ((with_reducible refine hK _ ?_); clear hK K) | ((with_reducible refine PWp.condI ?_); refine ⟨_, rfl, fun hg => ?_, fun hg => ?_⟩ <;> first | (exact absurd hg (by decide)) | ((try simp only [Bool.not_true, Bool.not_false] at hg); (try simp only [hg]); (try simp only [push_cast] at hg); (try exact absurd trivial hg); (try (exfalso; omega)))) | ((with_reducible refine pops_plain fun K hK => ?_); simp (disch := omega) only [push_cast, seval, hlt]))
      ((first | with_reducible (first | refine pendX1 l [?_] ?_ ?_ ?_ ?_ ?_ ?_ | refine pendX2 l [?_] ?_ ?_ ?_ ?_ ?_ ?_ | refine pendX3 l [?_] ?_ ?_ ?_ ?_ ?_ ?_ | refine pendX0 l [?_] ?_ ?_ ?_ ?_ ?_ ?_) | refine pendXG l [?_] ?_ ?_ ?_ ?_ ?_ ?_); (try (any_goals ((with_reducible show ∃ _ : List PV, _); (apply Exists.intro; apply And.intro; (· repeat' (first | exact presults_nil | apply presults_tmp | (apply presults_agg; (· exact rfl); (· exact rfl); (· exact rfl); (· exact rfl); (· exact rfl); (· first | exact Nat.le_refl _ | decide | simp)) | (apply presults_one; (· exact rfl); (· exact rfl); (· exact rfl); (· exact rfl); (· exact rfl)))))))); (any_goals ((with_reducible show _ ∨ _); (first | exact Or.inl rfl | exact Or.inr rfl))); (any_goals ((with_reducible show (_ : PV) = _); ((try simp (disch := omega) only [push_cast, seval]); (repeat' (first | exact trivial | exact rfl | refine And.intro ?_ ?_ | omega))))); (any_goals ((with_reducible show blkR _ _ _ _ _); ((try simp (disch := omega) only [push_cast, seval]); (repeat' (first | exact trivial | exact rfl | refine And.intro ?_ ?_ | omega))))); (any_goals ((with_reducible show nodupR _ = true); exact rfl)); (any_goals ((with_reducible show preR _ _); (first | exact trivial | exact ⟨rfl, trivial⟩ | exact ⟨rfl, rfl, trivial⟩ | exact ⟨rfl, rfl, rfl, trivial⟩))))
      exact ⟨by omega, trivial⟩
  · ((first | with_reducible (first | refine pendX1 l [?_] ?_ ?_ ?_ ?_ ?_ ?_ | refine pendX2 l [?_] ?_ ?_ ?_ ?_ ?_ ?_ | refine pendX3 l [?_] ?_ ?_ ?_ ?_ ?_ ?_ | refine pendX0 l [?_] ?_ ?_ ?_ ?_ ?_ ?_) | refine pendXG l [?_] ?_ ?_ ?_ ?_ ?_ ?_); (try (any_goals ((with_reducible show ∃ _ : List PV, _); (apply Exists.intro; apply And.intro; (· repeat' (first | exact presults_nil | apply presults_tmp | (apply presults_agg; (· exact rfl); (· exact rfl); (· exact rfl); (· exact rfl); (· exact rfl); (· first | exact Nat.le_refl _ | decide | simp)) | (apply presults_one; (· exact rfl); (· exact rfl); (· exact rfl); (· exact rfl); (· exact rfl)))))))); (any_goals ((with_reducible show _ ∨ _); (first | exact Or.inl rfl | exact Or.inr rfl))); (any_goals ((with_reducible show (_ : PV) = _); ((try simp (disch := omega) only [push_cast, seval]); (repeat' (first | exact trivial | exact rfl | refine And.intro ?_ ?_ | omega))))); (any_goals ((with_reducible show blkR _ _ _ _ _); ((try simp (disch := omega) only [push_cast, seval]); (repeat' (first | exact trivial | exact rfl | refine And.intro ?_ ?_ | omega))))); (any_goals ((with_reducible show nodupR _ = true); exact rfl)); (any_goals ((with_reducible show preR _ _); (first | exact trivial | exact ⟨rfl, trivial⟩ | exact ⟨rfl, rfl, trivial⟩ | exact ⟨rfl, rfl, rfl, trivial⟩))))
    exact ⟨by omega, trivial⟩
end Go.Proofs.Ytcbknmnlgoeniaa
