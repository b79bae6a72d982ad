/- What the proof leans on, part 6. -/
import Derived.Test.YtcbknmnlgoeniaaQV4
namespace Go.Proofs.Ytcbknmnlgoeniaa
set_option linter.unusedSimpArgs false
set_option linter.unusedVariables false
open Go.RowKit
set_option maxRecDepth 100000
theorem hasM_sym (l : List GNMsg) (m : GNMsg) : hasM l m = l.any fun x => eqM x m := by
  unfold hasM
  congr 1
  exact funext fun x => eqM_comm m x
set_option maxHeartbeats 2000000 in
theorem sL16Has_p (l : List GNMsg) (m : GNMsg) (hl : l.length ≤ 1099511627776) : PCalls Try.prog 58 [.sl 5 (l.map pNMsg), .agg (pNMsg m)] [] (RV (.val (.bool (hasM l m)))) := by
  rw [hasM_sym]
  refine pcalls_ofR okP Try.func58 rfl ?_
  simp only [Try.f58, List.length_cons, List.length_nil, Nat.reduceAdd, Nat.reduceSub, List.replicate_succ, List.replicate_zero, List.cons_append, List.nil_append, List.length_map]
  repeat' (first | with_reducible (first | refine wA ?_ | refine wB ?_ | refine wC ?_) | with_reducible (first | refine wq1 ?_ | refine wq3 ?_) | ((with_reducible refine hK _ ?_); clear hK K) | ((with_reducible refine pops_plain fun K hK => ?_); simp (disch := omega) only [push_cast, seval]))
  refine PWp.loopK (α := Nat) (fun k => [(3, .ptr 0 0), (5, .val (.int .i64 (k : Int)))]) [1, 2, 4, 6, 7, 8, 9, 10, 11, 12, 13, 14, 15, 16, 17] (fun k => [some (.box (pNMsg m))]) (fun k => k ≤ l.length ∧ noneTo (fun x => eqM x m) l k) (fun k => l.length - k) (0) (⟨Nat.zero_le _, noneTo_zero⟩) (by exact fitA [_]) ?_
  intro k ρ hI
  (try dsimp only at hI)
  refine PWp.at (tm' := ?_) (H' := ?_) ?_ ?_ ?_; rotate_left 2; (· ((try simp only [push_cast, seval]); exact rfl)); (· ((try dsimp only); exact rfl))
  obtain ⟨hk, hA⟩ := hI
  by_cases hlt : k < l.length
  · obtain ⟨y, hy⟩ : ∃ y, l[k]? = some y := ⟨_, List.getElem?_eq_getElem hlt⟩
    cases he : eqM y m with
    | true =>
      rw [show (l.any fun x => eqM x m) = true from List.any_eq_true.2 ⟨y, List.mem_of_getElem? hy, he⟩]
      simp only [eqM] at he
      repeat' (first | with_reducible (first | refine wA ?_ | refine wB ?_ | refine wC ?_) | with_reducible refine PWp.draw (id := 4) okP true [0, 1, 2, 3, 4, 5] (by kernel_rfl) ?_ | with_reducible (first | refine wq1 ?_ | refine wq2 ?_ | refine wq3 ?_ | refine wq5 ?_ | refine wq6 ?_ | refine wq9 ?_ | refine wS ?_) | ((with_reducible refine hK _ ?_); clear hK K) | ((with_reducible refine PWp.condI ?_); refine ⟨_, rfl, fun hg => ?_, fun hg => ?_⟩ <;> first | (exact absurd hg (by decide)) | ((try simp only [Bool.not_true, Bool.not_false] at hg); (try simp only [hg]); (try simp only [push_cast] at hg); (try exact absurd trivial hg); (try (exfalso; omega)))) | ((with_reducible refine pany_I ?_); refine ⟨_, rfl, fun K hK => ?_⟩) | ((with_reducible refine pops_plain fun K hK => ?_); simp (disch := omega) only [push_cast, seval, hy, he]) | ((((with_reducible refine pD_y ?_ ?_); exact rfl)); simp (disch := omega) only [push_cast, seval, hy, he]) | ((with_reducible refine And.intro ?_ ?_); omega))
      ((with_reducible show PPostR _ _ _ _ _ _); refine finV ?_; (try simp only [push_cast, seval]))
    | false =>
      have hn := noneTo_succ (p := fun x => eqM x m) hA hy he
      simp only [eqM] at he
      repeat' (first | with_reducible (first | refine wA ?_ | refine wB ?_ | refine wC ?_) | with_reducible refine PWp.draw (id := 4) okP true [0, 1, 2, 3, 4, 5] (by kernel_rfl) ?_ | with_reducible (first | refine wq1 ?_ | refine wq2 ?_ | refine wq3 ?_ | refine wq4 ?_ | refine wS ?_) | ((with_reducible refine hK _ ?_); clear hK K) | ((with_reducible refine PWp.condI ?_); refine ⟨_, rfl, fun hg => ?_, fun hg => ?_⟩ <;> first | (exact absurd hg (by decide)) | ((try simp only [Bool.not_true, Bool.not_false] at hg); (try simp only [hg]); (try simp only [push_cast] at hg); (try exact absurd trivial hg); (try (exfalso; omega)))) | ((with_reducible refine pany_I ?_); refine ⟨_, rfl, fun K hK => ?_⟩) | ((with_reducible refine pops_plain fun K hK => ?_); simp (disch := omega) only [push_cast, seval, hy, he]) | ((((with_reducible refine pD_y ?_ ?_); exact rfl)); simp (disch := omega) only [push_cast, seval, hy, he]) | ((with_reducible refine And.intro ?_ ?_); omega))
      (refine ⟨k + 1, by ((try dsimp only); omega), ?_, by exact fitA [_]⟩)
      exact ⟨hlt, hn⟩
  obtain rfl : k = l.length := by omega
  rw [any_idx, noneTo_end hA]
  repeat' (first | with_reducible (first | refine wA ?_ | refine wC ?_) | with_reducible (first | refine wq1 ?_ | refine wq3 ?_ | refine wq7 ?_ | refine wq8 ?_ | refine wq9 ?_ | refine wE ?_) | ((with_reducible refine hK _ ?_); clear hK K) | ((with_reducible refine PWp.condI ?_); refine ⟨_, rfl, fun hg => ?_, fun hg => ?_⟩ <;> first | (exact absurd hg (by decide)) | ((try simp only [Bool.not_true, Bool.not_false] at hg); (try simp only [hg]); (try simp only [push_cast] at hg); (try exact absurd trivial hg); (try (exfalso; omega)))) | ((with_reducible refine pops_plain fun K hK => ?_); simp (disch := omega) only [push_cast, seval]))
  ((with_reducible show PPostR _ _ _ _ _ _); refine finV ?_; (try simp only [push_cast, seval]))
set_option maxHeartbeats 2000000 in
theorem sL16Msgs_p (l : List GNMsg) (most : Int) (hl : l.length ≤ 1099511627776) : PCalls Try.prog 88 [.sl 5 (l.map pNMsg), .val (.int .i64 most)] [] (RV (.val (.bool (msgsOk l && decide ((l.length : Int) ≤ most))))) := by
  by_cases hm : (l.length : Int) ≤ most
  case neg =>
    have hm' : (l.length : Int) > most := by omega
    rw [decide_eq_false hm, Bool.and_false]
    refine pcalls_ofR okP Try.func88 rfl ?_
    simp only [Try.f88, List.length_cons, List.length_nil, Nat.reduceAdd, Nat.reduceSub, List.replicate_succ, List.replicate_zero, List.cons_append, List.nil_append, List.length_map]
    repeat' (first | with_reducible (first | refine wA ?_ | refine wC ?_) | with_reducible (first | refine wq1 ?_ | refine wq3 ?_ | refine wq5 ?_ | refine wq9 ?_) | ((with_reducible refine hK _ ?_); clear hK K) | ((with_reducible refine PWp.condI ?_); refine ⟨_, rfl, fun hg => ?_, fun hg => ?_⟩ <;> first | (exact absurd hg (by decide)) | ((try simp only [Bool.not_true, Bool.not_false] at hg); (try simp only [hg]); (try simp only [push_cast] at hg); (try exact absurd trivial hg); (try (exfalso; omega)))) | ((with_reducible refine pops_plain fun K hK => ?_); simp (disch := omega) only [push_cast, seval, hm']))
    ((with_reducible show PPostR _ _ _ _ _ _); refine finV ?_; (try simp only [push_cast, seval]))
  have hm' : ¬ (l.length : Int) > most := by omega
  rw [decide_eq_true hm, Bool.and_true]
  refine pcalls_ofR okP Try.func88 rfl ?_
  simp only [Try.f88, List.length_cons, List.length_nil, Nat.reduceAdd, Nat.reduceSub, List.replicate_succ, List.replicate_zero, List.cons_append, List.nil_append, List.length_map]
  repeat' (first | with_reducible (first | refine wA ?_ | refine wB ?_ | refine wC ?_) | with_reducible (first | refine wq1 ?_ | refine wq3 ?_ | refine wS ?_) | ((with_reducible refine hK _ ?_); clear hK K) | ((with_reducible refine PWp.condI ?_); refine ⟨_, rfl, fun hg => ?_, fun hg => ?_⟩ <;> first | (exact absurd hg (by decide)) | ((try simp only [Bool.not_true, Bool.not_false] at hg); (try simp only [hg]); (try simp only [push_cast] at hg); (try exact absurd trivial hg); (try (exfalso; omega)))) | ((with_reducible refine pops_plain fun K hK => ?_); simp (disch := omega) only [push_cast, seval, hm']))
  refine PWp.loopK (α := Nat) (fun k => [(5, .val (.int .i64 (k : Int)))]) [1, 2, 3, 4, 6, 7, 8, 9, 10, 11, 12, 13, 14, 15, 16, 17, 18, 19, 20, 21, 22, 23, 24, 25, 26, 27, 28, 29, 30, 31] (fun k => []) (fun k => k ≤ l.length ∧ allTo (msgAt l) k) (fun k => l.length - k) (0) (⟨Nat.zero_le _, allTo_zero⟩) (by exact fitA []) ?_
  intro k ρ hI
  (try dsimp only at hI)
  refine PWp.at (tm' := ?_) (H' := ?_) ?_ ?_ ?_; rotate_left 2; (· ((try simp only [push_cast, seval]); exact rfl)); (· ((try dsimp only); exact rfl))
  obtain ⟨hk, hA⟩ := hI
  by_cases hlt : k < l.length
  · obtain ⟨x, hx⟩ : ∃ x, l[k]? = some x := ⟨_, List.getElem?_eq_getElem hlt⟩
    have e : msgAt l k = (msgOk x && !hasM (l.take k) x) := by unfold msgAt; rw [hx]
    obtain ⟨x1, x2, x3, x4, x5⟩ := x
    cases h1 : msgOk ⟨x1, x2, x3, x4, x5⟩ with
    | false =>
      rw [show msgsOk l = false from allN_no hlt (by rw [e, h1]; rfl)]
      repeat' (first | with_reducible (first | refine wA ?_ | refine wB ?_ | refine wC ?_) | with_reducible refine PWp.draw (id := 6) okP true [0, 1, 2, 3, 4, 5, 6, 7, 8, 9, 10, 11, 12, 13, 14, 15] (by kernel_rfl) ?_ | with_reducible (first | refine wq1 ?_ | refine wq2 ?_ | refine wq3 ?_ | refine wq5 ?_ | refine wq6 ?_ | refine wq9 ?_ | refine wS ?_) | ((with_reducible refine hK _ ?_); clear hK K) | ((with_reducible refine PWp.condI ?_); refine ⟨_, rfl, fun hg => ?_, fun hg => ?_⟩ <;> first | (exact absurd hg (by decide)) | ((try simp only [Bool.not_true, Bool.not_false] at hg); (try simp only [hg]); (try simp only [push_cast] at hg); (try exact absurd trivial hg); (try (exfalso; omega)))) | ((with_reducible refine pany_I ?_); refine ⟨_, rfl, fun K hK => ?_⟩) | ((with_reducible refine pops_plain fun K hK => ?_); simp (disch := omega) only [push_cast, seval, hx, h1]) | ((first | ((with_reducible refine pD_y ?_ ?_); exact rfl) | ((with_reducible refine pD_x ?_ ?_); exact rfl)); simp (disch := omega) only [push_cast, seval, hx, h1]) | ((((first | ((with_reducible refine pD_gy ?_ ?_); exact rfl) | ((with_reducible refine pD_gx ?_ ?_); exact rfl)); refine ⟨_, rfl, _, rfl, fun hg => ?_, fun hg => ?_⟩)) <;> first | (exact absurd hg (by decide)) | ((try simp only [Bool.not_true, Bool.not_false] at hg); (try simp only [hg]); (try simp only [push_cast] at hg); (try exact absurd trivial hg); (try (exfalso; omega)); (try simp (disch := omega) only [push_cast, seval, hx, h1]))) | ((with_reducible show pcall _ _ _ _ _ _); ((refine pcV (cf Try.func57) (sMsgOk_p ⟨_, _, _, _, _⟩) ?_)); (try simp (disch := omega) only [push_cast, seval, hx, h1])) | ((with_reducible refine And.intro ?_ ?_); omega))
      ((with_reducible show PPostR _ _ _ _ _ _); refine finV ?_; (try simp only [push_cast, seval]))
    | true =>
      have c := sL16Has_p (l.take (k - 0)) ⟨x1, x2, x3, x4, x5⟩ (by rw [List.length_take]; omega)
      rw [List.map_take] at c
      have e : msgAt l k = (msgOk ⟨x1, x2, x3, x4, x5⟩ && !hasM (l.take (k - 0)) ⟨x1, x2, x3, x4, x5⟩) := e
      cases h2 : hasM (l.take (k - 0)) ⟨x1, x2, x3, x4, x5⟩ with
      | true =>
        rw [show msgsOk l = false from allN_no hlt (by rw [e, h1, h2]; rfl)]
        repeat' (first | with_reducible (first | refine wA ?_ | refine wB ?_ | refine wC ?_) | with_reducible refine PWp.draw (id := 6) okP true [0, 1, 2, 3, 4, 5, 6, 7, 8, 9, 10, 11, 12, 13, 14, 15] (by kernel_rfl) ?_ | with_reducible (first | refine wq1 ?_ | refine wq2 ?_ | refine wq3 ?_ | refine wq5 ?_ | refine wq6 ?_ | refine wq9 ?_ | refine wS ?_) | ((with_reducible refine hK _ ?_); clear hK K) | ((with_reducible refine PWp.condI ?_); refine ⟨_, rfl, fun hg => ?_, fun hg => ?_⟩ <;> first | (exact absurd hg (by decide)) | ((try simp only [Bool.not_true, Bool.not_false] at hg); (try simp only [hg]); (try simp only [push_cast] at hg); (try exact absurd trivial hg); (try (exfalso; omega)))) | ((with_reducible refine pany_I ?_); refine ⟨_, rfl, fun K hK => ?_⟩) | ((with_reducible refine pops_plain fun K hK => ?_); simp (disch := omega) only [push_cast, seval, hx, h1, h2]) | ((first | ((with_reducible refine pD_y ?_ ?_); exact rfl) | ((with_reducible refine pD_x ?_ ?_); exact rfl)); simp (disch := omega) only [push_cast, seval, hx, h1, h2]) | ((((first | ((with_reducible refine pD_gy ?_ ?_); exact rfl) | ((with_reducible refine pD_gx ?_ ?_); exact rfl)); refine ⟨_, rfl, _, rfl, fun hg => ?_, fun hg => ?_⟩)) <;> first | (exact absurd hg (by decide)) | ((try simp only [Bool.not_true, Bool.not_false] at hg); (try simp only [hg]); (try simp only [push_cast] at hg); (try exact absurd trivial hg); (try (exfalso; omega)); (try simp (disch := omega) only [push_cast, seval, hx, h1, h2]))) | ((with_reducible show pcall _ _ _ _ _ _); (first | (refine pcV (cf Try.func57) (sMsgOk_p ⟨_, _, _, _, _⟩) ?_) | (refine pcV (cf Try.func58) (c) ?_)); (try simp (disch := omega) only [push_cast, seval, hx, h1, h2])) | ((with_reducible refine And.intro ?_ ?_); omega))
        ((with_reducible show PPostR _ _ _ _ _ _); refine finV ?_; (try simp only [push_cast, seval]))
      | false =>
        repeat' (first | with_reducible (first | refine wA ?_ | refine wB ?_ | refine wC ?_) | with_reducible refine PWp.draw (id := 6) okP true [0, 1, 2, 3, 4, 5, 6, 7, 8, 9, 10, 11, 12, 13, 14, 15] (by kernel_rfl) ?_ | with_reducible (first | refine wq1 ?_ | refine wq2 ?_ | refine wq3 ?_ | refine wq4 ?_ | refine wS ?_) | ((with_reducible refine hK _ ?_); clear hK K) | ((with_reducible refine PWp.condI ?_); refine ⟨_, rfl, fun hg => ?_, fun hg => ?_⟩ <;> first | (exact absurd hg (by decide)) | ((try simp only [Bool.not_true, Bool.not_false] at hg); (try simp only [hg]); (try simp only [push_cast] at hg); (try exact absurd trivial hg); (try (exfalso; omega)))) | ((with_reducible refine pany_I ?_); refine ⟨_, rfl, fun K hK => ?_⟩) | ((with_reducible refine pops_plain fun K hK => ?_); simp (disch := omega) only [push_cast, seval, hx, h1, h2]) | ((first | ((with_reducible refine pD_y ?_ ?_); exact rfl) | ((with_reducible refine pD_x ?_ ?_); exact rfl)); simp (disch := omega) only [push_cast, seval, hx, h1, h2]) | ((((first | ((with_reducible refine pD_gy ?_ ?_); exact rfl) | ((with_reducible refine pD_gx ?_ ?_); exact rfl)); refine ⟨_, rfl, _, rfl, fun hg => ?_, fun hg => ?_⟩)) <;> first | (exact absurd hg (by decide)) | ((try simp only [Bool.not_true, Bool.not_false] at hg); (try simp only [hg]); (try simp only [push_cast] at hg); (try exact absurd trivial hg); (try (exfalso; omega)); (try simp (disch := omega) only [push_cast, seval, hx, h1, h2]))) | ((with_reducible show pcall _ _ _ _ _ _); (first | (refine pcV (cf Try.func57) (sMsgOk_p ⟨_, _, _, _, _⟩) ?_) | (refine pcV (cf Try.func58) (c) ?_)); (try simp (disch := omega) only [push_cast, seval, hx, h1, h2])) | ((with_reducible refine And.intro ?_ ?_); omega))
        (refine ⟨k + 1, by ((try dsimp only); omega), ?_, by exact fitA []⟩)
        exact ⟨hlt, allTo_succ hA (by rw [e, h1, h2]; rfl)⟩
  obtain rfl : k = l.length := by omega
  rw [show msgsOk l = true from allTo_end hA]
  repeat' (first | with_reducible (first | refine wA ?_ | refine wC ?_) | with_reducible (first | refine wq1 ?_ | refine wq3 ?_ | refine wq7 ?_ | refine wq8 ?_ | refine wq9 ?_ | refine wE ?_) | ((with_reducible refine hK _ ?_); clear hK K) | ((with_reducible refine PWp.condI ?_); refine ⟨_, rfl, fun hg => ?_, fun hg => ?_⟩ <;> first | (exact absurd hg (by decide)) | ((try simp only [Bool.not_true, Bool.not_false] at hg); (try simp only [hg]); (try simp only [push_cast] at hg); (try exact absurd trivial hg); (try (exfalso; omega)))) | ((with_reducible refine pops_plain fun K hK => ?_); simp (disch := omega) only [push_cast, seval]))
  ((with_reducible show PPostR _ _ _ _ _ _); refine finV ?_; (try simp only [push_cast, seval]))
end Go.Proofs.Ytcbknmnlgoeniaa
namespace Go.Proofs.Ytcbknmnlgoeniaa
set_option linter.unusedSimpArgs false
set_option linter.unusedVariables false
open Go.RowKit
set_option maxRecDepth 100000
set_option maxHeartbeats 8000000 in
theorem sNodeOk_p (n : GNode) (hl : n.fMsgs.length ≤ 1099511627776) : PCalls Try.prog 73 [.agg (pNode n)] [] (RV (.val (.bool (nodeOk n)))) := by
  have cm := sL16Msgs_p n.fMsgs 90 hl
  unfold nodeOk
  obtain ⟨n1, n2, n3, n4, n5, n6, n7, n8, n9, l⟩ := n
  dsimp only at hl cm ⊢
  generalize (msgsOk l && decide ((l.length : Int) ≤ 90)) = bm at cm ⊢
  generalize hb1 : inB n1 1 4 = b1
  generalize hb2 : inB n2 (-1) 11 = b2
  generalize hb3 : inB n3 1 3 = b3
  generalize hb4 : inB n4 0 20 = b4
  generalize hb6 : inB n6 0 20 = b6
  generalize hb9 : inB n9 0 20 = b9
  generalize hb5 : inB n5 (-1) n2 = b5
  generalize hb7 : inB n7 (-1) n2 = b7
  generalize hb8 : inB n8 (-1) n2 = b8
  rw [← eqI_B, ← eqI_B, ← eqI_B, ← eqI_B]
  generalize he1 : (n4 == 0) = e1
  generalize he2 : (n5 == -1) = e2
  generalize he3 : (n6 == 0) = e3
  generalize he4 : (n7 == -1) = e4
  refine pcalls_ofR okP Try.func73 rfl ?_
  simp only [Try.f73, List.length_cons, List.length_nil, Nat.reduceAdd, Nat.reduceSub, List.replicate_succ, List.replicate_zero, List.cons_append, List.nil_append, List.length_map]
  repeat' (first | with_reducible refine mkRegion (id := 1) ?_ | with_reducible (first | refine wA ?_ | refine wC ?_) | with_reducible (first | refine wq1 ?_ | refine wq3 ?_) | ((with_reducible refine hK _ ?_); clear hK K) | ((with_reducible refine pops_plain fun K hK => ?_); simp (disch := omega) only [push_cast, seval]))
  refine Mk.of ?_
  with_reducible refine wC ?_
  simp only [List.append_eq, List.cons_append, List.nil_append]
  repeat' (first | with_reducible (first | refine wq1 ?_ | refine wq3 ?_ | refine wq9 ?_) | ((with_reducible refine hK _ ?_); clear hK K) | ((with_reducible refine pops_plain fun K hK => ?_); simp (disch := omega) only [push_cast, seval, hb1, hb2, hb3, hb4, hb5, hb6, hb7, hb8, hb9, he1, he2, he3, he4, vb_eq]) | ((with_reducible refine pops_guard ?_); refine ⟨_, rfl, fun K hK => ⟨_, rfl, fun hg => ?_, fun hg => ?_⟩⟩ <;> first | (exact absurd hg (by decide)) | ((try simp only [Bool.not_true, Bool.not_false] at hg); (try simp only [hg]); (try simp only [push_cast] at hg); (try exact absurd trivial hg); (try (exfalso; omega)); (try simp (disch := omega) only [push_cast, seval, hb1, hb2, hb3, hb4, hb5, hb6, hb7, hb8, hb9, he1, he2, he3, he4, vb_eq]))) | ((with_reducible show pcall _ _ _ _ _ _); (first | (refine pcV (cf Try.func59) (l1In_p _ _ _) ?_) | (refine pcV (cf Try.func88) (cm) ?_)); (try simp (disch := omega) only [push_cast, seval, hb1, hb2, hb3, hb4, hb5, hb6, hb7, hb8, hb9, he1, he2, he3, he4, vb_eq])))
  all_goals
    ((with_reducible show PPostR _ _ _ _ _ _); refine finV ?_; (try simp only [push_cast, seval]))
    simp_all
theorem sNodeNew_n (me : Int) (h : inB me 1 4 = true) : PCalls Try.prog 56 [.val (.int .i64 me)] [] (RH (.tup [.agg [.val (.int .i64 me), .val (.int .i64 (-1)), .val (.int .i64 1), .val (.int .i64 0), .val (.int .i64 (-1)), .val (.int .i64 0), .val (.int .i64 (-1)), .val (.int .i64 (-1)), .val (.int .i64 0), .val (.slice none 0 0)], .val (.bool true)]) []) := by
  refine pcalls_ofR okP Try.func56 rfl ?_
  simp only [Try.f56, List.length_cons, List.length_nil, Nat.reduceAdd, Nat.reduceSub, List.replicate_succ, List.replicate_zero, List.cons_append, List.nil_append, List.length_map]
  repeat' (first | with_reducible (first | refine wA ?_ | refine wC ?_) | with_reducible (first | refine wq1 ?_ | refine wq3 ?_ | refine wq9 ?_ | refine wS ?_) | ((with_reducible refine hK _ ?_); clear hK K) | ((with_reducible refine PWp.condI ?_); refine ⟨_, rfl, fun hg => ?_, fun hg => ?_⟩ <;> first | (exact absurd hg (by decide)) | ((try simp only [Bool.not_true, Bool.not_false] at hg); (try simp only [hg]); (try simp only [push_cast] at hg); (try exact absurd trivial hg); (try (exfalso; omega)))) | ((with_reducible refine pops_plain fun K hK => popO_build ?_); refine ⟨_, rfl, _, rfl, ?_⟩; simp (disch := omega) only [push_cast, seval, h]) | ((with_reducible refine pops_plain fun K hK => ?_); simp (disch := omega) only [push_cast, seval, h]) | ((with_reducible show pcall _ _ _ _ _ _); ((refine pcV (cf Try.func59) (l1In_p _ _ _) ?_)); (try simp (disch := omega) only [push_cast, seval, h])))
  ((with_reducible show PPostR _ _ _ _ _ _); exact finH [])
theorem sNodeNew_p (me : Int) (h : inB me 1 4 = true) : PCalls Try.prog 56 [.val (.int .i64 me)] [] (RH (.tup [.agg (pNode (nodeNew me)), .val (.bool true)]) []) := (sNodeNew_n me h).wkR (by (repeat' (first | exact Wk.rfl _ | exact Wk.nil _ | exact trivial | refine And.intro ?_ ?_ | refine wk_agg ?_ | refine wk_tup ?_)))
theorem sL16Copy_p (n : GNode) (hl : n.fMsgs.length ≤ 1000000) : PCalls Try.prog 74 [.agg (pNode n)] [] (RH (.agg (pNodeX n (.own 0))) [some (.row 32 5 (n.fMsgs.map pNMsg))]) := by
  refine pcalls_ofR okP Try.func74 rfl ?_
  simp only [Try.f74, List.length_cons, List.length_nil, Nat.reduceAdd, Nat.reduceSub, List.replicate_succ, List.replicate_zero, List.cons_append, List.nil_append, List.length_map]
  repeat' (first | with_reducible (first | refine wA ?_ | refine wC ?_) | with_reducible (first | refine wq1 ?_ | refine wq3 ?_ | refine wq9 ?_) | ((with_reducible refine hK _ ?_); clear hK K) | ((with_reducible refine pops_plain fun K hK => popO_row ?_); refine ⟨_, _, _, _, _, rfl, rfl, rfl, rfl, rfl, ?_⟩; simp (disch := omega) only [push_cast, seval]) | ((with_reducible refine pops_plain fun K hK => ?_); simp (disch := omega) only [push_cast, seval]) | ((with_reducible refine And.intro ?_ ?_); omega))
  all_goals
    ((with_reducible show PPostR _ _ _ _ _ _); exact finH [_])
end Go.Proofs.Ytcbknmnlgoeniaa
namespace Go.Proofs.Ytcbknmnlgoeniaa
set_option linter.unusedSimpArgs false
set_option linter.unusedVariables false
open Go.RowKit
set_option maxRecDepth 100000
def hRun (a : Acting) : Hp := [some (.row 32 5 (a.1.fMsgs.map pNMsg)), some (.row 32 5 (a.2.map pNMsg))]
def hRunM (a : Acting) : Hp := [none, none, some (.row 32 5 (a.1.fMsgs.map pNMsg)), some (.row 32 5 (a.2.map pNMsg))]
attribute [push_cast] hRun hRunM
set_option maxHeartbeats 2000000 in
theorem sSend_p (a : Acting) (kind val pol : Int) (hl : a.1.fMsgs.length ≤ 1000 ∧ a.2.length ≤ 1000) : PCalls Try.prog 90 [.agg (pActX a.1 (.own 0) (.own 1)), .val (.int .i64 kind), .val (.int .i64 val), .val (.int .i64 pol)] (hRun a) (RH (.agg (pActX (send a kind val pol).1 (.own 2) (.own 3))) (hRunM (send a kind val pol))) := by
  obtain ⟨⟨n1, n2, n3, n4, n5, n6, n7, n8, n9, l⟩, s⟩ := a
  obtain ⟨h1, h2⟩ := hl
  dsimp only at h1 h2
  unfold send sendM sendMsg
  dsimp only
  cases hc : hasM l ⟨kind, n2, val, pol, n1⟩ with
  | true =>
    rw [if_neg (by simp)]
    refine pcalls_ofR okP Try.func90 rfl ?_
    simp only [Try.f90, List.length_cons, List.length_nil, Nat.reduceAdd, Nat.reduceSub, List.replicate_succ, List.replicate_zero, List.cons_append, List.nil_append, List.length_map]
    repeat' (first | with_reducible refine mkRegion (id := 1) ?_ | with_reducible (first | refine wA ?_ | refine wC ?_) | with_reducible (first | refine wq1 ?_ | refine wq3 ?_) | ((with_reducible refine hK _ ?_); clear hK K) | ((with_reducible refine pops_plain fun K hK => ?_); simp (disch := omega) only [push_cast, seval]))
    refine Mk.of ?_
    refine PWp.mvB 2 9 0 rfl rfl rfl (by decide) ?_
    refine PWp.mvB 2 10 1 rfl rfl rfl (by decide) ?_
    repeat' (first | with_reducible (first | refine wA ?_ | refine wC ?_) | with_reducible (first | refine wq1 ?_ | refine wq3 ?_ | refine wq9 ?_ | refine wS ?_) | ((with_reducible refine hK _ ?_); clear hK K) | ((with_reducible refine PWp.condI ?_); refine ⟨_, rfl, fun hg => ?_, fun hg => ?_⟩ <;> first | (exact absurd hg (by decide)) | ((try simp only [Bool.not_true, Bool.not_false] at hg); (try simp only [hg]); (try simp only [push_cast] at hg); (try exact absurd trivial hg); (try (exfalso; omega)))) | ((with_reducible refine pops_plain fun K hK => popO_row ?_); refine ⟨_, _, _, _, _, rfl, rfl, rfl, rfl, rfl, ?_⟩; simp (disch := omega) only [push_cast, seval, hc]) | ((with_reducible refine pops_plain fun K hK => popO_build ?_); refine ⟨_, rfl, _, rfl, ?_⟩; simp (disch := omega) only [push_cast, seval, hc]) | ((with_reducible refine pops_plain fun K hK => ?_); simp (disch := omega) only [push_cast, seval, hc]) | ((with_reducible refine pops_guard ?_); refine ⟨_, rfl, fun K hK => ⟨_, rfl, fun hg => ?_, fun hg => ?_⟩⟩ <;> first | (exact absurd hg (by decide)) | ((try simp only [Bool.not_true, Bool.not_false] at hg); (try simp only [hg]); (try simp only [push_cast] at hg); (try exact absurd trivial hg); (try (exfalso; omega)); (try simp (disch := omega) only [push_cast, seval, hc]))) | ((with_reducible show pcall _ _ _ _ _ _); ((refine pcV (cf Try.func58) (sL16Has_p _ ⟨_, _, _, _, _⟩ sd) ?_)); (try simp (disch := omega) only [push_cast, seval, hc])) | ((with_reducible refine And.intro ?_ ?_); omega))
    ((with_reducible show PPostR _ _ _ _ _ _); exact finH [0, 1, _, _])
  | false =>
    by_cases hn : l.length < 90
    · rw [if_pos ⟨rfl, hn⟩]
      refine pcalls_ofR okP Try.func90 rfl ?_
      simp only [Try.f90, List.length_cons, List.length_nil, Nat.reduceAdd, Nat.reduceSub, List.replicate_succ, List.replicate_zero, List.cons_append, List.nil_append, List.length_map]
      repeat' (first | with_reducible refine mkRegion (id := 1) ?_ | with_reducible (first | refine wA ?_ | refine wC ?_) | with_reducible (first | refine wq1 ?_ | refine wq3 ?_) | ((with_reducible refine hK _ ?_); clear hK K) | ((with_reducible refine pops_plain fun K hK => ?_); simp (disch := omega) only [push_cast, seval]))
      refine Mk.of ?_
      refine PWp.mvB 2 9 0 rfl rfl rfl (by decide) ?_
      refine PWp.mvB 2 10 1 rfl rfl rfl (by decide) ?_
      repeat' (first | with_reducible (first | refine wA ?_ | refine wC ?_) | with_reducible (first | refine wq1 ?_ | refine wq3 ?_ | refine wq9 ?_) | ((with_reducible refine hK _ ?_); clear hK K) | ((with_reducible refine PWp.condI ?_); refine ⟨_, rfl, fun hg => ?_, fun hg => ?_⟩ <;> first | (exact absurd hg (by decide)) | ((try simp only [Bool.not_true, Bool.not_false] at hg); (try simp only [hg]); (try simp only [push_cast] at hg); (try exact absurd trivial hg); (try (exfalso; omega)))) | ((with_reducible refine pops_plain fun K hK => popO_row ?_); refine ⟨_, _, _, _, _, rfl, rfl, rfl, rfl, rfl, ?_⟩; simp (disch := omega) only [push_cast, seval, hc, hn]) | ((with_reducible refine pops_plain fun K hK => popO_build ?_); refine ⟨_, rfl, _, rfl, ?_⟩; simp (disch := omega) only [push_cast, seval, hc, hn]) | ((with_reducible refine pops_plain fun K hK => ?_); simp (disch := omega) only [push_cast, seval, hc, hn]) | ((with_reducible refine pops_guard ?_); refine ⟨_, rfl, fun K hK => ⟨_, rfl, fun hg => ?_, fun hg => ?_⟩⟩ <;> first | (exact absurd hg (by decide)) | ((try simp only [Bool.not_true, Bool.not_false] at hg); (try simp only [hg]); (try simp only [push_cast] at hg); (try exact absurd trivial hg); (try (exfalso; omega)); (try simp (disch := omega) only [push_cast, seval, hc, hn]))) | ((with_reducible show pcall _ _ _ _ _ _); ((refine pcV (cf Try.func58) (sL16Has_p _ ⟨_, _, _, _, _⟩ sd) ?_)); (try simp (disch := omega) only [push_cast, seval, hc, hn])) | ((with_reducible refine And.intro ?_ ?_); omega))
      ((with_reducible show PPostR _ _ _ _ _ _); exact finH [0, 1, _, _])
    · rw [if_neg (by omega)]
      refine pcalls_ofR okP Try.func90 rfl ?_
      simp only [Try.f90, List.length_cons, List.length_nil, Nat.reduceAdd, Nat.reduceSub, List.replicate_succ, List.replicate_zero, List.cons_append, List.nil_append, List.length_map]
      repeat' (first | with_reducible refine mkRegion (id := 1) ?_ | with_reducible (first | refine wA ?_ | refine wC ?_) | with_reducible (first | refine wq1 ?_ | refine wq3 ?_) | ((with_reducible refine hK _ ?_); clear hK K) | ((with_reducible refine pops_plain fun K hK => ?_); simp (disch := omega) only [push_cast, seval]))
      refine Mk.of ?_
      refine PWp.mvB 2 9 0 rfl rfl rfl (by decide) ?_
      refine PWp.mvB 2 10 1 rfl rfl rfl (by decide) ?_
      repeat' (first | with_reducible (first | refine wA ?_ | refine wC ?_) | with_reducible (first | refine wq1 ?_ | refine wq3 ?_ | refine wq9 ?_ | refine wS ?_) | ((with_reducible refine hK _ ?_); clear hK K) | ((with_reducible refine PWp.condI ?_); refine ⟨_, rfl, fun hg => ?_, fun hg => ?_⟩ <;> first | (exact absurd hg (by decide)) | ((try simp only [Bool.not_true, Bool.not_false] at hg); (try simp only [hg]); (try simp only [push_cast] at hg); (try exact absurd trivial hg); (try (exfalso; omega)))) | ((with_reducible refine pops_plain fun K hK => popO_row ?_); refine ⟨_, _, _, _, _, rfl, rfl, rfl, rfl, rfl, ?_⟩; simp (disch := omega) only [push_cast, seval, hc, hn]) | ((with_reducible refine pops_plain fun K hK => popO_build ?_); refine ⟨_, rfl, _, rfl, ?_⟩; simp (disch := omega) only [push_cast, seval, hc, hn]) | ((with_reducible refine pops_plain fun K hK => ?_); simp (disch := omega) only [push_cast, seval, hc, hn]) | ((with_reducible refine pops_guard ?_); refine ⟨_, rfl, fun K hK => ⟨_, rfl, fun hg => ?_, fun hg => ?_⟩⟩ <;> first | (exact absurd hg (by decide)) | ((try simp only [Bool.not_true, Bool.not_false] at hg); (try simp only [hg]); (try simp only [push_cast] at hg); (try exact absurd trivial hg); (try (exfalso; omega)); (try simp (disch := omega) only [push_cast, seval, hc, hn]))) | ((with_reducible show pcall _ _ _ _ _ _); ((refine pcV (cf Try.func58) (sL16Has_p _ ⟨_, _, _, _, _⟩ sd) ?_)); (try simp (disch := omega) only [push_cast, seval, hc, hn])) | ((with_reducible refine And.intro ?_ ?_); omega))
      ((with_reducible show PPostR _ _ _ _ _ _); exact finH [0, 1, _, _])
set_option maxHeartbeats 2000000 in
theorem sBegin_p (a : Acting) (round : Int) (hr : 0 ≤ round ∧ round ≤ 11) (hm : 1 ≤ a.1.fMe ∧ a.1.fMe ≤ 4) (hv0 : -1 ≤ a.1.fValidRound) (hl : a.1.fMsgs.length ≤ 1000 ∧ a.2.length ≤ 1000) : PCalls Try.prog 76 [.agg (pActX a.1 (.own 0) (.own 1)), .val (.int .i64 round)] (hRun a) (RH (.agg (pActX (beginR a round).1 (.own 2) (.own 3))) (hRunM (beginR a round))) := by
  obtain ⟨⟨n1, n2, n3, n4, n5, n6, n7, n8, n9, l⟩, s⟩ := a
  dsimp only at hl hm hv0
  unfold beginR
  dsimp only
  by_cases hp : propOf round = n1
  case neg =>
    rw [if_neg hp]
    refine pcalls_ofR okP Try.func76 rfl ?_
    simp only [Try.f76, List.length_cons, List.length_nil, Nat.reduceAdd, Nat.reduceSub, List.replicate_succ, List.replicate_zero, List.cons_append, List.nil_append, List.length_map]
    repeat' (first | with_reducible refine mkRegion (id := 1) ?_ | with_reducible (first | refine wA ?_ | refine wC ?_) | with_reducible (first | refine wq1 ?_ | refine wq3 ?_) | ((with_reducible refine hK _ ?_); clear hK K) | ((with_reducible refine pops_plain fun K hK => ?_); simp (disch := omega) only [push_cast, seval]))
    refine Mk.of ?_
    refine PWp.mvB 2 9 0 rfl rfl rfl (by decide) ?_
    refine PWp.mvB 2 10 1 rfl rfl rfl (by decide) ?_
    repeat' (first | with_reducible (first | refine wA ?_ | refine wC ?_) | with_reducible refine PWp.draw (id := 3) okP true [0, 2, 3, 4, 1, 5] (by kernel_rfl) ?_ | with_reducible (first | refine wq1 ?_ | refine wq2 ?_ | refine wq3 ?_ | refine wq5 ?_ | refine wq9 ?_) | ((with_reducible refine hK _ ?_); clear hK K) | ((with_reducible refine PWp.condI ?_); refine ⟨_, rfl, fun hg => ?_, fun hg => ?_⟩ <;> first | (exact absurd hg (by decide)) | ((try simp only [Bool.not_true, Bool.not_false] at hg); (try simp only [hg]); (try simp only [push_cast] at hg); (try exact absurd trivial hg); (try (exfalso; omega)))) | ((with_reducible refine pany_I ?_); refine ⟨_, rfl, fun K hK => ?_⟩) | ((with_reducible refine pops_plain fun K hK => ?_); simp (disch := omega) only [push_cast, seval, hp]) | ((first | ((with_reducible refine pD_y ?_ ?_); exact rfl) | ((with_reducible refine pD_x ?_ ?_); exact rfl)); simp (disch := omega) only [push_cast, seval, hp]) | ((with_reducible show pcall _ _ _ _ _ _); ((refine pcV (cf Try.func72) (sPropOf_p _ sd) ?_)); (try simp (disch := omega) only [push_cast, seval, hp])))
    ((with_reducible show PPostR _ _ _ _ _ _); exact finH [0, 1, _, _])
  rw [if_pos hp]
  by_cases hv : n7 = -1
  · rw [if_pos hv]
    have hv' : ¬ n7 ≥ 0 := by omega
    have c := sSend_p (⟨n1, round, 1, n4, n5, n6, n7, n8, n9, l⟩, s) 1 (10 + n1) (-1) hl
    generalize send (⟨n1, round, 1, n4, n5, n6, n7, n8, n9, l⟩, s) 1 (10 + n1) (-1) = r at c ⊢
    obtain ⟨⟨r1, r2, r3, r4, r5, r6, r7, r8, r9, rl⟩, rs⟩ := r
    refine pcalls_ofR okP Try.func76 rfl ?_
    simp only [Try.f76, List.length_cons, List.length_nil, Nat.reduceAdd, Nat.reduceSub, List.replicate_succ, List.replicate_zero, List.cons_append, List.nil_append, List.length_map]
    repeat' (first | with_reducible (first | refine wA ?_ | refine wC ?_) | with_reducible refine PWp.draw (id := 3) okP true [0, 2, 3, 4, 1, 5] (by kernel_rfl) ?_ | with_reducible (first | refine wq1 ?_ | refine wq2 ?_ | refine wq3 ?_ | refine wq9 ?_ | refine wS ?_) | ((with_reducible refine hK _ ?_); clear hK K) | ((with_reducible refine PWp.condI ?_); refine ⟨_, rfl, fun hg => ?_, fun hg => ?_⟩ <;> first | (exact absurd hg (by decide)) | ((try simp only [Bool.not_true, Bool.not_false] at hg); (try simp only [hg]); (try simp only [push_cast] at hg); (try exact absurd trivial hg); (try (exfalso; omega)))) | ((with_reducible refine pany_I ?_); refine ⟨_, rfl, fun K hK => ?_⟩) | ((with_reducible refine pops_plain fun K hK => ?_); simp (disch := omega) only [push_cast, seval, hp, hv']) | ((first | ((with_reducible refine pD_y ?_ ?_); exact rfl) | ((with_reducible refine pD_x ?_ ?_); exact rfl)); simp (disch := omega) only [push_cast, seval, hp, hv']) | ((with_reducible show pcall _ _ _ _ _ _); (first | (refine pcV (cf Try.func72) (sPropOf_p _ sd) ?_) | (refine pcO (cf Try.func90) [_, _] (c) ?_)); (try simp (disch := omega) only [push_cast, seval, hp, hv'])))
    ((with_reducible show PPostR _ _ _ _ _ _); exact finH [0, 1, _, _])
  · rw [if_neg hv]
    have hv' : n7 ≥ 0 := by omega
    have c := sSend_p (⟨n1, round, 1, n4, n5, n6, n7, n8, n9, l⟩, s) 1 n6 n7 hl
    generalize send (⟨n1, round, 1, n4, n5, n6, n7, n8, n9, l⟩, s) 1 n6 n7 = r at c ⊢
    obtain ⟨⟨r1, r2, r3, r4, r5, r6, r7, r8, r9, rl⟩, rs⟩ := r
    refine pcalls_ofR okP Try.func76 rfl ?_
    simp only [Try.f76, List.length_cons, List.length_nil, Nat.reduceAdd, Nat.reduceSub, List.replicate_succ, List.replicate_zero, List.cons_append, List.nil_append, List.length_map]
    repeat' (first | with_reducible (first | refine wA ?_ | refine wC ?_) | with_reducible refine PWp.draw (id := 3) okP true [0, 2, 3, 4, 1, 5] (by kernel_rfl) ?_ | with_reducible (first | refine wq1 ?_ | refine wq2 ?_ | refine wq3 ?_ | refine wq5 ?_ | refine wq9 ?_ | refine wS ?_) | ((with_reducible refine hK _ ?_); clear hK K) | ((with_reducible refine PWp.condI ?_); refine ⟨_, rfl, fun hg => ?_, fun hg => ?_⟩ <;> first | (exact absurd hg (by decide)) | ((try simp only [Bool.not_true, Bool.not_false] at hg); (try simp only [hg]); (try simp only [push_cast] at hg); (try exact absurd trivial hg); (try (exfalso; omega)))) | ((with_reducible refine pany_I ?_); refine ⟨_, rfl, fun K hK => ?_⟩) | ((with_reducible refine pops_plain fun K hK => ?_); simp (disch := omega) only [push_cast, seval, hp, hv']) | ((first | ((with_reducible refine pD_y ?_ ?_); exact rfl) | ((with_reducible refine pD_x ?_ ?_); exact rfl)); simp (disch := omega) only [push_cast, seval, hp, hv']) | ((with_reducible show pcall _ _ _ _ _ _); (first | (refine pcV (cf Try.func72) (sPropOf_p _ sd) ?_) | (refine pcO (cf Try.func90) [_, _] (c) ?_)); (try simp (disch := omega) only [push_cast, seval, hp, hv'])))
    ((with_reducible show PPostR _ _ _ _ _ _); exact finH [0, 1, _, _])
theorem prevote_yes (a : Acting) (val : Int) : prevote a val true = stepTo (send a 2 val (-1)) 2 := by unfold prevote; rw [if_pos rfl]
set_option maxHeartbeats 2000000 in
theorem sPrevote_p (a : Acting) (val : Int) (hl : a.1.fMsgs.length ≤ 1000 ∧ a.2.length ≤ 1000) : PCalls Try.prog 77 [.agg (pActX a.1 (.own 0) (.own 1)), .val (.int .i64 val)] (hRun a) (RH (.agg (pActX (prevote a val true).1 (.own 2) (.own 3))) (hRunM (prevote a val true))) := by
  rw [prevote_yes]
  have c := sSend_p a 2 val (-1) hl
  generalize send a 2 val (-1) = r at c ⊢
  obtain ⟨⟨n1, n2, n3, n4, n5, n6, n7, n8, n9, l⟩, s⟩ := a
  obtain ⟨⟨r1, r2, r3, r4, r5, r6, r7, r8, r9, rl⟩, rs⟩ := r
  unfold stepTo
  refine pcalls_ofR okP Try.func77 rfl ?_
  simp only [Try.f77, List.length_cons, List.length_nil, Nat.reduceAdd, Nat.reduceSub, List.replicate_succ, List.replicate_zero, List.cons_append, List.nil_append, List.length_map]
  repeat' (first | with_reducible (first | refine wA ?_ | refine wC ?_) | with_reducible (first | refine wq1 ?_ | refine wq3 ?_ | refine wq9 ?_) | ((with_reducible refine hK _ ?_); clear hK K) | ((with_reducible refine pops_plain fun K hK => ?_); simp (disch := omega) only [push_cast, seval]) | ((with_reducible show pcall _ _ _ _ _ _); ((refine pcO (cf Try.func90) [_, _] (c) ?_)); (try simp (disch := omega) only [push_cast, seval])))
  ((with_reducible show PPostR _ _ _ _ _ _); exact finH [0, 1, _, _])
set_option maxHeartbeats 2000000 in
theorem sPrecommit_p (a : Acting) (val : Int) (hl : a.1.fMsgs.length ≤ 1000 ∧ a.2.length ≤ 1000) : PCalls Try.prog 78 [.agg (pActX a.1 (.own 0) (.own 1)), .val (.int .i64 val)] (hRun a) (RH (.agg (pActX (precommit a val).1 (.own 2) (.own 3))) (hRunM (precommit a val))) := by
  unfold precommit
  have c := sSend_p a 3 val (-1) hl
  generalize send a 3 val (-1) = r at c ⊢
  obtain ⟨⟨n1, n2, n3, n4, n5, n6, n7, n8, n9, l⟩, s⟩ := a
  obtain ⟨⟨r1, r2, r3, r4, r5, r6, r7, r8, r9, rl⟩, rs⟩ := r
  unfold stepTo
  refine pcalls_ofR okP Try.func78 rfl ?_
  simp only [Try.f78, List.length_cons, List.length_nil, Nat.reduceAdd, Nat.reduceSub, List.replicate_succ, List.replicate_zero, List.cons_append, List.nil_append, List.length_map]
  repeat' (first | with_reducible (first | refine wA ?_ | refine wC ?_) | with_reducible (first | refine wq1 ?_ | refine wq3 ?_ | refine wq9 ?_) | ((with_reducible refine hK _ ?_); clear hK K) | ((with_reducible refine pops_plain fun K hK => ?_); simp (disch := omega) only [push_cast, seval]) | ((with_reducible show pcall _ _ _ _ _ _); ((refine pcO (cf Try.func90) [_, _] (c) ?_)); (try simp (disch := omega) only [push_cast, seval])))
  ((with_reducible show PPostR _ _ _ _ _ _); exact finH [0, 1, _, _])
end Go.Proofs.Ytcbknmnlgoeniaa
namespace Go.Proofs.Ytcbknmnlgoeniaa
set_option linter.unusedSimpArgs false
set_option linter.unusedVariables false
open Go.RowKit
set_option maxRecDepth 100000
theorem hasI_app {fs : List Int} {a x : Int} : hasI (fs ++ [a]) x = (hasI fs x || decide (x = a)) := by
  unfold hasI
  rw [List.any_append, List.any_cons, List.any_nil, Bool.or_false]
  congr 1
  exact decide_eq_decide.2 eq_comm
def seenR (fs : List Int) : List (List PV) := [[.val (.bool (hasI fs 0))], [.val (.bool (hasI fs 1))], [.val (.bool (hasI fs 2))], [.val (.bool (hasI fs 3))], [.val (.bool (hasI fs 4))]]
attribute [push_cast] seenR
set_option maxHeartbeats 4000000 in
theorem sCount_p (l : List GNMsg) (kind round val : Int) (hl : l.length ≤ 1000000) (ms : ∀ m ∈ l, MOk m) : PCalls Try.prog 98 [.sl 5 (l.map pNMsg), .val (.int .i64 kind), .val (.int .i64 round), .val (.int .i64 val)] [] (RV (.val (.int .i64 (cntM l kind round val)))) := by
  refine pcalls_ofR okP Try.func98 rfl ?_
  simp only [Try.f98, List.length_cons, List.length_nil, Nat.reduceAdd, Nat.reduceSub, List.replicate_succ, List.replicate_zero, List.cons_append, List.nil_append, List.length_map]
  repeat' (first | with_reducible (first | refine wA ?_ | refine wB ?_ | refine wC ?_) | with_reducible (first | refine wq1 ?_ | refine wq3 ?_) | ((with_reducible refine hK _ ?_); clear hK K) | ((with_reducible refine pops_plain fun K hK => ?_); simp (disch := omega) only [push_cast, seval]))
  refine PWp.loopK (α := Nat) (fun k => [(9, .val (.int .i64 ((froms (isV kind round val) (l.take k)).length : Nat))), (10, .own 0), (11, .val (.int .i64 (k : Int)))]) [4, 5, 6, 7, 12, 13, 14, 15, 16, 17, 18, 19, 20, 21, 22, 23, 24, 25, 26, 27, 28, 29, 30, 31, 32, 33, 34, 35, 36, 37, 38, 39, 40, 41, 42, 43, 44, 45, 46, 47, 48, 49, 50, 51, 52, 53] (fun k => [some (.row 4 1 (seenR (froms (isV kind round val) (l.take k))))]) (fun k => k ≤ l.length) (fun k => l.length - k) (0) (Nat.zero_le _) (by exact fitA [_]) ?_
  intro k ρ hI
  (try dsimp only at hI)
  refine PWp.at (tm' := ?_) (H' := ?_) ?_ ?_ ?_; rotate_left 2; (· ((try simp only [push_cast, seval]); exact rfl)); (· ((try dsimp only); exact rfl))
  by_cases hlt : k < l.length
  · obtain ⟨x, hx⟩ : ∃ x, l[k]? = some x := ⟨_, List.getElem?_eq_getElem hlt⟩
    have e := froms_succ (p := isV kind round val) hx
    have hz := froms_len (p := isV kind round val) (l := l.take k)
    rw [List.length_take] at hz
    have hf := (ms x (List.mem_of_getElem? hx)).fr
    obtain ⟨x1, x2, x3, x4, x5⟩ := x
    simp only [fromF, isV] at e hf
    by_cases c1 : x1 = kind
    case neg =>
      simp only [c1, decide_false, Bool.false_and, Bool.false_eq_true, if_false] at e
      repeat' (first | with_reducible (first | refine wA ?_ | refine wB ?_ | refine wC ?_) | with_reducible (first | refine wq1 ?_ | refine wq3 ?_ | refine wq4 ?_ | refine wS ?_) | ((with_reducible refine hK _ ?_); clear hK K) | ((with_reducible refine PWp.condI ?_); refine ⟨_, rfl, fun hg => ?_, fun hg => ?_⟩ <;> first | (exact absurd hg (by decide)) | ((try simp only [Bool.not_true, Bool.not_false] at hg); (try simp only [hg]); (try simp only [push_cast] at hg); (try exact absurd trivial hg); (try (exfalso; omega)))) | ((with_reducible refine pops_plain fun K hK => ?_); simp (disch := omega) only [push_cast, seval, hx, c1]) | ((with_reducible refine pops_guard ?_); refine ⟨_, rfl, fun K hK => ⟨_, rfl, fun hg => ?_, fun hg => ?_⟩⟩ <;> first | (exact absurd hg (by decide)) | ((try simp only [Bool.not_true, Bool.not_false] at hg); (try simp only [hg]); (try simp only [push_cast] at hg); (try exact absurd trivial hg); (try (exfalso; omega)); (try simp (disch := omega) only [push_cast, seval, hx, c1]))) | ((with_reducible refine And.intro ?_ ?_); omega))
      (refine ⟨k + 1, by ((try dsimp only); omega), ?_, by (refine ⟨[?_], ?_, ?_, ?_, ?_⟩; rotate_left 1; (· ((first | simp (disch := omega) only [push_cast, seval, e] | simp (disch := omega) only [push_cast, seval] | skip); (repeat' (first | exact trivial | exact rfl | refine And.intro ?_ ?_ | omega)))); (· ((first | simp (disch := omega) only [push_cast, seval, e] | simp (disch := omega) only [push_cast, seval] | skip); (repeat' (first | exact trivial | exact rfl | refine And.intro ?_ ?_ | omega)); (try (repeat' (first | exact trivial | exact rfl | refine And.intro ?_ ?_ | omega))))); (· exact rfl); (· (first | exact trivial | exact ⟨rfl, trivial⟩ | exact ⟨rfl, rfl, trivial⟩ | exact ⟨rfl, rfl, rfl, trivial⟩)))⟩)
      exact hlt
    by_cases c2 : x2 = round
    case neg =>
      simp only [c2, decide_false, Bool.false_and, Bool.and_false, Bool.false_eq_true, if_false] at e
      repeat' (first | with_reducible (first | refine wA ?_ | refine wB ?_ | refine wC ?_) | with_reducible (first | refine wq1 ?_ | refine wq3 ?_ | refine wq4 ?_ | refine wS ?_) | ((with_reducible refine hK _ ?_); clear hK K) | ((with_reducible refine PWp.condI ?_); refine ⟨_, rfl, fun hg => ?_, fun hg => ?_⟩ <;> first | (exact absurd hg (by decide)) | ((try simp only [Bool.not_true, Bool.not_false] at hg); (try simp only [hg]); (try simp only [push_cast] at hg); (try exact absurd trivial hg); (try (exfalso; omega)))) | ((with_reducible refine pops_plain fun K hK => ?_); simp (disch := omega) only [push_cast, seval, hx, c1, c2]) | ((with_reducible refine pops_guard ?_); refine ⟨_, rfl, fun K hK => ⟨_, rfl, fun hg => ?_, fun hg => ?_⟩⟩ <;> first | (exact absurd hg (by decide)) | ((try simp only [Bool.not_true, Bool.not_false] at hg); (try simp only [hg]); (try simp only [push_cast] at hg); (try exact absurd trivial hg); (try (exfalso; omega)); (try simp (disch := omega) only [push_cast, seval, hx, c1, c2]))) | ((with_reducible refine And.intro ?_ ?_); omega))
      (refine ⟨k + 1, by ((try dsimp only); omega), ?_, by (refine ⟨[?_], ?_, ?_, ?_, ?_⟩; rotate_left 1; (· ((first | simp (disch := omega) only [push_cast, seval, e] | simp (disch := omega) only [push_cast, seval] | skip); (repeat' (first | exact trivial | exact rfl | refine And.intro ?_ ?_ | omega)))); (· ((first | simp (disch := omega) only [push_cast, seval, e] | simp (disch := omega) only [push_cast, seval] | skip); (repeat' (first | exact trivial | exact rfl | refine And.intro ?_ ?_ | omega)); (try (repeat' (first | exact trivial | exact rfl | refine And.intro ?_ ?_ | omega))))); (· exact rfl); (· (first | exact trivial | exact ⟨rfl, trivial⟩ | exact ⟨rfl, rfl, trivial⟩ | exact ⟨rfl, rfl, rfl, trivial⟩)))⟩)
      exact hlt
    by_cases c3 : x3 = val
    case neg =>
      simp only [c3, decide_false, Bool.false_and, Bool.and_false, Bool.false_eq_true, if_false] at e
      repeat' (first | with_reducible (first | refine wA ?_ | refine wB ?_ | refine wC ?_) | with_reducible (first | refine wq1 ?_ | refine wq3 ?_ | refine wq4 ?_ | refine wS ?_) | ((with_reducible refine hK _ ?_); clear hK K) | ((with_reducible refine PWp.condI ?_); refine ⟨_, rfl, fun hg => ?_, fun hg => ?_⟩ <;> first | (exact absurd hg (by decide)) | ((try simp only [Bool.not_true, Bool.not_false] at hg); (try simp only [hg]); (try simp only [push_cast] at hg); (try exact absurd trivial hg); (try (exfalso; omega)))) | ((with_reducible refine pops_plain fun K hK => ?_); simp (disch := omega) only [push_cast, seval, hx, c1, c2, c3]) | ((with_reducible refine pops_guard ?_); refine ⟨_, rfl, fun K hK => ⟨_, rfl, fun hg => ?_, fun hg => ?_⟩⟩ <;> first | (exact absurd hg (by decide)) | ((try simp only [Bool.not_true, Bool.not_false] at hg); (try simp only [hg]); (try simp only [push_cast] at hg); (try exact absurd trivial hg); (try (exfalso; omega)); (try simp (disch := omega) only [push_cast, seval, hx, c1, c2, c3]))) | ((with_reducible refine And.intro ?_ ?_); omega))
      (refine ⟨k + 1, by ((try dsimp only); omega), ?_, by (refine ⟨[?_], ?_, ?_, ?_, ?_⟩; rotate_left 1; (· ((first | simp (disch := omega) only [push_cast, seval, e] | simp (disch := omega) only [push_cast, seval] | skip); (repeat' (first | exact trivial | exact rfl | refine And.intro ?_ ?_ | omega)))); (· ((first | simp (disch := omega) only [push_cast, seval, e] | simp (disch := omega) only [push_cast, seval] | skip); (repeat' (first | exact trivial | exact rfl | refine And.intro ?_ ?_ | omega)); (try (repeat' (first | exact trivial | exact rfl | refine And.intro ?_ ?_ | omega))))); (· exact rfl); (· (first | exact trivial | exact ⟨rfl, trivial⟩ | exact ⟨rfl, rfl, trivial⟩ | exact ⟨rfl, rfl, rfl, trivial⟩)))⟩)
      exact hlt
    obtain ⟨b, c4⟩ : ∃ b, hasI (froms (isV kind round val) (l.take k)) x5 = b := ⟨_, rfl⟩
    obtain rfl | rfl | rfl | rfl : x5 = 1 ∨ x5 = 2 ∨ x5 = 3 ∨ x5 = 4 := by omega
    all_goals
      cases b with
      | true =>
        simp only [c1, c2, c3, c4, decide_true, Bool.true_and, Bool.not_true, Bool.and_false, Bool.false_eq_true, if_false] at e
        repeat' (first | with_reducible (first | refine wA ?_ | refine wB ?_ | refine wC ?_) | with_reducible (first | refine wq1 ?_ | refine wq3 ?_ | refine wq4 ?_ | refine wS ?_) | ((with_reducible refine hK _ ?_); clear hK K) | ((with_reducible refine PWp.condI ?_); refine ⟨_, rfl, fun hg => ?_, fun hg => ?_⟩ <;> first | (exact absurd hg (by decide)) | ((try simp only [Bool.not_true, Bool.not_false] at hg); (try simp only [hg]); (try simp only [push_cast] at hg); (try exact absurd trivial hg); (try (exfalso; omega)))) | ((with_reducible refine pops_plain fun K hK => ?_); simp (disch := omega) only [push_cast, seval, hx, c1, c2, c3, c4]) | ((with_reducible refine pops_guard ?_); refine ⟨_, rfl, fun K hK => ⟨_, rfl, fun hg => ?_, fun hg => ?_⟩⟩ <;> first | (exact absurd hg (by decide)) | ((try simp only [Bool.not_true, Bool.not_false] at hg); (try simp only [hg]); (try simp only [push_cast] at hg); (try exact absurd trivial hg); (try (exfalso; omega)); (try simp (disch := omega) only [push_cast, seval, hx, c1, c2, c3, c4]))) | ((with_reducible refine And.intro ?_ ?_); omega))
        (refine ⟨k + 1, by ((try dsimp only); omega), ?_, by (refine ⟨[?_], ?_, ?_, ?_, ?_⟩; rotate_left 1; (· ((first | simp (disch := omega) only [push_cast, seval, e, c4] | simp (disch := omega) only [push_cast, seval] | skip); (repeat' (first | exact trivial | exact rfl | refine And.intro ?_ ?_ | omega)))); (· ((first | simp (disch := omega) only [push_cast, seval, e, c4] | simp (disch := omega) only [push_cast, seval] | skip); (repeat' (first | exact trivial | exact rfl | refine And.intro ?_ ?_ | omega)); (try (repeat' (first | exact trivial | exact rfl | refine And.intro ?_ ?_ | omega))))); (· exact rfl); (· (first | exact trivial | exact ⟨rfl, trivial⟩ | exact ⟨rfl, rfl, trivial⟩ | exact ⟨rfl, rfl, rfl, trivial⟩)))⟩)
        exact hlt
      | false =>
        simp only [c1, c2, c3, c4, decide_true, Bool.true_and, Bool.not_false, Bool.and_true, if_true] at e
        repeat' (first | with_reducible (first | refine wA ?_ | refine wB ?_ | refine wC ?_) | with_reducible (first | refine wq1 ?_ | refine wq3 ?_ | refine wq4 ?_ | refine wS ?_) | ((with_reducible refine hK _ ?_); clear hK K) | ((with_reducible refine PWp.condI ?_); refine ⟨_, rfl, fun hg => ?_, fun hg => ?_⟩ <;> first | (exact absurd hg (by decide)) | ((try simp only [Bool.not_true, Bool.not_false] at hg); (try simp only [hg]); (try simp only [push_cast] at hg); (try exact absurd trivial hg); (try (exfalso; omega)))) | ((with_reducible refine pops_plain fun K hK => ?_); simp (disch := omega) only [push_cast, seval, hx, c1, c2, c3, c4]) | ((with_reducible refine pops_guard ?_); refine ⟨_, rfl, fun K hK => ⟨_, rfl, fun hg => ?_, fun hg => ?_⟩⟩ <;> first | (exact absurd hg (by decide)) | ((try simp only [Bool.not_true, Bool.not_false] at hg); (try simp only [hg]); (try simp only [push_cast] at hg); (try exact absurd trivial hg); (try (exfalso; omega)); (try simp (disch := omega) only [push_cast, seval, hx, c1, c2, c3, c4]))) | ((with_reducible refine And.intro ?_ ?_); omega))
        (refine ⟨k + 1, by ((try dsimp only); omega), ?_, by (refine ⟨[?_], ?_, ?_, ?_, ?_⟩; rotate_left 1; (· ((first | simp (disch := omega) only [push_cast, seval, e, hasI_app, decide_false, decide_true, Bool.or_false, Bool.or_true, List.length_append, List.length_cons, List.length_nil] | simp (disch := omega) only [push_cast, seval] | skip); (repeat' (first | exact trivial | exact rfl | refine And.intro ?_ ?_ | omega)))); (· ((first | simp (disch := omega) only [push_cast, seval, e, hasI_app, decide_false, decide_true, Bool.or_false, Bool.or_true, List.length_append, List.length_cons, List.length_nil] | simp (disch := omega) only [push_cast, seval] | skip); (repeat' (first | exact trivial | exact rfl | refine And.intro ?_ ?_ | omega)); (try (repeat' (first | exact trivial | exact rfl | refine And.intro ?_ ?_ | omega))))); (· exact rfl); (· (first | exact trivial | exact ⟨rfl, trivial⟩ | exact ⟨rfl, rfl, trivial⟩ | exact ⟨rfl, rfl, rfl, trivial⟩)))⟩)
        exact hlt
  obtain rfl : k = l.length := by omega
  rw [List.take_length]
  repeat' (first | with_reducible (first | refine wA ?_ | refine wC ?_) | with_reducible (first | refine wq1 ?_ | refine wq3 ?_ | refine wq7 ?_ | refine wq8 ?_ | refine wq9 ?_ | refine wE ?_) | ((with_reducible refine hK _ ?_); clear hK K) | ((with_reducible refine PWp.condI ?_); refine ⟨_, rfl, fun hg => ?_, fun hg => ?_⟩ <;> first | (exact absurd hg (by decide)) | ((try simp only [Bool.not_true, Bool.not_false] at hg); (try simp only [hg]); (try simp only [push_cast] at hg); (try exact absurd trivial hg); (try (exfalso; omega)))) | ((with_reducible refine pops_plain fun K hK => ?_); simp (disch := omega) only [push_cast, seval]))
  ((with_reducible show PPostR _ _ _ _ _ _); refine finV ?_; (try simp only [push_cast, seval]))
  rfl
end Go.Proofs.Ytcbknmnlgoeniaa
namespace Go.Proofs.Ytcbknmnlgoeniaa
set_option linter.unusedSimpArgs false
set_option linter.unusedVariables false
open Go.RowKit
set_option maxRecDepth 100000
def bestB (o : Option GNMsg) : GNMsg := match o with | some m => m | none => ⟨0, 12, 0, 0, 0⟩
def decD (a : Acting) (v : Int) : Acting := ({ a.1 with fDecided := v }, a.2)
set_option maxHeartbeats 4000000 in
theorem sDecide_no (a : Acting) (hl : a.1.fMsgs.length ≤ 1000) (ms : ∀ m ∈ a.1.fMsgs, MOk m) (hb : best a.1.fMsgs = none) : PCalls Try.prog 94 [.agg (pActX a.1 (.own 0) (.own 1))] (hRun a) (RH (.tup [.agg (pActX a.1 (.own 0) (.own 1)), .val (.bool false)]) (hRun a)) := by
  have c := fun r v => sCount_p a.1.fMsgs 3 r v (by omega) ms
  obtain ⟨⟨n1, n2, n3, n4, n5, n6, n7, n8, n9, l⟩, s⟩ := a
  dsimp only at hl c ms hb ⊢
  refine pcalls_ofR okP Try.func94 rfl ?_
  simp only [Try.f94, List.length_cons, List.length_nil, Nat.reduceAdd, Nat.reduceSub, List.replicate_succ, List.replicate_zero, List.cons_append, List.nil_append, List.length_map]
  repeat' (first | with_reducible (first | refine wA ?_ | refine wB ?_ | refine wC ?_) | with_reducible (first | refine wq1 ?_ | refine wq3 ?_) | ((with_reducible refine hK _ ?_); clear hK K) | ((with_reducible refine pops_plain fun K hK => popO_build ?_); refine ⟨_, rfl, _, rfl, ?_⟩; simp (disch := omega) only [push_cast, seval]) | ((with_reducible refine pops_plain fun K hK => ?_); simp (disch := omega) only [push_cast, seval]))
  refine PWp.loopK (α := Nat) (fun k => [(1, .ptr 2 0), (2, .ptr 3 0), (4, .ptr 4 0), (5, .val (.int .i64 (k : Int)))]) [0, 6, 7, 8, 9, 10, 11, 12, 13, 14, 15, 16, 17, 18, 19, 20, 21, 22, 23, 24, 25, 26, 27, 28, 29, 30, 31, 32, 33, 34, 35, 36, 37, 38, 39, 40, 41, 42, 43, 44, 45, 46, 47, 48, 49, 50, 51, 52, 53, 54, 55, 56, 57] (fun k => [some (.row 32 5 (l.map pNMsg)), some (.row 32 5 (s.map pNMsg)), some (.box (pActX ⟨n1, n2, n3, n4, n5, n6, n7, n8, n9, l⟩ (.own 0) (.own 1))), some (.box [.val (.int .i64 0), .val (.int .i64 0), .val (.int .i64 0), .val (.int .i64 0), .val (.int .i64 0), .val (.int .i64 0), .val (.int .i64 0), .val (.int .i64 0), .val (.int .i64 0), .val (.slice none 0 0), .val (.slice none 0 0)]), some (.box (pNMsg (bestB (bestTo l k))))]) (fun k => k ≤ l.length) (fun k => l.length - k) (0) (Nat.zero_le _) (by exact fitA [_, _, _, _, _]) ?_
  intro k ρ hI
  (try dsimp only at hI)
  refine PWp.at (tm' := ?_) (H' := ?_) ?_ ?_ ?_; rotate_left 2; (· ((try simp only [push_cast, seval]); exact rfl)); (· ((try dsimp only); exact rfl))
  by_cases hlt : k < l.length
  · obtain ⟨x, hx⟩ : ∃ x, l[k]? = some x := ⟨_, List.getElem?_eq_getElem hlt⟩
    have e := bestTo_succ hx
    have hx2 := (ms x (List.mem_of_getElem? hx)).rd
    obtain ⟨x1, x2, x3, x4, x5⟩ := x
    unfold bestF at e
    dsimp only at e hx2
    by_cases c1 : x1 = 1
    case neg =>
      rw [if_neg fun q => c1 q.1] at e
      repeat' (first | with_reducible (first | refine wA ?_ | refine wB ?_ | refine wC ?_) | with_reducible (first | refine wq1 ?_ | refine wq3 ?_ | refine wq7 ?_ | refine wq8 ?_ | refine wE ?_ | refine wS ?_) | ((with_reducible refine hK _ ?_); clear hK K) | ((with_reducible refine PWp.condI ?_); refine ⟨_, rfl, fun hg => ?_, fun hg => ?_⟩ <;> first | (exact absurd hg (by decide)) | ((try simp only [Bool.not_true, Bool.not_false] at hg); (try simp only [hg]); (try simp only [push_cast] at hg); (try exact absurd trivial hg); (try (exfalso; omega)))) | ((with_reducible refine pops_guard0 ?_); refine ⟨_, rfl, fun K hK => ⟨rfl, ?_⟩⟩; (try simp (disch := omega) only [push_cast, seval, hx, c1])) | ((with_reducible refine pops_plain fun K hK => ?_); simp (disch := omega) only [push_cast, seval, hx, c1]) | ((with_reducible refine pops_guard ?_); refine ⟨_, rfl, fun K hK => ⟨_, rfl, fun hg => ?_, fun hg => ?_⟩⟩ <;> first | (exact absurd hg (by decide)) | ((try simp only [Bool.not_true, Bool.not_false] at hg); (try simp only [hg]); (try simp only [push_cast] at hg); (try exact absurd trivial hg); (try (exfalso; omega)); (try simp (disch := omega) only [push_cast, seval, hx, c1]))) | ((with_reducible refine And.intro ?_ ?_); omega))
      (refine ⟨k + 1, by ((try dsimp only); omega), ?_, by (refine ⟨[?_, ?_, ?_, ?_, ?_], ?_, ?_, ?_, ?_⟩; rotate_left 5; (· ((first | simp (disch := omega) only [push_cast, seval, e] | simp (disch := omega) only [push_cast, seval] | skip); (repeat' (first | exact trivial | exact rfl | refine And.intro ?_ ?_ | omega)))); (· ((first | simp (disch := omega) only [push_cast, seval, e] | simp (disch := omega) only [push_cast, seval] | skip); (repeat' (first | exact trivial | exact rfl | refine And.intro ?_ ?_ | omega)); (try (repeat' (first | exact trivial | exact rfl | refine And.intro ?_ ?_ | omega))))); (· exact rfl); (· (first | exact trivial | exact ⟨rfl, trivial⟩ | exact ⟨rfl, rfl, trivial⟩ | exact ⟨rfl, rfl, rfl, trivial⟩)))⟩)
      exact hlt
    by_cases c2 : 3 ≤ cntM l 3 x2 x3
    case neg =>
      rw [if_neg fun q => c2 q.2] at e
      have c3 : cntM l 3 x2 x3 < 3 := by omega
      repeat' (first | with_reducible (first | refine wA ?_ | refine wB ?_ | refine wC ?_) | with_reducible (first | refine wq1 ?_ | refine wq3 ?_ | refine wq7 ?_ | refine wq8 ?_ | refine wE ?_ | refine wS ?_) | ((with_reducible refine hK _ ?_); clear hK K) | ((with_reducible refine PWp.condI ?_); refine ⟨_, rfl, fun hg => ?_, fun hg => ?_⟩ <;> first | (exact absurd hg (by decide)) | ((try simp only [Bool.not_true, Bool.not_false] at hg); (try simp only [hg]); (try simp only [push_cast] at hg); (try exact absurd trivial hg); (try (exfalso; omega)))) | ((with_reducible refine pops_guard0 ?_); refine ⟨_, rfl, fun K hK => ⟨rfl, ?_⟩⟩; (try simp (disch := omega) only [push_cast, seval, hx, c1, c3])) | ((with_reducible refine pops_plain fun K hK => ?_); simp (disch := omega) only [push_cast, seval, hx, c1, c3]) | ((with_reducible refine pops_guard ?_); refine ⟨_, rfl, fun K hK => ⟨_, rfl, fun hg => ?_, fun hg => ?_⟩⟩ <;> first | (exact absurd hg (by decide)) | ((try simp only [Bool.not_true, Bool.not_false] at hg); (try simp only [hg]); (try simp only [push_cast] at hg); (try exact absurd trivial hg); (try (exfalso; omega)); (try simp (disch := omega) only [push_cast, seval, hx, c1, c3]))) | ((with_reducible show pcall _ _ _ _ _ _); ((refine pcV (cf Try.func98) (c _ _) ?_)); (try simp (disch := omega) only [push_cast, seval, hx, c1, c3])) | ((with_reducible refine And.intro ?_ ?_); omega))
      all_goals
        (refine ⟨k + 1, by ((try dsimp only); omega), ?_, by (refine ⟨[?_, ?_, ?_, ?_, ?_], ?_, ?_, ?_, ?_⟩; rotate_left 5; (· ((first | simp (disch := omega) only [push_cast, seval, e] | simp (disch := omega) only [push_cast, seval] | skip); (repeat' (first | exact trivial | exact rfl | refine And.intro ?_ ?_ | omega)))); (· ((first | simp (disch := omega) only [push_cast, seval, e] | simp (disch := omega) only [push_cast, seval] | skip); (repeat' (first | exact trivial | exact rfl | refine And.intro ?_ ?_ | omega)); (try (repeat' (first | exact trivial | exact rfl | refine And.intro ?_ ?_ | omega))))); (· exact rfl); (· (first | exact trivial | exact ⟨rfl, trivial⟩ | exact ⟨rfl, rfl, trivial⟩ | exact ⟨rfl, rfl, rfl, trivial⟩)))⟩)
        exact hlt
    rw [if_pos ⟨c1, c2⟩] at e
    have c3 : ¬ cntM l 3 x2 x3 < 3 := by omega
    generalize bestTo l k = b at e ⊢
    cases b with
    | none =>
      simp only [bestB]
      dsimp only at e
      have g1 : ¬ x2 > 12 := by omega
      have g2 : ¬ x2 = 12 := by omega
      repeat' (first | with_reducible (first | refine wA ?_ | refine wB ?_ | refine wC ?_) | with_reducible (first | refine wq1 ?_ | refine wq3 ?_ | refine wq4 ?_ | refine wS ?_) | ((with_reducible refine hK _ ?_); clear hK K) | ((with_reducible refine PWp.condI ?_); refine ⟨_, rfl, fun hg => ?_, fun hg => ?_⟩ <;> first | (exact absurd hg (by decide)) | ((try simp only [Bool.not_true, Bool.not_false] at hg); (try simp only [hg]); (try simp only [push_cast] at hg); (try exact absurd trivial hg); (try (exfalso; omega)))) | ((with_reducible refine pops_plain fun K hK => ?_); simp (disch := omega) only [push_cast, seval, hx, c1, c3, g1, g2]) | ((with_reducible refine pops_guard ?_); refine ⟨_, rfl, fun K hK => ⟨_, rfl, fun hg => ?_, fun hg => ?_⟩⟩ <;> first | (exact absurd hg (by decide)) | ((try simp only [Bool.not_true, Bool.not_false] at hg); (try simp only [hg]); (try simp only [push_cast] at hg); (try exact absurd trivial hg); (try (exfalso; omega)); (try simp (disch := omega) only [push_cast, seval, hx, c1, c3, g1, g2]))) | ((with_reducible show pcall _ _ _ _ _ _); ((refine pcV (cf Try.func98) (c _ _) ?_)); (try simp (disch := omega) only [push_cast, seval, hx, c1, c3, g1, g2])) | ((with_reducible refine And.intro ?_ ?_); omega))
      (refine ⟨k + 1, by ((try dsimp only); omega), ?_, by (refine ⟨[?_, ?_, ?_, ?_, ?_], ?_, ?_, ?_, ?_⟩; rotate_left 5; (· ((first | simp (disch := omega) only [push_cast, seval, e, bestB, pNMsg] | simp (disch := omega) only [push_cast, seval] | skip); (repeat' (first | exact trivial | exact rfl | refine And.intro ?_ ?_ | omega)))); (· ((first | simp (disch := omega) only [push_cast, seval, e, bestB, pNMsg] | simp (disch := omega) only [push_cast, seval] | skip); (repeat' (first | exact trivial | exact rfl | refine And.intro ?_ ?_ | omega)); (try (repeat' (first | exact trivial | exact rfl | refine And.intro ?_ ?_ | omega))))); (· exact rfl); (· (first | exact trivial | exact ⟨rfl, trivial⟩ | exact ⟨rfl, rfl, trivial⟩ | exact ⟨rfl, rfl, rfl, trivial⟩)))⟩)
      exact hlt
    | some y =>
      obtain ⟨y1, y2, y3, y4, y5⟩ := y
      simp only [bestB]
      dsimp only at e
      by_cases c4 : x2 < y2 ∨ (x2 = y2 ∧ x3 < y3)
      · rw [if_pos c4] at e
        repeat' (first | with_reducible (first | refine wA ?_ | refine wB ?_ | refine wC ?_) | with_reducible (first | refine wq1 ?_ | refine wq3 ?_ | refine wq4 ?_ | refine wS ?_) | ((with_reducible refine hK _ ?_); clear hK K) | ((with_reducible refine PWp.condI ?_); refine ⟨_, rfl, fun hg => ?_, fun hg => ?_⟩ <;> first | (exact absurd hg (by decide)) | ((try simp only [Bool.not_true, Bool.not_false] at hg); (try simp only [hg]); (try simp only [push_cast] at hg); (try exact absurd trivial hg); (try (exfalso; omega)))) | ((with_reducible refine pops_plain fun K hK => ?_); simp (disch := omega) only [push_cast, seval, hx, c1, c3]) | ((with_reducible refine pops_guard ?_); refine ⟨_, rfl, fun K hK => ⟨_, rfl, fun hg => ?_, fun hg => ?_⟩⟩ <;> first | (exact absurd hg (by decide)) | ((try simp only [Bool.not_true, Bool.not_false] at hg); (try simp only [hg]); (try simp only [push_cast] at hg); (try exact absurd trivial hg); (try (exfalso; omega)); (try simp (disch := omega) only [push_cast, seval, hx, c1, c3]))) | ((with_reducible show pcall _ _ _ _ _ _); ((refine pcV (cf Try.func98) (c _ _) ?_)); (try simp (disch := omega) only [push_cast, seval, hx, c1, c3])) | ((with_reducible refine And.intro ?_ ?_); omega))
        all_goals first
          | (exfalso; omega)
          | ((refine ⟨k + 1, by ((try dsimp only); omega), ?_, by (refine ⟨[?_, ?_, ?_, ?_, ?_], ?_, ?_, ?_, ?_⟩; rotate_left 5; (· ((first | simp (disch := omega) only [push_cast, seval, e, bestB, pNMsg] | simp (disch := omega) only [push_cast, seval] | skip); (repeat' (first | exact trivial | exact rfl | refine And.intro ?_ ?_ | omega)))); (· ((first | simp (disch := omega) only [push_cast, seval, e, bestB, pNMsg] | simp (disch := omega) only [push_cast, seval] | skip); (repeat' (first | exact trivial | exact rfl | refine And.intro ?_ ?_ | omega)); (try (repeat' (first | exact trivial | exact rfl | refine And.intro ?_ ?_ | omega))))); (· exact rfl); (· (first | exact trivial | exact ⟨rfl, trivial⟩ | exact ⟨rfl, rfl, trivial⟩ | exact ⟨rfl, rfl, rfl, trivial⟩)))⟩); exact hlt)
      · rw [if_neg c4] at e
        repeat' (first | with_reducible (first | refine wA ?_ | refine wB ?_ | refine wC ?_) | with_reducible (first | refine wq1 ?_ | refine wq3 ?_ | refine wq7 ?_ | refine wq8 ?_ | refine wE ?_ | refine wS ?_) | ((with_reducible refine hK _ ?_); clear hK K) | ((with_reducible refine PWp.condI ?_); refine ⟨_, rfl, fun hg => ?_, fun hg => ?_⟩ <;> first | (exact absurd hg (by decide)) | ((try simp only [Bool.not_true, Bool.not_false] at hg); (try simp only [hg]); (try simp only [push_cast] at hg); (try exact absurd trivial hg); (try (exfalso; omega)))) | ((with_reducible refine pops_guard0 ?_); refine ⟨_, rfl, fun K hK => ⟨rfl, ?_⟩⟩; (try simp (disch := omega) only [push_cast, seval, hx, c1, c3])) | ((with_reducible refine pops_plain fun K hK => ?_); simp (disch := omega) only [push_cast, seval, hx, c1, c3]) | ((with_reducible refine pops_guard ?_); refine ⟨_, rfl, fun K hK => ⟨_, rfl, fun hg => ?_, fun hg => ?_⟩⟩ <;> first | (exact absurd hg (by decide)) | ((try simp only [Bool.not_true, Bool.not_false] at hg); (try simp only [hg]); (try simp only [push_cast] at hg); (try exact absurd trivial hg); (try (exfalso; omega)); (try simp (disch := omega) only [push_cast, seval, hx, c1, c3]))) | ((with_reducible refine And.intro ?_ ?_); omega))
        all_goals first
          | (exfalso; omega)
          | ((refine ⟨k + 1, by ((try dsimp only); omega), ?_, by (refine ⟨[?_, ?_, ?_, ?_, ?_], ?_, ?_, ?_, ?_⟩; rotate_left 5; (· ((first | simp (disch := omega) only [push_cast, seval, e, bestB, pNMsg] | simp (disch := omega) only [push_cast, seval] | skip); (repeat' (first | exact trivial | exact rfl | refine And.intro ?_ ?_ | omega)))); (· ((first | simp (disch := omega) only [push_cast, seval, e, bestB, pNMsg] | simp (disch := omega) only [push_cast, seval] | skip); (repeat' (first | exact trivial | exact rfl | refine And.intro ?_ ?_ | omega)); (try (repeat' (first | exact trivial | exact rfl | refine And.intro ?_ ?_ | omega))))); (· exact rfl); (· (first | exact trivial | exact ⟨rfl, trivial⟩ | exact ⟨rfl, rfl, trivial⟩ | exact ⟨rfl, rfl, rfl, trivial⟩)))⟩); exact hlt)
  obtain rfl : k = l.length := by omega
  rw [bestTo_end, hb]
  simp only [bestB]
  repeat' (first | with_reducible (first | refine wA ?_ | refine wC ?_) | with_reducible (first | refine wq1 ?_ | refine wq3 ?_ | refine wq5 ?_ | refine wq7 ?_ | refine wq8 ?_ | refine wq9 ?_ | refine wE ?_) | ((with_reducible refine hK _ ?_); clear hK K) | ((with_reducible refine PWp.condI ?_); refine ⟨_, rfl, fun hg => ?_, fun hg => ?_⟩ <;> first | (exact absurd hg (by decide)) | ((try simp only [Bool.not_true, Bool.not_false] at hg); (try simp only [hg]); (try simp only [push_cast] at hg); (try exact absurd trivial hg); (try (exfalso; omega)))) | ((with_reducible refine pops_plain fun K hK => ?_); simp (disch := omega) only [push_cast, seval]))
  ((with_reducible show PPostR _ _ _ _ _ _); exact finH [0, 1])
set_option maxHeartbeats 4000000 in
theorem sDecide_yes (a : Acting) (hl : a.1.fMsgs.length ≤ 1000) (ms : ∀ m ∈ a.1.fMsgs, MOk m) (m : GNMsg) (hb : best a.1.fMsgs = some m) : PCalls Try.prog 94 [.agg (pActX a.1 (.own 0) (.own 1))] (hRun a) (RH (.tup [.agg (pActX (decD a m.fVal).1 (.own 2) (.own 3)), .val (.bool true)]) (hRunM (decD a m.fVal))) := by
  have c := fun r v => sCount_p a.1.fMsgs 3 r v (by omega) ms
  obtain ⟨⟨n1, n2, n3, n4, n5, n6, n7, n8, n9, l⟩, s⟩ := a
  dsimp only at hl c ms hb ⊢
  have hm := (ms m (best_some hb).1).rd
  unfold decD
  refine pcalls_ofR okP Try.func94 rfl ?_
  simp only [Try.f94, List.length_cons, List.length_nil, Nat.reduceAdd, Nat.reduceSub, List.replicate_succ, List.replicate_zero, List.cons_append, List.nil_append, List.length_map]
  repeat' (first | with_reducible refine mkRegion (id := 1) ?_ | with_reducible (first | refine wA ?_ | refine wC ?_) | with_reducible (first | refine wq1 ?_ | refine wq3 ?_) | ((with_reducible refine hK _ ?_); clear hK K) | ((with_reducible refine pops_plain fun K hK => ?_); simp (disch := omega) only [push_cast, seval]))
  refine Mk.of ?_
  refine PWp.mvB 2 9 0 rfl rfl rfl (by decide) ?_
  refine PWp.mvB 2 10 1 rfl rfl rfl (by decide) ?_
  repeat' (first | with_reducible (first | refine wA ?_ | refine wB ?_ | refine wC ?_) | with_reducible (first | refine wq1 ?_ | refine wq3 ?_) | ((with_reducible refine hK _ ?_); clear hK K) | ((with_reducible refine pops_plain fun K hK => popO_build ?_); refine ⟨_, rfl, _, rfl, ?_⟩; simp (disch := omega) only [push_cast, seval]) | ((with_reducible refine pops_plain fun K hK => ?_); simp (disch := omega) only [push_cast, seval]))
  refine PWp.loopK (α := Nat) (fun k => [(1, .ptr 2 0), (2, .ptr 3 0), (4, .ptr 6 0), (5, .val (.int .i64 (k : Int)))]) [0, 6, 7, 8, 9, 10, 11, 12, 13, 14, 15, 16, 17, 18, 19, 20, 21, 22, 23, 24, 25, 26, 27, 28, 29, 30, 31, 32, 33, 34, 35, 36, 37, 38, 39, 40, 41, 42, 43, 44, 45, 46, 47, 48, 49, 50, 51, 52, 53, 54, 55, 56, 57] (fun k => [none, none, some (.box (pActX ⟨n1, n2, n3, n4, n5, n6, n7, n8, n9, l⟩ (.own 4) (.own 5))), some (.box [.val (.int .i64 0), .val (.int .i64 0), .val (.int .i64 0), .val (.int .i64 0), .val (.int .i64 0), .val (.int .i64 0), .val (.int .i64 0), .val (.int .i64 0), .val (.int .i64 0), .val (.slice none 0 0), .val (.slice none 0 0)]), some (.row 32 5 (l.map pNMsg)), some (.row 32 5 (s.map pNMsg)), some (.box (pNMsg (bestB (bestTo l k))))]) (fun k => k ≤ l.length) (fun k => l.length - k) (0) (Nat.zero_le _) (by exact fitA [0, 1, _, _, _, _, _]) ?_
  intro k ρ hI
  (try dsimp only at hI)
  refine PWp.at (tm' := ?_) (H' := ?_) ?_ ?_ ?_; rotate_left 2; (· ((try simp only [push_cast, seval]); exact rfl)); (· ((try dsimp only); exact rfl))
  by_cases hlt : k < l.length
  · obtain ⟨x, hx⟩ : ∃ x, l[k]? = some x := ⟨_, List.getElem?_eq_getElem hlt⟩
    have e := bestTo_succ hx
    have hx2 := (ms x (List.mem_of_getElem? hx)).rd
    obtain ⟨x1, x2, x3, x4, x5⟩ := x
    unfold bestF at e
    dsimp only at e hx2
    by_cases c1 : x1 = 1
    case neg =>
      rw [if_neg fun q => c1 q.1] at e
      repeat' (first | with_reducible (first | refine wA ?_ | refine wB ?_ | refine wC ?_) | with_reducible (first | refine wq1 ?_ | refine wq3 ?_ | refine wq7 ?_ | refine wq8 ?_ | refine wE ?_ | refine wS ?_) | ((with_reducible refine hK _ ?_); clear hK K) | ((with_reducible refine PWp.condI ?_); refine ⟨_, rfl, fun hg => ?_, fun hg => ?_⟩ <;> first | (exact absurd hg (by decide)) | ((try simp only [Bool.not_true, Bool.not_false] at hg); (try simp only [hg]); (try simp only [push_cast] at hg); (try exact absurd trivial hg); (try (exfalso; omega)))) | ((with_reducible refine pops_guard0 ?_); refine ⟨_, rfl, fun K hK => ⟨rfl, ?_⟩⟩; (try simp (disch := omega) only [push_cast, seval, hx, c1])) | ((with_reducible refine pops_plain fun K hK => ?_); simp (disch := omega) only [push_cast, seval, hx, c1]) | ((with_reducible refine pops_guard ?_); refine ⟨_, rfl, fun K hK => ⟨_, rfl, fun hg => ?_, fun hg => ?_⟩⟩ <;> first | (exact absurd hg (by decide)) | ((try simp only [Bool.not_true, Bool.not_false] at hg); (try simp only [hg]); (try simp only [push_cast] at hg); (try exact absurd trivial hg); (try (exfalso; omega)); (try simp (disch := omega) only [push_cast, seval, hx, c1]))) | ((with_reducible refine And.intro ?_ ?_); omega))
      (refine ⟨k + 1, by ((try dsimp only); omega), ?_, by (refine ⟨[0, 1, ?_, ?_, ?_, ?_, ?_], ?_, ?_, ?_, ?_⟩; rotate_left 5; (· ((first | simp (disch := omega) only [push_cast, seval, e] | simp (disch := omega) only [push_cast, seval] | skip); (repeat' (first | exact trivial | exact rfl | refine And.intro ?_ ?_ | omega)))); (· ((first | simp (disch := omega) only [push_cast, seval, e] | simp (disch := omega) only [push_cast, seval] | skip); (repeat' (first | exact trivial | exact rfl | refine And.intro ?_ ?_ | omega)); (try (repeat' (first | exact trivial | exact rfl | refine And.intro ?_ ?_ | omega))))); (· exact rfl); (· (first | exact trivial | exact ⟨rfl, trivial⟩ | exact ⟨rfl, rfl, trivial⟩ | exact ⟨rfl, rfl, rfl, trivial⟩)))⟩)
      exact hlt
    by_cases c2 : 3 ≤ cntM l 3 x2 x3
    case neg =>
      rw [if_neg fun q => c2 q.2] at e
      have c3 : cntM l 3 x2 x3 < 3 := by omega
      repeat' (first | with_reducible (first | refine wA ?_ | refine wB ?_ | refine wC ?_) | with_reducible (first | refine wq1 ?_ | refine wq3 ?_ | refine wq7 ?_ | refine wq8 ?_ | refine wE ?_ | refine wS ?_) | ((with_reducible refine hK _ ?_); clear hK K) | ((with_reducible refine PWp.condI ?_); refine ⟨_, rfl, fun hg => ?_, fun hg => ?_⟩ <;> first | (exact absurd hg (by decide)) | ((try simp only [Bool.not_true, Bool.not_false] at hg); (try simp only [hg]); (try simp only [push_cast] at hg); (try exact absurd trivial hg); (try (exfalso; omega)))) | ((with_reducible refine pops_guard0 ?_); refine ⟨_, rfl, fun K hK => ⟨rfl, ?_⟩⟩; (try simp (disch := omega) only [push_cast, seval, hx, c1, c3])) | ((with_reducible refine pops_plain fun K hK => ?_); simp (disch := omega) only [push_cast, seval, hx, c1, c3]) | ((with_reducible refine pops_guard ?_); refine ⟨_, rfl, fun K hK => ⟨_, rfl, fun hg => ?_, fun hg => ?_⟩⟩ <;> first | (exact absurd hg (by decide)) | ((try simp only [Bool.not_true, Bool.not_false] at hg); (try simp only [hg]); (try simp only [push_cast] at hg); (try exact absurd trivial hg); (try (exfalso; omega)); (try simp (disch := omega) only [push_cast, seval, hx, c1, c3]))) | ((with_reducible show pcall _ _ _ _ _ _); ((refine pcV (cf Try.func98) (c _ _) ?_)); (try simp (disch := omega) only [push_cast, seval, hx, c1, c3])) | ((with_reducible refine And.intro ?_ ?_); omega))
      all_goals
        (refine ⟨k + 1, by ((try dsimp only); omega), ?_, by (refine ⟨[0, 1, ?_, ?_, ?_, ?_, ?_], ?_, ?_, ?_, ?_⟩; rotate_left 5; (· ((first | simp (disch := omega) only [push_cast, seval, e] | simp (disch := omega) only [push_cast, seval] | skip); (repeat' (first | exact trivial | exact rfl | refine And.intro ?_ ?_ | omega)))); (· ((first | simp (disch := omega) only [push_cast, seval, e] | simp (disch := omega) only [push_cast, seval] | skip); (repeat' (first | exact trivial | exact rfl | refine And.intro ?_ ?_ | omega)); (try (repeat' (first | exact trivial | exact rfl | refine And.intro ?_ ?_ | omega))))); (· exact rfl); (· (first | exact trivial | exact ⟨rfl, trivial⟩ | exact ⟨rfl, rfl, trivial⟩ | exact ⟨rfl, rfl, rfl, trivial⟩)))⟩)
        exact hlt
    rw [if_pos ⟨c1, c2⟩] at e
    have c3 : ¬ cntM l 3 x2 x3 < 3 := by omega
    generalize bestTo l k = b at e ⊢
    cases b with
    | none =>
      simp only [bestB]
      dsimp only at e
      have g1 : ¬ x2 > 12 := by omega
      have g2 : ¬ x2 = 12 := by omega
      repeat' (first | with_reducible (first | refine wA ?_ | refine wB ?_ | refine wC ?_) | with_reducible (first | refine wq1 ?_ | refine wq3 ?_ | refine wq4 ?_ | refine wS ?_) | ((with_reducible refine hK _ ?_); clear hK K) | ((with_reducible refine PWp.condI ?_); refine ⟨_, rfl, fun hg => ?_, fun hg => ?_⟩ <;> first | (exact absurd hg (by decide)) | ((try simp only [Bool.not_true, Bool.not_false] at hg); (try simp only [hg]); (try simp only [push_cast] at hg); (try exact absurd trivial hg); (try (exfalso; omega)))) | ((with_reducible refine pops_plain fun K hK => ?_); simp (disch := omega) only [push_cast, seval, hx, c1, c3, g1, g2]) | ((with_reducible refine pops_guard ?_); refine ⟨_, rfl, fun K hK => ⟨_, rfl, fun hg => ?_, fun hg => ?_⟩⟩ <;> first | (exact absurd hg (by decide)) | ((try simp only [Bool.not_true, Bool.not_false] at hg); (try simp only [hg]); (try simp only [push_cast] at hg); (try exact absurd trivial hg); (try (exfalso; omega)); (try simp (disch := omega) only [push_cast, seval, hx, c1, c3, g1, g2]))) | ((with_reducible show pcall _ _ _ _ _ _); ((refine pcV (cf Try.func98) (c _ _) ?_)); (try simp (disch := omega) only [push_cast, seval, hx, c1, c3, g1, g2])) | ((with_reducible refine And.intro ?_ ?_); omega))
      (refine ⟨k + 1, by ((try dsimp only); omega), ?_, by (refine ⟨[0, 1, ?_, ?_, ?_, ?_, ?_], ?_, ?_, ?_, ?_⟩; rotate_left 5; (· ((first | simp (disch := omega) only [push_cast, seval, e, bestB, pNMsg] | simp (disch := omega) only [push_cast, seval] | skip); (repeat' (first | exact trivial | exact rfl | refine And.intro ?_ ?_ | omega)))); (· ((first | simp (disch := omega) only [push_cast, seval, e, bestB, pNMsg] | simp (disch := omega) only [push_cast, seval] | skip); (repeat' (first | exact trivial | exact rfl | refine And.intro ?_ ?_ | omega)); (try (repeat' (first | exact trivial | exact rfl | refine And.intro ?_ ?_ | omega))))); (· exact rfl); (· (first | exact trivial | exact ⟨rfl, trivial⟩ | exact ⟨rfl, rfl, trivial⟩ | exact ⟨rfl, rfl, rfl, trivial⟩)))⟩)
      exact hlt
    | some y =>
      obtain ⟨y1, y2, y3, y4, y5⟩ := y
      simp only [bestB]
      dsimp only at e
      by_cases c4 : x2 < y2 ∨ (x2 = y2 ∧ x3 < y3)
      · rw [if_pos c4] at e
        repeat' (first | with_reducible (first | refine wA ?_ | refine wB ?_ | refine wC ?_) | with_reducible (first | refine wq1 ?_ | refine wq3 ?_ | refine wq4 ?_ | refine wS ?_) | ((with_reducible refine hK _ ?_); clear hK K) | ((with_reducible refine PWp.condI ?_); refine ⟨_, rfl, fun hg => ?_, fun hg => ?_⟩ <;> first | (exact absurd hg (by decide)) | ((try simp only [Bool.not_true, Bool.not_false] at hg); (try simp only [hg]); (try simp only [push_cast] at hg); (try exact absurd trivial hg); (try (exfalso; omega)))) | ((with_reducible refine pops_plain fun K hK => ?_); simp (disch := omega) only [push_cast, seval, hx, c1, c3]) | ((with_reducible refine pops_guard ?_); refine ⟨_, rfl, fun K hK => ⟨_, rfl, fun hg => ?_, fun hg => ?_⟩⟩ <;> first | (exact absurd hg (by decide)) | ((try simp only [Bool.not_true, Bool.not_false] at hg); (try simp only [hg]); (try simp only [push_cast] at hg); (try exact absurd trivial hg); (try (exfalso; omega)); (try simp (disch := omega) only [push_cast, seval, hx, c1, c3]))) | ((with_reducible show pcall _ _ _ _ _ _); ((refine pcV (cf Try.func98) (c _ _) ?_)); (try simp (disch := omega) only [push_cast, seval, hx, c1, c3])) | ((with_reducible refine And.intro ?_ ?_); omega))
        all_goals first
          | (exfalso; omega)
          | ((refine ⟨k + 1, by ((try dsimp only); omega), ?_, by (refine ⟨[0, 1, ?_, ?_, ?_, ?_, ?_], ?_, ?_, ?_, ?_⟩; rotate_left 5; (· ((first | simp (disch := omega) only [push_cast, seval, e, bestB, pNMsg] | simp (disch := omega) only [push_cast, seval] | skip); (repeat' (first | exact trivial | exact rfl | refine And.intro ?_ ?_ | omega)))); (· ((first | simp (disch := omega) only [push_cast, seval, e, bestB, pNMsg] | simp (disch := omega) only [push_cast, seval] | skip); (repeat' (first | exact trivial | exact rfl | refine And.intro ?_ ?_ | omega)); (try (repeat' (first | exact trivial | exact rfl | refine And.intro ?_ ?_ | omega))))); (· exact rfl); (· (first | exact trivial | exact ⟨rfl, trivial⟩ | exact ⟨rfl, rfl, trivial⟩ | exact ⟨rfl, rfl, rfl, trivial⟩)))⟩); exact hlt)
      · rw [if_neg c4] at e
        repeat' (first | with_reducible (first | refine wA ?_ | refine wB ?_ | refine wC ?_) | with_reducible (first | refine wq1 ?_ | refine wq3 ?_ | refine wq7 ?_ | refine wq8 ?_ | refine wE ?_ | refine wS ?_) | ((with_reducible refine hK _ ?_); clear hK K) | ((with_reducible refine PWp.condI ?_); refine ⟨_, rfl, fun hg => ?_, fun hg => ?_⟩ <;> first | (exact absurd hg (by decide)) | ((try simp only [Bool.not_true, Bool.not_false] at hg); (try simp only [hg]); (try simp only [push_cast] at hg); (try exact absurd trivial hg); (try (exfalso; omega)))) | ((with_reducible refine pops_guard0 ?_); refine ⟨_, rfl, fun K hK => ⟨rfl, ?_⟩⟩; (try simp (disch := omega) only [push_cast, seval, hx, c1, c3])) | ((with_reducible refine pops_plain fun K hK => ?_); simp (disch := omega) only [push_cast, seval, hx, c1, c3]) | ((with_reducible refine pops_guard ?_); refine ⟨_, rfl, fun K hK => ⟨_, rfl, fun hg => ?_, fun hg => ?_⟩⟩ <;> first | (exact absurd hg (by decide)) | ((try simp only [Bool.not_true, Bool.not_false] at hg); (try simp only [hg]); (try simp only [push_cast] at hg); (try exact absurd trivial hg); (try (exfalso; omega)); (try simp (disch := omega) only [push_cast, seval, hx, c1, c3]))) | ((with_reducible refine And.intro ?_ ?_); omega))
        all_goals first
          | (exfalso; omega)
          | ((refine ⟨k + 1, by ((try dsimp only); omega), ?_, by (refine ⟨[0, 1, ?_, ?_, ?_, ?_, ?_], ?_, ?_, ?_, ?_⟩; rotate_left 5; (· ((first | simp (disch := omega) only [push_cast, seval, e, bestB, pNMsg] | simp (disch := omega) only [push_cast, seval] | skip); (repeat' (first | exact trivial | exact rfl | refine And.intro ?_ ?_ | omega)))); (· ((first | simp (disch := omega) only [push_cast, seval, e, bestB, pNMsg] | simp (disch := omega) only [push_cast, seval] | skip); (repeat' (first | exact trivial | exact rfl | refine And.intro ?_ ?_ | omega)); (try (repeat' (first | exact trivial | exact rfl | refine And.intro ?_ ?_ | omega))))); (· exact rfl); (· (first | exact trivial | exact ⟨rfl, trivial⟩ | exact ⟨rfl, rfl, trivial⟩ | exact ⟨rfl, rfl, rfl, trivial⟩)))⟩); exact hlt)
  obtain rfl : k = l.length := by omega
  rw [bestTo_end, hb]
  simp only [bestB]
  have hm2 : ¬ m.fRound = 12 := by omega
  obtain ⟨m1, m2, m3, m4, m5⟩ := m
  dsimp only at hm2 ⊢
  repeat' (first | with_reducible (first | refine wA ?_ | refine wC ?_) | with_reducible (first | refine wq1 ?_ | refine wq3 ?_ | refine wq7 ?_ | refine wq8 ?_ | refine wq9 ?_ | refine wE ?_ | refine wS ?_) | ((with_reducible refine hK _ ?_); clear hK K) | ((with_reducible refine PWp.condI ?_); refine ⟨_, rfl, fun hg => ?_, fun hg => ?_⟩ <;> first | (exact absurd hg (by decide)) | ((try simp only [Bool.not_true, Bool.not_false] at hg); (try simp only [hg]); (try simp only [push_cast] at hg); (try exact absurd trivial hg); (try (exfalso; omega)))) | ((with_reducible refine pops_plain fun K hK => ?_); simp (disch := omega) only [push_cast, seval, hm2]))
  ((with_reducible show PPostR _ _ _ _ _ _); exact finH [0, 1, _, _])
end Go.Proofs.Ytcbknmnlgoeniaa
namespace Go.Proofs.Ytcbknmnlgoeniaa
set_option linter.unusedSimpArgs false
set_option linter.unusedVariables false
open Go.RowKit
set_option maxRecDepth 100000
def hasFr (r f : Int) (m : GNMsg) : Bool := decide (m.fFrom = f) && decide (m.fRound = r)
def cntF (l : List GNMsg) (r : Int) : Nat → Int
  | 0 => 0
  | k + 1 => if l.any (hasFr r ((k : Int) + 1)) then cntF l r k + 1 else cntF l r k
theorem any_froms {l : List GNMsg} {r f : Int} : l.any (hasFr r f) = decide (f ∈ froms (isR r) l) := by
  rw [Bool.eq_iff_iff, decide_eq_true_eq, froms_mem, List.any_eq_true]
  constructor
  · rintro ⟨m, h1, h2⟩
    simp only [hasFr, Bool.and_eq_true, decide_eq_true_eq] at h2
    exact ⟨m, h1, by simp [isR, h2.2], h2.1⟩
  · rintro ⟨m, h1, h2, h3⟩
    simp only [isR, decide_eq_true_eq] at h2
    exact ⟨m, h1, by simp [hasFr, h2, h3]⟩
theorem cntF_le (l : List GNMsg) (r : Int) : ∀ k : Nat, 0 ≤ cntF l r k ∧ cntF l r k ≤ k
  | 0 => ⟨Int.le_refl 0, Int.le_refl 0⟩
  | k + 1 => by
    have := cntF_le l r k
    unfold cntF
    split <;> (push_cast; omega)
theorem len4 {F : List Int} (nd : F.Nodup) (h : ∀ x ∈ F, 1 ≤ x ∧ x ≤ 4) : F.length = ([1, 2, 3, 4].filter fun x => decide (x ∈ F)).length := by
  refine List.Perm.length_eq ?_
  refine (List.perm_ext_iff_of_nodup nd (List.Nodup.sublist List.filter_sublist (by decide))).2 fun x => ?_
  rw [List.mem_filter, decide_eq_true_eq]
  refine ⟨fun hx => ⟨?_, hx⟩, fun hx => hx.2⟩
  have := h x hx
  obtain rfl | rfl | rfl | rfl : x = 1 ∨ x = 2 ∨ x = 3 ∨ x = 4 := by omega
  all_goals simp
theorem cntF_froms {l : List GNMsg} {r : Int} (ms : ∀ m ∈ l, MOk m) : cntF l r 4 = ((froms (isR r) l).length : Nat) := by
  rw [len4 froms_nodup fun x hx => by
    obtain ⟨m, h1, -, rfl⟩ := froms_mem.1 hx
    exact (ms m h1).fr]
  simp only [cntF, any_froms, decide_eq_true_eq, Int.reduceAdd, List.filter_cons, List.filter_nil]
  by_cases h1 : (1 : Int) ∈ froms (isR r) l
  all_goals by_cases h2 : (2 : Int) ∈ froms (isR r) l
  all_goals by_cases h3 : (3 : Int) ∈ froms (isR r) l
  all_goals by_cases h4 : (4 : Int) ∈ froms (isR r) l
  all_goals simp [h1, h2, h3, h4]
theorem any_take {α : Type} {p : α → Bool} {l : List α} {k : Nat} {x : α} (h : l[k]? = some x) : (l.take (k + 1)).any p = ((l.take k).any p || p x) := by
  rw [List.take_add_one, h, Option.toList_some, List.any_append, List.any_cons, List.any_nil, Bool.or_false]
set_option maxHeartbeats 4000000 in
theorem sSkip_no (a : Acting) (hr : -1 ≤ a.1.fRound ∧ a.1.fRound ≤ 11) (hm : 1 ≤ a.1.fMe ∧ a.1.fMe ≤ 4) (hv0 : -1 ≤ a.1.fValidRound) (hl : a.1.fMsgs.length ≤ 1000 ∧ a.2.length ≤ 1000) (ms : ∀ m ∈ a.1.fMsgs, MOk m) (hk : skipTo a.1.fMsgs a.1.fRound (11 - a.1.fRound).toNat = none) : PCalls Try.prog 95 [.agg (pActX a.1 (.own 0) (.own 1))] (hRun a) (RH (.tup [.agg (pActX a.1 (.own 0) (.own 1)), .val (.bool false)]) (hRun a)) := by
  have hc4 := fun r => cntF_froms (r := r) ms
  have hcl := fun r => cntF_le a.1.fMsgs r
  obtain ⟨⟨n1, n2, n3, n4, n5, n6, n7, n8, n9, l⟩, s⟩ := a
  dsimp only at hl hr hk hc4 hcl ⊢
  refine pcalls_ofR okP Try.func95 rfl ?_
  simp only [Try.f95, List.length_cons, List.length_nil, Nat.reduceAdd, Nat.reduceSub, List.replicate_succ, List.replicate_zero, List.cons_append, List.nil_append, List.length_map]
  repeat' (first | with_reducible (first | refine wA ?_ | refine wB ?_ | refine wC ?_) | with_reducible (first | refine wq1 ?_ | refine wq3 ?_) | ((with_reducible refine hK _ ?_); clear hK K) | ((with_reducible refine pops_plain fun K hK => ?_); simp (disch := omega) only [push_cast, seval]))
  refine PWp.loopK (α := Nat) (fun j => [(1, .ptr 2 0), (2, .ptr 3 0), (4, .val (.int .i64 (n2 + j)))]) [0, 3, 5, 6, 7, 8, 9, 10, 11, 12, 13, 14, 15, 16, 17, 18, 19, 20, 21, 22, 23, 24, 25, 26, 27, 28, 29, 30, 31, 32, 33, 34, 35, 36, 37, 38, 39, 40, 41, 42, 43, 44, 45, 46, 47, 48, 49, 50, 51, 52, 53, 54, 55, 56, 57, 58] (fun j => [some (.row 32 5 (l.map pNMsg)), some (.row 32 5 (s.map pNMsg)), some (.box (pActX ⟨n1, n2, n3, n4, n5, n6, n7, n8, n9, l⟩ (.own 0) (.own 1))), some (.box [.val (.int .i64 0), .val (.int .i64 0), .val (.int .i64 0), .val (.int .i64 0), .val (.int .i64 0), .val (.int .i64 0), .val (.int .i64 0), .val (.int .i64 0), .val (.int .i64 0), .val (.slice none 0 0), .val (.slice none 0 0)])]) (fun j => n2 + j ≤ 11 ∧ none = skipTo l n2 j) (fun j => j) ((11 - n2).toNat) (⟨by omega, hk.symm⟩) (by exact fitA [_, _, _, _]) ?_
  intro j ρ hI
  (try dsimp only at hI)
  refine PWp.at (tm' := ?_) (H' := ?_) ?_ ?_ ?_; rotate_left 2; (· ((try simp only [push_cast, seval]); exact rfl)); (· ((try dsimp only); exact rfl))
  obtain ⟨hj, hA⟩ := hI
  cases j with
  | zero =>
    repeat' (first | with_reducible (first | refine wA ?_ | refine wC ?_) | with_reducible (first | refine wq1 ?_ | refine wq3 ?_ | refine wq7 ?_ | refine wq8 ?_ | refine wq9 ?_ | refine wE ?_) | ((with_reducible refine hK _ ?_); clear hK K) | ((with_reducible refine PWp.condI ?_); refine ⟨_, rfl, fun hg => ?_, fun hg => ?_⟩ <;> first | (exact absurd hg (by decide)) | ((try simp only [Bool.not_true, Bool.not_false] at hg); (try simp only [hg]); (try simp only [push_cast] at hg); (try exact absurd trivial hg); (try (exfalso; omega)))) | ((with_reducible refine pops_plain fun K hK => ?_); simp (disch := omega) only [push_cast, seval]))
    ((with_reducible show PPostR _ _ _ _ _ _); exact finH [0, 1])
  | succ i =>
    repeat' (first | with_reducible (first | refine wA ?_ | refine wB ?_ | refine wC ?_) | with_reducible (first | refine wq1 ?_ | refine wq3 ?_ | refine wS ?_) | ((with_reducible refine hK _ ?_); clear hK K) | ((with_reducible refine PWp.condI ?_); refine ⟨_, rfl, fun hg => ?_, fun hg => ?_⟩ <;> first | (exact absurd hg (by decide)) | ((try simp only [Bool.not_true, Bool.not_false] at hg); (try simp only [hg]); (try simp only [push_cast] at hg); (try exact absurd trivial hg); (try (exfalso; omega)))) | ((with_reducible refine pops_plain fun K hK => ?_); simp (disch := omega) only [push_cast, seval]))
    refine PWp.loopK (α := Nat) (fun f => [(1, .ptr 2 0), (2, .ptr 3 0), (5, .val (.int .i64 (cntF l (n2 + (i + 1)) f))), (6, .val (.int .i64 ((f : Int) + 1)))]) [0, 7, 8, 16, 17, 18, 19, 20, 21, 22, 23, 24, 25, 26, 27, 28, 29, 30, 31, 32, 33, 34, 35, 36, 37, 38, 39, 40, 41, 42, 43, 44, 45, 46, 47, 48, 49, 50, 51, 52, 53] (fun f => [some (.row 32 5 (l.map pNMsg)), some (.row 32 5 (s.map pNMsg)), some (.box (pActX ⟨n1, n2, n3, n4, n5, n6, n7, n8, n9, l⟩ (.own 0) (.own 1))), some (.box [.val (.int .i64 0), .val (.int .i64 0), .val (.int .i64 0), .val (.int .i64 0), .val (.int .i64 0), .val (.int .i64 0), .val (.int .i64 0), .val (.int .i64 0), .val (.int .i64 0), .val (.slice none 0 0), .val (.slice none 0 0)])]) (fun f => f ≤ 4) (fun f => 4 - f) (0) (Nat.zero_le _) (by exact fitA [_, _, _, _]) ?_
    intro f ρ hI
    (try dsimp only at hI)
    refine PWp.at (tm' := ?_) (H' := ?_) ?_ ?_ ?_; rotate_left 2; (· ((try simp only [push_cast, seval]); exact rfl)); (· ((try dsimp only); exact rfl))
    by_cases hf : f < 4
    · have hcf := hcl (n2 + (i + 1)) f
      have ef : cntF l (n2 + (i + 1)) (f + 1) = if l.any (hasFr (n2 + (i + 1)) ((f : Int) + 1)) then cntF l (n2 + (i + 1)) f + 1 else cntF l (n2 + (i + 1)) f := rfl
      repeat' (first | with_reducible (first | refine wA ?_ | refine wB ?_ | refine wC ?_) | with_reducible (first | refine wq1 ?_ | refine wq3 ?_ | refine wS ?_) | ((with_reducible refine hK _ ?_); clear hK K) | ((with_reducible refine PWp.condI ?_); refine ⟨_, rfl, fun hg => ?_, fun hg => ?_⟩ <;> first | (exact absurd hg (by decide)) | ((try simp only [Bool.not_true, Bool.not_false] at hg); (try simp only [hg]); (try simp only [push_cast] at hg); (try exact absurd trivial hg); (try (exfalso; omega)))) | ((with_reducible refine pops_plain fun K hK => ?_); simp (disch := omega) only [push_cast, seval]))
      refine PWp.loopK (α := Nat) (fun k => [(1, .ptr 2 0), (2, .ptr 3 0), (7, .val (.bool ((l.take k).any (hasFr (n2 + (i + 1)) ((f : Int) + 1))))), (8, .val (.int .i64 (k : Int)))]) [0, 20, 21, 22, 23, 24, 25, 26, 27, 28, 29, 30, 31, 32, 33, 34, 35, 36, 37, 38, 39, 40, 41, 42, 43, 44, 45, 46, 47, 48, 49, 50] (fun k => [some (.row 32 5 (l.map pNMsg)), some (.row 32 5 (s.map pNMsg)), some (.box (pActX ⟨n1, n2, n3, n4, n5, n6, n7, n8, n9, l⟩ (.own 0) (.own 1))), some (.box [.val (.int .i64 0), .val (.int .i64 0), .val (.int .i64 0), .val (.int .i64 0), .val (.int .i64 0), .val (.int .i64 0), .val (.int .i64 0), .val (.int .i64 0), .val (.int .i64 0), .val (.slice none 0 0), .val (.slice none 0 0)])]) (fun k => k ≤ l.length) (fun k => l.length - k) (0) (Nat.zero_le _) (by exact fitA [_, _, _, _]) ?_
      intro k ρ hI
      (try dsimp only at hI)
      refine PWp.at (tm' := ?_) (H' := ?_) ?_ ?_ ?_; rotate_left 2; (· ((try simp only [push_cast, seval]); exact rfl)); (· ((try dsimp only); exact rfl))
      by_cases hlt : k < l.length
      · obtain ⟨x, hx⟩ : ∃ x, l[k]? = some x := ⟨_, List.getElem?_eq_getElem hlt⟩
        have e := any_take (p := hasFr (n2 + (i + 1)) ((f : Int) + 1)) hx
        generalize (l.take k).any (hasFr (n2 + (i + 1)) ((f : Int) + 1)) = b at e ⊢
        obtain ⟨x1, x2, x3, x4, x5⟩ := x
        simp only [hasFr] at e
        cases b with
        | true =>
          rw [Bool.true_or] at e
          repeat' (first | with_reducible (first | refine wA ?_ | refine wB ?_ | refine wC ?_) | with_reducible (first | refine wq1 ?_ | refine wq3 ?_ | refine wq4 ?_ | refine wS ?_) | ((with_reducible refine hK _ ?_); clear hK K) | ((with_reducible refine PWp.condI ?_); refine ⟨_, rfl, fun hg => ?_, fun hg => ?_⟩ <;> first | (exact absurd hg (by decide)) | ((try simp only [Bool.not_true, Bool.not_false] at hg); (try simp only [hg]); (try simp only [push_cast] at hg); (try exact absurd trivial hg); (try (exfalso; omega)))) | ((with_reducible refine pops_guard0 ?_); refine ⟨_, rfl, fun K hK => ⟨rfl, ?_⟩⟩; (try simp (disch := omega) only [push_cast, seval, hx])) | ((with_reducible refine pops_plain fun K hK => ?_); simp (disch := omega) only [push_cast, seval, hx]) | ((with_reducible refine pops_guard ?_); refine ⟨_, rfl, fun K hK => ⟨_, rfl, fun hg => ?_, fun hg => ?_⟩⟩ <;> first | (exact absurd hg (by decide)) | ((try simp only [Bool.not_true, Bool.not_false] at hg); (try simp only [hg]); (try simp only [push_cast] at hg); (try exact absurd trivial hg); (try (exfalso; omega)); (try simp (disch := omega) only [push_cast, seval, hx]))))
          (refine ⟨k + 1, by ((try dsimp only); omega), ?_, by (refine ⟨[?_, ?_, ?_, ?_], ?_, ?_, ?_, ?_⟩; rotate_left 4; (· ((first | simp (disch := omega) only [push_cast, seval, e] | simp (disch := omega) only [push_cast, seval] | skip); (repeat' (first | exact trivial | exact rfl | refine And.intro ?_ ?_ | omega)))); (· ((first | simp (disch := omega) only [push_cast, seval, e] | simp (disch := omega) only [push_cast, seval] | skip); (repeat' (first | exact trivial | exact rfl | refine And.intro ?_ ?_ | omega)); (try (repeat' (first | exact trivial | exact rfl | refine And.intro ?_ ?_ | omega))))); (· exact rfl); (· (first | exact trivial | exact ⟨rfl, trivial⟩ | exact ⟨rfl, rfl, trivial⟩ | exact ⟨rfl, rfl, rfl, trivial⟩)))⟩)
          exact hlt
        | false =>
          rw [Bool.false_or] at e
          by_cases q1 : x5 = (f : Int) + 1
          · by_cases q2 : x2 = n2 + (i + 1)
            · simp only [q1, q2, decide_true, Bool.and_self] at e
              repeat' (first | with_reducible (first | refine wA ?_ | refine wB ?_ | refine wC ?_) | with_reducible (first | refine wq1 ?_ | refine wq3 ?_ | refine wq4 ?_ | refine wS ?_) | ((with_reducible refine hK _ ?_); clear hK K) | ((with_reducible refine PWp.condI ?_); refine ⟨_, rfl, fun hg => ?_, fun hg => ?_⟩ <;> first | (exact absurd hg (by decide)) | ((try simp only [Bool.not_true, Bool.not_false] at hg); (try simp only [hg]); (try simp only [push_cast] at hg); (try exact absurd trivial hg); (try (exfalso; omega)))) | ((with_reducible refine pops_plain fun K hK => ?_); simp (disch := omega) only [push_cast, seval, hx, q1, q2]) | ((with_reducible refine pops_guard ?_); refine ⟨_, rfl, fun K hK => ⟨_, rfl, fun hg => ?_, fun hg => ?_⟩⟩ <;> first | (exact absurd hg (by decide)) | ((try simp only [Bool.not_true, Bool.not_false] at hg); (try simp only [hg]); (try simp only [push_cast] at hg); (try exact absurd trivial hg); (try (exfalso; omega)); (try simp (disch := omega) only [push_cast, seval, hx, q1, q2]))) | ((with_reducible refine And.intro ?_ ?_); omega))
              (refine ⟨k + 1, by ((try dsimp only); omega), ?_, by (refine ⟨[?_, ?_, ?_, ?_], ?_, ?_, ?_, ?_⟩; rotate_left 4; (· ((first | simp (disch := omega) only [push_cast, seval, e, beq_self_eq_true] | simp (disch := omega) only [push_cast, seval] | skip); (repeat' (first | exact trivial | exact rfl | refine And.intro ?_ ?_ | omega)))); (· ((first | simp (disch := omega) only [push_cast, seval, e, beq_self_eq_true] | simp (disch := omega) only [push_cast, seval] | skip); (repeat' (first | exact trivial | exact rfl | refine And.intro ?_ ?_ | omega)); (try (repeat' (first | exact trivial | exact rfl | refine And.intro ?_ ?_ | omega))))); (· exact rfl); (· (first | exact trivial | exact ⟨rfl, trivial⟩ | exact ⟨rfl, rfl, trivial⟩ | exact ⟨rfl, rfl, rfl, trivial⟩)))⟩)
              exact hlt
            · simp only [q1, q2, decide_true, decide_false, Bool.and_false] at e
              have hb : (x2 == n2 + ((i : Int) + 1)) = false := by simpa using q2
              repeat' (first | with_reducible (first | refine wA ?_ | refine wB ?_ | refine wC ?_) | with_reducible (first | refine wq1 ?_ | refine wq3 ?_ | refine wq4 ?_ | refine wS ?_) | ((with_reducible refine hK _ ?_); clear hK K) | ((with_reducible refine PWp.condI ?_); refine ⟨_, rfl, fun hg => ?_, fun hg => ?_⟩ <;> first | (exact absurd hg (by decide)) | ((try simp only [Bool.not_true, Bool.not_false] at hg); (try simp only [hg]); (try simp only [push_cast] at hg); (try exact absurd trivial hg); (try (exfalso; omega)))) | ((with_reducible refine pops_plain fun K hK => ?_); simp (disch := omega) only [push_cast, seval, hx, q1, q2]) | ((with_reducible refine pops_guard ?_); refine ⟨_, rfl, fun K hK => ⟨_, rfl, fun hg => ?_, fun hg => ?_⟩⟩ <;> first | (exact absurd hg (by decide)) | ((try simp only [Bool.not_true, Bool.not_false] at hg); (try simp only [hg]); (try simp only [push_cast] at hg); (try exact absurd trivial hg); (try (exfalso; omega)); (try simp (disch := omega) only [push_cast, seval, hx, q1, q2]))) | ((with_reducible refine And.intro ?_ ?_); omega))
              (refine ⟨k + 1, by ((try dsimp only); omega), ?_, by (refine ⟨[?_, ?_, ?_, ?_], ?_, ?_, ?_, ?_⟩; rotate_left 4; (· ((first | simp (disch := omega) only [push_cast, seval, e, hb] | simp (disch := omega) only [push_cast, seval] | skip); (repeat' (first | exact trivial | exact rfl | refine And.intro ?_ ?_ | omega)))); (· ((first | simp (disch := omega) only [push_cast, seval, e, hb] | simp (disch := omega) only [push_cast, seval] | skip); (repeat' (first | exact trivial | exact rfl | refine And.intro ?_ ?_ | omega)); (try (repeat' (first | exact trivial | exact rfl | refine And.intro ?_ ?_ | omega))))); (· exact rfl); (· (first | exact trivial | exact ⟨rfl, trivial⟩ | exact ⟨rfl, rfl, trivial⟩ | exact ⟨rfl, rfl, rfl, trivial⟩)))⟩)
              exact hlt
          · simp only [q1, decide_false, Bool.false_and] at e
            repeat' (first | with_reducible (first | refine wA ?_ | refine wB ?_ | refine wC ?_) | with_reducible (first | refine wq1 ?_ | refine wq3 ?_ | refine wq4 ?_ | refine wS ?_) | ((with_reducible refine hK _ ?_); clear hK K) | ((with_reducible refine PWp.condI ?_); refine ⟨_, rfl, fun hg => ?_, fun hg => ?_⟩ <;> first | (exact absurd hg (by decide)) | ((try simp only [Bool.not_true, Bool.not_false] at hg); (try simp only [hg]); (try simp only [push_cast] at hg); (try exact absurd trivial hg); (try (exfalso; omega)))) | ((with_reducible refine pops_plain fun K hK => ?_); simp (disch := omega) only [push_cast, seval, hx, q1]) | ((with_reducible refine pops_guard ?_); refine ⟨_, rfl, fun K hK => ⟨_, rfl, fun hg => ?_, fun hg => ?_⟩⟩ <;> first | (exact absurd hg (by decide)) | ((try simp only [Bool.not_true, Bool.not_false] at hg); (try simp only [hg]); (try simp only [push_cast] at hg); (try exact absurd trivial hg); (try (exfalso; omega)); (try simp (disch := omega) only [push_cast, seval, hx, q1]))) | ((with_reducible refine And.intro ?_ ?_); omega))
            (refine ⟨k + 1, by ((try dsimp only); omega), ?_, by (refine ⟨[?_, ?_, ?_, ?_], ?_, ?_, ?_, ?_⟩; rotate_left 4; (· ((first | simp (disch := omega) only [push_cast, seval, e] | simp (disch := omega) only [push_cast, seval] | skip); (repeat' (first | exact trivial | exact rfl | refine And.intro ?_ ?_ | omega)))); (· ((first | simp (disch := omega) only [push_cast, seval, e] | simp (disch := omega) only [push_cast, seval] | skip); (repeat' (first | exact trivial | exact rfl | refine And.intro ?_ ?_ | omega)); (try (repeat' (first | exact trivial | exact rfl | refine And.intro ?_ ?_ | omega))))); (· exact rfl); (· (first | exact trivial | exact ⟨rfl, trivial⟩ | exact ⟨rfl, rfl, trivial⟩ | exact ⟨rfl, rfl, rfl, trivial⟩)))⟩)
            exact hlt
      obtain rfl : k = l.length := by omega
      rw [List.take_length]
      cases h2 : l.any (hasFr (n2 + (i + 1)) ((f : Int) + 1)) with
      | true =>
        rw [h2, if_pos rfl] at ef
        repeat' (first | with_reducible (first | refine wA ?_ | refine wC ?_) | with_reducible (first | refine wq1 ?_ | refine wq3 ?_ | refine wq4 ?_ | refine wq7 ?_ | refine wq8 ?_ | refine wE ?_) | ((with_reducible refine hK _ ?_); clear hK K) | ((with_reducible refine PWp.condI ?_); refine ⟨_, rfl, fun hg => ?_, fun hg => ?_⟩ <;> first | (exact absurd hg (by decide)) | ((try simp only [Bool.not_true, Bool.not_false] at hg); (try simp only [hg]); (try simp only [push_cast] at hg); (try exact absurd trivial hg); (try (exfalso; omega)))) | ((with_reducible refine pops_plain fun K hK => ?_); simp (disch := omega) only [push_cast, seval]))
        (refine ⟨f + 1, by ((try dsimp only); omega), ?_, by (refine ⟨[?_, ?_, ?_, ?_], ?_, ?_, ?_, ?_⟩; rotate_left 4; (· ((first | simp (disch := omega) only [push_cast, seval, ef] | simp (disch := omega) only [push_cast, seval] | skip); (repeat' (first | exact trivial | exact rfl | refine And.intro ?_ ?_ | omega)))); (· ((first | simp (disch := omega) only [push_cast, seval, ef] | simp (disch := omega) only [push_cast, seval] | skip); (repeat' (first | exact trivial | exact rfl | refine And.intro ?_ ?_ | omega)); (try (repeat' (first | exact trivial | exact rfl | refine And.intro ?_ ?_ | omega))))); (· exact rfl); (· (first | exact trivial | exact ⟨rfl, trivial⟩ | exact ⟨rfl, rfl, trivial⟩ | exact ⟨rfl, rfl, rfl, trivial⟩)))⟩)
        exact hf
      | false =>
        rw [h2, if_neg (by simp)] at ef
        repeat' (first | with_reducible (first | refine wA ?_ | refine wC ?_) | with_reducible (first | refine wq1 ?_ | refine wq3 ?_ | refine wq4 ?_ | refine wq7 ?_ | refine wq8 ?_ | refine wE ?_ | refine wS ?_) | ((with_reducible refine hK _ ?_); clear hK K) | ((with_reducible refine PWp.condI ?_); refine ⟨_, rfl, fun hg => ?_, fun hg => ?_⟩ <;> first | (exact absurd hg (by decide)) | ((try simp only [Bool.not_true, Bool.not_false] at hg); (try simp only [hg]); (try simp only [push_cast] at hg); (try exact absurd trivial hg); (try (exfalso; omega)))) | ((with_reducible refine pops_plain fun K hK => ?_); simp (disch := omega) only [push_cast, seval]))
        (refine ⟨f + 1, by ((try dsimp only); omega), ?_, by (refine ⟨[?_, ?_, ?_, ?_], ?_, ?_, ?_, ?_⟩; rotate_left 4; (· ((first | simp (disch := omega) only [push_cast, seval, ef] | simp (disch := omega) only [push_cast, seval] | skip); (repeat' (first | exact trivial | exact rfl | refine And.intro ?_ ?_ | omega)))); (· ((first | simp (disch := omega) only [push_cast, seval, ef] | simp (disch := omega) only [push_cast, seval] | skip); (repeat' (first | exact trivial | exact rfl | refine And.intro ?_ ?_ | omega)); (try (repeat' (first | exact trivial | exact rfl | refine And.intro ?_ ?_ | omega))))); (· exact rfl); (· (first | exact trivial | exact ⟨rfl, trivial⟩ | exact ⟨rfl, rfl, trivial⟩ | exact ⟨rfl, rfl, rfl, trivial⟩)))⟩)
        exact hf
    obtain rfl : f = 4 := by omega
    rw [hc4]
    have hu : skipTo l n2 (i + 1) = if 2 ≤ (froms (isR (n2 + (i + 1))) l).length then some (n2 + (i + 1)) else skipTo l n2 i := rfl
    rw [hu] at hA
    by_cases h2 : 2 ≤ (froms (isR (n2 + (i + 1))) l).length
    · rw [if_pos h2] at hA
      cases hA
    · rw [if_neg h2] at hA
      repeat' (first | with_reducible (first | refine wA ?_ | refine wC ?_) | with_reducible (first | refine wq1 ?_ | refine wq3 ?_ | refine wq4 ?_ | refine wq7 ?_ | refine wq8 ?_ | refine wE ?_ | refine wS ?_) | ((with_reducible refine hK _ ?_); clear hK K) | ((with_reducible refine PWp.condI ?_); refine ⟨_, rfl, fun hg => ?_, fun hg => ?_⟩ <;> first | (exact absurd hg (by decide)) | ((try simp only [Bool.not_true, Bool.not_false] at hg); (try simp only [hg]); (try simp only [push_cast] at hg); (try exact absurd trivial hg); (try (exfalso; omega)))) | ((with_reducible refine pops_plain fun K hK => ?_); simp (disch := omega) only [push_cast, seval, h2]))
      (refine ⟨i, by ((try dsimp only); omega), ?_, by (refine ⟨[?_, ?_, ?_, ?_], ?_, ?_, ?_, ?_⟩; rotate_left 4; (· ((first | simp (disch := omega) only [push_cast, seval, ef] | simp (disch := omega) only [push_cast, seval] | skip); (repeat' (first | exact trivial | exact rfl | refine And.intro ?_ ?_ | omega)))); (· ((first | simp (disch := omega) only [push_cast, seval, ef] | simp (disch := omega) only [push_cast, seval] | skip); (repeat' (first | exact trivial | exact rfl | refine And.intro ?_ ?_ | omega)); (try (repeat' (first | exact trivial | exact rfl | refine And.intro ?_ ?_ | omega))))); (· exact rfl); (· (first | exact trivial | exact ⟨rfl, trivial⟩ | exact ⟨rfl, rfl, trivial⟩ | exact ⟨rfl, rfl, rfl, trivial⟩)))⟩)
      exact ⟨by omega, hA⟩
set_option maxHeartbeats 4000000 in
theorem sSkip_yes (a : Acting) (hr : -1 ≤ a.1.fRound ∧ a.1.fRound ≤ 11) (hm : 1 ≤ a.1.fMe ∧ a.1.fMe ≤ 4) (hv0 : -1 ≤ a.1.fValidRound) (hl : a.1.fMsgs.length ≤ 1000 ∧ a.2.length ≤ 1000) (ms : ∀ m ∈ a.1.fMsgs, MOk m) (q : Int) (hk : skipTo a.1.fMsgs a.1.fRound (11 - a.1.fRound).toNat = some q) : PCalls Try.prog 95 [.agg (pActX a.1 (.own 0) (.own 1))] (hRun a) (RH (.tup [.agg (pActX (beginR a q).1 (.own 2) (.own 3)), .val (.bool true)]) (hRunM (beginR a q))) := by
  have c := fun r h => sBegin_p a r h hm hv0 hl
  have hc4 := fun r => cntF_froms (r := r) ms
  have hcl := fun r => cntF_le a.1.fMsgs r
  obtain ⟨⟨n1, n2, n3, n4, n5, n6, n7, n8, n9, l⟩, s⟩ := a
  dsimp only at c hl hr hk hc4 hcl ⊢
  refine pcalls_ofR okP Try.func95 rfl ?_
  simp only [Try.f95, List.length_cons, List.length_nil, Nat.reduceAdd, Nat.reduceSub, List.replicate_succ, List.replicate_zero, List.cons_append, List.nil_append, List.length_map]
  repeat' (first | with_reducible (first | refine wA ?_ | refine wB ?_ | refine wC ?_) | with_reducible (first | refine wq1 ?_ | refine wq3 ?_) | ((with_reducible refine hK _ ?_); clear hK K) | ((with_reducible refine pops_plain fun K hK => ?_); simp (disch := omega) only [push_cast, seval]))
  refine PWp.loopK (α := Nat) (fun j => [(1, .ptr 2 0), (2, .ptr 3 0), (4, .val (.int .i64 (n2 + j)))]) [0, 3, 5, 6, 7, 8, 9, 10, 11, 12, 13, 14, 15, 16, 17, 18, 19, 20, 21, 22, 23, 24, 25, 26, 27, 28, 29, 30, 31, 32, 33, 34, 35, 36, 37, 38, 39, 40, 41, 42, 43, 44, 45, 46, 47, 48, 49, 50, 51, 52, 53, 54, 55, 56, 57, 58] (fun j => [some (.row 32 5 (l.map pNMsg)), some (.row 32 5 (s.map pNMsg)), some (.box (pActX ⟨n1, n2, n3, n4, n5, n6, n7, n8, n9, l⟩ (.own 0) (.own 1))), some (.box [.val (.int .i64 0), .val (.int .i64 0), .val (.int .i64 0), .val (.int .i64 0), .val (.int .i64 0), .val (.int .i64 0), .val (.int .i64 0), .val (.int .i64 0), .val (.int .i64 0), .val (.slice none 0 0), .val (.slice none 0 0)])]) (fun j => n2 + j ≤ 11 ∧ some q = skipTo l n2 j) (fun j => j) ((11 - n2).toNat) (⟨by omega, hk.symm⟩) (by exact fitA [_, _, _, _]) ?_
  intro j ρ hI
  (try dsimp only at hI)
  refine PWp.at (tm' := ?_) (H' := ?_) ?_ ?_ ?_; rotate_left 2; (· ((try simp only [push_cast, seval]); exact rfl)); (· ((try dsimp only); exact rfl))
  obtain ⟨hj, hA⟩ := hI
  cases j with
  | zero =>
    exact absurd hA (by simp [skipTo])
  | succ i =>
    repeat' (first | with_reducible (first | refine wA ?_ | refine wB ?_ | refine wC ?_) | with_reducible (first | refine wq1 ?_ | refine wq3 ?_ | refine wS ?_) | ((with_reducible refine hK _ ?_); clear hK K) | ((with_reducible refine PWp.condI ?_); refine ⟨_, rfl, fun hg => ?_, fun hg => ?_⟩ <;> first | (exact absurd hg (by decide)) | ((try simp only [Bool.not_true, Bool.not_false] at hg); (try simp only [hg]); (try simp only [push_cast] at hg); (try exact absurd trivial hg); (try (exfalso; omega)))) | ((with_reducible refine pops_plain fun K hK => ?_); simp (disch := omega) only [push_cast, seval]))
    refine PWp.loopK (α := Nat) (fun f => [(1, .ptr 2 0), (2, .ptr 3 0), (5, .val (.int .i64 (cntF l (n2 + (i + 1)) f))), (6, .val (.int .i64 ((f : Int) + 1)))]) [0, 7, 8, 16, 17, 18, 19, 20, 21, 22, 23, 24, 25, 26, 27, 28, 29, 30, 31, 32, 33, 34, 35, 36, 37, 38, 39, 40, 41, 42, 43, 44, 45, 46, 47, 48, 49, 50, 51, 52, 53] (fun f => [some (.row 32 5 (l.map pNMsg)), some (.row 32 5 (s.map pNMsg)), some (.box (pActX ⟨n1, n2, n3, n4, n5, n6, n7, n8, n9, l⟩ (.own 0) (.own 1))), some (.box [.val (.int .i64 0), .val (.int .i64 0), .val (.int .i64 0), .val (.int .i64 0), .val (.int .i64 0), .val (.int .i64 0), .val (.int .i64 0), .val (.int .i64 0), .val (.int .i64 0), .val (.slice none 0 0), .val (.slice none 0 0)])]) (fun f => f ≤ 4) (fun f => 4 - f) (0) (Nat.zero_le _) (by exact fitA [_, _, _, _]) ?_
    intro f ρ hI
    (try dsimp only at hI)
    refine PWp.at (tm' := ?_) (H' := ?_) ?_ ?_ ?_; rotate_left 2; (· ((try simp only [push_cast, seval]); exact rfl)); (· ((try dsimp only); exact rfl))
    by_cases hf : f < 4
    · have hcf := hcl (n2 + (i + 1)) f
      have ef : cntF l (n2 + (i + 1)) (f + 1) = if l.any (hasFr (n2 + (i + 1)) ((f : Int) + 1)) then cntF l (n2 + (i + 1)) f + 1 else cntF l (n2 + (i + 1)) f := rfl
      repeat' (first | with_reducible (first | refine wA ?_ | refine wB ?_ | refine wC ?_) | with_reducible (first | refine wq1 ?_ | refine wq3 ?_ | refine wS ?_) | ((with_reducible refine hK _ ?_); clear hK K) | ((with_reducible refine PWp.condI ?_); refine ⟨_, rfl, fun hg => ?_, fun hg => ?_⟩ <;> first | (exact absurd hg (by decide)) | ((try simp only [Bool.not_true, Bool.not_false] at hg); (try simp only [hg]); (try simp only [push_cast] at hg); (try exact absurd trivial hg); (try (exfalso; omega)))) | ((with_reducible refine pops_plain fun K hK => ?_); simp (disch := omega) only [push_cast, seval]))
      refine PWp.loopK (α := Nat) (fun k => [(1, .ptr 2 0), (2, .ptr 3 0), (7, .val (.bool ((l.take k).any (hasFr (n2 + (i + 1)) ((f : Int) + 1))))), (8, .val (.int .i64 (k : Int)))]) [0, 20, 21, 22, 23, 24, 25, 26, 27, 28, 29, 30, 31, 32, 33, 34, 35, 36, 37, 38, 39, 40, 41, 42, 43, 44, 45, 46, 47, 48, 49, 50] (fun k => [some (.row 32 5 (l.map pNMsg)), some (.row 32 5 (s.map pNMsg)), some (.box (pActX ⟨n1, n2, n3, n4, n5, n6, n7, n8, n9, l⟩ (.own 0) (.own 1))), some (.box [.val (.int .i64 0), .val (.int .i64 0), .val (.int .i64 0), .val (.int .i64 0), .val (.int .i64 0), .val (.int .i64 0), .val (.int .i64 0), .val (.int .i64 0), .val (.int .i64 0), .val (.slice none 0 0), .val (.slice none 0 0)])]) (fun k => k ≤ l.length) (fun k => l.length - k) (0) (Nat.zero_le _) (by exact fitA [_, _, _, _]) ?_
      intro k ρ hI
      (try dsimp only at hI)
      refine PWp.at (tm' := ?_) (H' := ?_) ?_ ?_ ?_; rotate_left 2; (· ((try simp only [push_cast, seval]); exact rfl)); (· ((try dsimp only); exact rfl))
      by_cases hlt : k < l.length
      · obtain ⟨x, hx⟩ : ∃ x, l[k]? = some x := ⟨_, List.getElem?_eq_getElem hlt⟩
        have e := any_take (p := hasFr (n2 + (i + 1)) ((f : Int) + 1)) hx
        generalize (l.take k).any (hasFr (n2 + (i + 1)) ((f : Int) + 1)) = b at e ⊢
        obtain ⟨x1, x2, x3, x4, x5⟩ := x
        simp only [hasFr] at e
        cases b with
        | true =>
          rw [Bool.true_or] at e
          repeat' (first | with_reducible (first | refine wA ?_ | refine wB ?_ | refine wC ?_) | with_reducible (first | refine wq1 ?_ | refine wq3 ?_ | refine wq4 ?_ | refine wS ?_) | ((with_reducible refine hK _ ?_); clear hK K) | ((with_reducible refine PWp.condI ?_); refine ⟨_, rfl, fun hg => ?_, fun hg => ?_⟩ <;> first | (exact absurd hg (by decide)) | ((try simp only [Bool.not_true, Bool.not_false] at hg); (try simp only [hg]); (try simp only [push_cast] at hg); (try exact absurd trivial hg); (try (exfalso; omega)))) | ((with_reducible refine pops_guard0 ?_); refine ⟨_, rfl, fun K hK => ⟨rfl, ?_⟩⟩; (try simp (disch := omega) only [push_cast, seval, hx])) | ((with_reducible refine pops_plain fun K hK => ?_); simp (disch := omega) only [push_cast, seval, hx]) | ((with_reducible refine pops_guard ?_); refine ⟨_, rfl, fun K hK => ⟨_, rfl, fun hg => ?_, fun hg => ?_⟩⟩ <;> first | (exact absurd hg (by decide)) | ((try simp only [Bool.not_true, Bool.not_false] at hg); (try simp only [hg]); (try simp only [push_cast] at hg); (try exact absurd trivial hg); (try (exfalso; omega)); (try simp (disch := omega) only [push_cast, seval, hx]))))
          (refine ⟨k + 1, by ((try dsimp only); omega), ?_, by (refine ⟨[?_, ?_, ?_, ?_], ?_, ?_, ?_, ?_⟩; rotate_left 4; (· ((first | simp (disch := omega) only [push_cast, seval, e] | simp (disch := omega) only [push_cast, seval] | skip); (repeat' (first | exact trivial | exact rfl | refine And.intro ?_ ?_ | omega)))); (· ((first | simp (disch := omega) only [push_cast, seval, e] | simp (disch := omega) only [push_cast, seval] | skip); (repeat' (first | exact trivial | exact rfl | refine And.intro ?_ ?_ | omega)); (try (repeat' (first | exact trivial | exact rfl | refine And.intro ?_ ?_ | omega))))); (· exact rfl); (· (first | exact trivial | exact ⟨rfl, trivial⟩ | exact ⟨rfl, rfl, trivial⟩ | exact ⟨rfl, rfl, rfl, trivial⟩)))⟩)
          exact hlt
        | false =>
          rw [Bool.false_or] at e
          by_cases q1 : x5 = (f : Int) + 1
          · by_cases q2 : x2 = n2 + (i + 1)
            · simp only [q1, q2, decide_true, Bool.and_self] at e
              repeat' (first | with_reducible (first | refine wA ?_ | refine wB ?_ | refine wC ?_) | with_reducible (first | refine wq1 ?_ | refine wq3 ?_ | refine wq4 ?_ | refine wS ?_) | ((with_reducible refine hK _ ?_); clear hK K) | ((with_reducible refine PWp.condI ?_); refine ⟨_, rfl, fun hg => ?_, fun hg => ?_⟩ <;> first | (exact absurd hg (by decide)) | ((try simp only [Bool.not_true, Bool.not_false] at hg); (try simp only [hg]); (try simp only [push_cast] at hg); (try exact absurd trivial hg); (try (exfalso; omega)))) | ((with_reducible refine pops_plain fun K hK => ?_); simp (disch := omega) only [push_cast, seval, hx, q1, q2]) | ((with_reducible refine pops_guard ?_); refine ⟨_, rfl, fun K hK => ⟨_, rfl, fun hg => ?_, fun hg => ?_⟩⟩ <;> first | (exact absurd hg (by decide)) | ((try simp only [Bool.not_true, Bool.not_false] at hg); (try simp only [hg]); (try simp only [push_cast] at hg); (try exact absurd trivial hg); (try (exfalso; omega)); (try simp (disch := omega) only [push_cast, seval, hx, q1, q2]))) | ((with_reducible refine And.intro ?_ ?_); omega))
              (refine ⟨k + 1, by ((try dsimp only); omega), ?_, by (refine ⟨[?_, ?_, ?_, ?_], ?_, ?_, ?_, ?_⟩; rotate_left 4; (· ((first | simp (disch := omega) only [push_cast, seval, e, beq_self_eq_true] | simp (disch := omega) only [push_cast, seval] | skip); (repeat' (first | exact trivial | exact rfl | refine And.intro ?_ ?_ | omega)))); (· ((first | simp (disch := omega) only [push_cast, seval, e, beq_self_eq_true] | simp (disch := omega) only [push_cast, seval] | skip); (repeat' (first | exact trivial | exact rfl | refine And.intro ?_ ?_ | omega)); (try (repeat' (first | exact trivial | exact rfl | refine And.intro ?_ ?_ | omega))))); (· exact rfl); (· (first | exact trivial | exact ⟨rfl, trivial⟩ | exact ⟨rfl, rfl, trivial⟩ | exact ⟨rfl, rfl, rfl, trivial⟩)))⟩)
              exact hlt
            · simp only [q1, q2, decide_true, decide_false, Bool.and_false] at e
              have hb : (x2 == n2 + ((i : Int) + 1)) = false := by simpa using q2
              repeat' (first | with_reducible (first | refine wA ?_ | refine wB ?_ | refine wC ?_) | with_reducible (first | refine wq1 ?_ | refine wq3 ?_ | refine wq4 ?_ | refine wS ?_) | ((with_reducible refine hK _ ?_); clear hK K) | ((with_reducible refine PWp.condI ?_); refine ⟨_, rfl, fun hg => ?_, fun hg => ?_⟩ <;> first | (exact absurd hg (by decide)) | ((try simp only [Bool.not_true, Bool.not_false] at hg); (try simp only [hg]); (try simp only [push_cast] at hg); (try exact absurd trivial hg); (try (exfalso; omega)))) | ((with_reducible refine pops_plain fun K hK => ?_); simp (disch := omega) only [push_cast, seval, hx, q1, q2]) | ((with_reducible refine pops_guard ?_); refine ⟨_, rfl, fun K hK => ⟨_, rfl, fun hg => ?_, fun hg => ?_⟩⟩ <;> first | (exact absurd hg (by decide)) | ((try simp only [Bool.not_true, Bool.not_false] at hg); (try simp only [hg]); (try simp only [push_cast] at hg); (try exact absurd trivial hg); (try (exfalso; omega)); (try simp (disch := omega) only [push_cast, seval, hx, q1, q2]))) | ((with_reducible refine And.intro ?_ ?_); omega))
              (refine ⟨k + 1, by ((try dsimp only); omega), ?_, by (refine ⟨[?_, ?_, ?_, ?_], ?_, ?_, ?_, ?_⟩; rotate_left 4; (· ((first | simp (disch := omega) only [push_cast, seval, e, hb] | simp (disch := omega) only [push_cast, seval] | skip); (repeat' (first | exact trivial | exact rfl | refine And.intro ?_ ?_ | omega)))); (· ((first | simp (disch := omega) only [push_cast, seval, e, hb] | simp (disch := omega) only [push_cast, seval] | skip); (repeat' (first | exact trivial | exact rfl | refine And.intro ?_ ?_ | omega)); (try (repeat' (first | exact trivial | exact rfl | refine And.intro ?_ ?_ | omega))))); (· exact rfl); (· (first | exact trivial | exact ⟨rfl, trivial⟩ | exact ⟨rfl, rfl, trivial⟩ | exact ⟨rfl, rfl, rfl, trivial⟩)))⟩)
              exact hlt
          · simp only [q1, decide_false, Bool.false_and] at e
            repeat' (first | with_reducible (first | refine wA ?_ | refine wB ?_ | refine wC ?_) | with_reducible (first | refine wq1 ?_ | refine wq3 ?_ | refine wq4 ?_ | refine wS ?_) | ((with_reducible refine hK _ ?_); clear hK K) | ((with_reducible refine PWp.condI ?_); refine ⟨_, rfl, fun hg => ?_, fun hg => ?_⟩ <;> first | (exact absurd hg (by decide)) | ((try simp only [Bool.not_true, Bool.not_false] at hg); (try simp only [hg]); (try simp only [push_cast] at hg); (try exact absurd trivial hg); (try (exfalso; omega)))) | ((with_reducible refine pops_plain fun K hK => ?_); simp (disch := omega) only [push_cast, seval, hx, q1]) | ((with_reducible refine pops_guard ?_); refine ⟨_, rfl, fun K hK => ⟨_, rfl, fun hg => ?_, fun hg => ?_⟩⟩ <;> first | (exact absurd hg (by decide)) | ((try simp only [Bool.not_true, Bool.not_false] at hg); (try simp only [hg]); (try simp only [push_cast] at hg); (try exact absurd trivial hg); (try (exfalso; omega)); (try simp (disch := omega) only [push_cast, seval, hx, q1]))) | ((with_reducible refine And.intro ?_ ?_); omega))
            (refine ⟨k + 1, by ((try dsimp only); omega), ?_, by (refine ⟨[?_, ?_, ?_, ?_], ?_, ?_, ?_, ?_⟩; rotate_left 4; (· ((first | simp (disch := omega) only [push_cast, seval, e] | simp (disch := omega) only [push_cast, seval] | skip); (repeat' (first | exact trivial | exact rfl | refine And.intro ?_ ?_ | omega)))); (· ((first | simp (disch := omega) only [push_cast, seval, e] | simp (disch := omega) only [push_cast, seval] | skip); (repeat' (first | exact trivial | exact rfl | refine And.intro ?_ ?_ | omega)); (try (repeat' (first | exact trivial | exact rfl | refine And.intro ?_ ?_ | omega))))); (· exact rfl); (· (first | exact trivial | exact ⟨rfl, trivial⟩ | exact ⟨rfl, rfl, trivial⟩ | exact ⟨rfl, rfl, rfl, trivial⟩)))⟩)
            exact hlt
      obtain rfl : k = l.length := by omega
      rw [List.take_length]
      cases h2 : l.any (hasFr (n2 + (i + 1)) ((f : Int) + 1)) with
      | true =>
        rw [h2, if_pos rfl] at ef
        repeat' (first | with_reducible (first | refine wA ?_ | refine wC ?_) | with_reducible (first | refine wq1 ?_ | refine wq3 ?_ | refine wq4 ?_ | refine wq7 ?_ | refine wq8 ?_ | refine wE ?_) | ((with_reducible refine hK _ ?_); clear hK K) | ((with_reducible refine PWp.condI ?_); refine ⟨_, rfl, fun hg => ?_, fun hg => ?_⟩ <;> first | (exact absurd hg (by decide)) | ((try simp only [Bool.not_true, Bool.not_false] at hg); (try simp only [hg]); (try simp only [push_cast] at hg); (try exact absurd trivial hg); (try (exfalso; omega)))) | ((with_reducible refine pops_plain fun K hK => ?_); simp (disch := omega) only [push_cast, seval]))
        (refine ⟨f + 1, by ((try dsimp only); omega), ?_, by (refine ⟨[?_, ?_, ?_, ?_], ?_, ?_, ?_, ?_⟩; rotate_left 4; (· ((first | simp (disch := omega) only [push_cast, seval, ef] | simp (disch := omega) only [push_cast, seval] | skip); (repeat' (first | exact trivial | exact rfl | refine And.intro ?_ ?_ | omega)))); (· ((first | simp (disch := omega) only [push_cast, seval, ef] | simp (disch := omega) only [push_cast, seval] | skip); (repeat' (first | exact trivial | exact rfl | refine And.intro ?_ ?_ | omega)); (try (repeat' (first | exact trivial | exact rfl | refine And.intro ?_ ?_ | omega))))); (· exact rfl); (· (first | exact trivial | exact ⟨rfl, trivial⟩ | exact ⟨rfl, rfl, trivial⟩ | exact ⟨rfl, rfl, rfl, trivial⟩)))⟩)
        exact hf
      | false =>
        rw [h2, if_neg (by simp)] at ef
        repeat' (first | with_reducible (first | refine wA ?_ | refine wC ?_) | with_reducible (first | refine wq1 ?_ | refine wq3 ?_ | refine wq4 ?_ | refine wq7 ?_ | refine wq8 ?_ | refine wE ?_ | refine wS ?_) | ((with_reducible refine hK _ ?_); clear hK K) | ((with_reducible refine PWp.condI ?_); refine ⟨_, rfl, fun hg => ?_, fun hg => ?_⟩ <;> first | (exact absurd hg (by decide)) | ((try simp only [Bool.not_true, Bool.not_false] at hg); (try simp only [hg]); (try simp only [push_cast] at hg); (try exact absurd trivial hg); (try (exfalso; omega)))) | ((with_reducible refine pops_plain fun K hK => ?_); simp (disch := omega) only [push_cast, seval]))
        (refine ⟨f + 1, by ((try dsimp only); omega), ?_, by (refine ⟨[?_, ?_, ?_, ?_], ?_, ?_, ?_, ?_⟩; rotate_left 4; (· ((first | simp (disch := omega) only [push_cast, seval, ef] | simp (disch := omega) only [push_cast, seval] | skip); (repeat' (first | exact trivial | exact rfl | refine And.intro ?_ ?_ | omega)))); (· ((first | simp (disch := omega) only [push_cast, seval, ef] | simp (disch := omega) only [push_cast, seval] | skip); (repeat' (first | exact trivial | exact rfl | refine And.intro ?_ ?_ | omega)); (try (repeat' (first | exact trivial | exact rfl | refine And.intro ?_ ?_ | omega))))); (· exact rfl); (· (first | exact trivial | exact ⟨rfl, trivial⟩ | exact ⟨rfl, rfl, trivial⟩ | exact ⟨rfl, rfl, rfl, trivial⟩)))⟩)
        exact hf
    obtain rfl : f = 4 := by omega
    rw [hc4]
    have hu : skipTo l n2 (i + 1) = if 2 ≤ (froms (isR (n2 + (i + 1))) l).length then some (n2 + (i + 1)) else skipTo l n2 i := rfl
    rw [hu] at hA
    by_cases h2 : 2 ≤ (froms (isR (n2 + (i + 1))) l).length
    · rw [if_pos h2] at hA
      cases hA
      have c1 := c (n2 + (i + 1)) ⟨by omega, by omega⟩
      generalize beginR (⟨n1, n2, n3, n4, n5, n6, n7, n8, n9, l⟩, s) (n2 + (i + 1)) = r at c1 ⊢
      obtain ⟨⟨r1, r2, r3, r4, r5, r6, r7, r8, r9, rl⟩, rs⟩ := r
      repeat' (first | with_reducible (first | refine wA ?_ | refine wC ?_) | with_reducible (first | refine wq1 ?_ | refine wq3 ?_ | refine wq5 ?_ | refine wq6 ?_ | refine wq7 ?_ | refine wq8 ?_ | refine wq9 ?_ | refine wE ?_) | ((with_reducible refine hK _ ?_); clear hK K) | ((with_reducible refine PWp.condI ?_); refine ⟨_, rfl, fun hg => ?_, fun hg => ?_⟩ <;> first | (exact absurd hg (by decide)) | ((try simp only [Bool.not_true, Bool.not_false] at hg); (try simp only [hg]); (try simp only [push_cast] at hg); (try exact absurd trivial hg); (try (exfalso; omega)))) | ((with_reducible refine pops_plain fun K hK => ?_); simp (disch := omega) only [push_cast, seval, h2]) | ((with_reducible show pcall _ _ _ _ _ _); ((refine pcO (cf Try.func76) [_, _] (c1) ?_)); (try simp (disch := omega) only [push_cast, seval, h2])))
      ((with_reducible show PPostR _ _ _ _ _ _); exact finH [0, 1, _, _])
    · rw [if_neg h2] at hA
      repeat' (first | with_reducible (first | refine wA ?_ | refine wC ?_) | with_reducible (first | refine wq1 ?_ | refine wq3 ?_ | refine wq4 ?_ | refine wq7 ?_ | refine wq8 ?_ | refine wE ?_ | refine wS ?_) | ((with_reducible refine hK _ ?_); clear hK K) | ((with_reducible refine PWp.condI ?_); refine ⟨_, rfl, fun hg => ?_, fun hg => ?_⟩ <;> first | (exact absurd hg (by decide)) | ((try simp only [Bool.not_true, Bool.not_false] at hg); (try simp only [hg]); (try simp only [push_cast] at hg); (try exact absurd trivial hg); (try (exfalso; omega)))) | ((with_reducible refine pops_plain fun K hK => ?_); simp (disch := omega) only [push_cast, seval, h2]))
      (refine ⟨i, by ((try dsimp only); omega), ?_, by (refine ⟨[?_, ?_, ?_, ?_], ?_, ?_, ?_, ?_⟩; rotate_left 4; (· ((first | simp (disch := omega) only [push_cast, seval, ef] | simp (disch := omega) only [push_cast, seval] | skip); (repeat' (first | exact trivial | exact rfl | refine And.intro ?_ ?_ | omega)))); (· ((first | simp (disch := omega) only [push_cast, seval, ef] | simp (disch := omega) only [push_cast, seval] | skip); (repeat' (first | exact trivial | exact rfl | refine And.intro ?_ ?_ | omega)); (try (repeat' (first | exact trivial | exact rfl | refine And.intro ?_ ?_ | omega))))); (· exact rfl); (· (first | exact trivial | exact ⟨rfl, trivial⟩ | exact ⟨rfl, rfl, trivial⟩ | exact ⟨rfl, rfl, rfl, trivial⟩)))⟩)
      exact ⟨by omega, hA⟩
end Go.Proofs.Ytcbknmnlgoeniaa
namespace Go.Proofs.Ytcbknmnlgoeniaa
set_option linter.unusedSimpArgs false
set_option linter.unusedVariables false
open Go.RowKit
set_option maxRecDepth 100000
theorem vb_ne0 {P : Program} {t : TypeId} (h : P.underlying t = some .bool) {x y : Operand} {a b : Bool} : sflat P (do eqGuard .neq t x y (.bool a) (.bool b); binOp .neq t (.bool a) (.bool b)) = some (.bool (a != b)) := by
  have e := eqIn_bool (P := P) (t := t) (d := 9999) (a := a) (b := b) h
  simp only [eqGuard, sflat_bind, binOp, Op.equal, Op.maxDepth]
  simp [sflat_pure, e, sflat_bind, sflat, pure]
  cases a <;> cases b <;> rfl
theorem vb_ne {x y : Operand} {a b : Bool} : sflat Try.prog (do eqGuard .neq 4 x y (.bool a) (.bool b); binOp .neq 4 (.bool a) (.bool b)) = some (.bool (a != b)) := vb_ne0 (by kernel_rfl)
theorem ne_ff : (false != false) = false := rfl
theorem ne_ft : (false != true) = true := rfl
theorem ne_tf : (true != false) = true := rfl
theorem ne_tt : (true != true) = false := rfl
theorem prevote_no (a : Acting) (v : Int) : prevote a v false = prevote a 0 true := rfl
theorem sPropose_st (a : Acting) (told : Bool) (h : ¬ a.1.fStep = 1) : PCalls Try.prog 96 [.agg (pActX a.1 (.own 0) (.own 1)), .val (.bool told)] (hRun a) (RH (.tup [.agg (pActX a.1 (.own 0) (.own 1)), .val (.bool false)]) (hRun a)) := by
  obtain ⟨⟨n1, n2, n3, n4, n5, n6, n7, n8, n9, l⟩, s⟩ := a
  dsimp only at h
  refine pcalls_ofR okP Try.func96 rfl ?_
  simp only [Try.f96, List.length_cons, List.length_nil, Nat.reduceAdd, Nat.reduceSub, List.replicate_succ, List.replicate_zero, List.cons_append, List.nil_append, List.length_map]
  repeat' (first | with_reducible (first | refine wA ?_ | refine wC ?_) | with_reducible (first | refine wq1 ?_ | refine wq3 ?_ | refine wq5 ?_ | refine wq9 ?_) | ((with_reducible refine hK _ ?_); clear hK K) | ((with_reducible refine PWp.condI ?_); refine ⟨_, rfl, fun hg => ?_, fun hg => ?_⟩ <;> first | (exact absurd hg (by decide)) | ((try simp only [Bool.not_true, Bool.not_false] at hg); (try simp only [hg]); (try simp only [push_cast] at hg); (try exact absurd trivial hg); (try (exfalso; omega)))) | ((with_reducible refine pops_plain fun K hK => ?_); simp (disch := omega) only [push_cast, seval, h]))
  ((with_reducible show PPostR _ _ _ _ _ _); exact finH [0, 1])
set_option maxHeartbeats 8000000 in
theorem sPropF_no (a : Acting) (hs : a.1.fStep = 1) (hlr : -1 ≤ a.1.fLockRound) (hl : a.1.fMsgs.length ≤ 1000 ∧ a.2.length ≤ 1000) (ms : ∀ m ∈ a.1.fMsgs, MOk m) (hp : propose a.1.fMsgs a.1.fRound (fun m : GNMsg => decide (m.fPol = -1)) = none) : PCalls Try.prog 96 [.agg (pActX a.1 (.own 0) (.own 1)), .val (.bool false)] (hRun a) (RH (.tup [.agg (pActX a.1 (.own 0) (.own 1)), .val (.bool false)]) (hRun a)) := by
  obtain ⟨⟨n1, n2, n3, n4, n5, n6, n7, n8, n9, l⟩, s⟩ := a
  dsimp only at *
  subst n3
  refine pcalls_ofR okP Try.func96 rfl ?_
  simp only [Try.f96, List.length_cons, List.length_nil, Nat.reduceAdd, Nat.reduceSub, List.replicate_succ, List.replicate_zero, List.cons_append, List.nil_append, List.length_map]
  repeat' (first | with_reducible (first | refine wA ?_ | refine wB ?_ | refine wC ?_) | with_reducible (first | refine wq1 ?_ | refine wq3 ?_ | refine wS ?_) | ((with_reducible refine hK _ ?_); clear hK K) | ((with_reducible refine PWp.condI ?_); refine ⟨_, rfl, fun hg => ?_, fun hg => ?_⟩ <;> first | (exact absurd hg (by decide)) | ((try simp only [Bool.not_true, Bool.not_false] at hg); (try simp only [hg]); (try simp only [push_cast] at hg); (try exact absurd trivial hg); (try (exfalso; omega)))) | ((with_reducible refine pops_plain fun K hK => ?_); simp (disch := omega) only [push_cast, seval, vb_ne, ne_ff, ne_ft, ne_tf, ne_tt]))
  refine PWp.loopK (α := Nat) (fun k => [(2, .ptr 2 0), (4, .ptr 3 0), (6, .val (.int .i64 (k : Int)))]) [0, 3, 5, 7, 8, 9, 10, 11, 12, 13, 14, 15, 16, 17, 18, 19, 20, 21, 22, 23, 24, 25, 26, 27, 28, 29, 30, 31, 32, 33, 34, 35, 36, 37, 38, 39, 40, 41, 42, 43, 44, 45, 46, 47, 48, 49, 50, 51, 52, 53, 54, 55, 56, 57, 58, 59, 60, 61, 62, 63, 64, 65, 66, 67, 68, 69, 70, 71, 72, 73, 74, 75, 76, 77, 78] (fun k => [some (.row 32 5 (l.map pNMsg)), some (.row 32 5 (s.map pNMsg)), some (.box (pActX ⟨n1, n2, 1, n4, n5, n6, n7, n8, n9, l⟩ (.own 0) (.own 1))), some (.box [.val (.int .i64 0), .val (.int .i64 0), .val (.int .i64 0), .val (.int .i64 0), .val (.int .i64 0), .val (.int .i64 0), .val (.int .i64 0), .val (.int .i64 0), .val (.int .i64 0), .val (.slice none 0 0), .val (.slice none 0 0)])]) (fun k => k ≤ l.length ∧ noneTo (isProp n2 (fun m : GNMsg => decide (m.fPol = -1))) l k) (fun k => l.length - k) (0) (⟨Nat.zero_le _, noneTo_zero⟩) (by exact fitA [_, _, _, _]) ?_
  intro k ρ hI
  (try dsimp only at hI)
  refine PWp.at (tm' := ?_) (H' := ?_) ?_ ?_ ?_; rotate_left 2; (· ((try simp only [push_cast, seval]); exact rfl)); (· ((try dsimp only); exact rfl))
  obtain ⟨hk, hA⟩ := hI
  by_cases hlt : k < l.length
  · obtain ⟨x, hx⟩ : ∃ x, l[k]? = some x := ⟨_, List.getElem?_eq_getElem hlt⟩
    have hp1 := (ms x (List.mem_of_getElem? hx)).p1
    obtain ⟨x1, x2, x3, x4, x5⟩ := x
    dsimp only at hp1
    by_cases c1 : x1 = 1
    case neg =>
      have hn := noneTo_succ hA hx (by simp [isProp, c1])
      repeat' (first | with_reducible (first | refine wA ?_ | refine wB ?_ | refine wC ?_) | with_reducible (first | refine wq1 ?_ | refine wq3 ?_ | refine wq7 ?_ | refine wq8 ?_ | refine wE ?_ | refine wS ?_) | ((with_reducible refine hK _ ?_); clear hK K) | ((with_reducible refine PWp.condI ?_); refine ⟨_, rfl, fun hg => ?_, fun hg => ?_⟩ <;> first | (exact absurd hg (by decide)) | ((try simp only [Bool.not_true, Bool.not_false] at hg); (try simp only [hg]); (try simp only [push_cast] at hg); (try exact absurd trivial hg); (try (exfalso; omega)))) | ((with_reducible refine pops_guard0 ?_); refine ⟨_, rfl, fun K hK => ⟨rfl, ?_⟩⟩; (try simp (disch := omega) only [push_cast, seval, hx, c1, vb_ne, ne_ff, ne_ft, ne_tf, ne_tt])) | ((with_reducible refine pops_plain fun K hK => ?_); simp (disch := omega) only [push_cast, seval, hx, c1, vb_ne, ne_ff, ne_ft, ne_tf, ne_tt]) | ((with_reducible refine pops_guard ?_); refine ⟨_, rfl, fun K hK => ⟨_, rfl, fun hg => ?_, fun hg => ?_⟩⟩ <;> first | (exact absurd hg (by decide)) | ((try simp only [Bool.not_true, Bool.not_false] at hg); (try simp only [hg]); (try simp only [push_cast] at hg); (try exact absurd trivial hg); (try (exfalso; omega)); (try simp (disch := omega) only [push_cast, seval, hx, c1, vb_ne, ne_ff, ne_ft, ne_tf, ne_tt]))) | ((with_reducible refine And.intro ?_ ?_); omega))
      (refine ⟨k + 1, by ((try dsimp only); omega), ?_, by exact fitA [_, _, _, _]⟩)
      exact ⟨hlt, hn⟩
    by_cases c2 : x2 = n2
    case neg =>
      have hn := noneTo_succ hA hx (by simp [isProp, c2])
      repeat' (first | with_reducible (first | refine wA ?_ | refine wB ?_ | refine wC ?_) | with_reducible (first | refine wq1 ?_ | refine wq3 ?_ | refine wq7 ?_ | refine wq8 ?_ | refine wE ?_ | refine wS ?_) | ((with_reducible refine hK _ ?_); clear hK K) | ((with_reducible refine PWp.condI ?_); refine ⟨_, rfl, fun hg => ?_, fun hg => ?_⟩ <;> first | (exact absurd hg (by decide)) | ((try simp only [Bool.not_true, Bool.not_false] at hg); (try simp only [hg]); (try simp only [push_cast] at hg); (try exact absurd trivial hg); (try (exfalso; omega)))) | ((with_reducible refine pops_guard0 ?_); refine ⟨_, rfl, fun K hK => ⟨rfl, ?_⟩⟩; (try simp (disch := omega) only [push_cast, seval, hx, c1, c2, vb_ne, ne_ff, ne_ft, ne_tf, ne_tt])) | ((with_reducible refine pops_plain fun K hK => ?_); simp (disch := omega) only [push_cast, seval, hx, c1, c2, vb_ne, ne_ff, ne_ft, ne_tf, ne_tt]) | ((with_reducible refine pops_guard ?_); refine ⟨_, rfl, fun K hK => ⟨_, rfl, fun hg => ?_, fun hg => ?_⟩⟩ <;> first | (exact absurd hg (by decide)) | ((try simp only [Bool.not_true, Bool.not_false] at hg); (try simp only [hg]); (try simp only [push_cast] at hg); (try exact absurd trivial hg); (try (exfalso; omega)); (try simp (disch := omega) only [push_cast, seval, hx, c1, c2, vb_ne, ne_ff, ne_ft, ne_tf, ne_tt]))) | ((with_reducible refine And.intro ?_ ?_); omega))
      (refine ⟨k + 1, by ((try dsimp only); omega), ?_, by exact fitA [_, _, _, _]⟩)
      exact ⟨hlt, hn⟩
    have hpl := (hp1 c1).2.2.1
    subst x1
    subst x2
    by_cases c3 : x4 = -1
    case neg =>
      have hn := noneTo_succ hA hx (by simp [isProp, c3])
      have g : x4 ≥ 0 := by omega
      repeat' (first | with_reducible (first | refine wA ?_ | refine wB ?_ | refine wC ?_) | with_reducible (first | refine wq1 ?_ | refine wq3 ?_ | refine wq7 ?_ | refine wq8 ?_ | refine wE ?_ | refine wS ?_) | ((with_reducible refine hK _ ?_); clear hK K) | ((with_reducible refine PWp.condI ?_); refine ⟨_, rfl, fun hg => ?_, fun hg => ?_⟩ <;> first | (exact absurd hg (by decide)) | ((try simp only [Bool.not_true, Bool.not_false] at hg); (try simp only [hg]); (try simp only [push_cast] at hg); (try exact absurd trivial hg); (try (exfalso; omega)))) | ((with_reducible refine pops_guard0 ?_); refine ⟨_, rfl, fun K hK => ⟨rfl, ?_⟩⟩; (try simp (disch := omega) only [push_cast, seval, hx, g, vb_ne, ne_ff, ne_ft, ne_tf, ne_tt])) | ((with_reducible refine pops_plain fun K hK => ?_); simp (disch := omega) only [push_cast, seval, hx, g, vb_ne, ne_ff, ne_ft, ne_tf, ne_tt]) | ((with_reducible refine pops_guard ?_); refine ⟨_, rfl, fun K hK => ⟨_, rfl, fun hg => ?_, fun hg => ?_⟩⟩ <;> first | (exact absurd hg (by decide)) | ((try simp only [Bool.not_true, Bool.not_false] at hg); (try simp only [hg]); (try simp only [push_cast] at hg); (try exact absurd trivial hg); (try (exfalso; omega)); (try simp (disch := omega) only [push_cast, seval, hx, g, vb_ne, ne_ff, ne_ft, ne_tf, ne_tt]))) | ((with_reducible refine And.intro ?_ ?_); omega))
      (refine ⟨k + 1, by ((try dsimp only); omega), ?_, by exact fitA [_, _, _, _]⟩)
      exact ⟨hlt, hn⟩
    subst x4
    have e := find_hit hx (p := isProp n2 (fun m : GNMsg => decide (m.fPol = -1))) (by simp [isProp]) hA
    have g : ¬ (-1 : Int) ≥ 0 := by omega
    exact absurd (hp.symm.trans e) (by simp)
  obtain rfl : k = l.length := by omega
  repeat' (first | with_reducible (first | refine wA ?_ | refine wC ?_) | with_reducible (first | refine wq1 ?_ | refine wq3 ?_ | refine wq7 ?_ | refine wq8 ?_ | refine wq9 ?_ | refine wE ?_) | ((with_reducible refine hK _ ?_); clear hK K) | ((with_reducible refine PWp.condI ?_); refine ⟨_, rfl, fun hg => ?_, fun hg => ?_⟩ <;> first | (exact absurd hg (by decide)) | ((try simp only [Bool.not_true, Bool.not_false] at hg); (try simp only [hg]); (try simp only [push_cast] at hg); (try exact absurd trivial hg); (try (exfalso; omega)))) | ((with_reducible refine pops_plain fun K hK => ?_); simp (disch := omega) only [push_cast, seval]))
  ((with_reducible show PPostR _ _ _ _ _ _); exact finH [0, 1])
set_option maxHeartbeats 8000000 in
theorem sPropF_yes (a : Acting) (hs : a.1.fStep = 1) (hlr : -1 ≤ a.1.fLockRound) (hl : a.1.fMsgs.length ≤ 1000 ∧ a.2.length ≤ 1000) (ms : ∀ m ∈ a.1.fMsgs, MOk m) (m : GNMsg) (hp : propose a.1.fMsgs a.1.fRound (fun m : GNMsg => decide (m.fPol = -1)) = some m) (y : Bool) (hy : y = (decide (a.1.fLockRound = -1) || decide (a.1.fLockVal = m.fVal))) : PCalls Try.prog 96 [.agg (pActX a.1 (.own 0) (.own 1)), .val (.bool false)] (hRun a) (RH (.tup [.agg (pActX (prevote a m.fVal y).1 (.own 2) (.own 3)), .val (.bool true)]) (hRunM (prevote a m.fVal y))) := by
  have c := fun v => sPrevote_p a v hl
  obtain ⟨⟨n1, n2, n3, n4, n5, n6, n7, n8, n9, l⟩, s⟩ := a
  dsimp only at *
  subst n3
  refine pcalls_ofR okP Try.func96 rfl ?_
  simp only [Try.f96, List.length_cons, List.length_nil, Nat.reduceAdd, Nat.reduceSub, List.replicate_succ, List.replicate_zero, List.cons_append, List.nil_append, List.length_map]
  repeat' (first | with_reducible (first | refine wA ?_ | refine wB ?_ | refine wC ?_) | with_reducible (first | refine wq1 ?_ | refine wq3 ?_ | refine wS ?_) | ((with_reducible refine hK _ ?_); clear hK K) | ((with_reducible refine PWp.condI ?_); refine ⟨_, rfl, fun hg => ?_, fun hg => ?_⟩ <;> first | (exact absurd hg (by decide)) | ((try simp only [Bool.not_true, Bool.not_false] at hg); (try simp only [hg]); (try simp only [push_cast] at hg); (try exact absurd trivial hg); (try (exfalso; omega)))) | ((with_reducible refine pops_plain fun K hK => ?_); simp (disch := omega) only [push_cast, seval, vb_ne, ne_ff, ne_ft, ne_tf, ne_tt]))
  refine PWp.loopK (α := Nat) (fun k => [(2, .ptr 2 0), (4, .ptr 3 0), (6, .val (.int .i64 (k : Int)))]) [0, 3, 5, 7, 8, 9, 10, 11, 12, 13, 14, 15, 16, 17, 18, 19, 20, 21, 22, 23, 24, 25, 26, 27, 28, 29, 30, 31, 32, 33, 34, 35, 36, 37, 38, 39, 40, 41, 42, 43, 44, 45, 46, 47, 48, 49, 50, 51, 52, 53, 54, 55, 56, 57, 58, 59, 60, 61, 62, 63, 64, 65, 66, 67, 68, 69, 70, 71, 72, 73, 74, 75, 76, 77, 78] (fun k => [some (.row 32 5 (l.map pNMsg)), some (.row 32 5 (s.map pNMsg)), some (.box (pActX ⟨n1, n2, 1, n4, n5, n6, n7, n8, n9, l⟩ (.own 0) (.own 1))), some (.box [.val (.int .i64 0), .val (.int .i64 0), .val (.int .i64 0), .val (.int .i64 0), .val (.int .i64 0), .val (.int .i64 0), .val (.int .i64 0), .val (.int .i64 0), .val (.int .i64 0), .val (.slice none 0 0), .val (.slice none 0 0)])]) (fun k => k ≤ l.length ∧ noneTo (isProp n2 (fun m : GNMsg => decide (m.fPol = -1))) l k) (fun k => l.length - k) (0) (⟨Nat.zero_le _, noneTo_zero⟩) (by exact fitA [_, _, _, _]) ?_
  intro k ρ hI
  (try dsimp only at hI)
  refine PWp.at (tm' := ?_) (H' := ?_) ?_ ?_ ?_; rotate_left 2; (· ((try simp only [push_cast, seval]); exact rfl)); (· ((try dsimp only); exact rfl))
  obtain ⟨hk, hA⟩ := hI
  by_cases hlt : k < l.length
  · obtain ⟨x, hx⟩ : ∃ x, l[k]? = some x := ⟨_, List.getElem?_eq_getElem hlt⟩
    have hp1 := (ms x (List.mem_of_getElem? hx)).p1
    obtain ⟨x1, x2, x3, x4, x5⟩ := x
    dsimp only at hp1
    by_cases c1 : x1 = 1
    case neg =>
      have hn := noneTo_succ hA hx (by simp [isProp, c1])
      repeat' (first | with_reducible (first | refine wA ?_ | refine wB ?_ | refine wC ?_) | with_reducible (first | refine wq1 ?_ | refine wq3 ?_ | refine wq7 ?_ | refine wq8 ?_ | refine wE ?_ | refine wS ?_) | ((with_reducible refine hK _ ?_); clear hK K) | ((with_reducible refine PWp.condI ?_); refine ⟨_, rfl, fun hg => ?_, fun hg => ?_⟩ <;> first | (exact absurd hg (by decide)) | ((try simp only [Bool.not_true, Bool.not_false] at hg); (try simp only [hg]); (try simp only [push_cast] at hg); (try exact absurd trivial hg); (try (exfalso; omega)))) | ((with_reducible refine pops_guard0 ?_); refine ⟨_, rfl, fun K hK => ⟨rfl, ?_⟩⟩; (try simp (disch := omega) only [push_cast, seval, hx, c1, vb_ne, ne_ff, ne_ft, ne_tf, ne_tt])) | ((with_reducible refine pops_plain fun K hK => ?_); simp (disch := omega) only [push_cast, seval, hx, c1, vb_ne, ne_ff, ne_ft, ne_tf, ne_tt]) | ((with_reducible refine pops_guard ?_); refine ⟨_, rfl, fun K hK => ⟨_, rfl, fun hg => ?_, fun hg => ?_⟩⟩ <;> first | (exact absurd hg (by decide)) | ((try simp only [Bool.not_true, Bool.not_false] at hg); (try simp only [hg]); (try simp only [push_cast] at hg); (try exact absurd trivial hg); (try (exfalso; omega)); (try simp (disch := omega) only [push_cast, seval, hx, c1, vb_ne, ne_ff, ne_ft, ne_tf, ne_tt]))) | ((with_reducible refine And.intro ?_ ?_); omega))
      (refine ⟨k + 1, by ((try dsimp only); omega), ?_, by exact fitA [_, _, _, _]⟩)
      exact ⟨hlt, hn⟩
    by_cases c2 : x2 = n2
    case neg =>
      have hn := noneTo_succ hA hx (by simp [isProp, c2])
      repeat' (first | with_reducible (first | refine wA ?_ | refine wB ?_ | refine wC ?_) | with_reducible (first | refine wq1 ?_ | refine wq3 ?_ | refine wq7 ?_ | refine wq8 ?_ | refine wE ?_ | refine wS ?_) | ((with_reducible refine hK _ ?_); clear hK K) | ((with_reducible refine PWp.condI ?_); refine ⟨_, rfl, fun hg => ?_, fun hg => ?_⟩ <;> first | (exact absurd hg (by decide)) | ((try simp only [Bool.not_true, Bool.not_false] at hg); (try simp only [hg]); (try simp only [push_cast] at hg); (try exact absurd trivial hg); (try (exfalso; omega)))) | ((with_reducible refine pops_guard0 ?_); refine ⟨_, rfl, fun K hK => ⟨rfl, ?_⟩⟩; (try simp (disch := omega) only [push_cast, seval, hx, c1, c2, vb_ne, ne_ff, ne_ft, ne_tf, ne_tt])) | ((with_reducible refine pops_plain fun K hK => ?_); simp (disch := omega) only [push_cast, seval, hx, c1, c2, vb_ne, ne_ff, ne_ft, ne_tf, ne_tt]) | ((with_reducible refine pops_guard ?_); refine ⟨_, rfl, fun K hK => ⟨_, rfl, fun hg => ?_, fun hg => ?_⟩⟩ <;> first | (exact absurd hg (by decide)) | ((try simp only [Bool.not_true, Bool.not_false] at hg); (try simp only [hg]); (try simp only [push_cast] at hg); (try exact absurd trivial hg); (try (exfalso; omega)); (try simp (disch := omega) only [push_cast, seval, hx, c1, c2, vb_ne, ne_ff, ne_ft, ne_tf, ne_tt]))) | ((with_reducible refine And.intro ?_ ?_); omega))
      (refine ⟨k + 1, by ((try dsimp only); omega), ?_, by exact fitA [_, _, _, _]⟩)
      exact ⟨hlt, hn⟩
    have hpl := (hp1 c1).2.2.1
    subst x1
    subst x2
    by_cases c3 : x4 = -1
    case neg =>
      have hn := noneTo_succ hA hx (by simp [isProp, c3])
      have g : x4 ≥ 0 := by omega
      repeat' (first | with_reducible (first | refine wA ?_ | refine wB ?_ | refine wC ?_) | with_reducible (first | refine wq1 ?_ | refine wq3 ?_ | refine wq7 ?_ | refine wq8 ?_ | refine wE ?_ | refine wS ?_) | ((with_reducible refine hK _ ?_); clear hK K) | ((with_reducible refine PWp.condI ?_); refine ⟨_, rfl, fun hg => ?_, fun hg => ?_⟩ <;> first | (exact absurd hg (by decide)) | ((try simp only [Bool.not_true, Bool.not_false] at hg); (try simp only [hg]); (try simp only [push_cast] at hg); (try exact absurd trivial hg); (try (exfalso; omega)))) | ((with_reducible refine pops_guard0 ?_); refine ⟨_, rfl, fun K hK => ⟨rfl, ?_⟩⟩; (try simp (disch := omega) only [push_cast, seval, hx, g, vb_ne, ne_ff, ne_ft, ne_tf, ne_tt])) | ((with_reducible refine pops_plain fun K hK => ?_); simp (disch := omega) only [push_cast, seval, hx, g, vb_ne, ne_ff, ne_ft, ne_tf, ne_tt]) | ((with_reducible refine pops_guard ?_); refine ⟨_, rfl, fun K hK => ⟨_, rfl, fun hg => ?_, fun hg => ?_⟩⟩ <;> first | (exact absurd hg (by decide)) | ((try simp only [Bool.not_true, Bool.not_false] at hg); (try simp only [hg]); (try simp only [push_cast] at hg); (try exact absurd trivial hg); (try (exfalso; omega)); (try simp (disch := omega) only [push_cast, seval, hx, g, vb_ne, ne_ff, ne_ft, ne_tf, ne_tt]))) | ((with_reducible refine And.intro ?_ ?_); omega))
      (refine ⟨k + 1, by ((try dsimp only); omega), ?_, by exact fitA [_, _, _, _]⟩)
      exact ⟨hlt, hn⟩
    subst x4
    have e := find_hit hx (p := isProp n2 (fun m : GNMsg => decide (m.fPol = -1))) (by simp [isProp]) hA
    have g : ¬ (-1 : Int) ≥ 0 := by omega
    obtain rfl : m = ⟨1, n2, x3, -1, x5⟩ := Option.some.inj (hp.symm.trans e)
    clear e hp
    dsimp only at hy ⊢
    by_cases q1 : n5 = -1
    all_goals by_cases q2 : n4 = x3
    all_goals
      simp only [q1, q2, decide_true, decide_false, Bool.or_true, Bool.true_or, Bool.or_false, Bool.or_self] at hy
      subst y
      have g2 : (n5 ≤ -1) = (n5 = -1) := by (apply propext; omega)
    all_goals first
      | (rw [prevote_no]; skip)
      | skip
    all_goals
      have c1 := c x3
      have c0 := c 0
      (first | rw [if_pos rfl] at c1 | skip)
      generalize prevote (⟨n1, n2, 1, n4, n5, n6, n7, n8, n9, l⟩, s) x3 true = r1 at c1 ⊢
      generalize prevote (⟨n1, n2, 1, n4, n5, n6, n7, n8, n9, l⟩, s) 0 true = r0 at c0 ⊢
      obtain ⟨⟨r1, r2, r3, r4, r5, r6, r7, r8, r9, rl⟩, rs⟩ := r1
      obtain ⟨⟨u1, u2, u3, u4, u5, u6, u7, u8, u9, ul⟩, us⟩ := r0
      repeat' (first | with_reducible (first | refine wA ?_ | refine wB ?_ | refine wC ?_) | with_reducible (first | refine wq1 ?_ | refine wq3 ?_ | refine wq5 ?_ | refine wq6 ?_ | refine wq9 ?_ | refine wS ?_) | ((with_reducible refine hK _ ?_); clear hK K) | ((with_reducible refine PWp.condI ?_); refine ⟨_, rfl, fun hg => ?_, fun hg => ?_⟩ <;> first | (exact absurd hg (by decide)) | ((try simp only [Bool.not_true, Bool.not_false] at hg); (try simp only [hg]); (try simp only [push_cast] at hg); (try exact absurd trivial hg); (try (exfalso; omega)))) | ((with_reducible refine pops_plain fun K hK => ?_); simp (disch := omega) only [push_cast, seval, hx, g, q1, q2, vb_ne, ne_ff, ne_ft, ne_tf, ne_tt, g2]) | ((with_reducible refine pops_guard ?_); refine ⟨_, rfl, fun K hK => ⟨_, rfl, fun hg => ?_, fun hg => ?_⟩⟩ <;> first | (exact absurd hg (by decide)) | ((try simp only [Bool.not_true, Bool.not_false] at hg); (try simp only [hg]); (try simp only [push_cast] at hg); (try exact absurd trivial hg); (try (exfalso; omega)); (try simp (disch := omega) only [push_cast, seval, hx, g, q1, q2, vb_ne, ne_ff, ne_ft, ne_tf, ne_tt, g2]))) | ((with_reducible show pcall _ _ _ _ _ _); (first | (refine pcall_RGo (cf Try.func77) [?_, ?_] ?_ ?_ ?_ ?_ (c0) ?_; rotate_left 2; (· ((try simp (disch := omega) only [push_cast, seval]); (repeat' (first | exact trivial | exact rfl | refine And.intro ?_ ?_ | omega)))); (· ((try (unfold bAct)); (try simp (disch := omega) only [push_cast, seval]); (repeat' (first | exact trivial | exact rfl | refine And.intro ?_ ?_ | omega)))); (· exact rfl); (· exact rfl); rotate_right 1; rotate_left 1; (all_goals (try (first | omega | exact (show _ = _ by assumption))))) | (refine pcO (cf Try.func77) [_, _] (c1) ?_)); (try simp (disch := omega) only [push_cast, seval, hx, g, q1, q2, vb_ne, ne_ff, ne_ft, ne_tf, ne_tt, g2])) | ((with_reducible refine And.intro ?_ ?_); omega))
      ((with_reducible show PPostR _ _ _ _ _ _); exact finH [0, 1, _, _])
  obtain rfl : k = l.length := by omega
  exact absurd (hp.symm.trans (find_end hA)) (by simp)
set_option maxHeartbeats 8000000 in
theorem sPropT_no (a : Acting) (hs : a.1.fStep = 1) (hlr : -1 ≤ a.1.fLockRound) (hl : a.1.fMsgs.length ≤ 1000 ∧ a.2.length ≤ 1000) (ms : ∀ m ∈ a.1.fMsgs, MOk m) (hp : propose a.1.fMsgs a.1.fRound (fun m : GNMsg => decide (0 ≤ m.fPol) && decide (3 ≤ cntM a.1.fMsgs 2 m.fPol m.fVal)) = none) : PCalls Try.prog 96 [.agg (pActX a.1 (.own 0) (.own 1)), .val (.bool true)] (hRun a) (RH (.tup [.agg (pActX a.1 (.own 0) (.own 1)), .val (.bool false)]) (hRun a)) := by
  have cc := fun r v => sCount_p a.1.fMsgs 2 r v (by omega) ms
  obtain ⟨⟨n1, n2, n3, n4, n5, n6, n7, n8, n9, l⟩, s⟩ := a
  dsimp only at *
  subst n3
  refine pcalls_ofR okP Try.func96 rfl ?_
  simp only [Try.f96, List.length_cons, List.length_nil, Nat.reduceAdd, Nat.reduceSub, List.replicate_succ, List.replicate_zero, List.cons_append, List.nil_append, List.length_map]
  repeat' (first | with_reducible (first | refine wA ?_ | refine wB ?_ | refine wC ?_) | with_reducible (first | refine wq1 ?_ | refine wq3 ?_ | refine wS ?_) | ((with_reducible refine hK _ ?_); clear hK K) | ((with_reducible refine PWp.condI ?_); refine ⟨_, rfl, fun hg => ?_, fun hg => ?_⟩ <;> first | (exact absurd hg (by decide)) | ((try simp only [Bool.not_true, Bool.not_false] at hg); (try simp only [hg]); (try simp only [push_cast] at hg); (try exact absurd trivial hg); (try (exfalso; omega)))) | ((with_reducible refine pops_plain fun K hK => ?_); simp (disch := omega) only [push_cast, seval, vb_ne, ne_ff, ne_ft, ne_tf, ne_tt]))
  refine PWp.loopK (α := Nat) (fun k => [(2, .ptr 2 0), (4, .ptr 3 0), (6, .val (.int .i64 (k : Int)))]) [0, 3, 5, 7, 8, 9, 10, 11, 12, 13, 14, 15, 16, 17, 18, 19, 20, 21, 22, 23, 24, 25, 26, 27, 28, 29, 30, 31, 32, 33, 34, 35, 36, 37, 38, 39, 40, 41, 42, 43, 44, 45, 46, 47, 48, 49, 50, 51, 52, 53, 54, 55, 56, 57, 58, 59, 60, 61, 62, 63, 64, 65, 66, 67, 68, 69, 70, 71, 72, 73, 74, 75, 76, 77, 78] (fun k => [some (.row 32 5 (l.map pNMsg)), some (.row 32 5 (s.map pNMsg)), some (.box (pActX ⟨n1, n2, 1, n4, n5, n6, n7, n8, n9, l⟩ (.own 0) (.own 1))), some (.box [.val (.int .i64 0), .val (.int .i64 0), .val (.int .i64 0), .val (.int .i64 0), .val (.int .i64 0), .val (.int .i64 0), .val (.int .i64 0), .val (.int .i64 0), .val (.int .i64 0), .val (.slice none 0 0), .val (.slice none 0 0)])]) (fun k => k ≤ l.length ∧ noneTo (isProp n2 (fun m : GNMsg => decide (0 ≤ m.fPol) && decide (3 ≤ cntM l 2 m.fPol m.fVal))) l k) (fun k => l.length - k) (0) (⟨Nat.zero_le _, noneTo_zero⟩) (by exact fitA [_, _, _, _]) ?_
  intro k ρ hI
  (try dsimp only at hI)
  refine PWp.at (tm' := ?_) (H' := ?_) ?_ ?_ ?_; rotate_left 2; (· ((try simp only [push_cast, seval]); exact rfl)); (· ((try dsimp only); exact rfl))
  obtain ⟨hk, hA⟩ := hI
  by_cases hlt : k < l.length
  · obtain ⟨x, hx⟩ : ∃ x, l[k]? = some x := ⟨_, List.getElem?_eq_getElem hlt⟩
    have hp1 := (ms x (List.mem_of_getElem? hx)).p1
    obtain ⟨x1, x2, x3, x4, x5⟩ := x
    dsimp only at hp1
    by_cases c1 : x1 = 1
    case neg =>
      have hn := noneTo_succ hA hx (by simp [isProp, c1])
      repeat' (first | with_reducible (first | refine wA ?_ | refine wB ?_ | refine wC ?_) | with_reducible (first | refine wq1 ?_ | refine wq3 ?_ | refine wq7 ?_ | refine wq8 ?_ | refine wE ?_ | refine wS ?_) | ((with_reducible refine hK _ ?_); clear hK K) | ((with_reducible refine PWp.condI ?_); refine ⟨_, rfl, fun hg => ?_, fun hg => ?_⟩ <;> first | (exact absurd hg (by decide)) | ((try simp only [Bool.not_true, Bool.not_false] at hg); (try simp only [hg]); (try simp only [push_cast] at hg); (try exact absurd trivial hg); (try (exfalso; omega)))) | ((with_reducible refine pops_guard0 ?_); refine ⟨_, rfl, fun K hK => ⟨rfl, ?_⟩⟩; (try simp (disch := omega) only [push_cast, seval, hx, c1, vb_ne, ne_ff, ne_ft, ne_tf, ne_tt])) | ((with_reducible refine pops_plain fun K hK => ?_); simp (disch := omega) only [push_cast, seval, hx, c1, vb_ne, ne_ff, ne_ft, ne_tf, ne_tt]) | ((with_reducible refine pops_guard ?_); refine ⟨_, rfl, fun K hK => ⟨_, rfl, fun hg => ?_, fun hg => ?_⟩⟩ <;> first | (exact absurd hg (by decide)) | ((try simp only [Bool.not_true, Bool.not_false] at hg); (try simp only [hg]); (try simp only [push_cast] at hg); (try exact absurd trivial hg); (try (exfalso; omega)); (try simp (disch := omega) only [push_cast, seval, hx, c1, vb_ne, ne_ff, ne_ft, ne_tf, ne_tt]))) | ((with_reducible refine And.intro ?_ ?_); omega))
      (refine ⟨k + 1, by ((try dsimp only); omega), ?_, by exact fitA [_, _, _, _]⟩)
      exact ⟨hlt, hn⟩
    by_cases c2 : x2 = n2
    case neg =>
      have hn := noneTo_succ hA hx (by simp [isProp, c2])
      repeat' (first | with_reducible (first | refine wA ?_ | refine wB ?_ | refine wC ?_) | with_reducible (first | refine wq1 ?_ | refine wq3 ?_ | refine wq7 ?_ | refine wq8 ?_ | refine wE ?_ | refine wS ?_) | ((with_reducible refine hK _ ?_); clear hK K) | ((with_reducible refine PWp.condI ?_); refine ⟨_, rfl, fun hg => ?_, fun hg => ?_⟩ <;> first | (exact absurd hg (by decide)) | ((try simp only [Bool.not_true, Bool.not_false] at hg); (try simp only [hg]); (try simp only [push_cast] at hg); (try exact absurd trivial hg); (try (exfalso; omega)))) | ((with_reducible refine pops_guard0 ?_); refine ⟨_, rfl, fun K hK => ⟨rfl, ?_⟩⟩; (try simp (disch := omega) only [push_cast, seval, hx, c1, c2, vb_ne, ne_ff, ne_ft, ne_tf, ne_tt])) | ((with_reducible refine pops_plain fun K hK => ?_); simp (disch := omega) only [push_cast, seval, hx, c1, c2, vb_ne, ne_ff, ne_ft, ne_tf, ne_tt]) | ((with_reducible refine pops_guard ?_); refine ⟨_, rfl, fun K hK => ⟨_, rfl, fun hg => ?_, fun hg => ?_⟩⟩ <;> first | (exact absurd hg (by decide)) | ((try simp only [Bool.not_true, Bool.not_false] at hg); (try simp only [hg]); (try simp only [push_cast] at hg); (try exact absurd trivial hg); (try (exfalso; omega)); (try simp (disch := omega) only [push_cast, seval, hx, c1, c2, vb_ne, ne_ff, ne_ft, ne_tf, ne_tt]))) | ((with_reducible refine And.intro ?_ ?_); omega))
      (refine ⟨k + 1, by ((try dsimp only); omega), ?_, by exact fitA [_, _, _, _]⟩)
      exact ⟨hlt, hn⟩
    have hpl := (hp1 c1).2.2.1
    subst x1
    subst x2
    by_cases c3 : x4 ≥ 0
    case neg =>
      have hn := noneTo_succ hA hx (by simp [isProp, show ¬ 0 ≤ x4 from c3])
      repeat' (first | with_reducible (first | refine wA ?_ | refine wB ?_ | refine wC ?_) | with_reducible (first | refine wq1 ?_ | refine wq3 ?_ | refine wq7 ?_ | refine wq8 ?_ | refine wE ?_ | refine wS ?_) | ((with_reducible refine hK _ ?_); clear hK K) | ((with_reducible refine PWp.condI ?_); refine ⟨_, rfl, fun hg => ?_, fun hg => ?_⟩ <;> first | (exact absurd hg (by decide)) | ((try simp only [Bool.not_true, Bool.not_false] at hg); (try simp only [hg]); (try simp only [push_cast] at hg); (try exact absurd trivial hg); (try (exfalso; omega)))) | ((with_reducible refine pops_guard0 ?_); refine ⟨_, rfl, fun K hK => ⟨rfl, ?_⟩⟩; (try simp (disch := omega) only [push_cast, seval, hx, c3, vb_ne, ne_ff, ne_ft, ne_tf, ne_tt])) | ((with_reducible refine pops_plain fun K hK => ?_); simp (disch := omega) only [push_cast, seval, hx, c3, vb_ne, ne_ff, ne_ft, ne_tf, ne_tt]) | ((with_reducible refine pops_guard ?_); refine ⟨_, rfl, fun K hK => ⟨_, rfl, fun hg => ?_, fun hg => ?_⟩⟩ <;> first | (exact absurd hg (by decide)) | ((try simp only [Bool.not_true, Bool.not_false] at hg); (try simp only [hg]); (try simp only [push_cast] at hg); (try exact absurd trivial hg); (try (exfalso; omega)); (try simp (disch := omega) only [push_cast, seval, hx, c3, vb_ne, ne_ff, ne_ft, ne_tf, ne_tt]))) | ((with_reducible refine And.intro ?_ ?_); omega))
      (refine ⟨k + 1, by ((try dsimp only); omega), ?_, by exact fitA [_, _, _, _]⟩)
      exact ⟨hlt, hn⟩
    by_cases c4 : cntM l 2 x4 x3 < 3
    case pos =>
      have hn := noneTo_succ hA hx (by simp [isProp, show ¬ 3 ≤ cntM l 2 x4 x3 by omega])
      repeat' (first | with_reducible (first | refine wA ?_ | refine wB ?_ | refine wC ?_) | with_reducible (first | refine wq1 ?_ | refine wq3 ?_ | refine wq7 ?_ | refine wq8 ?_ | refine wE ?_ | refine wS ?_) | ((with_reducible refine hK _ ?_); clear hK K) | ((with_reducible refine PWp.condI ?_); refine ⟨_, rfl, fun hg => ?_, fun hg => ?_⟩ <;> first | (exact absurd hg (by decide)) | ((try simp only [Bool.not_true, Bool.not_false] at hg); (try simp only [hg]); (try simp only [push_cast] at hg); (try exact absurd trivial hg); (try (exfalso; omega)))) | ((with_reducible refine pops_plain fun K hK => ?_); simp (disch := omega) only [push_cast, seval, hx, c3, c4, vb_ne, ne_ff, ne_ft, ne_tf, ne_tt]) | ((with_reducible refine pops_guard ?_); refine ⟨_, rfl, fun K hK => ⟨_, rfl, fun hg => ?_, fun hg => ?_⟩⟩ <;> first | (exact absurd hg (by decide)) | ((try simp only [Bool.not_true, Bool.not_false] at hg); (try simp only [hg]); (try simp only [push_cast] at hg); (try exact absurd trivial hg); (try (exfalso; omega)); (try simp (disch := omega) only [push_cast, seval, hx, c3, c4, vb_ne, ne_ff, ne_ft, ne_tf, ne_tt]))) | ((with_reducible show pcall _ _ _ _ _ _); ((refine pcV (cf Try.func98) (cc _ _) ?_)); (try simp (disch := omega) only [push_cast, seval, hx, c3, c4, vb_ne, ne_ff, ne_ft, ne_tf, ne_tt])) | ((with_reducible refine And.intro ?_ ?_); omega))
      (refine ⟨k + 1, by ((try dsimp only); omega), ?_, by exact fitA [_, _, _, _]⟩)
      exact ⟨hlt, hn⟩
    have e := find_hit hx (p := isProp n2 (fun m : GNMsg => decide (0 ≤ m.fPol) && decide (3 ≤ cntM l 2 m.fPol m.fVal))) (by simp [isProp, show 0 ≤ x4 from c3, show 3 ≤ cntM l 2 x4 x3 by omega]) hA
    exact absurd (hp.symm.trans e) (by simp)
  obtain rfl : k = l.length := by omega
  repeat' (first | with_reducible (first | refine wA ?_ | refine wC ?_) | with_reducible (first | refine wq1 ?_ | refine wq3 ?_ | refine wq7 ?_ | refine wq8 ?_ | refine wq9 ?_ | refine wE ?_) | ((with_reducible refine hK _ ?_); clear hK K) | ((with_reducible refine PWp.condI ?_); refine ⟨_, rfl, fun hg => ?_, fun hg => ?_⟩ <;> first | (exact absurd hg (by decide)) | ((try simp only [Bool.not_true, Bool.not_false] at hg); (try simp only [hg]); (try simp only [push_cast] at hg); (try exact absurd trivial hg); (try (exfalso; omega)))) | ((with_reducible refine pops_plain fun K hK => ?_); simp (disch := omega) only [push_cast, seval]))
  ((with_reducible show PPostR _ _ _ _ _ _); exact finH [0, 1])
set_option maxHeartbeats 8000000 in
theorem sPropT_yes (a : Acting) (hs : a.1.fStep = 1) (hlr : -1 ≤ a.1.fLockRound) (hl : a.1.fMsgs.length ≤ 1000 ∧ a.2.length ≤ 1000) (ms : ∀ m ∈ a.1.fMsgs, MOk m) (m : GNMsg) (hp : propose a.1.fMsgs a.1.fRound (fun m : GNMsg => decide (0 ≤ m.fPol) && decide (3 ≤ cntM a.1.fMsgs 2 m.fPol m.fVal)) = some m) (y : Bool) (hy : y = (decide (a.1.fLockRound ≤ m.fPol) || decide (a.1.fLockVal = m.fVal))) : PCalls Try.prog 96 [.agg (pActX a.1 (.own 0) (.own 1)), .val (.bool true)] (hRun a) (RH (.tup [.agg (pActX (prevote a m.fVal y).1 (.own 2) (.own 3)), .val (.bool true)]) (hRunM (prevote a m.fVal y))) := by
  have c := fun v => sPrevote_p a v hl
  have cc := fun r v => sCount_p a.1.fMsgs 2 r v (by omega) ms
  obtain ⟨⟨n1, n2, n3, n4, n5, n6, n7, n8, n9, l⟩, s⟩ := a
  dsimp only at *
  subst n3
  refine pcalls_ofR okP Try.func96 rfl ?_
  simp only [Try.f96, List.length_cons, List.length_nil, Nat.reduceAdd, Nat.reduceSub, List.replicate_succ, List.replicate_zero, List.cons_append, List.nil_append, List.length_map]
  repeat' (first | with_reducible (first | refine wA ?_ | refine wB ?_ | refine wC ?_) | with_reducible (first | refine wq1 ?_ | refine wq3 ?_ | refine wS ?_) | ((with_reducible refine hK _ ?_); clear hK K) | ((with_reducible refine PWp.condI ?_); refine ⟨_, rfl, fun hg => ?_, fun hg => ?_⟩ <;> first | (exact absurd hg (by decide)) | ((try simp only [Bool.not_true, Bool.not_false] at hg); (try simp only [hg]); (try simp only [push_cast] at hg); (try exact absurd trivial hg); (try (exfalso; omega)))) | ((with_reducible refine pops_plain fun K hK => ?_); simp (disch := omega) only [push_cast, seval, vb_ne, ne_ff, ne_ft, ne_tf, ne_tt]))
  refine PWp.loopK (α := Nat) (fun k => [(2, .ptr 2 0), (4, .ptr 3 0), (6, .val (.int .i64 (k : Int)))]) [0, 3, 5, 7, 8, 9, 10, 11, 12, 13, 14, 15, 16, 17, 18, 19, 20, 21, 22, 23, 24, 25, 26, 27, 28, 29, 30, 31, 32, 33, 34, 35, 36, 37, 38, 39, 40, 41, 42, 43, 44, 45, 46, 47, 48, 49, 50, 51, 52, 53, 54, 55, 56, 57, 58, 59, 60, 61, 62, 63, 64, 65, 66, 67, 68, 69, 70, 71, 72, 73, 74, 75, 76, 77, 78] (fun k => [some (.row 32 5 (l.map pNMsg)), some (.row 32 5 (s.map pNMsg)), some (.box (pActX ⟨n1, n2, 1, n4, n5, n6, n7, n8, n9, l⟩ (.own 0) (.own 1))), some (.box [.val (.int .i64 0), .val (.int .i64 0), .val (.int .i64 0), .val (.int .i64 0), .val (.int .i64 0), .val (.int .i64 0), .val (.int .i64 0), .val (.int .i64 0), .val (.int .i64 0), .val (.slice none 0 0), .val (.slice none 0 0)])]) (fun k => k ≤ l.length ∧ noneTo (isProp n2 (fun m : GNMsg => decide (0 ≤ m.fPol) && decide (3 ≤ cntM l 2 m.fPol m.fVal))) l k) (fun k => l.length - k) (0) (⟨Nat.zero_le _, noneTo_zero⟩) (by exact fitA [_, _, _, _]) ?_
  intro k ρ hI
  (try dsimp only at hI)
  refine PWp.at (tm' := ?_) (H' := ?_) ?_ ?_ ?_; rotate_left 2; (· ((try simp only [push_cast, seval]); exact rfl)); (· ((try dsimp only); exact rfl))
  obtain ⟨hk, hA⟩ := hI
  by_cases hlt : k < l.length
  · obtain ⟨x, hx⟩ : ∃ x, l[k]? = some x := ⟨_, List.getElem?_eq_getElem hlt⟩
    have hp1 := (ms x (List.mem_of_getElem? hx)).p1
    obtain ⟨x1, x2, x3, x4, x5⟩ := x
    dsimp only at hp1
    by_cases c1 : x1 = 1
    case neg =>
      have hn := noneTo_succ hA hx (by simp [isProp, c1])
      repeat' (first | with_reducible (first | refine wA ?_ | refine wB ?_ | refine wC ?_) | with_reducible (first | refine wq1 ?_ | refine wq3 ?_ | refine wq7 ?_ | refine wq8 ?_ | refine wE ?_ | refine wS ?_) | ((with_reducible refine hK _ ?_); clear hK K) | ((with_reducible refine PWp.condI ?_); refine ⟨_, rfl, fun hg => ?_, fun hg => ?_⟩ <;> first | (exact absurd hg (by decide)) | ((try simp only [Bool.not_true, Bool.not_false] at hg); (try simp only [hg]); (try simp only [push_cast] at hg); (try exact absurd trivial hg); (try (exfalso; omega)))) | ((with_reducible refine pops_guard0 ?_); refine ⟨_, rfl, fun K hK => ⟨rfl, ?_⟩⟩; (try simp (disch := omega) only [push_cast, seval, hx, c1, vb_ne, ne_ff, ne_ft, ne_tf, ne_tt])) | ((with_reducible refine pops_plain fun K hK => ?_); simp (disch := omega) only [push_cast, seval, hx, c1, vb_ne, ne_ff, ne_ft, ne_tf, ne_tt]) | ((with_reducible refine pops_guard ?_); refine ⟨_, rfl, fun K hK => ⟨_, rfl, fun hg => ?_, fun hg => ?_⟩⟩ <;> first | (exact absurd hg (by decide)) | ((try simp only [Bool.not_true, Bool.not_false] at hg); (try simp only [hg]); (try simp only [push_cast] at hg); (try exact absurd trivial hg); (try (exfalso; omega)); (try simp (disch := omega) only [push_cast, seval, hx, c1, vb_ne, ne_ff, ne_ft, ne_tf, ne_tt]))) | ((with_reducible refine And.intro ?_ ?_); omega))
      (refine ⟨k + 1, by ((try dsimp only); omega), ?_, by exact fitA [_, _, _, _]⟩)
      exact ⟨hlt, hn⟩
    by_cases c2 : x2 = n2
    case neg =>
      have hn := noneTo_succ hA hx (by simp [isProp, c2])
      repeat' (first | with_reducible (first | refine wA ?_ | refine wB ?_ | refine wC ?_) | with_reducible (first | refine wq1 ?_ | refine wq3 ?_ | refine wq7 ?_ | refine wq8 ?_ | refine wE ?_ | refine wS ?_) | ((with_reducible refine hK _ ?_); clear hK K) | ((with_reducible refine PWp.condI ?_); refine ⟨_, rfl, fun hg => ?_, fun hg => ?_⟩ <;> first | (exact absurd hg (by decide)) | ((try simp only [Bool.not_true, Bool.not_false] at hg); (try simp only [hg]); (try simp only [push_cast] at hg); (try exact absurd trivial hg); (try (exfalso; omega)))) | ((with_reducible refine pops_guard0 ?_); refine ⟨_, rfl, fun K hK => ⟨rfl, ?_⟩⟩; (try simp (disch := omega) only [push_cast, seval, hx, c1, c2, vb_ne, ne_ff, ne_ft, ne_tf, ne_tt])) | ((with_reducible refine pops_plain fun K hK => ?_); simp (disch := omega) only [push_cast, seval, hx, c1, c2, vb_ne, ne_ff, ne_ft, ne_tf, ne_tt]) | ((with_reducible refine pops_guard ?_); refine ⟨_, rfl, fun K hK => ⟨_, rfl, fun hg => ?_, fun hg => ?_⟩⟩ <;> first | (exact absurd hg (by decide)) | ((try simp only [Bool.not_true, Bool.not_false] at hg); (try simp only [hg]); (try simp only [push_cast] at hg); (try exact absurd trivial hg); (try (exfalso; omega)); (try simp (disch := omega) only [push_cast, seval, hx, c1, c2, vb_ne, ne_ff, ne_ft, ne_tf, ne_tt]))) | ((with_reducible refine And.intro ?_ ?_); omega))
      (refine ⟨k + 1, by ((try dsimp only); omega), ?_, by exact fitA [_, _, _, _]⟩)
      exact ⟨hlt, hn⟩
    have hpl := (hp1 c1).2.2.1
    subst x1
    subst x2
    by_cases c3 : x4 ≥ 0
    case neg =>
      have hn := noneTo_succ hA hx (by simp [isProp, show ¬ 0 ≤ x4 from c3])
      repeat' (first | with_reducible (first | refine wA ?_ | refine wB ?_ | refine wC ?_) | with_reducible (first | refine wq1 ?_ | refine wq3 ?_ | refine wq7 ?_ | refine wq8 ?_ | refine wE ?_ | refine wS ?_) | ((with_reducible refine hK _ ?_); clear hK K) | ((with_reducible refine PWp.condI ?_); refine ⟨_, rfl, fun hg => ?_, fun hg => ?_⟩ <;> first | (exact absurd hg (by decide)) | ((try simp only [Bool.not_true, Bool.not_false] at hg); (try simp only [hg]); (try simp only [push_cast] at hg); (try exact absurd trivial hg); (try (exfalso; omega)))) | ((with_reducible refine pops_guard0 ?_); refine ⟨_, rfl, fun K hK => ⟨rfl, ?_⟩⟩; (try simp (disch := omega) only [push_cast, seval, hx, c3, vb_ne, ne_ff, ne_ft, ne_tf, ne_tt])) | ((with_reducible refine pops_plain fun K hK => ?_); simp (disch := omega) only [push_cast, seval, hx, c3, vb_ne, ne_ff, ne_ft, ne_tf, ne_tt]) | ((with_reducible refine pops_guard ?_); refine ⟨_, rfl, fun K hK => ⟨_, rfl, fun hg => ?_, fun hg => ?_⟩⟩ <;> first | (exact absurd hg (by decide)) | ((try simp only [Bool.not_true, Bool.not_false] at hg); (try simp only [hg]); (try simp only [push_cast] at hg); (try exact absurd trivial hg); (try (exfalso; omega)); (try simp (disch := omega) only [push_cast, seval, hx, c3, vb_ne, ne_ff, ne_ft, ne_tf, ne_tt]))) | ((with_reducible refine And.intro ?_ ?_); omega))
      (refine ⟨k + 1, by ((try dsimp only); omega), ?_, by exact fitA [_, _, _, _]⟩)
      exact ⟨hlt, hn⟩
    by_cases c4 : cntM l 2 x4 x3 < 3
    case pos =>
      have hn := noneTo_succ hA hx (by simp [isProp, show ¬ 3 ≤ cntM l 2 x4 x3 by omega])
      repeat' (first | with_reducible (first | refine wA ?_ | refine wB ?_ | refine wC ?_) | with_reducible (first | refine wq1 ?_ | refine wq3 ?_ | refine wq7 ?_ | refine wq8 ?_ | refine wE ?_ | refine wS ?_) | ((with_reducible refine hK _ ?_); clear hK K) | ((with_reducible refine PWp.condI ?_); refine ⟨_, rfl, fun hg => ?_, fun hg => ?_⟩ <;> first | (exact absurd hg (by decide)) | ((try simp only [Bool.not_true, Bool.not_false] at hg); (try simp only [hg]); (try simp only [push_cast] at hg); (try exact absurd trivial hg); (try (exfalso; omega)))) | ((with_reducible refine pops_plain fun K hK => ?_); simp (disch := omega) only [push_cast, seval, hx, c3, c4, vb_ne, ne_ff, ne_ft, ne_tf, ne_tt]) | ((with_reducible refine pops_guard ?_); refine ⟨_, rfl, fun K hK => ⟨_, rfl, fun hg => ?_, fun hg => ?_⟩⟩ <;> first | (exact absurd hg (by decide)) | ((try simp only [Bool.not_true, Bool.not_false] at hg); (try simp only [hg]); (try simp only [push_cast] at hg); (try exact absurd trivial hg); (try (exfalso; omega)); (try simp (disch := omega) only [push_cast, seval, hx, c3, c4, vb_ne, ne_ff, ne_ft, ne_tf, ne_tt]))) | ((with_reducible show pcall _ _ _ _ _ _); ((refine pcV (cf Try.func98) (cc _ _) ?_)); (try simp (disch := omega) only [push_cast, seval, hx, c3, c4, vb_ne, ne_ff, ne_ft, ne_tf, ne_tt])) | ((with_reducible refine And.intro ?_ ?_); omega))
      (refine ⟨k + 1, by ((try dsimp only); omega), ?_, by exact fitA [_, _, _, _]⟩)
      exact ⟨hlt, hn⟩
    have e := find_hit hx (p := isProp n2 (fun m : GNMsg => decide (0 ≤ m.fPol) && decide (3 ≤ cntM l 2 m.fPol m.fVal))) (by simp [isProp, show 0 ≤ x4 from c3, show 3 ≤ cntM l 2 x4 x3 by omega]) hA
    obtain rfl : m = ⟨1, n2, x3, x4, x5⟩ := Option.some.inj (hp.symm.trans e)
    clear e hp
    dsimp only at hy ⊢
    by_cases q1 : n5 ≤ x4
    all_goals by_cases q2 : n4 = x3
    all_goals
      simp only [q1, q2, decide_true, decide_false, Bool.or_true, Bool.true_or, Bool.or_false, Bool.or_self] at hy
      subst y
      skip
    all_goals first
      | (rw [prevote_no]; skip)
      | skip
    all_goals
      have c1 := c x3
      have c0 := c 0
      (first | rw [if_pos rfl] at c1 | skip)
      generalize prevote (⟨n1, n2, 1, n4, n5, n6, n7, n8, n9, l⟩, s) x3 true = r1 at c1 ⊢
      generalize prevote (⟨n1, n2, 1, n4, n5, n6, n7, n8, n9, l⟩, s) 0 true = r0 at c0 ⊢
      obtain ⟨⟨r1, r2, r3, r4, r5, r6, r7, r8, r9, rl⟩, rs⟩ := r1
      obtain ⟨⟨u1, u2, u3, u4, u5, u6, u7, u8, u9, ul⟩, us⟩ := r0
      repeat' (first | with_reducible (first | refine wA ?_ | refine wB ?_ | refine wC ?_) | with_reducible (first | refine wq1 ?_ | refine wq3 ?_ | refine wq5 ?_ | refine wq6 ?_ | refine wq9 ?_ | refine wS ?_) | ((with_reducible refine hK _ ?_); clear hK K) | ((with_reducible refine PWp.condI ?_); refine ⟨_, rfl, fun hg => ?_, fun hg => ?_⟩ <;> first | (exact absurd hg (by decide)) | ((try simp only [Bool.not_true, Bool.not_false] at hg); (try simp only [hg]); (try simp only [push_cast] at hg); (try exact absurd trivial hg); (try (exfalso; omega)))) | ((with_reducible refine pops_plain fun K hK => ?_); simp (disch := omega) only [push_cast, seval, hx, c3, c4, q1, q2, vb_ne, ne_ff, ne_ft, ne_tf, ne_tt]) | ((with_reducible refine pops_guard ?_); refine ⟨_, rfl, fun K hK => ⟨_, rfl, fun hg => ?_, fun hg => ?_⟩⟩ <;> first | (exact absurd hg (by decide)) | ((try simp only [Bool.not_true, Bool.not_false] at hg); (try simp only [hg]); (try simp only [push_cast] at hg); (try exact absurd trivial hg); (try (exfalso; omega)); (try simp (disch := omega) only [push_cast, seval, hx, c3, c4, q1, q2, vb_ne, ne_ff, ne_ft, ne_tf, ne_tt]))) | ((with_reducible show pcall _ _ _ _ _ _); (first | (refine pcall_RGo (cf Try.func77) [?_, ?_] ?_ ?_ ?_ ?_ (c0) ?_; rotate_left 2; (· ((try simp (disch := omega) only [push_cast, seval]); (repeat' (first | exact trivial | exact rfl | refine And.intro ?_ ?_ | omega)))); (· ((try (unfold bAct)); (try simp (disch := omega) only [push_cast, seval]); (repeat' (first | exact trivial | exact rfl | refine And.intro ?_ ?_ | omega)))); (· exact rfl); (· exact rfl); rotate_right 1; rotate_left 1; (all_goals (try (first | omega | exact (show _ = _ by assumption))))) | (refine pcO (cf Try.func77) [_, _] (c1) ?_) | (refine pcV (cf Try.func98) (cc _ _) ?_)); (try simp (disch := omega) only [push_cast, seval, hx, c3, c4, q1, q2, vb_ne, ne_ff, ne_ft, ne_tf, ne_tt])) | ((with_reducible refine And.intro ?_ ?_); omega))
      ((with_reducible show PPostR _ _ _ _ _ _); exact finH [0, 1, _, _])
  obtain rfl : k = l.length := by omega
  exact absurd (hp.symm.trans (find_end hA)) (by simp)
end Go.Proofs.Ytcbknmnlgoeniaa
namespace Go.Proofs.Ytcbknmnlgoeniaa
set_option linter.unusedSimpArgs false
set_option linter.unusedVariables false
open Go.RowKit
set_option maxRecDepth 100000
theorem sPolka_st (a : Acting) (h : a.1.fStep = 1 ∨ a.1.fPolka = a.1.fRound) : PCalls Try.prog 97 [.agg (pActX a.1 (.own 0) (.own 1))] (hRun a) (RH (.tup [.agg (pActX a.1 (.own 0) (.own 1)), .val (.bool false)]) (hRun a)) := by
  obtain ⟨⟨n1, n2, n3, n4, n5, n6, n7, n8, n9, l⟩, s⟩ := a
  dsimp only at h
  by_cases h1 : n3 = 1
  ·
    refine pcalls_ofR okP Try.func97 rfl ?_
    simp only [Try.f97, List.length_cons, List.length_nil, Nat.reduceAdd, Nat.reduceSub, List.replicate_succ, List.replicate_zero, List.cons_append, List.nil_append, List.length_map]
    repeat' (first | with_reducible (first | refine wA ?_ | refine wC ?_) | with_reducible (first | refine wq1 ?_ | refine wq3 ?_ | refine wq5 ?_ | refine wq9 ?_) | ((with_reducible refine hK _ ?_); clear hK K) | ((with_reducible refine PWp.condI ?_); refine ⟨_, rfl, fun hg => ?_, fun hg => ?_⟩ <;> first | (exact absurd hg (by decide)) | ((try simp only [Bool.not_true, Bool.not_false] at hg); (try simp only [hg]); (try simp only [push_cast] at hg); (try exact absurd trivial hg); (try (exfalso; omega)))) | ((with_reducible refine pops_plain fun K hK => ?_); simp (disch := omega) only [push_cast, seval, h1]) | ((with_reducible refine pops_guard ?_); refine ⟨_, rfl, fun K hK => ⟨_, rfl, fun hg => ?_, fun hg => ?_⟩⟩ <;> first | (exact absurd hg (by decide)) | ((try simp only [Bool.not_true, Bool.not_false] at hg); (try simp only [hg]); (try simp only [push_cast] at hg); (try exact absurd trivial hg); (try (exfalso; omega)); (try simp (disch := omega) only [push_cast, seval, h1]))))
    ((with_reducible show PPostR _ _ _ _ _ _); exact finH [0, 1])
  · have h2 : n8 = n2 := by omega
    refine pcalls_ofR okP Try.func97 rfl ?_
    simp only [Try.f97, List.length_cons, List.length_nil, Nat.reduceAdd, Nat.reduceSub, List.replicate_succ, List.replicate_zero, List.cons_append, List.nil_append, List.length_map]
    repeat' (first | with_reducible (first | refine wA ?_ | refine wC ?_) | with_reducible (first | refine wq1 ?_ | refine wq3 ?_ | refine wq5 ?_ | refine wq9 ?_) | ((with_reducible refine hK _ ?_); clear hK K) | ((with_reducible refine PWp.condI ?_); refine ⟨_, rfl, fun hg => ?_, fun hg => ?_⟩ <;> first | (exact absurd hg (by decide)) | ((try simp only [Bool.not_true, Bool.not_false] at hg); (try simp only [hg]); (try simp only [push_cast] at hg); (try exact absurd trivial hg); (try (exfalso; omega)))) | ((with_reducible refine pops_plain fun K hK => ?_); simp (disch := omega) only [push_cast, seval, h1, h2]) | ((with_reducible refine pops_guard ?_); refine ⟨_, rfl, fun K hK => ⟨_, rfl, fun hg => ?_, fun hg => ?_⟩⟩ <;> first | (exact absurd hg (by decide)) | ((try simp only [Bool.not_true, Bool.not_false] at hg); (try simp only [hg]); (try simp only [push_cast] at hg); (try exact absurd trivial hg); (try (exfalso; omega)); (try simp (disch := omega) only [push_cast, seval, h1, h2]))))
    ((with_reducible show PPostR _ _ _ _ _ _); exact finH [0, 1])
set_option maxHeartbeats 8000000 in
theorem sPolka_no (a : Acting) (h1 : ¬ a.1.fStep = 1) (h2 : ¬ a.1.fPolka = a.1.fRound) (hl : a.1.fMsgs.length ≤ 1000 ∧ a.2.length ≤ 1000) (ms : ∀ m ∈ a.1.fMsgs, MOk m) (hp : propose a.1.fMsgs a.1.fRound (fun m : GNMsg => decide (3 ≤ cntM a.1.fMsgs 2 a.1.fRound m.fVal)) = none) : PCalls Try.prog 97 [.agg (pActX a.1 (.own 0) (.own 1))] (hRun a) (RH (.tup [.agg (pActX a.1 (.own 0) (.own 1)), .val (.bool false)]) (hRun a)) := by
  have cc := fun r v => sCount_p a.1.fMsgs 2 r v (by omega) ms
  obtain ⟨⟨n1, n2, n3, n4, n5, n6, n7, n8, n9, l⟩, s⟩ := a
  dsimp only at *
  refine pcalls_ofR okP Try.func97 rfl ?_
  simp only [Try.f97, List.length_cons, List.length_nil, Nat.reduceAdd, Nat.reduceSub, List.replicate_succ, List.replicate_zero, List.cons_append, List.nil_append, List.length_map]
  repeat' (first | with_reducible (first | refine wA ?_ | refine wB ?_ | refine wC ?_) | with_reducible (first | refine wq1 ?_ | refine wq3 ?_ | refine wS ?_) | ((with_reducible refine hK _ ?_); clear hK K) | ((with_reducible refine PWp.condI ?_); refine ⟨_, rfl, fun hg => ?_, fun hg => ?_⟩ <;> first | (exact absurd hg (by decide)) | ((try simp only [Bool.not_true, Bool.not_false] at hg); (try simp only [hg]); (try simp only [push_cast] at hg); (try exact absurd trivial hg); (try (exfalso; omega)))) | ((with_reducible refine pops_plain fun K hK => ?_); simp (disch := omega) only [push_cast, seval, h1, h2]) | ((with_reducible refine pops_guard ?_); refine ⟨_, rfl, fun K hK => ⟨_, rfl, fun hg => ?_, fun hg => ?_⟩⟩ <;> first | (exact absurd hg (by decide)) | ((try simp only [Bool.not_true, Bool.not_false] at hg); (try simp only [hg]); (try simp only [push_cast] at hg); (try exact absurd trivial hg); (try (exfalso; omega)); (try simp (disch := omega) only [push_cast, seval, h1, h2]))))
  refine PWp.loopK (α := Nat) (fun k => [(1, .ptr 2 0), (2, .ptr 3 0), (4, .val (.int .i64 (k : Int)))]) [0, 3, 5, 6, 7, 8, 9, 10, 11, 12, 13, 14, 15, 16, 17, 18, 19, 20, 21, 22, 23, 24, 25, 26, 27, 28, 29, 30, 31, 32, 33, 34, 35, 36, 37, 38, 39, 40, 41, 42, 43, 44, 45, 46, 47, 48, 49, 50, 51, 52, 53, 54, 55, 56, 57, 58, 59, 60, 61, 62, 63, 64, 65, 66, 67, 68, 69, 70, 71, 72, 73, 74, 75, 76, 77, 78, 79, 80, 81, 82, 83, 84] (fun k => [some (.row 32 5 (l.map pNMsg)), some (.row 32 5 (s.map pNMsg)), some (.box (pActX ⟨n1, n2, n3, n4, n5, n6, n7, n8, n9, l⟩ (.own 0) (.own 1))), some (.box [.val (.int .i64 0), .val (.int .i64 0), .val (.int .i64 0), .val (.int .i64 0), .val (.int .i64 0), .val (.int .i64 0), .val (.int .i64 0), .val (.int .i64 0), .val (.int .i64 0), .val (.slice none 0 0), .val (.slice none 0 0)])]) (fun k => k ≤ l.length ∧ noneTo (isProp n2 (fun m : GNMsg => decide (3 ≤ cntM l 2 n2 m.fVal))) l k) (fun k => l.length - k) (0) (⟨Nat.zero_le _, noneTo_zero⟩) (by exact fitA [_, _, _, _]) ?_
  intro k ρ hI
  (try dsimp only at hI)
  refine PWp.at (tm' := ?_) (H' := ?_) ?_ ?_ ?_; rotate_left 2; (· ((try simp only [push_cast, seval]); exact rfl)); (· ((try dsimp only); exact rfl))
  obtain ⟨hk, hA⟩ := hI
  by_cases hlt : k < l.length
  · obtain ⟨x, hx⟩ : ∃ x, l[k]? = some x := ⟨_, List.getElem?_eq_getElem hlt⟩
    obtain ⟨x1, x2, x3, x4, x5⟩ := x
    by_cases c1 : x1 = 1
    case neg =>
      have hn := noneTo_succ hA hx (by simp [isProp, c1])
      repeat' (first | with_reducible (first | refine wA ?_ | refine wB ?_ | refine wC ?_) | with_reducible (first | refine wq1 ?_ | refine wq3 ?_ | refine wq7 ?_ | refine wq8 ?_ | refine wE ?_ | refine wS ?_) | ((with_reducible refine hK _ ?_); clear hK K) | ((with_reducible refine PWp.condI ?_); refine ⟨_, rfl, fun hg => ?_, fun hg => ?_⟩ <;> first | (exact absurd hg (by decide)) | ((try simp only [Bool.not_true, Bool.not_false] at hg); (try simp only [hg]); (try simp only [push_cast] at hg); (try exact absurd trivial hg); (try (exfalso; omega)))) | ((with_reducible refine pops_plain fun K hK => ?_); simp (disch := omega) only [push_cast, seval, hx, c1]) | ((with_reducible refine pops_guard ?_); refine ⟨_, rfl, fun K hK => ⟨_, rfl, fun hg => ?_, fun hg => ?_⟩⟩ <;> first | (exact absurd hg (by decide)) | ((try simp only [Bool.not_true, Bool.not_false] at hg); (try simp only [hg]); (try simp only [push_cast] at hg); (try exact absurd trivial hg); (try (exfalso; omega)); (try simp (disch := omega) only [push_cast, seval, hx, c1]))) | ((with_reducible refine And.intro ?_ ?_); omega))
      (refine ⟨k + 1, by ((try dsimp only); omega), ?_, by exact fitA [_, _, _, _]⟩)
      exact ⟨hlt, hn⟩
    by_cases c2 : x2 = n2
    case neg =>
      have hn := noneTo_succ hA hx (by simp [isProp, c2])
      repeat' (first | with_reducible (first | refine wA ?_ | refine wB ?_ | refine wC ?_) | with_reducible (first | refine wq1 ?_ | refine wq3 ?_ | refine wq7 ?_ | refine wq8 ?_ | refine wE ?_ | refine wS ?_) | ((with_reducible refine hK _ ?_); clear hK K) | ((with_reducible refine PWp.condI ?_); refine ⟨_, rfl, fun hg => ?_, fun hg => ?_⟩ <;> first | (exact absurd hg (by decide)) | ((try simp only [Bool.not_true, Bool.not_false] at hg); (try simp only [hg]); (try simp only [push_cast] at hg); (try exact absurd trivial hg); (try (exfalso; omega)))) | ((with_reducible refine pops_plain fun K hK => ?_); simp (disch := omega) only [push_cast, seval, hx, c1, c2]) | ((with_reducible refine pops_guard ?_); refine ⟨_, rfl, fun K hK => ⟨_, rfl, fun hg => ?_, fun hg => ?_⟩⟩ <;> first | (exact absurd hg (by decide)) | ((try simp only [Bool.not_true, Bool.not_false] at hg); (try simp only [hg]); (try simp only [push_cast] at hg); (try exact absurd trivial hg); (try (exfalso; omega)); (try simp (disch := omega) only [push_cast, seval, hx, c1, c2]))) | ((with_reducible refine And.intro ?_ ?_); omega))
      (refine ⟨k + 1, by ((try dsimp only); omega), ?_, by exact fitA [_, _, _, _]⟩)
      exact ⟨hlt, hn⟩
    subst x1
    subst x2
    by_cases c4 : cntM l 2 n2 x3 < 3
    case pos =>
      have hn := noneTo_succ hA hx (by simp [isProp, show ¬ 3 ≤ cntM l 2 n2 x3 by omega])
      repeat' (first | with_reducible (first | refine wA ?_ | refine wB ?_ | refine wC ?_) | with_reducible (first | refine wq1 ?_ | refine wq3 ?_ | refine wq7 ?_ | refine wq8 ?_ | refine wE ?_ | refine wS ?_) | ((with_reducible refine hK _ ?_); clear hK K) | ((with_reducible refine PWp.condI ?_); refine ⟨_, rfl, fun hg => ?_, fun hg => ?_⟩ <;> first | (exact absurd hg (by decide)) | ((try simp only [Bool.not_true, Bool.not_false] at hg); (try simp only [hg]); (try simp only [push_cast] at hg); (try exact absurd trivial hg); (try (exfalso; omega)))) | ((with_reducible refine pops_plain fun K hK => ?_); simp (disch := omega) only [push_cast, seval, hx, c4]) | ((with_reducible refine pops_guard ?_); refine ⟨_, rfl, fun K hK => ⟨_, rfl, fun hg => ?_, fun hg => ?_⟩⟩ <;> first | (exact absurd hg (by decide)) | ((try simp only [Bool.not_true, Bool.not_false] at hg); (try simp only [hg]); (try simp only [push_cast] at hg); (try exact absurd trivial hg); (try (exfalso; omega)); (try simp (disch := omega) only [push_cast, seval, hx, c4]))) | ((with_reducible show pcall _ _ _ _ _ _); ((refine pcV (cf Try.func98) (cc _ _) ?_)); (try simp (disch := omega) only [push_cast, seval, hx, c4])) | ((with_reducible refine And.intro ?_ ?_); omega))
      (refine ⟨k + 1, by ((try dsimp only); omega), ?_, by exact fitA [_, _, _, _]⟩)
      exact ⟨hlt, hn⟩
    have e := find_hit hx (p := isProp n2 (fun m : GNMsg => decide (3 ≤ cntM l 2 n2 m.fVal))) (by simp [isProp, show 3 ≤ cntM l 2 n2 x3 by omega]) hA
    exact absurd (hp.symm.trans e) (by simp)
  obtain rfl : k = l.length := by omega
  repeat' (first | with_reducible (first | refine wA ?_ | refine wC ?_) | with_reducible (first | refine wq1 ?_ | refine wq3 ?_ | refine wq7 ?_ | refine wq8 ?_ | refine wq9 ?_ | refine wE ?_) | ((with_reducible refine hK _ ?_); clear hK K) | ((with_reducible refine PWp.condI ?_); refine ⟨_, rfl, fun hg => ?_, fun hg => ?_⟩ <;> first | (exact absurd hg (by decide)) | ((try simp only [Bool.not_true, Bool.not_false] at hg); (try simp only [hg]); (try simp only [push_cast] at hg); (try exact absurd trivial hg); (try (exfalso; omega)))) | ((with_reducible refine pops_plain fun K hK => ?_); simp (disch := omega) only [push_cast, seval]))
  ((with_reducible show PPostR _ _ _ _ _ _); exact finH [0, 1])
set_option maxHeartbeats 8000000 in
theorem sPolka_yes2 (a : Acting) (h1 : ¬ a.1.fStep = 1) (h2 : ¬ a.1.fPolka = a.1.fRound) (hl : a.1.fMsgs.length ≤ 1000 ∧ a.2.length ≤ 1000) (ms : ∀ m ∈ a.1.fMsgs, MOk m) (m : GNMsg) (hp : propose a.1.fMsgs a.1.fRound (fun m : GNMsg => decide (3 ≤ cntM a.1.fMsgs 2 a.1.fRound m.fVal)) = some m) (hs : a.1.fStep = 2) : PCalls Try.prog 97 [.agg (pActX a.1 (.own 0) (.own 1))] (hRun a) (RH (.tup [.agg (pActX (polkaD (precommit (lockD a m.fVal) m.fVal) m.fVal).1 (.own 2) (.own 3)), .val (.bool true)]) (hRunM (polkaD (precommit (lockD a m.fVal) m.fVal) m.fVal))) := by
  have cc := fun r v => sCount_p a.1.fMsgs 2 r v (by omega) ms
  have c := sPrecommit_p (lockD a m.fVal) m.fVal hl
  have hrd : (precommit (lockD a m.fVal) m.fVal).1.fRound = a.1.fRound := (stepTo_send (a := lockD a m.fVal) (m := sendMsg (lockD a m.fVal) 3 m.fVal (-1)) (s := 3)).1
  obtain ⟨⟨n1, n2, n3, n4, n5, n6, n7, n8, n9, l⟩, s⟩ := a
  dsimp only at *
  subst n3
  refine pcalls_ofR okP Try.func97 rfl ?_
  simp only [Try.f97, List.length_cons, List.length_nil, Nat.reduceAdd, Nat.reduceSub, List.replicate_succ, List.replicate_zero, List.cons_append, List.nil_append, List.length_map]
  repeat' (first | with_reducible (first | refine wA ?_ | refine wB ?_ | refine wC ?_) | with_reducible (first | refine wq1 ?_ | refine wq3 ?_ | refine wS ?_) | ((with_reducible refine hK _ ?_); clear hK K) | ((with_reducible refine PWp.condI ?_); refine ⟨_, rfl, fun hg => ?_, fun hg => ?_⟩ <;> first | (exact absurd hg (by decide)) | ((try simp only [Bool.not_true, Bool.not_false] at hg); (try simp only [hg]); (try simp only [push_cast] at hg); (try exact absurd trivial hg); (try (exfalso; omega)))) | ((with_reducible refine pops_plain fun K hK => ?_); simp (disch := omega) only [push_cast, seval, h1, h2]) | ((with_reducible refine pops_guard ?_); refine ⟨_, rfl, fun K hK => ⟨_, rfl, fun hg => ?_, fun hg => ?_⟩⟩ <;> first | (exact absurd hg (by decide)) | ((try simp only [Bool.not_true, Bool.not_false] at hg); (try simp only [hg]); (try simp only [push_cast] at hg); (try exact absurd trivial hg); (try (exfalso; omega)); (try simp (disch := omega) only [push_cast, seval, h1, h2]))))
  refine PWp.loopK (α := Nat) (fun k => [(1, .ptr 2 0), (2, .ptr 3 0), (4, .val (.int .i64 (k : Int)))]) [0, 3, 5, 6, 7, 8, 9, 10, 11, 12, 13, 14, 15, 16, 17, 18, 19, 20, 21, 22, 23, 24, 25, 26, 27, 28, 29, 30, 31, 32, 33, 34, 35, 36, 37, 38, 39, 40, 41, 42, 43, 44, 45, 46, 47, 48, 49, 50, 51, 52, 53, 54, 55, 56, 57, 58, 59, 60, 61, 62, 63, 64, 65, 66, 67, 68, 69, 70, 71, 72, 73, 74, 75, 76, 77, 78, 79, 80, 81, 82, 83, 84] (fun k => [some (.row 32 5 (l.map pNMsg)), some (.row 32 5 (s.map pNMsg)), some (.box (pActX ⟨n1, n2, 2, n4, n5, n6, n7, n8, n9, l⟩ (.own 0) (.own 1))), some (.box [.val (.int .i64 0), .val (.int .i64 0), .val (.int .i64 0), .val (.int .i64 0), .val (.int .i64 0), .val (.int .i64 0), .val (.int .i64 0), .val (.int .i64 0), .val (.int .i64 0), .val (.slice none 0 0), .val (.slice none 0 0)])]) (fun k => k ≤ l.length ∧ noneTo (isProp n2 (fun m : GNMsg => decide (3 ≤ cntM l 2 n2 m.fVal))) l k) (fun k => l.length - k) (0) (⟨Nat.zero_le _, noneTo_zero⟩) (by exact fitA [_, _, _, _]) ?_
  intro k ρ hI
  (try dsimp only at hI)
  refine PWp.at (tm' := ?_) (H' := ?_) ?_ ?_ ?_; rotate_left 2; (· ((try simp only [push_cast, seval]); exact rfl)); (· ((try dsimp only); exact rfl))
  obtain ⟨hk, hA⟩ := hI
  by_cases hlt : k < l.length
  · obtain ⟨x, hx⟩ : ∃ x, l[k]? = some x := ⟨_, List.getElem?_eq_getElem hlt⟩
    obtain ⟨x1, x2, x3, x4, x5⟩ := x
    by_cases c1 : x1 = 1
    case neg =>
      have hn := noneTo_succ hA hx (by simp [isProp, c1])
      repeat' (first | with_reducible (first | refine wA ?_ | refine wB ?_ | refine wC ?_) | with_reducible (first | refine wq1 ?_ | refine wq3 ?_ | refine wq7 ?_ | refine wq8 ?_ | refine wE ?_ | refine wS ?_) | ((with_reducible refine hK _ ?_); clear hK K) | ((with_reducible refine PWp.condI ?_); refine ⟨_, rfl, fun hg => ?_, fun hg => ?_⟩ <;> first | (exact absurd hg (by decide)) | ((try simp only [Bool.not_true, Bool.not_false] at hg); (try simp only [hg]); (try simp only [push_cast] at hg); (try exact absurd trivial hg); (try (exfalso; omega)))) | ((with_reducible refine pops_plain fun K hK => ?_); simp (disch := omega) only [push_cast, seval, hx, c1]) | ((with_reducible refine pops_guard ?_); refine ⟨_, rfl, fun K hK => ⟨_, rfl, fun hg => ?_, fun hg => ?_⟩⟩ <;> first | (exact absurd hg (by decide)) | ((try simp only [Bool.not_true, Bool.not_false] at hg); (try simp only [hg]); (try simp only [push_cast] at hg); (try exact absurd trivial hg); (try (exfalso; omega)); (try simp (disch := omega) only [push_cast, seval, hx, c1]))) | ((with_reducible refine And.intro ?_ ?_); omega))
      (refine ⟨k + 1, by ((try dsimp only); omega), ?_, by exact fitA [_, _, _, _]⟩)
      exact ⟨hlt, hn⟩
    by_cases c2 : x2 = n2
    case neg =>
      have hn := noneTo_succ hA hx (by simp [isProp, c2])
      repeat' (first | with_reducible (first | refine wA ?_ | refine wB ?_ | refine wC ?_) | with_reducible (first | refine wq1 ?_ | refine wq3 ?_ | refine wq7 ?_ | refine wq8 ?_ | refine wE ?_ | refine wS ?_) | ((with_reducible refine hK _ ?_); clear hK K) | ((with_reducible refine PWp.condI ?_); refine ⟨_, rfl, fun hg => ?_, fun hg => ?_⟩ <;> first | (exact absurd hg (by decide)) | ((try simp only [Bool.not_true, Bool.not_false] at hg); (try simp only [hg]); (try simp only [push_cast] at hg); (try exact absurd trivial hg); (try (exfalso; omega)))) | ((with_reducible refine pops_plain fun K hK => ?_); simp (disch := omega) only [push_cast, seval, hx, c1, c2]) | ((with_reducible refine pops_guard ?_); refine ⟨_, rfl, fun K hK => ⟨_, rfl, fun hg => ?_, fun hg => ?_⟩⟩ <;> first | (exact absurd hg (by decide)) | ((try simp only [Bool.not_true, Bool.not_false] at hg); (try simp only [hg]); (try simp only [push_cast] at hg); (try exact absurd trivial hg); (try (exfalso; omega)); (try simp (disch := omega) only [push_cast, seval, hx, c1, c2]))) | ((with_reducible refine And.intro ?_ ?_); omega))
      (refine ⟨k + 1, by ((try dsimp only); omega), ?_, by exact fitA [_, _, _, _]⟩)
      exact ⟨hlt, hn⟩
    subst x1
    subst x2
    by_cases c4 : cntM l 2 n2 x3 < 3
    case pos =>
      have hn := noneTo_succ hA hx (by simp [isProp, show ¬ 3 ≤ cntM l 2 n2 x3 by omega])
      repeat' (first | with_reducible (first | refine wA ?_ | refine wB ?_ | refine wC ?_) | with_reducible (first | refine wq1 ?_ | refine wq3 ?_ | refine wq7 ?_ | refine wq8 ?_ | refine wE ?_ | refine wS ?_) | ((with_reducible refine hK _ ?_); clear hK K) | ((with_reducible refine PWp.condI ?_); refine ⟨_, rfl, fun hg => ?_, fun hg => ?_⟩ <;> first | (exact absurd hg (by decide)) | ((try simp only [Bool.not_true, Bool.not_false] at hg); (try simp only [hg]); (try simp only [push_cast] at hg); (try exact absurd trivial hg); (try (exfalso; omega)))) | ((with_reducible refine pops_plain fun K hK => ?_); simp (disch := omega) only [push_cast, seval, hx, c4]) | ((with_reducible refine pops_guard ?_); refine ⟨_, rfl, fun K hK => ⟨_, rfl, fun hg => ?_, fun hg => ?_⟩⟩ <;> first | (exact absurd hg (by decide)) | ((try simp only [Bool.not_true, Bool.not_false] at hg); (try simp only [hg]); (try simp only [push_cast] at hg); (try exact absurd trivial hg); (try (exfalso; omega)); (try simp (disch := omega) only [push_cast, seval, hx, c4]))) | ((with_reducible show pcall _ _ _ _ _ _); ((refine pcV (cf Try.func98) (cc _ _) ?_)); (try simp (disch := omega) only [push_cast, seval, hx, c4])) | ((with_reducible refine And.intro ?_ ?_); omega))
      (refine ⟨k + 1, by ((try dsimp only); omega), ?_, by exact fitA [_, _, _, _]⟩)
      exact ⟨hlt, hn⟩
    have e := find_hit hx (p := isProp n2 (fun m : GNMsg => decide (3 ≤ cntM l 2 n2 m.fVal))) (by simp [isProp, show 3 ≤ cntM l 2 n2 x3 by omega]) hA
    obtain rfl : m = ⟨1, n2, x3, x4, x5⟩ := Option.some.inj (hp.symm.trans e)
    clear e hp
    dsimp only at *
    unfold lockD at c hrd ⊢
    dsimp only at c hrd ⊢
    generalize precommit (⟨n1, n2, 2, x3, n2, n6, n7, n8, n9, l⟩, s) x3 = r at c hrd ⊢
    obtain ⟨⟨r1, r2, r3, r4, r5, r6, r7, r8, r9, rl⟩, rs⟩ := r
    dsimp only at hrd
    subst r2
    unfold polkaD
    repeat' (first | with_reducible (first | refine wA ?_ | refine wB ?_ | refine wC ?_) | with_reducible (first | refine wq1 ?_ | refine wq3 ?_ | refine wq5 ?_ | refine wq6 ?_ | refine wq9 ?_ | refine wS ?_) | ((with_reducible refine hK _ ?_); clear hK K) | ((with_reducible refine PWp.condI ?_); refine ⟨_, rfl, fun hg => ?_, fun hg => ?_⟩ <;> first | (exact absurd hg (by decide)) | ((try simp only [Bool.not_true, Bool.not_false] at hg); (try simp only [hg]); (try simp only [push_cast] at hg); (try exact absurd trivial hg); (try (exfalso; omega)))) | ((with_reducible refine pops_plain fun K hK => ?_); simp (disch := omega) only [push_cast, seval, hx, c4]) | ((with_reducible refine pops_guard ?_); refine ⟨_, rfl, fun K hK => ⟨_, rfl, fun hg => ?_, fun hg => ?_⟩⟩ <;> first | (exact absurd hg (by decide)) | ((try simp only [Bool.not_true, Bool.not_false] at hg); (try simp only [hg]); (try simp only [push_cast] at hg); (try exact absurd trivial hg); (try (exfalso; omega)); (try simp (disch := omega) only [push_cast, seval, hx, c4]))) | ((with_reducible show pcall _ _ _ _ _ _); (first | (refine pcO (cf Try.func78) [_, _] (c) ?_) | (refine pcV (cf Try.func98) (cc _ _) ?_)); (try simp (disch := omega) only [push_cast, seval, hx, c4])) | ((with_reducible refine And.intro ?_ ?_); omega))
    ((with_reducible show PPostR _ _ _ _ _ _); exact finH [0, 1, _, _])
  obtain rfl : k = l.length := by omega
  exact absurd (hp.symm.trans (find_end hA)) (by simp)
set_option maxHeartbeats 8000000 in
theorem sPolka_yes3 (a : Acting) (h1 : ¬ a.1.fStep = 1) (h2 : ¬ a.1.fPolka = a.1.fRound) (hl : a.1.fMsgs.length ≤ 1000 ∧ a.2.length ≤ 1000) (ms : ∀ m ∈ a.1.fMsgs, MOk m) (m : GNMsg) (hp : propose a.1.fMsgs a.1.fRound (fun m : GNMsg => decide (3 ≤ cntM a.1.fMsgs 2 a.1.fRound m.fVal)) = some m) (hs : ¬ a.1.fStep = 2) : PCalls Try.prog 97 [.agg (pActX a.1 (.own 0) (.own 1))] (hRun a) (RH (.tup [.agg (pActX (polkaD a m.fVal).1 (.own 2) (.own 3)), .val (.bool true)]) (hRunM (polkaD a m.fVal))) := by
  have cc := fun r v => sCount_p a.1.fMsgs 2 r v (by omega) ms
  obtain ⟨⟨n1, n2, n3, n4, n5, n6, n7, n8, n9, l⟩, s⟩ := a
  dsimp only at *
  refine pcalls_ofR okP Try.func97 rfl ?_
  simp only [Try.f97, List.length_cons, List.length_nil, Nat.reduceAdd, Nat.reduceSub, List.replicate_succ, List.replicate_zero, List.cons_append, List.nil_append, List.length_map]
  repeat' (first | with_reducible refine mkRegion (id := 1) ?_ | with_reducible (first | refine wA ?_ | refine wC ?_) | with_reducible (first | refine wq1 ?_ | refine wq3 ?_) | ((with_reducible refine hK _ ?_); clear hK K) | ((with_reducible refine pops_plain fun K hK => ?_); simp (disch := omega) only [push_cast, seval]))
  refine Mk.of ?_
  refine PWp.mvB 2 9 0 rfl rfl rfl (by decide) ?_
  refine PWp.mvB 2 10 1 rfl rfl rfl (by decide) ?_
  repeat' (first | with_reducible (first | refine wA ?_ | refine wB ?_ | refine wC ?_) | with_reducible (first | refine wq1 ?_ | refine wq3 ?_ | refine wS ?_) | ((with_reducible refine hK _ ?_); clear hK K) | ((with_reducible refine PWp.condI ?_); refine ⟨_, rfl, fun hg => ?_, fun hg => ?_⟩ <;> first | (exact absurd hg (by decide)) | ((try simp only [Bool.not_true, Bool.not_false] at hg); (try simp only [hg]); (try simp only [push_cast] at hg); (try exact absurd trivial hg); (try (exfalso; omega)))) | ((with_reducible refine pops_plain fun K hK => ?_); simp (disch := omega) only [push_cast, seval, h1, h2]) | ((with_reducible refine pops_guard ?_); refine ⟨_, rfl, fun K hK => ⟨_, rfl, fun hg => ?_, fun hg => ?_⟩⟩ <;> first | (exact absurd hg (by decide)) | ((try simp only [Bool.not_true, Bool.not_false] at hg); (try simp only [hg]); (try simp only [push_cast] at hg); (try exact absurd trivial hg); (try (exfalso; omega)); (try simp (disch := omega) only [push_cast, seval, h1, h2]))))
  refine PWp.loopK (α := Nat) (fun k => [(1, .ptr 2 0), (2, .ptr 3 0), (4, .val (.int .i64 (k : Int)))]) [0, 3, 5, 6, 7, 8, 9, 10, 11, 12, 13, 14, 15, 16, 17, 18, 19, 20, 21, 22, 23, 24, 25, 26, 27, 28, 29, 30, 31, 32, 33, 34, 35, 36, 37, 38, 39, 40, 41, 42, 43, 44, 45, 46, 47, 48, 49, 50, 51, 52, 53, 54, 55, 56, 57, 58, 59, 60, 61, 62, 63, 64, 65, 66, 67, 68, 69, 70, 71, 72, 73, 74, 75, 76, 77, 78, 79, 80, 81, 82, 83, 84] (fun k => [none, none, some (.box (pActX ⟨n1, n2, n3, n4, n5, n6, n7, n8, n9, l⟩ (.own 4) (.own 5))), some (.box [.val (.int .i64 0), .val (.int .i64 0), .val (.int .i64 0), .val (.int .i64 0), .val (.int .i64 0), .val (.int .i64 0), .val (.int .i64 0), .val (.int .i64 0), .val (.int .i64 0), .val (.slice none 0 0), .val (.slice none 0 0)]), some (.row 32 5 (l.map pNMsg)), some (.row 32 5 (s.map pNMsg))]) (fun k => k ≤ l.length ∧ noneTo (isProp n2 (fun m : GNMsg => decide (3 ≤ cntM l 2 n2 m.fVal))) l k) (fun k => l.length - k) (0) (⟨Nat.zero_le _, noneTo_zero⟩) (by exact fitA [0, 1, _, _, _, _]) ?_
  intro k ρ hI
  (try dsimp only at hI)
  refine PWp.at (tm' := ?_) (H' := ?_) ?_ ?_ ?_; rotate_left 2; (· ((try simp only [push_cast, seval]); exact rfl)); (· ((try dsimp only); exact rfl))
  obtain ⟨hk, hA⟩ := hI
  by_cases hlt : k < l.length
  · obtain ⟨x, hx⟩ : ∃ x, l[k]? = some x := ⟨_, List.getElem?_eq_getElem hlt⟩
    obtain ⟨x1, x2, x3, x4, x5⟩ := x
    by_cases c1 : x1 = 1
    case neg =>
      have hn := noneTo_succ hA hx (by simp [isProp, c1])
      repeat' (first | with_reducible (first | refine wA ?_ | refine wB ?_ | refine wC ?_) | with_reducible (first | refine wq1 ?_ | refine wq3 ?_ | refine wq7 ?_ | refine wq8 ?_ | refine wE ?_ | refine wS ?_) | ((with_reducible refine hK _ ?_); clear hK K) | ((with_reducible refine PWp.condI ?_); refine ⟨_, rfl, fun hg => ?_, fun hg => ?_⟩ <;> first | (exact absurd hg (by decide)) | ((try simp only [Bool.not_true, Bool.not_false] at hg); (try simp only [hg]); (try simp only [push_cast] at hg); (try exact absurd trivial hg); (try (exfalso; omega)))) | ((with_reducible refine pops_plain fun K hK => ?_); simp (disch := omega) only [push_cast, seval, hx, c1]) | ((with_reducible refine pops_guard ?_); refine ⟨_, rfl, fun K hK => ⟨_, rfl, fun hg => ?_, fun hg => ?_⟩⟩ <;> first | (exact absurd hg (by decide)) | ((try simp only [Bool.not_true, Bool.not_false] at hg); (try simp only [hg]); (try simp only [push_cast] at hg); (try exact absurd trivial hg); (try (exfalso; omega)); (try simp (disch := omega) only [push_cast, seval, hx, c1]))) | ((with_reducible refine And.intro ?_ ?_); omega))
      (refine ⟨k + 1, by ((try dsimp only); omega), ?_, by exact fitA [0, 1, _, _, _, _]⟩)
      exact ⟨hlt, hn⟩
    by_cases c2 : x2 = n2
    case neg =>
      have hn := noneTo_succ hA hx (by simp [isProp, c2])
      repeat' (first | with_reducible (first | refine wA ?_ | refine wB ?_ | refine wC ?_) | with_reducible (first | refine wq1 ?_ | refine wq3 ?_ | refine wq7 ?_ | refine wq8 ?_ | refine wE ?_ | refine wS ?_) | ((with_reducible refine hK _ ?_); clear hK K) | ((with_reducible refine PWp.condI ?_); refine ⟨_, rfl, fun hg => ?_, fun hg => ?_⟩ <;> first | (exact absurd hg (by decide)) | ((try simp only [Bool.not_true, Bool.not_false] at hg); (try simp only [hg]); (try simp only [push_cast] at hg); (try exact absurd trivial hg); (try (exfalso; omega)))) | ((with_reducible refine pops_plain fun K hK => ?_); simp (disch := omega) only [push_cast, seval, hx, c1, c2]) | ((with_reducible refine pops_guard ?_); refine ⟨_, rfl, fun K hK => ⟨_, rfl, fun hg => ?_, fun hg => ?_⟩⟩ <;> first | (exact absurd hg (by decide)) | ((try simp only [Bool.not_true, Bool.not_false] at hg); (try simp only [hg]); (try simp only [push_cast] at hg); (try exact absurd trivial hg); (try (exfalso; omega)); (try simp (disch := omega) only [push_cast, seval, hx, c1, c2]))) | ((with_reducible refine And.intro ?_ ?_); omega))
      (refine ⟨k + 1, by ((try dsimp only); omega), ?_, by exact fitA [0, 1, _, _, _, _]⟩)
      exact ⟨hlt, hn⟩
    subst x1
    subst x2
    by_cases c4 : cntM l 2 n2 x3 < 3
    case pos =>
      have hn := noneTo_succ hA hx (by simp [isProp, show ¬ 3 ≤ cntM l 2 n2 x3 by omega])
      repeat' (first | with_reducible (first | refine wA ?_ | refine wB ?_ | refine wC ?_) | with_reducible (first | refine wq1 ?_ | refine wq3 ?_ | refine wq7 ?_ | refine wq8 ?_ | refine wE ?_ | refine wS ?_) | ((with_reducible refine hK _ ?_); clear hK K) | ((with_reducible refine PWp.condI ?_); refine ⟨_, rfl, fun hg => ?_, fun hg => ?_⟩ <;> first | (exact absurd hg (by decide)) | ((try simp only [Bool.not_true, Bool.not_false] at hg); (try simp only [hg]); (try simp only [push_cast] at hg); (try exact absurd trivial hg); (try (exfalso; omega)))) | ((with_reducible refine pops_plain fun K hK => ?_); simp (disch := omega) only [push_cast, seval, hx, c4]) | ((with_reducible refine pops_guard ?_); refine ⟨_, rfl, fun K hK => ⟨_, rfl, fun hg => ?_, fun hg => ?_⟩⟩ <;> first | (exact absurd hg (by decide)) | ((try simp only [Bool.not_true, Bool.not_false] at hg); (try simp only [hg]); (try simp only [push_cast] at hg); (try exact absurd trivial hg); (try (exfalso; omega)); (try simp (disch := omega) only [push_cast, seval, hx, c4]))) | ((with_reducible show pcall _ _ _ _ _ _); ((refine pcV (cf Try.func98) (cc _ _) ?_)); (try simp (disch := omega) only [push_cast, seval, hx, c4])) | ((with_reducible refine And.intro ?_ ?_); omega))
      (refine ⟨k + 1, by ((try dsimp only); omega), ?_, by exact fitA [0, 1, _, _, _, _]⟩)
      exact ⟨hlt, hn⟩
    have e := find_hit hx (p := isProp n2 (fun m : GNMsg => decide (3 ≤ cntM l 2 n2 m.fVal))) (by simp [isProp, show 3 ≤ cntM l 2 n2 x3 by omega]) hA
    obtain rfl : m = ⟨1, n2, x3, x4, x5⟩ := Option.some.inj (hp.symm.trans e)
    clear e hp
    dsimp only at *
    unfold polkaD
    repeat' (first | with_reducible (first | refine wA ?_ | refine wB ?_ | refine wC ?_) | with_reducible (first | refine wq1 ?_ | refine wq3 ?_ | refine wq5 ?_ | refine wq6 ?_ | refine wq9 ?_ | refine wS ?_) | ((with_reducible refine hK _ ?_); clear hK K) | ((with_reducible refine PWp.condI ?_); refine ⟨_, rfl, fun hg => ?_, fun hg => ?_⟩ <;> first | (exact absurd hg (by decide)) | ((try simp only [Bool.not_true, Bool.not_false] at hg); (try simp only [hg]); (try simp only [push_cast] at hg); (try exact absurd trivial hg); (try (exfalso; omega)))) | ((with_reducible refine pops_plain fun K hK => ?_); simp (disch := omega) only [push_cast, seval, hx, c4, hs]) | ((with_reducible refine pops_guard ?_); refine ⟨_, rfl, fun K hK => ⟨_, rfl, fun hg => ?_, fun hg => ?_⟩⟩ <;> first | (exact absurd hg (by decide)) | ((try simp only [Bool.not_true, Bool.not_false] at hg); (try simp only [hg]); (try simp only [push_cast] at hg); (try exact absurd trivial hg); (try (exfalso; omega)); (try simp (disch := omega) only [push_cast, seval, hx, c4, hs]))) | ((with_reducible show pcall _ _ _ _ _ _); ((refine pcV (cf Try.func98) (cc _ _) ?_)); (try simp (disch := omega) only [push_cast, seval, hx, c4, hs])) | ((with_reducible refine And.intro ?_ ?_); omega))
    ((with_reducible show PPostR _ _ _ _ _ _); exact finH [0, 1, _, _])
  obtain rfl : k = l.length := by omega
  exact absurd (hp.symm.trans (find_end hA)) (by simp)
end Go.Proofs.Ytcbknmnlgoeniaa
namespace Go.Proofs.Ytcbknmnlgoeniaa
set_option linter.unusedSimpArgs false
set_option linter.unusedVariables false
open Go.RowKit
set_option maxRecDepth 100000
set_option maxHeartbeats 8000000 in
theorem sOne_a (a : Acting) (ok : NOk a.1) (hs : a.2.length ≤ 900) (c1 : 0 < a.1.fDecided) : PCalls Try.prog 92 [.agg (pActX a.1 (.own 0) (.own 1))] (hRun a) (RH (.tup [.agg (pActX a.1 (.own 0) (.own 1)), .val (.bool false)]) (hRun a)) := by
  have hl : a.1.fMsgs.length ≤ 1000 ∧ a.2.length ≤ 1000 := ⟨by have := ok.ln; omega, by omega⟩
  have hrd := ok.rd
  clear ok
  obtain ⟨⟨n1, n2, n3, n4, n5, n6, n7, n8, n9, l⟩, s⟩ := a
  dsimp only at *
  refine pcalls_ofR okP Try.func92 rfl ?_
  simp only [Try.f92, List.length_cons, List.length_nil, Nat.reduceAdd, Nat.reduceSub, List.replicate_succ, List.replicate_zero, List.cons_append, List.nil_append, List.length_map]
  repeat' (first | with_reducible (first | refine wA ?_ | refine wC ?_) | with_reducible (first | refine wq1 ?_ | refine wq3 ?_ | refine wq5 ?_ | refine wq9 ?_) | ((with_reducible refine hK _ ?_); clear hK K) | ((with_reducible refine PWp.condI ?_); refine ⟨_, rfl, fun hg => ?_, fun hg => ?_⟩ <;> first | (exact absurd hg (by decide)) | ((try simp only [Bool.not_true, Bool.not_false] at hg); (try simp only [hg]); (try simp only [push_cast] at hg); (try exact absurd trivial hg); (try (exfalso; omega)))) | ((with_reducible refine pops_plain fun K hK => ?_); simp (disch := omega) only [push_cast, seval, c1]) | ((with_reducible refine pops_guard ?_); refine ⟨_, rfl, fun K hK => ⟨_, rfl, fun hg => ?_, fun hg => ?_⟩⟩ <;> first | (exact absurd hg (by decide)) | ((try simp only [Bool.not_true, Bool.not_false] at hg); (try simp only [hg]); (try simp only [push_cast] at hg); (try exact absurd trivial hg); (try (exfalso; omega)); (try simp (disch := omega) only [push_cast, seval, c1]))))
  all_goals ((with_reducible show PPostR _ _ _ _ _ _); exact finH [0, 1])
set_option maxHeartbeats 8000000 in
theorem sOne_b (a : Acting) (ok : NOk a.1) (hs : a.2.length ≤ 900) (c1 : ¬ 0 < a.1.fDecided) (c2 : a.1.fRound = -1) : PCalls Try.prog 92 [.agg (pActX a.1 (.own 0) (.own 1))] (hRun a) (RH (.tup [.agg (pActX a.1 (.own 0) (.own 1)), .val (.bool false)]) (hRun a)) := by
  have hl : a.1.fMsgs.length ≤ 1000 ∧ a.2.length ≤ 1000 := ⟨by have := ok.ln; omega, by omega⟩
  have hrd := ok.rd
  clear ok
  obtain ⟨⟨n1, n2, n3, n4, n5, n6, n7, n8, n9, l⟩, s⟩ := a
  dsimp only at *
  refine pcalls_ofR okP Try.func92 rfl ?_
  simp only [Try.f92, List.length_cons, List.length_nil, Nat.reduceAdd, Nat.reduceSub, List.replicate_succ, List.replicate_zero, List.cons_append, List.nil_append, List.length_map]
  repeat' (first | with_reducible (first | refine wA ?_ | refine wC ?_) | with_reducible (first | refine wq1 ?_ | refine wq3 ?_ | refine wq5 ?_ | refine wq9 ?_) | ((with_reducible refine hK _ ?_); clear hK K) | ((with_reducible refine PWp.condI ?_); refine ⟨_, rfl, fun hg => ?_, fun hg => ?_⟩ <;> first | (exact absurd hg (by decide)) | ((try simp only [Bool.not_true, Bool.not_false] at hg); (try simp only [hg]); (try simp only [push_cast] at hg); (try exact absurd trivial hg); (try (exfalso; omega)))) | ((with_reducible refine pops_plain fun K hK => ?_); simp (disch := omega) only [push_cast, seval, c1, c2]) | ((with_reducible refine pops_guard ?_); refine ⟨_, rfl, fun K hK => ⟨_, rfl, fun hg => ?_, fun hg => ?_⟩⟩ <;> first | (exact absurd hg (by decide)) | ((try simp only [Bool.not_true, Bool.not_false] at hg); (try simp only [hg]); (try simp only [push_cast] at hg); (try exact absurd trivial hg); (try (exfalso; omega)); (try simp (disch := omega) only [push_cast, seval, c1, c2]))))
  all_goals ((with_reducible show PPostR _ _ _ _ _ _); exact finH [0, 1])
set_option maxHeartbeats 8000000 in
theorem sOne_c (a : Acting) (ok : NOk a.1) (hs : a.2.length ≤ 900) (c1 : ¬ 0 < a.1.fDecided) (c2 : a.1.fRound ≠ -1) (m : GNMsg) (hb : best a.1.fMsgs = some m) : PCalls Try.prog 92 [.agg (pActX a.1 (.own 0) (.own 1))] (hRun a) (RH (.tup [.agg (pActX (decD a m.fVal).1 (.own 2) (.own 3)), .val (.bool true)]) (hRunM (decD a m.fVal))) := by
  have hl : a.1.fMsgs.length ≤ 1000 ∧ a.2.length ≤ 1000 := ⟨by have := ok.ln; omega, by omega⟩
  have hrd := ok.rd
  have c2n : ¬ a.1.fRound < 0 := by omega
  have cd := sDecide_yes a hl.1 ok.ms m hb
  generalize decD a m.fVal = r at cd ⊢
  obtain ⟨⟨r1, r2, r3, r4, r5, r6, r7, r8, r9, rl⟩, rs⟩ := r
  clear ok
  obtain ⟨⟨n1, n2, n3, n4, n5, n6, n7, n8, n9, l⟩, s⟩ := a
  dsimp only at *
  refine pcalls_ofR okP Try.func92 rfl ?_
  simp only [Try.f92, List.length_cons, List.length_nil, Nat.reduceAdd, Nat.reduceSub, List.replicate_succ, List.replicate_zero, List.cons_append, List.nil_append, List.length_map]
  repeat' (first | with_reducible (first | refine wA ?_ | refine wC ?_) | with_reducible (first | refine wq1 ?_ | refine wq3 ?_ | refine wq5 ?_ | refine wq9 ?_ | refine wS ?_) | ((with_reducible refine hK _ ?_); clear hK K) | ((with_reducible refine PWp.condI ?_); refine ⟨_, rfl, fun hg => ?_, fun hg => ?_⟩ <;> first | (exact absurd hg (by decide)) | ((try simp only [Bool.not_true, Bool.not_false] at hg); (try simp only [hg]); (try simp only [push_cast] at hg); (try exact absurd trivial hg); (try (exfalso; omega)))) | ((with_reducible refine pops_plain fun K hK => ?_); simp (disch := omega) only [push_cast, seval, c1, c2n]) | ((with_reducible refine pops_guard ?_); refine ⟨_, rfl, fun K hK => ⟨_, rfl, fun hg => ?_, fun hg => ?_⟩⟩ <;> first | (exact absurd hg (by decide)) | ((try simp only [Bool.not_true, Bool.not_false] at hg); (try simp only [hg]); (try simp only [push_cast] at hg); (try exact absurd trivial hg); (try (exfalso; omega)); (try simp (disch := omega) only [push_cast, seval, c1, c2n]))) | ((with_reducible show pcall _ _ _ _ _ _); ((refine pcO (cf Try.func94) [_, _] (cd) ?_)); (try simp (disch := omega) only [push_cast, seval, c1, c2n])))
  all_goals ((with_reducible show PPostR _ _ _ _ _ _); exact finH [0, 1, _, _])
set_option maxHeartbeats 8000000 in
theorem sOne_d (a : Acting) (ok : NOk a.1) (hs : a.2.length ≤ 900) (c1 : ¬ 0 < a.1.fDecided) (c2 : a.1.fRound ≠ -1) (hb : best a.1.fMsgs = none) (q : Int) (hk : skipTo a.1.fMsgs a.1.fRound (11 - a.1.fRound).toNat = some q) : PCalls Try.prog 92 [.agg (pActX a.1 (.own 0) (.own 1))] (hRun a) (RH (.tup [.agg (pActX (beginR a q).1 (.own 2) (.own 3)), .val (.bool true)]) (hRunM (beginR a q))) := by
  have hl : a.1.fMsgs.length ≤ 1000 ∧ a.2.length ≤ 1000 := ⟨by have := ok.ln; omega, by omega⟩
  have hrd := ok.rd
  have c2n : ¬ a.1.fRound < 0 := by omega
  have cd := sDecide_no a hl.1 ok.ms hb
  have ck := sSkip_yes a ok.rd ok.me ok.vr.1 hl ok.ms q hk
  generalize beginR a q = r at ck ⊢
  obtain ⟨⟨r1, r2, r3, r4, r5, r6, r7, r8, r9, rl⟩, rs⟩ := r
  clear ok
  obtain ⟨⟨n1, n2, n3, n4, n5, n6, n7, n8, n9, l⟩, s⟩ := a
  dsimp only at *
  refine pcalls_ofR okP Try.func92 rfl ?_
  simp only [Try.f92, List.length_cons, List.length_nil, Nat.reduceAdd, Nat.reduceSub, List.replicate_succ, List.replicate_zero, List.cons_append, List.nil_append, List.length_map]
  repeat' (first | with_reducible (first | refine wA ?_ | refine wC ?_) | with_reducible (first | refine wq1 ?_ | refine wq3 ?_ | refine wq5 ?_ | refine wq9 ?_ | refine wS ?_) | ((with_reducible refine hK _ ?_); clear hK K) | ((with_reducible refine PWp.condI ?_); refine ⟨_, rfl, fun hg => ?_, fun hg => ?_⟩ <;> first | (exact absurd hg (by decide)) | ((try simp only [Bool.not_true, Bool.not_false] at hg); (try simp only [hg]); (try simp only [push_cast] at hg); (try exact absurd trivial hg); (try (exfalso; omega)))) | ((with_reducible refine pops_plain fun K hK => ?_); simp (disch := omega) only [push_cast, seval, c1, c2n]) | ((with_reducible refine pops_guard ?_); refine ⟨_, rfl, fun K hK => ⟨_, rfl, fun hg => ?_, fun hg => ?_⟩⟩ <;> first | (exact absurd hg (by decide)) | ((try simp only [Bool.not_true, Bool.not_false] at hg); (try simp only [hg]); (try simp only [push_cast] at hg); (try exact absurd trivial hg); (try (exfalso; omega)); (try simp (disch := omega) only [push_cast, seval, c1, c2n]))) | ((with_reducible show pcall _ _ _ _ _ _); (first | (refine pcO (cf Try.func94) [_, _] (cd) ?_) | (refine pcO (cf Try.func95) [_, _] (ck) ?_)); (try simp (disch := omega) only [push_cast, seval, c1, c2n])))
  all_goals ((with_reducible show PPostR _ _ _ _ _ _); exact finH [0, 1, _, _])
set_option maxHeartbeats 8000000 in
theorem sOne_e (a : Acting) (ok : NOk a.1) (hs : a.2.length ≤ 900) (c1 : ¬ 0 < a.1.fDecided) (c2 : a.1.fRound ≠ -1) (hb : best a.1.fMsgs = none) (hk : skipTo a.1.fMsgs a.1.fRound (11 - a.1.fRound).toNat = none) (c3 : a.1.fStep = 1) (m : GNMsg) (hp1 : propose a.1.fMsgs a.1.fRound (fun m : GNMsg => decide (m.fPol = -1)) = some m) (y : Bool) (hy : y = (decide (a.1.fLockRound = -1) || decide (a.1.fLockVal = m.fVal))) : PCalls Try.prog 92 [.agg (pActX a.1 (.own 0) (.own 1))] (hRun a) (RH (.tup [.agg (pActX (prevote a m.fVal y).1 (.own 2) (.own 3)), .val (.bool true)]) (hRunM (prevote a m.fVal y))) := by
  have hl : a.1.fMsgs.length ≤ 1000 ∧ a.2.length ≤ 1000 := ⟨by have := ok.ln; omega, by omega⟩
  have hrd := ok.rd
  have c2n : ¬ a.1.fRound < 0 := by omega
  have cd := sDecide_no a hl.1 ok.ms hb
  have ck := sSkip_no a ok.rd ok.me ok.vr.1 hl ok.ms hk
  have cp := sPropF_yes a c3 ok.lr.1 hl ok.ms m hp1 y hy
  generalize prevote a m.fVal y = r at cp ⊢
  obtain ⟨⟨r1, r2, r3, r4, r5, r6, r7, r8, r9, rl⟩, rs⟩ := r
  clear ok
  obtain ⟨⟨n1, n2, n3, n4, n5, n6, n7, n8, n9, l⟩, s⟩ := a
  dsimp only at *
  refine pcalls_ofR okP Try.func92 rfl ?_
  simp only [Try.f92, List.length_cons, List.length_nil, Nat.reduceAdd, Nat.reduceSub, List.replicate_succ, List.replicate_zero, List.cons_append, List.nil_append, List.length_map]
  repeat' (first | with_reducible (first | refine wA ?_ | refine wC ?_) | with_reducible (first | refine wq1 ?_ | refine wq3 ?_ | refine wq5 ?_ | refine wq9 ?_ | refine wS ?_) | ((with_reducible refine hK _ ?_); clear hK K) | ((with_reducible refine PWp.condI ?_); refine ⟨_, rfl, fun hg => ?_, fun hg => ?_⟩ <;> first | (exact absurd hg (by decide)) | ((try simp only [Bool.not_true, Bool.not_false] at hg); (try simp only [hg]); (try simp only [push_cast] at hg); (try exact absurd trivial hg); (try (exfalso; omega)))) | ((with_reducible refine pops_plain fun K hK => ?_); simp (disch := omega) only [push_cast, seval, c1, c2n]) | ((with_reducible refine pops_guard ?_); refine ⟨_, rfl, fun K hK => ⟨_, rfl, fun hg => ?_, fun hg => ?_⟩⟩ <;> first | (exact absurd hg (by decide)) | ((try simp only [Bool.not_true, Bool.not_false] at hg); (try simp only [hg]); (try simp only [push_cast] at hg); (try exact absurd trivial hg); (try (exfalso; omega)); (try simp (disch := omega) only [push_cast, seval, c1, c2n]))) | ((with_reducible show pcall _ _ _ _ _ _); (first | (refine pcO (cf Try.func94) [_, _] (cd) ?_) | (refine pcO (cf Try.func95) [_, _] (ck) ?_) | (refine pcO (cf Try.func96) [_, _] (cp) ?_)); (try simp (disch := omega) only [push_cast, seval, c1, c2n])))
  all_goals ((with_reducible show PPostR _ _ _ _ _ _); exact finH [0, 1, _, _])
set_option maxHeartbeats 8000000 in
theorem sOne_f (a : Acting) (ok : NOk a.1) (hs : a.2.length ≤ 900) (c1 : ¬ 0 < a.1.fDecided) (c2 : a.1.fRound ≠ -1) (hb : best a.1.fMsgs = none) (hk : skipTo a.1.fMsgs a.1.fRound (11 - a.1.fRound).toNat = none) (c3 : a.1.fStep = 1) (hp1 : propose a.1.fMsgs a.1.fRound (fun m : GNMsg => decide (m.fPol = -1)) = none) (m : GNMsg) (hp2 : propose a.1.fMsgs a.1.fRound (fun m : GNMsg => decide (0 ≤ m.fPol) && decide (3 ≤ cntM a.1.fMsgs 2 m.fPol m.fVal)) = some m) (y : Bool) (hy : y = (decide (a.1.fLockRound ≤ m.fPol) || decide (a.1.fLockVal = m.fVal))) : PCalls Try.prog 92 [.agg (pActX a.1 (.own 0) (.own 1))] (hRun a) (RH (.tup [.agg (pActX (prevote a m.fVal y).1 (.own 2) (.own 3)), .val (.bool true)]) (hRunM (prevote a m.fVal y))) := by
  have hl : a.1.fMsgs.length ≤ 1000 ∧ a.2.length ≤ 1000 := ⟨by have := ok.ln; omega, by omega⟩
  have hrd := ok.rd
  have c2n : ¬ a.1.fRound < 0 := by omega
  have cd := sDecide_no a hl.1 ok.ms hb
  have ck := sSkip_no a ok.rd ok.me ok.vr.1 hl ok.ms hk
  have cp1 := sPropF_no a c3 ok.lr.1 hl ok.ms hp1
  have cp2 := sPropT_yes a c3 ok.lr.1 hl ok.ms m hp2 y hy
  generalize prevote a m.fVal y = r at cp2 ⊢
  obtain ⟨⟨r1, r2, r3, r4, r5, r6, r7, r8, r9, rl⟩, rs⟩ := r
  clear ok
  obtain ⟨⟨n1, n2, n3, n4, n5, n6, n7, n8, n9, l⟩, s⟩ := a
  dsimp only at *
  refine pcalls_ofR okP Try.func92 rfl ?_
  simp only [Try.f92, List.length_cons, List.length_nil, Nat.reduceAdd, Nat.reduceSub, List.replicate_succ, List.replicate_zero, List.cons_append, List.nil_append, List.length_map]
  repeat' (first | with_reducible (first | refine wA ?_ | refine wC ?_) | with_reducible (first | refine wq1 ?_ | refine wq3 ?_ | refine wq5 ?_ | refine wq9 ?_ | refine wS ?_) | ((with_reducible refine hK _ ?_); clear hK K) | ((with_reducible refine PWp.condI ?_); refine ⟨_, rfl, fun hg => ?_, fun hg => ?_⟩ <;> first | (exact absurd hg (by decide)) | ((try simp only [Bool.not_true, Bool.not_false] at hg); (try simp only [hg]); (try simp only [push_cast] at hg); (try exact absurd trivial hg); (try (exfalso; omega)))) | ((with_reducible refine pops_plain fun K hK => ?_); simp (disch := omega) only [push_cast, seval, c1, c2n]) | ((with_reducible refine pops_guard ?_); refine ⟨_, rfl, fun K hK => ⟨_, rfl, fun hg => ?_, fun hg => ?_⟩⟩ <;> first | (exact absurd hg (by decide)) | ((try simp only [Bool.not_true, Bool.not_false] at hg); (try simp only [hg]); (try simp only [push_cast] at hg); (try exact absurd trivial hg); (try (exfalso; omega)); (try simp (disch := omega) only [push_cast, seval, c1, c2n]))) | ((with_reducible show pcall _ _ _ _ _ _); (first | (refine pcO (cf Try.func94) [_, _] (cd) ?_) | (refine pcO (cf Try.func95) [_, _] (ck) ?_) | (refine pcall_RGo (cf Try.func96) [?_, ?_] ?_ ?_ ?_ ?_ (cp1) ?_; rotate_left 2; (· ((try simp (disch := omega) only [push_cast, seval]); (repeat' (first | exact trivial | exact rfl | refine And.intro ?_ ?_ | omega)))); (· ((try (unfold bAct)); (try simp (disch := omega) only [push_cast, seval]); (repeat' (first | exact trivial | exact rfl | refine And.intro ?_ ?_ | omega)))); (· exact rfl); (· exact rfl); rotate_right 1; rotate_left 1; (all_goals (try (first | omega | exact (show _ = _ by assumption))))) | (refine pcO (cf Try.func96) [_, _] (cp2) ?_)); (try simp (disch := omega) only [push_cast, seval, c1, c2n])))
  all_goals ((with_reducible show PPostR _ _ _ _ _ _); exact finH [0, 1, _, _])
set_option maxHeartbeats 8000000 in
theorem sOne_g (a : Acting) (ok : NOk a.1) (hs : a.2.length ≤ 900) (c1 : ¬ 0 < a.1.fDecided) (c2 : a.1.fRound ≠ -1) (hb : best a.1.fMsgs = none) (hk : skipTo a.1.fMsgs a.1.fRound (11 - a.1.fRound).toNat = none) (c3 : a.1.fStep = 1) (hp1 : propose a.1.fMsgs a.1.fRound (fun m : GNMsg => decide (m.fPol = -1)) = none) (hp2 : propose a.1.fMsgs a.1.fRound (fun m : GNMsg => decide (0 ≤ m.fPol) && decide (3 ≤ cntM a.1.fMsgs 2 m.fPol m.fVal)) = none) : PCalls Try.prog 92 [.agg (pActX a.1 (.own 0) (.own 1))] (hRun a) (RH (.tup [.agg (pActX a.1 (.own 0) (.own 1)), .val (.bool false)]) (hRun a)) := by
  have hl : a.1.fMsgs.length ≤ 1000 ∧ a.2.length ≤ 1000 := ⟨by have := ok.ln; omega, by omega⟩
  have hrd := ok.rd
  have c2n : ¬ a.1.fRound < 0 := by omega
  have cd := sDecide_no a hl.1 ok.ms hb
  have ck := sSkip_no a ok.rd ok.me ok.vr.1 hl ok.ms hk
  have cp1 := sPropF_no a c3 ok.lr.1 hl ok.ms hp1
  have cp2 := sPropT_no a c3 ok.lr.1 hl ok.ms hp2
  have cq := sPolka_st a (.inl c3)
  clear ok
  obtain ⟨⟨n1, n2, n3, n4, n5, n6, n7, n8, n9, l⟩, s⟩ := a
  dsimp only at *
  refine pcalls_ofR okP Try.func92 rfl ?_
  simp only [Try.f92, List.length_cons, List.length_nil, Nat.reduceAdd, Nat.reduceSub, List.replicate_succ, List.replicate_zero, List.cons_append, List.nil_append, List.length_map]
  repeat' (first | with_reducible (first | refine wA ?_ | refine wC ?_) | with_reducible (first | refine wq1 ?_ | refine wq3 ?_ | refine wq9 ?_ | refine wS ?_) | ((with_reducible refine hK _ ?_); clear hK K) | ((with_reducible refine PWp.condI ?_); refine ⟨_, rfl, fun hg => ?_, fun hg => ?_⟩ <;> first | (exact absurd hg (by decide)) | ((try simp only [Bool.not_true, Bool.not_false] at hg); (try simp only [hg]); (try simp only [push_cast] at hg); (try exact absurd trivial hg); (try (exfalso; omega)))) | ((with_reducible refine pops_plain fun K hK => ?_); simp (disch := omega) only [push_cast, seval, c1, c2n, c3]) | ((with_reducible refine pops_guard ?_); refine ⟨_, rfl, fun K hK => ⟨_, rfl, fun hg => ?_, fun hg => ?_⟩⟩ <;> first | (exact absurd hg (by decide)) | ((try simp only [Bool.not_true, Bool.not_false] at hg); (try simp only [hg]); (try simp only [push_cast] at hg); (try exact absurd trivial hg); (try (exfalso; omega)); (try simp (disch := omega) only [push_cast, seval, c1, c2n, c3]))) | ((with_reducible show pcall _ _ _ _ _ _); (first | (refine pcO (cf Try.func94) [_, _] (cd) ?_) | (refine pcO (cf Try.func95) [_, _] (ck) ?_) | (refine pcall_RGo (cf Try.func96) [?_, ?_] ?_ ?_ ?_ ?_ (cp1) ?_; rotate_left 2; (· ((try simp (disch := omega) only [push_cast, seval]); (repeat' (first | exact trivial | exact rfl | refine And.intro ?_ ?_ | omega)))); (· ((try (unfold bAct)); (try simp (disch := omega) only [push_cast, seval]); (repeat' (first | exact trivial | exact rfl | refine And.intro ?_ ?_ | omega)))); (· exact rfl); (· exact rfl); rotate_right 1; rotate_left 1; (all_goals (try (first | omega | exact (show _ = _ by assumption))))) | (refine pcO (cf Try.func96) [_, _] (cp2) ?_) | (refine pcO (cf Try.func97) [_, _] (cq) ?_)); (try simp (disch := omega) only [push_cast, seval, c1, c2n, c3])))
  all_goals ((with_reducible show PPostR _ _ _ _ _ _); exact finH [0, 1])
set_option maxHeartbeats 8000000 in
theorem sOne_h (a : Acting) (ok : NOk a.1) (hs : a.2.length ≤ 900) (c1 : ¬ 0 < a.1.fDecided) (c2 : a.1.fRound ≠ -1) (hb : best a.1.fMsgs = none) (hk : skipTo a.1.fMsgs a.1.fRound (11 - a.1.fRound).toNat = none) (c3 : ¬ a.1.fStep = 1) (c4 : ¬ a.1.fPolka = a.1.fRound) (m : GNMsg) (hp3 : propose a.1.fMsgs a.1.fRound (fun m : GNMsg => decide (3 ≤ cntM a.1.fMsgs 2 a.1.fRound m.fVal)) = some m) (c5 : ¬ a.1.fStep = 2) : PCalls Try.prog 92 [.agg (pActX a.1 (.own 0) (.own 1))] (hRun a) (RH (.tup [.agg (pActX (polkaD a m.fVal).1 (.own 2) (.own 3)), .val (.bool true)]) (hRunM (polkaD a m.fVal))) := by
  have hl : a.1.fMsgs.length ≤ 1000 ∧ a.2.length ≤ 1000 := ⟨by have := ok.ln; omega, by omega⟩
  have hrd := ok.rd
  have c2n : ¬ a.1.fRound < 0 := by omega
  have cd := sDecide_no a hl.1 ok.ms hb
  have ck := sSkip_no a ok.rd ok.me ok.vr.1 hl ok.ms hk
  have cp1 := sPropose_st a false c3
  have cp2 := sPropose_st a true c3
  have cq := sPolka_yes3 a c3 c4 hl ok.ms m hp3 c5
  generalize polkaD a m.fVal = r at cq ⊢
  obtain ⟨⟨r1, r2, r3, r4, r5, r6, r7, r8, r9, rl⟩, rs⟩ := r
  clear ok
  obtain ⟨⟨n1, n2, n3, n4, n5, n6, n7, n8, n9, l⟩, s⟩ := a
  dsimp only at *
  refine pcalls_ofR okP Try.func92 rfl ?_
  simp only [Try.f92, List.length_cons, List.length_nil, Nat.reduceAdd, Nat.reduceSub, List.replicate_succ, List.replicate_zero, List.cons_append, List.nil_append, List.length_map]
  repeat' (first | with_reducible (first | refine wA ?_ | refine wC ?_) | with_reducible (first | refine wq1 ?_ | refine wq3 ?_ | refine wq5 ?_ | refine wq9 ?_ | refine wS ?_) | ((with_reducible refine hK _ ?_); clear hK K) | ((with_reducible refine PWp.condI ?_); refine ⟨_, rfl, fun hg => ?_, fun hg => ?_⟩ <;> first | (exact absurd hg (by decide)) | ((try simp only [Bool.not_true, Bool.not_false] at hg); (try simp only [hg]); (try simp only [push_cast] at hg); (try exact absurd trivial hg); (try (exfalso; omega)))) | ((with_reducible refine pops_plain fun K hK => ?_); simp (disch := omega) only [push_cast, seval, c1, c2n, c3]) | ((with_reducible refine pops_guard ?_); refine ⟨_, rfl, fun K hK => ⟨_, rfl, fun hg => ?_, fun hg => ?_⟩⟩ <;> first | (exact absurd hg (by decide)) | ((try simp only [Bool.not_true, Bool.not_false] at hg); (try simp only [hg]); (try simp only [push_cast] at hg); (try exact absurd trivial hg); (try (exfalso; omega)); (try simp (disch := omega) only [push_cast, seval, c1, c2n, c3]))) | ((with_reducible show pcall _ _ _ _ _ _); (first | (refine pcO (cf Try.func94) [_, _] (cd) ?_) | (refine pcO (cf Try.func95) [_, _] (ck) ?_) | (refine pcall_RGo (cf Try.func96) [?_, ?_] ?_ ?_ ?_ ?_ (cp1) ?_; rotate_left 2; (· ((try simp (disch := omega) only [push_cast, seval]); (repeat' (first | exact trivial | exact rfl | refine And.intro ?_ ?_ | omega)))); (· ((try (unfold bAct)); (try simp (disch := omega) only [push_cast, seval]); (repeat' (first | exact trivial | exact rfl | refine And.intro ?_ ?_ | omega)))); (· exact rfl); (· exact rfl); rotate_right 1; rotate_left 1; (all_goals (try (first | omega | exact (show _ = _ by assumption))))) | (refine pcO (cf Try.func96) [_, _] (cp2) ?_) | (refine pcO (cf Try.func97) [_, _] (cq) ?_)); (try simp (disch := omega) only [push_cast, seval, c1, c2n, c3])))
  all_goals ((with_reducible show PPostR _ _ _ _ _ _); exact finH [0, 1, _, _])
set_option maxHeartbeats 8000000 in
theorem sOne_i (a : Acting) (ok : NOk a.1) (hs : a.2.length ≤ 900) (c1 : ¬ 0 < a.1.fDecided) (c2 : a.1.fRound ≠ -1) (hb : best a.1.fMsgs = none) (hk : skipTo a.1.fMsgs a.1.fRound (11 - a.1.fRound).toNat = none) (c3 : ¬ a.1.fStep = 1) (c4 : ¬ a.1.fPolka = a.1.fRound) (m : GNMsg) (hp3 : propose a.1.fMsgs a.1.fRound (fun m : GNMsg => decide (3 ≤ cntM a.1.fMsgs 2 a.1.fRound m.fVal)) = some m) (c5 : a.1.fStep = 2) : PCalls Try.prog 92 [.agg (pActX a.1 (.own 0) (.own 1))] (hRun a) (RH (.tup [.agg (pActX (polkaD (precommit (lockD a m.fVal) m.fVal) m.fVal).1 (.own 2) (.own 3)), .val (.bool true)]) (hRunM (polkaD (precommit (lockD a m.fVal) m.fVal) m.fVal))) := by
  have hl : a.1.fMsgs.length ≤ 1000 ∧ a.2.length ≤ 1000 := ⟨by have := ok.ln; omega, by omega⟩
  have hrd := ok.rd
  have c2n : ¬ a.1.fRound < 0 := by omega
  have cd := sDecide_no a hl.1 ok.ms hb
  have ck := sSkip_no a ok.rd ok.me ok.vr.1 hl ok.ms hk
  have cp1 := sPropose_st a false c3
  have cp2 := sPropose_st a true c3
  have cq := sPolka_yes2 a c3 c4 hl ok.ms m hp3 c5
  generalize polkaD (precommit (lockD a m.fVal) m.fVal) m.fVal = r at cq ⊢
  obtain ⟨⟨r1, r2, r3, r4, r5, r6, r7, r8, r9, rl⟩, rs⟩ := r
  clear ok
  obtain ⟨⟨n1, n2, n3, n4, n5, n6, n7, n8, n9, l⟩, s⟩ := a
  dsimp only at *
  refine pcalls_ofR okP Try.func92 rfl ?_
  simp only [Try.f92, List.length_cons, List.length_nil, Nat.reduceAdd, Nat.reduceSub, List.replicate_succ, List.replicate_zero, List.cons_append, List.nil_append, List.length_map]
  repeat' (first | with_reducible (first | refine wA ?_ | refine wC ?_) | with_reducible (first | refine wq1 ?_ | refine wq3 ?_ | refine wq5 ?_ | refine wq9 ?_ | refine wS ?_) | ((with_reducible refine hK _ ?_); clear hK K) | ((with_reducible refine PWp.condI ?_); refine ⟨_, rfl, fun hg => ?_, fun hg => ?_⟩ <;> first | (exact absurd hg (by decide)) | ((try simp only [Bool.not_true, Bool.not_false] at hg); (try simp only [hg]); (try simp only [push_cast] at hg); (try exact absurd trivial hg); (try (exfalso; omega)))) | ((with_reducible refine pops_plain fun K hK => ?_); simp (disch := omega) only [push_cast, seval, c1, c2n, c3]) | ((with_reducible refine pops_guard ?_); refine ⟨_, rfl, fun K hK => ⟨_, rfl, fun hg => ?_, fun hg => ?_⟩⟩ <;> first | (exact absurd hg (by decide)) | ((try simp only [Bool.not_true, Bool.not_false] at hg); (try simp only [hg]); (try simp only [push_cast] at hg); (try exact absurd trivial hg); (try (exfalso; omega)); (try simp (disch := omega) only [push_cast, seval, c1, c2n, c3]))) | ((with_reducible show pcall _ _ _ _ _ _); (first | (refine pcO (cf Try.func94) [_, _] (cd) ?_) | (refine pcO (cf Try.func95) [_, _] (ck) ?_) | (refine pcall_RGo (cf Try.func96) [?_, ?_] ?_ ?_ ?_ ?_ (cp1) ?_; rotate_left 2; (· ((try simp (disch := omega) only [push_cast, seval]); (repeat' (first | exact trivial | exact rfl | refine And.intro ?_ ?_ | omega)))); (· ((try (unfold bAct)); (try simp (disch := omega) only [push_cast, seval]); (repeat' (first | exact trivial | exact rfl | refine And.intro ?_ ?_ | omega)))); (· exact rfl); (· exact rfl); rotate_right 1; rotate_left 1; (all_goals (try (first | omega | exact (show _ = _ by assumption))))) | (refine pcO (cf Try.func96) [_, _] (cp2) ?_) | (refine pcO (cf Try.func97) [_, _] (cq) ?_)); (try simp (disch := omega) only [push_cast, seval, c1, c2n, c3])))
  all_goals ((with_reducible show PPostR _ _ _ _ _ _); exact finH [0, 1, _, _])
set_option maxHeartbeats 8000000 in
theorem sOne_j1 (a : Acting) (ok : NOk a.1) (hs : a.2.length ≤ 900) (c1 : ¬ 0 < a.1.fDecided) (c2 : a.1.fRound ≠ -1) (hb : best a.1.fMsgs = none) (hk : skipTo a.1.fMsgs a.1.fRound (11 - a.1.fRound).toNat = none) (c3 : ¬ a.1.fStep = 1) (cq : PCalls Try.prog 97 [.agg (pActX a.1 (.own 0) (.own 1))] (hRun a) (RH (.tup [.agg (pActX a.1 (.own 0) (.own 1)), .val (.bool false)]) (hRun a))) (c5 : ¬ a.1.fStep = 2) : PCalls Try.prog 92 [.agg (pActX a.1 (.own 0) (.own 1))] (hRun a) (RH (.tup [.agg (pActX a.1 (.own 0) (.own 1)), .val (.bool false)]) (hRun a)) := by
  have hl : a.1.fMsgs.length ≤ 1000 ∧ a.2.length ≤ 1000 := ⟨by have := ok.ln; omega, by omega⟩
  have hrd := ok.rd
  have c2n : ¬ a.1.fRound < 0 := by omega
  have cd := sDecide_no a hl.1 ok.ms hb
  have ck := sSkip_no a ok.rd ok.me ok.vr.1 hl ok.ms hk
  have cp1 := sPropose_st a false c3
  have cp2 := sPropose_st a true c3
  clear ok
  obtain ⟨⟨n1, n2, n3, n4, n5, n6, n7, n8, n9, l⟩, s⟩ := a
  dsimp only at *
  refine pcalls_ofR okP Try.func92 rfl ?_
  simp only [Try.f92, List.length_cons, List.length_nil, Nat.reduceAdd, Nat.reduceSub, List.replicate_succ, List.replicate_zero, List.cons_append, List.nil_append, List.length_map]
  repeat' (first | with_reducible (first | refine wA ?_ | refine wC ?_) | with_reducible (first | refine wq1 ?_ | refine wq3 ?_ | refine wq9 ?_ | refine wS ?_) | ((with_reducible refine hK _ ?_); clear hK K) | ((with_reducible refine PWp.condI ?_); refine ⟨_, rfl, fun hg => ?_, fun hg => ?_⟩ <;> first | (exact absurd hg (by decide)) | ((try simp only [Bool.not_true, Bool.not_false] at hg); (try simp only [hg]); (try simp only [push_cast] at hg); (try exact absurd trivial hg); (try (exfalso; omega)))) | ((with_reducible refine pops_plain fun K hK => ?_); simp (disch := omega) only [push_cast, seval, c1, c2n, c3, c5]) | ((with_reducible refine pops_guard ?_); refine ⟨_, rfl, fun K hK => ⟨_, rfl, fun hg => ?_, fun hg => ?_⟩⟩ <;> first | (exact absurd hg (by decide)) | ((try simp only [Bool.not_true, Bool.not_false] at hg); (try simp only [hg]); (try simp only [push_cast] at hg); (try exact absurd trivial hg); (try (exfalso; omega)); (try simp (disch := omega) only [push_cast, seval, c1, c2n, c3, c5]))) | ((with_reducible show pcall _ _ _ _ _ _); (first | (refine pcO (cf Try.func94) [_, _] (cd) ?_) | (refine pcO (cf Try.func95) [_, _] (ck) ?_) | (refine pcall_RGo (cf Try.func96) [?_, ?_] ?_ ?_ ?_ ?_ (cp1) ?_; rotate_left 2; (· ((try simp (disch := omega) only [push_cast, seval]); (repeat' (first | exact trivial | exact rfl | refine And.intro ?_ ?_ | omega)))); (· ((try (unfold bAct)); (try simp (disch := omega) only [push_cast, seval]); (repeat' (first | exact trivial | exact rfl | refine And.intro ?_ ?_ | omega)))); (· exact rfl); (· exact rfl); rotate_right 1; rotate_left 1; (all_goals (try (first | omega | exact (show _ = _ by assumption))))) | (refine pcO (cf Try.func96) [_, _] (cp2) ?_) | (refine pcO (cf Try.func97) [_, _] (cq) ?_)); (try simp (disch := omega) only [push_cast, seval, c1, c2n, c3, c5])))
  all_goals ((with_reducible show PPostR _ _ _ _ _ _); exact finH [0, 1])
set_option maxHeartbeats 8000000 in
theorem sOne_j2 (a : Acting) (ok : NOk a.1) (hs : a.2.length ≤ 900) (c1 : ¬ 0 < a.1.fDecided) (c2 : a.1.fRound ≠ -1) (hb : best a.1.fMsgs = none) (hk : skipTo a.1.fMsgs a.1.fRound (11 - a.1.fRound).toNat = none) (c3 : ¬ a.1.fStep = 1) (cq : PCalls Try.prog 97 [.agg (pActX a.1 (.own 0) (.own 1))] (hRun a) (RH (.tup [.agg (pActX a.1 (.own 0) (.own 1)), .val (.bool false)]) (hRun a))) (c5 : a.1.fStep = 2) (c6 : ¬ 3 ≤ cntM a.1.fMsgs 2 a.1.fRound 0) : PCalls Try.prog 92 [.agg (pActX a.1 (.own 0) (.own 1))] (hRun a) (RH (.tup [.agg (pActX a.1 (.own 0) (.own 1)), .val (.bool false)]) (hRun a)) := by
  have hl : a.1.fMsgs.length ≤ 1000 ∧ a.2.length ≤ 1000 := ⟨by have := ok.ln; omega, by omega⟩
  have hrd := ok.rd
  have c2n : ¬ a.1.fRound < 0 := by omega
  have cd := sDecide_no a hl.1 ok.ms hb
  have ck := sSkip_no a ok.rd ok.me ok.vr.1 hl ok.ms hk
  have cp1 := sPropose_st a false c3
  have cp2 := sPropose_st a true c3
  have cc := sCount_p a.1.fMsgs 2 a.1.fRound 0 (by omega) ok.ms
  clear ok
  obtain ⟨⟨n1, n2, n3, n4, n5, n6, n7, n8, n9, l⟩, s⟩ := a
  dsimp only at *
  refine pcalls_ofR okP Try.func92 rfl ?_
  simp only [Try.f92, List.length_cons, List.length_nil, Nat.reduceAdd, Nat.reduceSub, List.replicate_succ, List.replicate_zero, List.cons_append, List.nil_append, List.length_map]
  repeat' (first | with_reducible (first | refine wA ?_ | refine wC ?_) | with_reducible (first | refine wq1 ?_ | refine wq3 ?_ | refine wq9 ?_ | refine wS ?_) | ((with_reducible refine hK _ ?_); clear hK K) | ((with_reducible refine PWp.condI ?_); refine ⟨_, rfl, fun hg => ?_, fun hg => ?_⟩ <;> first | (exact absurd hg (by decide)) | ((try simp only [Bool.not_true, Bool.not_false] at hg); (try simp only [hg]); (try simp only [push_cast] at hg); (try exact absurd trivial hg); (try (exfalso; omega)))) | ((with_reducible refine pops_plain fun K hK => ?_); simp (disch := omega) only [push_cast, seval, c1, c2n, c3, c5, c6]) | ((with_reducible refine pops_guard ?_); refine ⟨_, rfl, fun K hK => ⟨_, rfl, fun hg => ?_, fun hg => ?_⟩⟩ <;> first | (exact absurd hg (by decide)) | ((try simp only [Bool.not_true, Bool.not_false] at hg); (try simp only [hg]); (try simp only [push_cast] at hg); (try exact absurd trivial hg); (try (exfalso; omega)); (try simp (disch := omega) only [push_cast, seval, c1, c2n, c3, c5, c6]))) | ((with_reducible show pcall _ _ _ _ _ _); (first | (refine pcO (cf Try.func94) [_, _] (cd) ?_) | (refine pcO (cf Try.func95) [_, _] (ck) ?_) | (refine pcall_RGo (cf Try.func96) [?_, ?_] ?_ ?_ ?_ ?_ (cp1) ?_; rotate_left 2; (· ((try simp (disch := omega) only [push_cast, seval]); (repeat' (first | exact trivial | exact rfl | refine And.intro ?_ ?_ | omega)))); (· ((try (unfold bAct)); (try simp (disch := omega) only [push_cast, seval]); (repeat' (first | exact trivial | exact rfl | refine And.intro ?_ ?_ | omega)))); (· exact rfl); (· exact rfl); rotate_right 1; rotate_left 1; (all_goals (try (first | omega | exact (show _ = _ by assumption))))) | (refine pcO (cf Try.func96) [_, _] (cp2) ?_) | (refine pcO (cf Try.func97) [_, _] (cq) ?_) | (refine pcV (cf Try.func98) (cc) ?_)); (try simp (disch := omega) only [push_cast, seval, c1, c2n, c3, c5, c6])))
  all_goals ((with_reducible show PPostR _ _ _ _ _ _); exact finH [0, 1])
set_option maxHeartbeats 8000000 in
theorem sOne_j3 (a : Acting) (ok : NOk a.1) (hs : a.2.length ≤ 900) (c1 : ¬ 0 < a.1.fDecided) (c2 : a.1.fRound ≠ -1) (hb : best a.1.fMsgs = none) (hk : skipTo a.1.fMsgs a.1.fRound (11 - a.1.fRound).toNat = none) (c3 : ¬ a.1.fStep = 1) (cq : PCalls Try.prog 97 [.agg (pActX a.1 (.own 0) (.own 1))] (hRun a) (RH (.tup [.agg (pActX a.1 (.own 0) (.own 1)), .val (.bool false)]) (hRun a))) (c5 : a.1.fStep = 2) (c6 : 3 ≤ cntM a.1.fMsgs 2 a.1.fRound 0) : PCalls Try.prog 92 [.agg (pActX a.1 (.own 0) (.own 1))] (hRun a) (RH (.tup [.agg (pActX (precommit a 0).1 (.own 2) (.own 3)), .val (.bool true)]) (hRunM (precommit a 0))) := by
  have hl : a.1.fMsgs.length ≤ 1000 ∧ a.2.length ≤ 1000 := ⟨by have := ok.ln; omega, by omega⟩
  have hrd := ok.rd
  have c2n : ¬ a.1.fRound < 0 := by omega
  have cd := sDecide_no a hl.1 ok.ms hb
  have ck := sSkip_no a ok.rd ok.me ok.vr.1 hl ok.ms hk
  have cp1 := sPropose_st a false c3
  have cp2 := sPropose_st a true c3
  have cc := sCount_p a.1.fMsgs 2 a.1.fRound 0 (by omega) ok.ms
  have cr := sPrecommit_p a 0 hl
  generalize precommit a 0 = r at cr ⊢
  obtain ⟨⟨r1, r2, r3, r4, r5, r6, r7, r8, r9, rl⟩, rs⟩ := r
  clear ok
  obtain ⟨⟨n1, n2, n3, n4, n5, n6, n7, n8, n9, l⟩, s⟩ := a
  dsimp only at *
  refine pcalls_ofR okP Try.func92 rfl ?_
  simp only [Try.f92, List.length_cons, List.length_nil, Nat.reduceAdd, Nat.reduceSub, List.replicate_succ, List.replicate_zero, List.cons_append, List.nil_append, List.length_map]
  repeat' (first | with_reducible (first | refine wA ?_ | refine wC ?_) | with_reducible (first | refine wq1 ?_ | refine wq3 ?_ | refine wq5 ?_ | refine wq9 ?_ | refine wS ?_) | ((with_reducible refine hK _ ?_); clear hK K) | ((with_reducible refine PWp.condI ?_); refine ⟨_, rfl, fun hg => ?_, fun hg => ?_⟩ <;> first | (exact absurd hg (by decide)) | ((try simp only [Bool.not_true, Bool.not_false] at hg); (try simp only [hg]); (try simp only [push_cast] at hg); (try exact absurd trivial hg); (try (exfalso; omega)))) | ((with_reducible refine pops_plain fun K hK => ?_); simp (disch := omega) only [push_cast, seval, c1, c2n, c3, c5, c6]) | ((with_reducible refine pops_guard ?_); refine ⟨_, rfl, fun K hK => ⟨_, rfl, fun hg => ?_, fun hg => ?_⟩⟩ <;> first | (exact absurd hg (by decide)) | ((try simp only [Bool.not_true, Bool.not_false] at hg); (try simp only [hg]); (try simp only [push_cast] at hg); (try exact absurd trivial hg); (try (exfalso; omega)); (try simp (disch := omega) only [push_cast, seval, c1, c2n, c3, c5, c6]))) | ((with_reducible show pcall _ _ _ _ _ _); (first | (refine pcO (cf Try.func78) [_, _] (cr) ?_) | (refine pcO (cf Try.func94) [_, _] (cd) ?_) | (refine pcO (cf Try.func95) [_, _] (ck) ?_) | (refine pcall_RGo (cf Try.func96) [?_, ?_] ?_ ?_ ?_ ?_ (cp1) ?_; rotate_left 2; (· ((try simp (disch := omega) only [push_cast, seval]); (repeat' (first | exact trivial | exact rfl | refine And.intro ?_ ?_ | omega)))); (· ((try (unfold bAct)); (try simp (disch := omega) only [push_cast, seval]); (repeat' (first | exact trivial | exact rfl | refine And.intro ?_ ?_ | omega)))); (· exact rfl); (· exact rfl); rotate_right 1; rotate_left 1; (all_goals (try (first | omega | exact (show _ = _ by assumption))))) | (refine pcO (cf Try.func96) [_, _] (cp2) ?_) | (refine pcO (cf Try.func97) [_, _] (cq) ?_) | (refine pcV (cf Try.func98) (cc) ?_)); (try simp (disch := omega) only [push_cast, seval, c1, c2n, c3, c5, c6])))
  all_goals ((with_reducible show PPostR _ _ _ _ _ _); exact finH [0, 1, _, _])
def oneR (a : Acting) : PV → Hp → Prop := match rule a with
  | some b => RH (.tup [.agg (pActX b.1 (.own 2) (.own 3)), .val (.bool true)]) (hRunM b)
  | none => RH (.tup [.agg (pActX a.1 (.own 0) (.own 1)), .val (.bool false)]) (hRun a)
theorem sOne_p (a : Acting) (ok : NOk a.1) (hs : a.2.length ≤ 900) : PCalls Try.prog 92 [.agg (pActX a.1 (.own 0) (.own 1))] (hRun a) (oneR a) := by
  have hl : a.1.fMsgs.length ≤ 1000 ∧ a.2.length ≤ 1000 := ⟨by have := ok.ln; omega, by omega⟩
  unfold oneR rule
  by_cases c1 : 0 < a.1.fDecided
  · rw [if_pos (.inl c1)]; exact sOne_a a ok hs c1
  by_cases c2 : a.1.fRound = -1
  · rw [if_pos (.inr c2)]; exact sOne_b a ok hs c1 c2
  rw [if_neg (fun q => q.elim c1 c2)]
  cases hb : best a.1.fMsgs with
  | some m => exact sOne_c a ok hs c1 c2 m hb
  | none =>
  dsimp only
  cases hk : skipTo a.1.fMsgs a.1.fRound (11 - a.1.fRound).toNat with
  | some q => exact sOne_d a ok hs c1 c2 hb q hk
  | none =>
  dsimp only
  by_cases c3 : a.1.fStep = 1
  · rw [if_pos c3]
    cases hp1 : propose a.1.fMsgs a.1.fRound (fun m => decide (m.fPol = -1)) with
    | some m => exact sOne_e a ok hs c1 c2 hb hk c3 m hp1 _ rfl
    | none =>
    dsimp only
    cases hp2 : propose a.1.fMsgs a.1.fRound (fun m => decide (0 ≤ m.fPol) && decide (3 ≤ cntM a.1.fMsgs 2 m.fPol m.fVal)) with
    | some m => exact sOne_f a ok hs c1 c2 hb hk c3 hp1 m hp2 _ rfl
    | none => exact sOne_g a ok hs c1 c2 hb hk c3 hp1 hp2
  rw [if_neg c3]
  have key := fun cq => And.intro (sOne_j1 a ok hs c1 c2 hb hk c3 cq) (And.intro (sOne_j2 a ok hs c1 c2 hb hk c3 cq) (sOne_j3 a ok hs c1 c2 hb hk c3 cq))
  by_cases c4 : a.1.fPolka = a.1.fRound
  · rw [if_pos c4]
    obtain ⟨k1, k2, k3⟩ := key (sPolka_st a (.inr c4))
    dsimp only
    by_cases c5 : a.1.fStep = 2
    · by_cases c6 : 3 ≤ cntM a.1.fMsgs 2 a.1.fRound 0
      · rw [if_pos ⟨c5, c6⟩]; exact k3 c5 c6
      · rw [if_neg fun q => c6 q.2]; exact k2 c5 c6
    · rw [if_neg fun q => c5 q.1]; exact k1 c5
  rw [if_neg c4]
  cases hp3 : propose a.1.fMsgs a.1.fRound (fun m => decide (3 ≤ cntM a.1.fMsgs 2 a.1.fRound m.fVal)) with
  | some m =>
    dsimp only
    by_cases c5 : a.1.fStep = 2
    · rw [if_pos c5]; exact sOne_i a ok hs c1 c2 hb hk c3 c4 m hp3 c5
    · rw [if_neg c5]; exact sOne_h a ok hs c1 c2 hb hk c3 c4 m hp3 c5
  | none =>
    obtain ⟨k1, k2, k3⟩ := key (sPolka_no a c3 c4 hl ok.ms hp3)
    dsimp only
    by_cases c5 : a.1.fStep = 2
    · by_cases c6 : 3 ≤ cntM a.1.fMsgs 2 a.1.fRound 0
      · rw [if_pos ⟨c5, c6⟩]; exact k3 c5 c6
      · rw [if_neg fun q => c6 q.2]; exact k2 c5 c6
    · rw [if_neg fun q => c5 q.1]; exact k1 c5
end Go.Proofs.Ytcbknmnlgoeniaa
