/- What the proof leans on, part 5. -/
import Derived.Test.YtcbknmnlgoeniaaQV4
namespace Go.Proofs.Ytcbknmnlgoeniaa
set_option linter.unusedSimpArgs false
set_option linter.unusedVariables false
open Go.RowKit
set_option maxRecDepth 100000
theorem cfq {P : Program} {g : FuncId} {fn : Func} (h : P.funcs[g]? = some fn) (h1 : (fn.name == "runtime.NumGoroutine") = false := by exact rfl) (h2 : fn.body.isNone = false := by exact rfl) : Callable P g := callable_of h h1 h2
structure NSm (x : GNet) : Prop where
  n : x.fNodes.length ≤ 1000
  p : x.fPool.length ≤ 1000000
  m : ∀ u ∈ x.fNodes, u.fMsgs.length ≤ 1000000
set_option maxHeartbeats 4000000 in
theorem iCopyNet_p (x : GNet) (hs : NSm x) : PCalls Try.prog 27 [.agg (pNet x)] [] (RH (.agg [.own 0, .own 1]) [some (.row 39 10 (x.fNodes.map pNode)), some (.row 32 5 (x.fPool.map pNMsg))]) := by
  obtain ⟨N, P⟩ := x
  obtain ⟨h1, h2, h3⟩ := hs
  dsimp only at h1 h2 h3 ⊢
  refine pcalls_ofR okP Try.func27 rfl ?_
  simp only [Try.f27, List.length_cons, List.length_nil, Nat.reduceAdd, Nat.reduceSub, List.replicate_succ, List.replicate_zero, List.cons_append, List.nil_append, List.length_map]
  repeat' (first | with_reducible refine mkRegion (id := 2) ?_ | with_reducible (first | refine wA ?_ | refine wC ?_) | with_reducible (first | refine wq1 ?_ | refine wq3 ?_) | ((with_reducible refine hK _ ?_); clear hK K) | ((with_reducible refine pops_plain fun K hK => popO_build ?_); refine ⟨_, rfl, _, rfl, ?_⟩; simp (disch := omega) only [push_cast, seval]) | ((with_reducible refine pops_plain fun K hK => ?_); simp (disch := omega) only [push_cast, seval]) | ((with_reducible refine And.intro ?_ ?_); omega))
  refine Mk.of ?_
  refine PWp.nilB 4 0 39 10 rfl rfl ?_
  repeat' (first | with_reducible (first | refine wB ?_ | refine wC ?_) | with_reducible (first | refine wq1 ?_ | refine wq3 ?_) | ((with_reducible refine hK _ ?_); clear hK K) | ((with_reducible refine pops_plain fun K hK => ?_); simp (disch := omega) only [push_cast, seval]))
  refine PWp.loopK (α := Nat) (fun k => [(2, .ptr 0 0), (3, .ptr 1 0), (13, .val (.int .i64 (k : Int)))]) [0, 1, 4, 5, 6, 7, 8, 9, 10, 14, 15, 16, 17, 18, 19, 20, 21, 22, 23, 24] (fun k => [some (.box [.val (.slice none 0 0), .val (.slice none 0 0)]), some (.box [.own 2, .own 3]), some (.row 39 10 ((N.take k).map pNode)), some (.row 32 5 (P.map pNMsg))]) (fun k => k ≤ N.length) (fun k => N.length - k) (0) (Nat.zero_le _) (by exact fitA [_, _, _, _]) ?_
  intro k ρ hI
  (try dsimp only at hI)
  refine PWp.at (tm' := ?_) (H' := ?_) ?_ ?_ ?_; rotate_left 2; (· ((try simp only [push_cast, seval]); exact rfl)); (· ((try dsimp only); exact rfl))
  by_cases hlt : k < N.length
  · obtain ⟨u, hx⟩ : ∃ u, N[k]? = some u := ⟨_, List.getElem?_eq_getElem hlt⟩
    have e : N.take (k + 1) = N.take k ++ [u] := by rw [List.take_add_one, hx]; rfl
    have hz : (N.take k).length ≤ 1000 := by rw [List.length_take]; omega
    have hu := h3 u (List.mem_of_getElem? hx)
    have c := iCopyNode_f u hu
    obtain ⟨n1, n2, n3, n4, n5, n6, n7, n8, n9, l⟩ := u
    repeat' (first | with_reducible (first | refine wA ?_ | refine wB ?_ | refine wC ?_) | with_reducible refine PWp.draw (id := 5) okP true [0, 1, 2, 3, 4, 5, 6, 7] (by kernel_rfl) ?_ | with_reducible (first | refine wq1 ?_ | refine wq2 ?_ | refine wq3 ?_ | refine wq4 ?_ | refine wS ?_) | ((with_reducible refine hK _ ?_); clear hK K) | ((with_reducible refine PWp.condI ?_); refine ⟨_, rfl, fun hg => ?_, fun hg => ?_⟩ <;> first | (exact absurd hg (by decide)) | ((try simp only [Bool.not_true, Bool.not_false] at hg); (try simp only [hg]); (try simp only [push_cast] at hg); (try exact absurd trivial hg); (try (exfalso; omega)))) | ((with_reducible refine pany_I ?_); refine ⟨_, rfl, fun K hK => ?_⟩) | ((with_reducible refine pD_x ?_ (popO_row ?_)); exact rfl; refine ⟨_, _, _, _, _, rfl, rfl, rfl, rfl, rfl, ?_⟩; simp (disch := omega) only [push_cast, seval, hx]) | ((with_reducible refine pops_plain fun K hK => ?_); simp (disch := omega) only [push_cast, seval, hx]) | ((first | ((with_reducible refine pD_y ?_ ?_); exact rfl) | ((with_reducible refine pD_x ?_ ?_); exact rfl)); simp (disch := omega) only [push_cast, seval, hx]) | ((with_reducible show pcall _ _ _ _ _ _); ((refine pcF (cfq Try.func39) (c) ?_)); (try simp (disch := omega) only [push_cast, seval, hx])) | ((with_reducible refine And.intro ?_ ?_); omega))
    all_goals
      (refine ⟨k + 1, by ((try dsimp only); omega), ?_, by (refine ⟨[?_, ?_, ?_, ?_], ?_, ?_, ?_, ?_⟩; rotate_left 4; (· ((first | simp (disch := omega) only [push_cast, seval, e, List.map_append, List.map_cons, List.map_nil] | simp (disch := omega) only [push_cast, seval] | skip); (repeat' (first | exact trivial | exact rfl | refine And.intro ?_ ?_ | omega)))); (· ((first | simp (disch := omega) only [push_cast, seval, e, List.map_append, List.map_cons, List.map_nil] | simp (disch := omega) only [push_cast, seval] | skip); (repeat' (first | exact trivial | exact rfl | refine And.intro ?_ ?_ | omega)); (try (repeat' (first | exact trivial | exact rfl | refine And.intro ?_ ?_ | omega))))); (· exact rfl); (· (first | exact trivial | exact ⟨rfl, trivial⟩ | exact ⟨rfl, rfl, trivial⟩ | exact ⟨rfl, rfl, rfl, trivial⟩)))⟩)
      exact hlt
  obtain rfl : k = N.length := by omega
  rw [List.take_length]
  repeat' (first | with_reducible (first | refine wA ?_ | refine wC ?_) | with_reducible (first | refine wq1 ?_ | refine wq3 ?_ | refine wq7 ?_ | refine wq8 ?_ | refine wq9 ?_ | refine wE ?_) | ((with_reducible refine hK _ ?_); clear hK K) | ((with_reducible refine PWp.condI ?_); refine ⟨_, rfl, fun hg => ?_, fun hg => ?_⟩ <;> first | (exact absurd hg (by decide)) | ((try simp only [Bool.not_true, Bool.not_false] at hg); (try simp only [hg]); (try simp only [push_cast] at hg); (try exact absurd trivial hg); (try (exfalso; omega)))) | ((with_reducible refine pops_plain fun K hK => ?_); simp (disch := omega) only [push_cast, seval]))
  ((with_reducible show PPostR _ _ _ _ _ _); exact finH [_, _])
theorem iCopyNet_f (x : GNet) (hs : NSm x) : PCalls Try.prog 27 [.agg (pNet x)] [] (RH (.agg (pNet x)) []) := by
  have h1 := (iCopyNet_p x hs).thawH (v' := .agg [.own 0, .sl 5 (x.fPool.map pNMsg)]) (H' := [some (.row 39 10 (x.fNodes.map pNode))]) 1 [0] rfl (of_eq_true (pNMsg_rc _)) rfl rfl (by simp [preR]) ⟨by
    show some (thawB 1 5 _ (some (.row 39 10 (x.fNodes.map pNode)))) = _
    simp only [thawB, renB_row, pNode_ren]
    rw [List.map_map]
    exact congrArg (fun f => some (some (Blk.row 39 10 (List.map f x.fNodes)))) (funext fun x => rfl), trivial⟩
  exact h1.thawH 0 [] rfl (of_eq_true (pNode_rc _)) rfl rfl trivial trivial
def netTo (k : Nat) : List GNode := [nodeNew 1, nodeNew 2, nodeNew 3].take k
set_option maxHeartbeats 4000000 in
theorem iNetNew_o : PCalls Try.prog 6 [] [] (RH (.agg [.own 0, .val (.slice none 0 0)]) [some (.row 39 10 ([nodeNew 1, nodeNew 2, nodeNew 3].map pNode))]) := by
  refine pcalls_ofR okP Try.func6 rfl ?_
  simp only [Try.f6, List.length_cons, List.length_nil, Nat.reduceAdd, Nat.reduceSub, List.replicate_succ, List.replicate_zero, List.cons_append, List.nil_append, List.length_map]
  repeat' (first | with_reducible refine mkRegion (id := 2) ?_ | with_reducible (first | refine wA ?_ | refine wC ?_) | with_reducible (first | refine wq1 ?_ | refine wq3 ?_) | ((with_reducible refine hK _ ?_); clear hK K) | ((with_reducible refine pops_plain fun K hK => popO_build ?_); refine ⟨_, rfl, _, rfl, ?_⟩; simp (disch := omega) only [push_cast, seval]) | ((with_reducible refine pops_plain fun K hK => ?_); simp (disch := omega) only [push_cast, seval]))
  refine Mk.of ?_
  refine PWp.nilB 1 0 39 10 rfl rfl ?_
  repeat' (first | with_reducible (first | refine wB ?_ | refine wC ?_) | with_reducible (first | refine wq1 ?_ | refine wq3 ?_) | ((with_reducible refine hK _ ?_); clear hK K) | ((with_reducible refine pops_plain fun K hK => ?_); simp (disch := omega) only [push_cast, seval]))
  refine PWp.loopK (α := Nat) (fun k => [(0, .ptr 0 0), (1, .ptr 1 0), (2, .val (.int .i64 ((k : Int) + 1)))]) [3, 4, 5, 6, 7, 8, 9, 10, 11, 12, 13, 14, 15, 16, 17, 18, 19, 20] (fun k => [some (.box [.val (.slice none 0 0), .val (.slice none 0 0)]), some (.box [.own 2, .val (.slice none 0 0)]), some (.row 39 10 ((netTo k).map pNode))]) (fun k => k ≤ 3) (fun k => 3 - k) (0) (Nat.zero_le _) (by exact fitA [_, _, _]) ?_
  intro k ρ hI
  (try dsimp only at hI)
  refine PWp.at (tm' := ?_) (H' := ?_) ?_ ?_ ?_; rotate_left 2; (· ((try simp only [push_cast, seval]); exact rfl)); (· ((try dsimp only); exact rfl))
  have c1 := iNodeNew_p 1 rfl
  have c2 := iNodeNew_p 2 rfl
  have c3 := iNodeNew_p 3 rfl
  obtain rfl | rfl | rfl | rfl : k = 0 ∨ k = 1 ∨ k = 2 ∨ k = 3 := by omega
  ·
    simp only [netTo, List.take_zero, List.map_nil]
    repeat' (first | with_reducible (first | refine wA ?_ | refine wB ?_ | refine wC ?_) | with_reducible (first | refine wq1 ?_ | refine wq3 ?_ | refine wq4 ?_ | refine wS ?_) | ((with_reducible refine hK _ ?_); clear hK K) | ((with_reducible refine PWp.condI ?_); refine ⟨_, rfl, fun hg => ?_, fun hg => ?_⟩ <;> first | (exact absurd hg (by decide)) | ((try simp only [Bool.not_true, Bool.not_false] at hg); (try simp only [hg]); (try simp only [push_cast] at hg); (try exact absurd trivial hg); (try (exfalso; omega)))) | ((with_reducible refine pops_plain fun K hK => popO_row ?_); refine ⟨_, _, _, _, _, rfl, rfl, rfl, rfl, rfl, ?_⟩; simp (disch := omega) only [push_cast, seval]) | ((with_reducible refine pops_plain fun K hK => ?_); simp (disch := omega) only [push_cast, seval]) | ((with_reducible show pcall _ _ _ _ _ _); ((refine pcF (cfq Try.func13) (c1) ?_)); (try simp (disch := omega) only [push_cast, seval])))
    (refine ⟨1, by ((try dsimp only); omega), ?_, by (refine ⟨[?_, ?_, ?_], ?_, ?_, ?_, ?_⟩; rotate_left 3; (· ((first | simp (disch := omega) only [push_cast, seval, netTo, List.take_succ_cons, List.take_zero, List.map_cons, List.map_nil] | simp (disch := omega) only [push_cast, seval] | skip); (repeat' (first | exact trivial | exact rfl | refine And.intro ?_ ?_ | omega)))); (· ((first | simp (disch := omega) only [push_cast, seval, netTo, List.take_succ_cons, List.take_zero, List.map_cons, List.map_nil] | simp (disch := omega) only [push_cast, seval] | skip); (repeat' (first | exact trivial | exact rfl | refine And.intro ?_ ?_ | omega)); (try (repeat' (first | exact trivial | exact rfl | refine And.intro ?_ ?_ | omega))))); (· exact rfl); (· (first | exact trivial | exact ⟨rfl, trivial⟩ | exact ⟨rfl, rfl, trivial⟩ | exact ⟨rfl, rfl, rfl, trivial⟩)))⟩)
    omega
  ·
    simp only [netTo, List.take_succ_cons, List.take_zero, List.map_cons, List.map_nil]
    repeat' (first | with_reducible (first | refine wA ?_ | refine wB ?_ | refine wC ?_) | with_reducible (first | refine wq1 ?_ | refine wq3 ?_ | refine wq4 ?_ | refine wS ?_) | ((with_reducible refine hK _ ?_); clear hK K) | ((with_reducible refine PWp.condI ?_); refine ⟨_, rfl, fun hg => ?_, fun hg => ?_⟩ <;> first | (exact absurd hg (by decide)) | ((try simp only [Bool.not_true, Bool.not_false] at hg); (try simp only [hg]); (try simp only [push_cast] at hg); (try exact absurd trivial hg); (try (exfalso; omega)))) | ((with_reducible refine pops_plain fun K hK => popO_row ?_); refine ⟨_, _, _, _, _, rfl, rfl, rfl, rfl, rfl, ?_⟩; simp (disch := omega) only [push_cast, seval]) | ((with_reducible refine pops_plain fun K hK => ?_); simp (disch := omega) only [push_cast, seval]) | ((with_reducible show pcall _ _ _ _ _ _); ((refine pcF (cfq Try.func13) (c2) ?_)); (try simp (disch := omega) only [push_cast, seval])))
    (refine ⟨2, by ((try dsimp only); omega), ?_, by (refine ⟨[?_, ?_, ?_], ?_, ?_, ?_, ?_⟩; rotate_left 3; (· ((first | simp (disch := omega) only [push_cast, seval, netTo, List.take_succ_cons, List.take_zero, List.map_cons, List.map_nil] | simp (disch := omega) only [push_cast, seval] | skip); (repeat' (first | exact trivial | exact rfl | refine And.intro ?_ ?_ | omega)))); (· ((first | simp (disch := omega) only [push_cast, seval, netTo, List.take_succ_cons, List.take_zero, List.map_cons, List.map_nil] | simp (disch := omega) only [push_cast, seval] | skip); (repeat' (first | exact trivial | exact rfl | refine And.intro ?_ ?_ | omega)); (try (repeat' (first | exact trivial | exact rfl | refine And.intro ?_ ?_ | omega))))); (· exact rfl); (· (first | exact trivial | exact ⟨rfl, trivial⟩ | exact ⟨rfl, rfl, trivial⟩ | exact ⟨rfl, rfl, rfl, trivial⟩)))⟩)
    omega
  ·
    simp only [netTo, List.take_succ_cons, List.take_zero, List.map_cons, List.map_nil]
    repeat' (first | with_reducible (first | refine wA ?_ | refine wB ?_ | refine wC ?_) | with_reducible (first | refine wq1 ?_ | refine wq3 ?_ | refine wq4 ?_ | refine wS ?_) | ((with_reducible refine hK _ ?_); clear hK K) | ((with_reducible refine PWp.condI ?_); refine ⟨_, rfl, fun hg => ?_, fun hg => ?_⟩ <;> first | (exact absurd hg (by decide)) | ((try simp only [Bool.not_true, Bool.not_false] at hg); (try simp only [hg]); (try simp only [push_cast] at hg); (try exact absurd trivial hg); (try (exfalso; omega)))) | ((with_reducible refine pops_plain fun K hK => popO_row ?_); refine ⟨_, _, _, _, _, rfl, rfl, rfl, rfl, rfl, ?_⟩; simp (disch := omega) only [push_cast, seval]) | ((with_reducible refine pops_plain fun K hK => ?_); simp (disch := omega) only [push_cast, seval]) | ((with_reducible show pcall _ _ _ _ _ _); ((refine pcF (cfq Try.func13) (c3) ?_)); (try simp (disch := omega) only [push_cast, seval])))
    (refine ⟨3, by ((try dsimp only); omega), ?_, by (refine ⟨[?_, ?_, ?_], ?_, ?_, ?_, ?_⟩; rotate_left 3; (· ((first | simp (disch := omega) only [push_cast, seval, netTo, List.take_succ_cons, List.take_zero, List.map_cons, List.map_nil] | simp (disch := omega) only [push_cast, seval] | skip); (repeat' (first | exact trivial | exact rfl | refine And.intro ?_ ?_ | omega)))); (· ((first | simp (disch := omega) only [push_cast, seval, netTo, List.take_succ_cons, List.take_zero, List.map_cons, List.map_nil] | simp (disch := omega) only [push_cast, seval] | skip); (repeat' (first | exact trivial | exact rfl | refine And.intro ?_ ?_ | omega)); (try (repeat' (first | exact trivial | exact rfl | refine And.intro ?_ ?_ | omega))))); (· exact rfl); (· (first | exact trivial | exact ⟨rfl, trivial⟩ | exact ⟨rfl, rfl, trivial⟩ | exact ⟨rfl, rfl, rfl, trivial⟩)))⟩)
    omega
  simp only [netTo, List.take_succ_cons, List.take_zero, List.map_cons, List.map_nil]
  repeat' (first | with_reducible (first | refine wA ?_ | refine wC ?_) | with_reducible (first | refine wq1 ?_ | refine wq3 ?_ | refine wq7 ?_ | refine wq8 ?_ | refine wq9 ?_ | refine wE ?_) | ((with_reducible refine hK _ ?_); clear hK K) | ((with_reducible refine PWp.condI ?_); refine ⟨_, rfl, fun hg => ?_, fun hg => ?_⟩ <;> first | (exact absurd hg (by decide)) | ((try simp only [Bool.not_true, Bool.not_false] at hg); (try simp only [hg]); (try simp only [push_cast] at hg); (try exact absurd trivial hg); (try (exfalso; omega)))) | ((with_reducible refine pops_plain fun K hK => ?_); simp (disch := omega) only [push_cast, seval]))
  ((with_reducible show PPostR _ _ _ _ _ _); exact finH [_])
theorem iNetNew_p : PCalls Try.prog 6 [] [] (RH (.agg (pNet netNew)) []) :=
  PCalls.wkR (v := .agg [.sl 10 ([nodeNew 1, nodeNew 2, nodeNew 3].map pNode), .val (.slice none 0 0)]) (iNetNew_o.thawH 0 [] rfl (of_eq_true (pNode_rc _)) rfl rfl trivial trivial) (by (repeat' (first | exact Wk.rfl _ | exact Wk.nil _ | exact trivial | refine And.intro ?_ ?_ | refine wk_agg ?_ | refine wk_tup ?_)))
end Go.Proofs.Ytcbknmnlgoeniaa
namespace Go.Proofs.Ytcbknmnlgoeniaa
set_option linter.unusedSimpArgs false
set_option linter.unusedVariables false
open Go.RowKit
set_option maxRecDepth 100000
theorem thawNd (b sz : Nat) (es : List (List PV)) (l : List GNode) : (l.map pNode).map (fun row => row.map (thaw1 b sz es)) = l.map pNode := by
  rw [List.map_map]
  exact congrArg (fun f => List.map f l) (funext fun x => rfl)
theorem net_thaw {f : FuncId} {args : List PV} {x : GNet} {b : Bool} (h : PCalls Try.prog f args [] (RH (.tup [.agg [.own 0, .own 1], .val (.bool b)]) [some (.row 39 10 (x.fNodes.map pNode)), some (.row 32 5 (x.fPool.map pNMsg))])) : PCalls Try.prog f args [] (RH (.tup [.agg (pNet x), .val (.bool b)]) []) := by
  have h1 := h.thawH (v' := .tup [.agg [.own 0, .sl 5 (x.fPool.map pNMsg)], .val (.bool b)]) (H' := [some (.row 39 10 (x.fNodes.map pNode))]) 1 [0] rfl (of_eq_true (pNMsg_rc _)) rfl rfl (by simp [preR]) ⟨by
    show some (thawB 1 5 _ (some (.row 39 10 (x.fNodes.map pNode)))) = _
    simp only [thawB, thawNd, renB_row, pNode_ren], trivial⟩
  exact h1.thawH 0 [] rfl (of_eq_true (pNode_rc _)) rfl rfl trivial trivial
set_option maxHeartbeats 8000000 in
theorem iNetDo_lie (x : GNet) (a : GNetAct) (hs : NSm x) (h4 : a.fKind = 4) : PCalls Try.prog 15 [.agg (pNet x), .agg (pNetAct a)] [] (RH (.tup [.agg (pNet (netDo x a).1), .val (.bool (netDo x a).2)]) []) := by
  refine net_thaw ?_
  unfold netDo
  rw [if_pos h4]
  have cc := iCopyNet_p x hs
  obtain ⟨h1, h2, h3⟩ := hs
  obtain ⟨N, P⟩ := x
  obtain ⟨a1, a2, a3, ⟨m1, m2, m3, m4, m5⟩⟩ := a
  dsimp only at *
  cases c1 : msgOk ⟨m1, m2, m3, m4, m5⟩ with
  | false =>
    rw [if_pos (.inl rfl)]
    refine pcalls_ofR okP Try.func15 rfl ?_
    simp only [Try.f15, List.length_cons, List.length_nil, Nat.reduceAdd, Nat.reduceSub, List.replicate_succ, List.replicate_zero, List.cons_append, List.nil_append, List.length_map]
    repeat' (first | with_reducible (first | refine wA ?_ | refine wC ?_) | with_reducible (first | refine wq1 ?_ | refine wq3 ?_ | refine wq5 ?_ | refine wq9 ?_) | ((with_reducible refine hK _ ?_); clear hK K) | ((with_reducible refine PWp.condI ?_); refine ⟨_, rfl, fun hg => ?_, fun hg => ?_⟩ <;> first | (exact absurd hg (by decide)) | ((try simp only [Bool.not_true, Bool.not_false] at hg); (try simp only [hg]); (try simp only [push_cast] at hg); (try exact absurd trivial hg); (try (exfalso; omega)))) | ((with_reducible refine pops_plain fun K hK => ?_); simp (disch := omega) only [push_cast, seval, h4, c1]) | ((((with_reducible refine pops_guard ?_); refine ⟨_, rfl, fun K hK => ⟨_, rfl, fun hg => ?_, fun hg => ?_⟩⟩)) <;> first | (exact absurd hg (by decide)) | ((try simp only [Bool.not_true, Bool.not_false] at hg); (try simp only [hg]); (try simp only [push_cast] at hg); (try exact absurd trivial hg); (try (exfalso; omega)); (try simp (disch := omega) only [push_cast, seval, h4, c1]))) | ((with_reducible show pcall _ _ _ _ _ _); (first | (refine pcF (cfq Try.func27) (cc) ?_) | (refine pcV (cfq Try.func28) (iMsgOk_p ⟨_, _, _, _, _⟩) ?_)); (try simp (disch := omega) only [push_cast, seval, h4, c1])))
    all_goals ((with_reducible show PPostR _ _ _ _ _ _); exact finH [_, _])
  | true =>
  by_cases c2 : m5 = 4
  case neg =>
    rw [if_pos (.inr (.inl c2))]
    refine pcalls_ofR okP Try.func15 rfl ?_
    simp only [Try.f15, List.length_cons, List.length_nil, Nat.reduceAdd, Nat.reduceSub, List.replicate_succ, List.replicate_zero, List.cons_append, List.nil_append, List.length_map]
    repeat' (first | with_reducible (first | refine wA ?_ | refine wC ?_) | with_reducible (first | refine wq1 ?_ | refine wq3 ?_ | refine wq5 ?_ | refine wq9 ?_) | ((with_reducible refine hK _ ?_); clear hK K) | ((with_reducible refine PWp.condI ?_); refine ⟨_, rfl, fun hg => ?_, fun hg => ?_⟩ <;> first | (exact absurd hg (by decide)) | ((try simp only [Bool.not_true, Bool.not_false] at hg); (try simp only [hg]); (try simp only [push_cast] at hg); (try exact absurd trivial hg); (try (exfalso; omega)))) | ((with_reducible refine pops_plain fun K hK => ?_); simp (disch := omega) only [push_cast, seval, h4, c1, c2]) | ((((with_reducible refine pops_guard ?_); refine ⟨_, rfl, fun K hK => ⟨_, rfl, fun hg => ?_, fun hg => ?_⟩⟩)) <;> first | (exact absurd hg (by decide)) | ((try simp only [Bool.not_true, Bool.not_false] at hg); (try simp only [hg]); (try simp only [push_cast] at hg); (try exact absurd trivial hg); (try (exfalso; omega)); (try simp (disch := omega) only [push_cast, seval, h4, c1, c2]))) | ((with_reducible show pcall _ _ _ _ _ _); (first | (refine pcF (cfq Try.func27) (cc) ?_) | (refine pcV (cfq Try.func28) (iMsgOk_p ⟨_, _, _, _, _⟩) ?_)); (try simp (disch := omega) only [push_cast, seval, h4, c1, c2])))
    all_goals ((with_reducible show PPostR _ _ _ _ _ _); exact finH [_, _])
  subst c2
  cases c3 : hasM P ⟨m1, m2, m3, m4, 4⟩ with
  | true =>
    rw [if_pos (.inr (.inr (.inl rfl)))]
    refine pcalls_ofR okP Try.func15 rfl ?_
    simp only [Try.f15, List.length_cons, List.length_nil, Nat.reduceAdd, Nat.reduceSub, List.replicate_succ, List.replicate_zero, List.cons_append, List.nil_append, List.length_map]
    repeat' (first | with_reducible (first | refine wA ?_ | refine wC ?_) | with_reducible (first | refine wq1 ?_ | refine wq3 ?_ | refine wq5 ?_ | refine wq9 ?_) | ((with_reducible refine hK _ ?_); clear hK K) | ((with_reducible refine PWp.condI ?_); refine ⟨_, rfl, fun hg => ?_, fun hg => ?_⟩ <;> first | (exact absurd hg (by decide)) | ((try simp only [Bool.not_true, Bool.not_false] at hg); (try simp only [hg]); (try simp only [push_cast] at hg); (try exact absurd trivial hg); (try (exfalso; omega)))) | ((with_reducible refine pops_plain fun K hK => ?_); simp (disch := omega) only [push_cast, seval, h4, c1, c3]) | ((((with_reducible refine pops_guard ?_); refine ⟨_, rfl, fun K hK => ⟨_, rfl, fun hg => ?_, fun hg => ?_⟩⟩)) <;> first | (exact absurd hg (by decide)) | ((try simp only [Bool.not_true, Bool.not_false] at hg); (try simp only [hg]); (try simp only [push_cast] at hg); (try exact absurd trivial hg); (try (exfalso; omega)); (try simp (disch := omega) only [push_cast, seval, h4, c1, c3]))) | ((with_reducible show pcall _ _ _ _ _ _); (first | (refine pcV (cfq Try.func26) (containsM_p _ ⟨_, _, _, _, _⟩ sd) ?_) | (refine pcF (cfq Try.func27) (cc) ?_) | (refine pcV (cfq Try.func28) (iMsgOk_p ⟨_, _, _, _, _⟩) ?_)); (try simp (disch := omega) only [push_cast, seval, h4, c1, c3])))
    all_goals ((with_reducible show PPostR _ _ _ _ _ _); exact finH [_, _])
  | false =>
  by_cases c4 : 150 ≤ P.length
  · rw [if_pos (.inr (.inr (.inr c4)))]
    have c5 : (150 : Int) ≤ P.length := by omega
    refine pcalls_ofR okP Try.func15 rfl ?_
    simp only [Try.f15, List.length_cons, List.length_nil, Nat.reduceAdd, Nat.reduceSub, List.replicate_succ, List.replicate_zero, List.cons_append, List.nil_append, List.length_map]
    repeat' (first | with_reducible (first | refine wA ?_ | refine wC ?_) | with_reducible (first | refine wq1 ?_ | refine wq3 ?_ | refine wq5 ?_ | refine wq9 ?_) | ((with_reducible refine hK _ ?_); clear hK K) | ((with_reducible refine PWp.condI ?_); refine ⟨_, rfl, fun hg => ?_, fun hg => ?_⟩ <;> first | (exact absurd hg (by decide)) | ((try simp only [Bool.not_true, Bool.not_false] at hg); (try simp only [hg]); (try simp only [push_cast] at hg); (try exact absurd trivial hg); (try (exfalso; omega)))) | ((with_reducible refine pops_plain fun K hK => ?_); simp (disch := omega) only [push_cast, seval, h4, c1, c3, c5]) | ((((with_reducible refine pops_guard ?_); refine ⟨_, rfl, fun K hK => ⟨_, rfl, fun hg => ?_, fun hg => ?_⟩⟩)) <;> first | (exact absurd hg (by decide)) | ((try simp only [Bool.not_true, Bool.not_false] at hg); (try simp only [hg]); (try simp only [push_cast] at hg); (try exact absurd trivial hg); (try (exfalso; omega)); (try simp (disch := omega) only [push_cast, seval, h4, c1, c3, c5]))) | ((with_reducible show pcall _ _ _ _ _ _); (first | (refine pcV (cfq Try.func26) (containsM_p _ ⟨_, _, _, _, _⟩ sd) ?_) | (refine pcF (cfq Try.func27) (cc) ?_) | (refine pcV (cfq Try.func28) (iMsgOk_p ⟨_, _, _, _, _⟩) ?_)); (try simp (disch := omega) only [push_cast, seval, h4, c1, c3, c5])))
    all_goals ((with_reducible show PPostR _ _ _ _ _ _); exact finH [_, _])
  · rw [if_neg (by simp [c3, c4])]
    have c5 : ¬ (150 : Int) ≤ P.length := by omega
    refine pcalls_ofR okP Try.func15 rfl ?_
    simp only [Try.f15, List.length_cons, List.length_nil, Nat.reduceAdd, Nat.reduceSub, List.replicate_succ, List.replicate_zero, List.cons_append, List.nil_append, List.length_map]
    repeat' (first | with_reducible (first | refine wA ?_ | refine wC ?_) | with_reducible (first | refine wq1 ?_ | refine wq3 ?_ | refine wq5 ?_ | refine wq9 ?_ | refine wS ?_) | ((with_reducible refine hK _ ?_); clear hK K) | ((with_reducible refine PWp.condI ?_); refine ⟨_, rfl, fun hg => ?_, fun hg => ?_⟩ <;> first | (exact absurd hg (by decide)) | ((try simp only [Bool.not_true, Bool.not_false] at hg); (try simp only [hg]); (try simp only [push_cast] at hg); (try exact absurd trivial hg); (try (exfalso; omega)))) | ((with_reducible refine pops_plain fun K hK => popO_row ?_); refine ⟨_, _, _, _, _, rfl, rfl, rfl, rfl, rfl, ?_⟩; simp (disch := omega) only [push_cast, seval, h4, c1, c3, c5]) | ((with_reducible refine pops_plain fun K hK => ?_); simp (disch := omega) only [push_cast, seval, h4, c1, c3, c5]) | ((((with_reducible refine pops_guard ?_); refine ⟨_, rfl, fun K hK => ⟨_, rfl, fun hg => ?_, fun hg => ?_⟩⟩)) <;> first | (exact absurd hg (by decide)) | ((try simp only [Bool.not_true, Bool.not_false] at hg); (try simp only [hg]); (try simp only [push_cast] at hg); (try exact absurd trivial hg); (try (exfalso; omega)); (try simp (disch := omega) only [push_cast, seval, h4, c1, c3, c5]))) | ((with_reducible show pcall _ _ _ _ _ _); (first | (refine pcV (cfq Try.func26) (containsM_p _ ⟨_, _, _, _, _⟩ sd) ?_) | (refine pcF (cfq Try.func27) (cc) ?_) | (refine pcV (cfq Try.func28) (iMsgOk_p ⟨_, _, _, _, _⟩) ?_)); (try simp (disch := omega) only [push_cast, seval, h4, c1, c3, c5])) | ((with_reducible refine And.intro ?_ ?_); omega))
    all_goals ((with_reducible show PPostR _ _ _ _ _ _); exact finH [_, _])
theorem nset_ren {φ : List Nat} {n k : Nat} {N : List GNode} {r : List PV} : ((N.map pNode).set k r).map (renL φ n) = (N.map pNode).set k (renL φ n r) := by rw [List.map_set, pNode_ren]
attribute [push_cast] nset_ren
-- more steps
set_option maxHeartbeats 16000000 in
theorem iNetDo_start (x : GNet) (a : GNetAct) (hs : NSm x) (hn3 : x.fNodes.length = 3) (hK : a.fKind = 1) : PCalls Try.prog 15 [.agg (pNet x), .agg (pNetAct a)] [] (RH (.tup [.agg (pNet (netDo x a).1), .val (.bool (netDo x a).2)]) []) := by
  have cc := iCopyNet_p x hs
  have cf := iCopyNet_f x hs
  obtain ⟨h1, h2, h3⟩ := hs
  have na : ¬ a.fKind = 4 := by omega
  cases c1 : inB a.fA 1 3 with
  | false =>
    have e : netDo x a = (x, false) := by unfold netDo; rw [if_neg na, if_pos (.inl c1)]
    rw [e]
    refine net_thaw ?_
    obtain ⟨N, P⟩ := x
    obtain ⟨a1, a2, a3, ⟨m1, m2, m3, m4, m5⟩⟩ := a
    dsimp only at *
    refine pcalls_ofR okP Try.func15 rfl ?_
    simp only [Try.f15, List.length_cons, List.length_nil, Nat.reduceAdd, Nat.reduceSub, List.replicate_succ, List.replicate_zero, List.cons_append, List.nil_append, List.length_map]
    repeat' (first | with_reducible (first | refine wA ?_ | refine wC ?_) | with_reducible (first | refine wq1 ?_ | refine wq3 ?_ | refine wq5 ?_ | refine wq9 ?_ | refine wS ?_) | ((with_reducible refine hK _ ?_); clear hK K) | ((with_reducible refine PWp.condI ?_); refine ⟨_, rfl, fun hg => ?_, fun hg => ?_⟩ <;> first | (exact absurd hg (by decide)) | ((try simp only [Bool.not_true, Bool.not_false] at hg); (try simp only [hg]); (try simp only [push_cast] at hg); (try exact absurd trivial hg); (try (exfalso; omega)))) | ((((with_reducible refine pops_guard0 ?_); refine ⟨_, rfl, fun K hK => ⟨rfl, ?_⟩⟩)); (try simp (maxSteps := 1000000) (disch := omega) only [push_cast, seval, na, hK, c1])) | ((with_reducible refine pops_plain fun K hK => ?_); simp (maxSteps := 1000000) (disch := omega) only [push_cast, seval, na, hK, c1]) | ((((with_reducible refine pops_guard ?_); refine ⟨_, rfl, fun K hK => ⟨_, rfl, fun hg => ?_, fun hg => ?_⟩⟩)) <;> first | (exact absurd hg (by decide)) | ((try simp only [Bool.not_true, Bool.not_false] at hg); (try simp only [hg]); (try simp only [push_cast] at hg); (try exact absurd trivial hg); (try (exfalso; omega)); (try simp (maxSteps := 1000000) (disch := omega) only [push_cast, seval, na, hK, c1]))) | ((with_reducible show pcall _ _ _ _ _ _); (first | (refine pcV (cfq Try.func23) (within_p _ _ _) ?_) | (refine pcF (cfq Try.func27) (cc) ?_)); (try simp (maxSteps := 1000000) (disch := omega) only [push_cast, seval, na, hK, c1])))
    all_goals ((with_reducible show PPostR _ _ _ _ _ _); exact finH [_, _])
  | true =>
  have hA := inB_iff.1 c1
  obtain ⟨k, hk⟩ : ∃ k : Nat, a.fA = (k : Int) + 1 := ⟨(a.fA - 1).toNat, by omega⟩
  have hk3 : k < 3 := by omega
  obtain ⟨u, hx⟩ : ∃ u, x.fNodes[k]? = some u := ⟨_, List.getElem?_eq_getElem (by omega)⟩
  have hu := h3 u (List.mem_of_getElem? hx)
  have cr := iNodeStart_p u hu
  -- the act, and what is left of the function
  generalize hr : nodeStart u = r at cr
  have ea : actOf x a u = r := by rw [← hr]; unfold actOf; rw [if_pos hK]
  obtain ⟨⟨w, sent⟩, okb⟩ := r
  have hsl : sent.length ≤ 300 := by
    have := congrArg (fun z : Acting × Bool => z.1.2) hr
    dsimp only at this
    rw [← this]
    exact nodeStart_len u
  have e1 : (a.fA - 1).toNat = k := by omega
  have e : netDo x a = if okb = false then (x, false) else if 150 < (poolTo x.fPool sent).length then (x, false) else (netPut x k (w, sent), true) := by
    unfold netDo
    rw [if_neg na, if_neg (by rw [c1]; simp [hK]), e1, hx]
    dsimp only
    rw [ea]
  rw [e]
  clear e ea hr hA
  obtain ⟨N, P⟩ := x
  obtain ⟨a1, a2, a3, ⟨m1, m2, m3, m4, m5⟩⟩ := a
  obtain ⟨n1, n2, n3, n4, n5, n6, n7, n8, n9, l⟩ := u
  obtain ⟨w1, w2, w3, w4, w5, w6, w7, w8, w9, wl⟩ := w
  dsimp only at *
  subst hk
  cases okb with
  | false =>
    rw [if_pos rfl]
    refine net_thaw ?_
    refine pcalls_ofR okP Try.func15 rfl ?_
    simp only [Try.f15, List.length_cons, List.length_nil, Nat.reduceAdd, Nat.reduceSub, List.replicate_succ, List.replicate_zero, List.cons_append, List.nil_append, List.length_map]
    repeat' (first | with_reducible (first | refine wA ?_ | refine wB ?_ | refine wC ?_) | with_reducible (first | refine wq1 ?_ | refine wq3 ?_ | refine wq4 ?_ | refine wq5 ?_ | refine wq9 ?_ | refine wS ?_) | ((with_reducible refine hK _ ?_); clear hK K) | ((with_reducible refine PWp.condI ?_); refine ⟨_, rfl, fun hg => ?_, fun hg => ?_⟩ <;> first | (exact absurd hg (by decide)) | ((try simp only [Bool.not_true, Bool.not_false] at hg); (try simp only [hg]); (try simp only [push_cast] at hg); (try exact absurd trivial hg); (try (exfalso; omega)))) | ((with_reducible refine pops_plain fun K hK => popO_row ?_); refine ⟨_, _, _, _, _, rfl, rfl, rfl, rfl, rfl, ?_⟩; simp (maxSteps := 1000000) (disch := omega) only [push_cast, seval, na, hK, c1, hx]) | ((with_reducible refine pops_plain fun K hK => ?_); simp (maxSteps := 1000000) (disch := omega) only [push_cast, seval, na, hK, c1, hx]) | ((((with_reducible refine pops_guard ?_); refine ⟨_, rfl, fun K hK => ⟨_, rfl, fun hg => ?_, fun hg => ?_⟩⟩)) <;> first | (exact absurd hg (by decide)) | ((try simp only [Bool.not_true, Bool.not_false] at hg); (try simp only [hg]); (try simp only [push_cast] at hg); (try exact absurd trivial hg); (try (exfalso; omega)); (try simp (maxSteps := 1000000) (disch := omega) only [push_cast, seval, na, hK, c1, hx]))) | ((with_reducible show pcall _ _ _ _ _ _); (first | (refine pcV (cfq Try.func23) (within_p _ _ _) ?_) | (refine pcF (cfq Try.func27) (cc) ?_) | (refine pcF (cfq Try.func29) (cr) ?_)); (try simp (maxSteps := 1000000) (disch := omega) only [push_cast, seval, na, hK, c1, hx])) | ((with_reducible refine And.intro ?_ ?_); omega))
    all_goals ((with_reducible show PPostR _ _ _ _ _ _); exact finH [_, _])
  | true =>
  rw [if_neg (by simp)]
  by_cases c9 : 150 < (poolTo P sent).length
  case pos =>
    rw [if_pos c9]
    have c8 : (150 : Int) < (poolTo P sent).length := by omega
    refine pcalls_ofR okP Try.func15 rfl ?_
    simp only [Try.f15, List.length_cons, List.length_nil, Nat.reduceAdd, Nat.reduceSub, List.replicate_succ, List.replicate_zero, List.cons_append, List.nil_append, List.length_map]
    repeat' (first | with_reducible (first | refine wA ?_ | refine wB ?_ | refine wC ?_) | with_reducible (first | refine wq1 ?_ | refine wq3 ?_ | refine wq4 ?_ | refine wS ?_) | ((with_reducible refine hK _ ?_); clear hK K) | ((with_reducible refine PWp.condI ?_); refine ⟨_, rfl, fun hg => ?_, fun hg => ?_⟩ <;> first | (exact absurd hg (by decide)) | ((try simp only [Bool.not_true, Bool.not_false] at hg); (try simp only [hg]); (try simp only [push_cast] at hg); (try exact absurd trivial hg); (try (exfalso; omega)))) | ((with_reducible refine pops_plain fun K hK => popO_row ?_); refine ⟨_, _, _, _, _, rfl, rfl, rfl, rfl, rfl, ?_⟩; simp (maxSteps := 1000000) (disch := omega) only [push_cast, seval, na, hK, c1, hx]) | ((with_reducible refine pops_plain fun K hK => ?_); simp (maxSteps := 1000000) (disch := omega) only [push_cast, seval, na, hK, c1, hx]) | ((((with_reducible refine pops_guard ?_); refine ⟨_, rfl, fun K hK => ⟨_, rfl, fun hg => ?_, fun hg => ?_⟩⟩)) <;> first | (exact absurd hg (by decide)) | ((try simp only [Bool.not_true, Bool.not_false] at hg); (try simp only [hg]); (try simp only [push_cast] at hg); (try exact absurd trivial hg); (try (exfalso; omega)); (try simp (maxSteps := 1000000) (disch := omega) only [push_cast, seval, na, hK, c1, hx]))) | ((with_reducible show pcall _ _ _ _ _ _); (first | (refine pcV (cfq Try.func23) (within_p _ _ _) ?_) | (refine pcF (cfq Try.func27) (cc) ?_) | (refine pcF (cfq Try.func29) (cr) ?_)); (try simp (maxSteps := 1000000) (disch := omega) only [push_cast, seval, na, hK, c1, hx])) | ((with_reducible refine And.intro ?_ ?_); omega))
    refine PWp.loopK (α := Nat) (fun j => [(2, .ptr 0 0), (4, .ptr 1 0), (6, .ptr 2 0), (123, .val (.int .i64 (j : Int)))]) [0, 1, 3, 7, 8, 9, 10, 11, 12, 13, 14, 15, 16, 17, 18, 19, 20, 21, 22, 23, 24, 25, 26, 27, 28, 29, 30, 31, 32, 33, 34, 35, 36, 37, 38, 39, 40, 41, 42, 43, 44, 45, 46, 47, 48, 49, 50, 51, 52, 53, 54, 55, 56, 57, 58, 59, 60, 61, 62, 63, 64, 65, 66, 67, 68, 69, 70, 71, 72, 73, 74, 75, 76, 77, 78, 79, 80, 81, 82, 83, 84, 85, 86, 87, 88, 89, 90, 91, 92, 93, 94, 95, 96, 97, 98, 99, 100, 101, 102, 103, 104, 105, 106, 107, 108, 109, 110, 111, 112, 113, 114, 115, 116, 117, 118, 119, 120, 124, 125, 126, 127, 128, 129, 130, 131, 132, 133, 134, 135, 136, 137, 138] (fun j => [some (.box (pNet ⟨N, P⟩)), some (.box [.val (.slice none 0 0), .val (.slice none 0 0)]), some (.box [.own 3, .own 4]), some (.row 39 10 ((N.map pNode).set k (pNode ⟨w1, w2, w3, w4, w5, w6, w7, w8, w9, wl⟩))), some (.row 32 5 ((poolTo P (sent.take j)).map pNMsg))]) (fun j => j ≤ sent.length) (fun j => sent.length - j) (0) (Nat.zero_le _) (by (refine ⟨[?_, ?_, ?_, ?_, ?_], ?_, ?_, ?_, ?_⟩; rotate_left 5; (· ((first | simp (maxSteps := 1000000) (disch := omega) only [push_cast, seval, List.map_set] | simp (maxSteps := 1000000) (disch := omega) only [push_cast, seval] | skip); (repeat' (first | exact trivial | exact rfl | refine And.intro ?_ ?_ | omega)))); (· ((first | simp (maxSteps := 1000000) (disch := omega) only [push_cast, seval, List.map_set] | simp (maxSteps := 1000000) (disch := omega) only [push_cast, seval] | skip); (repeat' (first | exact trivial | exact rfl | refine And.intro ?_ ?_ | omega)); (try (repeat' (first | exact trivial | exact rfl | refine And.intro ?_ ?_ | omega))))); (· exact rfl); (· (first | exact trivial | exact ⟨rfl, trivial⟩ | exact ⟨rfl, rfl, trivial⟩ | exact ⟨rfl, rfl, rfl, trivial⟩)))) ?_
    intro j ρ hI
    (try dsimp only at hI)
    refine PWp.at (tm' := ?_) (H' := ?_) ?_ ?_ ?_; rotate_left 2; (· ((try simp only [push_cast, seval]); exact rfl)); (· ((try dsimp only); exact rfl))
    have hpl : (poolTo P (sent.take j)).length ≤ 1000300 := by
      have h5 := poolTo_len (sent.take j) P
      rw [List.length_take] at h5
      have h6 := Nat.min_le_right j sent.length
      omega
    by_cases hlt : j < sent.length
    case pos =>
      obtain ⟨y, hy⟩ : ∃ y, sent[j]? = some y := ⟨_, List.getElem?_eq_getElem hlt⟩
      have es := poolTo_succ (l := P) hy
      obtain ⟨y1, y2, y3, y4, y5⟩ := y
      unfold poolF at es
      cases g1 : hasM (poolTo P (sent.take j)) ⟨y1, y2, y3, y4, y5⟩ with
      | true =>
        rw [if_pos g1] at es
        repeat' (first | with_reducible (first | refine wA ?_ | refine wB ?_ | refine wC ?_) | with_reducible (first | refine wq1 ?_ | refine wq3 ?_ | refine wq4 ?_ | refine wS ?_) | ((with_reducible refine hK _ ?_); clear hK K) | ((with_reducible refine PWp.condI ?_); refine ⟨_, rfl, fun hg => ?_, fun hg => ?_⟩ <;> first | (exact absurd hg (by decide)) | ((try simp only [Bool.not_true, Bool.not_false] at hg); (try simp only [hg]); (try simp only [push_cast] at hg); (try exact absurd trivial hg); (try (exfalso; omega)))) | ((with_reducible refine pops_plain fun K hK => ?_); simp (maxSteps := 1000000) (disch := omega) only [push_cast, seval, hy, g1]) | ((with_reducible show pcall _ _ _ _ _ _); ((refine pcV (cfq Try.func26) (containsM_p _ ⟨_, _, _, _, _⟩ sd) ?_)); (try simp (maxSteps := 1000000) (disch := omega) only [push_cast, seval, hy, g1])) | ((with_reducible refine And.intro ?_ ?_); omega))
        (refine ⟨j + 1, by ((try dsimp only); omega), ?_, by (refine ⟨[?_, ?_, ?_, ?_, ?_], ?_, ?_, ?_, ?_⟩; rotate_left 5; (· ((first | simp (maxSteps := 1000000) (disch := omega) only [push_cast, seval, es, List.map_set] | simp (maxSteps := 1000000) (disch := omega) only [push_cast, seval] | skip); (repeat' (first | exact trivial | exact rfl | refine And.intro ?_ ?_ | omega)))); (· ((first | simp (maxSteps := 1000000) (disch := omega) only [push_cast, seval, es, List.map_set] | simp (maxSteps := 1000000) (disch := omega) only [push_cast, seval] | skip); (repeat' (first | exact trivial | exact rfl | refine And.intro ?_ ?_ | omega)); (try (repeat' (first | exact trivial | exact rfl | refine And.intro ?_ ?_ | omega))))); (· exact rfl); (· (first | exact trivial | exact ⟨rfl, trivial⟩ | exact ⟨rfl, rfl, trivial⟩ | exact ⟨rfl, rfl, rfl, trivial⟩)))⟩)
        exact hlt
      | false =>
        rw [if_neg (by simp [g1])] at es
        repeat' (first | with_reducible (first | refine wA ?_ | refine wB ?_ | refine wC ?_) | with_reducible (first | refine wq1 ?_ | refine wq3 ?_ | refine wq4 ?_ | refine wS ?_) | ((with_reducible refine hK _ ?_); clear hK K) | ((with_reducible refine PWp.condI ?_); refine ⟨_, rfl, fun hg => ?_, fun hg => ?_⟩ <;> first | (exact absurd hg (by decide)) | ((try simp only [Bool.not_true, Bool.not_false] at hg); (try simp only [hg]); (try simp only [push_cast] at hg); (try exact absurd trivial hg); (try (exfalso; omega)))) | ((with_reducible refine pops_plain fun K hK => popO_row ?_); refine ⟨_, _, _, _, _, rfl, rfl, rfl, rfl, rfl, ?_⟩; simp (maxSteps := 1000000) (disch := omega) only [push_cast, seval, hy, g1]) | ((with_reducible refine pops_plain fun K hK => ?_); simp (maxSteps := 1000000) (disch := omega) only [push_cast, seval, hy, g1]) | ((with_reducible show pcall _ _ _ _ _ _); ((refine pcV (cfq Try.func26) (containsM_p _ ⟨_, _, _, _, _⟩ sd) ?_)); (try simp (maxSteps := 1000000) (disch := omega) only [push_cast, seval, hy, g1])) | ((with_reducible refine And.intro ?_ ?_); omega))
        (refine ⟨j + 1, by ((try dsimp only); omega), ?_, by (refine ⟨[?_, ?_, ?_, ?_, ?_], ?_, ?_, ?_, ?_⟩; rotate_left 5; (· ((first | simp (maxSteps := 1000000) (disch := omega) only [push_cast, seval, es, List.map_set, List.map_append, List.map_cons, List.map_nil, pNMsg] | simp (maxSteps := 1000000) (disch := omega) only [push_cast, seval] | skip); (repeat' (first | exact trivial | exact rfl | refine And.intro ?_ ?_ | omega)))); (· ((first | simp (maxSteps := 1000000) (disch := omega) only [push_cast, seval, es, List.map_set, List.map_append, List.map_cons, List.map_nil, pNMsg] | simp (maxSteps := 1000000) (disch := omega) only [push_cast, seval] | skip); (repeat' (first | exact trivial | exact rfl | refine And.intro ?_ ?_ | omega)); (try (repeat' (first | exact trivial | exact rfl | refine And.intro ?_ ?_ | omega))))); (· exact rfl); (· (first | exact trivial | exact ⟨rfl, trivial⟩ | exact ⟨rfl, rfl, trivial⟩ | exact ⟨rfl, rfl, rfl, trivial⟩)))⟩)
        exact hlt
    obtain rfl : j = sent.length := by omega
    rw [List.take_length] at *
    repeat' (first | with_reducible (first | refine wA ?_ | refine wC ?_) | with_reducible (first | refine wq1 ?_ | refine wq3 ?_ | refine wq5 ?_ | refine wq7 ?_ | refine wq8 ?_ | refine wq9 ?_ | refine wE ?_) | ((with_reducible refine hK _ ?_); clear hK K) | ((with_reducible refine PWp.condI ?_); refine ⟨_, rfl, fun hg => ?_, fun hg => ?_⟩ <;> first | (exact absurd hg (by decide)) | ((try simp only [Bool.not_true, Bool.not_false] at hg); (try simp only [hg]); (try simp only [push_cast] at hg); (try exact absurd trivial hg); (try (exfalso; omega)))) | ((with_reducible refine pops_plain fun K hK => ?_); simp (maxSteps := 1000000) (disch := omega) only [push_cast, seval, c8]) | ((with_reducible show pcall _ _ _ _ _ _); ((refine pcF (cfq Try.func27) (cf) ?_)); (try simp (maxSteps := 1000000) (disch := omega) only [push_cast, seval, c8])))
    all_goals ((with_reducible show PPostR _ _ _ _ _ _); exact finH [])
  case neg =>
    rw [if_neg c9]
    have c8 : ¬ (150 : Int) < (poolTo P sent).length := by omega
    have ep : (N.set k ⟨w1, w2, w3, w4, w5, w6, w7, w8, w9, wl⟩).map pNode = (N.map pNode).set k (pNode ⟨w1, w2, w3, w4, w5, w6, w7, w8, w9, wl⟩) := List.map_set
    refine net_thaw (x := ⟨N.set k ⟨w1, w2, w3, w4, w5, w6, w7, w8, w9, wl⟩, poolTo P sent⟩) ?_
    dsimp only
    rw [ep]
    refine pcalls_ofR okP Try.func15 rfl ?_
    simp only [Try.f15, List.length_cons, List.length_nil, Nat.reduceAdd, Nat.reduceSub, List.replicate_succ, List.replicate_zero, List.cons_append, List.nil_append, List.length_map]
    repeat' (first | with_reducible (first | refine wA ?_ | refine wB ?_ | refine wC ?_) | with_reducible (first | refine wq1 ?_ | refine wq3 ?_ | refine wq4 ?_ | refine wS ?_) | ((with_reducible refine hK _ ?_); clear hK K) | ((with_reducible refine PWp.condI ?_); refine ⟨_, rfl, fun hg => ?_, fun hg => ?_⟩ <;> first | (exact absurd hg (by decide)) | ((try simp only [Bool.not_true, Bool.not_false] at hg); (try simp only [hg]); (try simp only [push_cast] at hg); (try exact absurd trivial hg); (try (exfalso; omega)))) | ((with_reducible refine pops_plain fun K hK => popO_row ?_); refine ⟨_, _, _, _, _, rfl, rfl, rfl, rfl, rfl, ?_⟩; simp (maxSteps := 1000000) (disch := omega) only [push_cast, seval, na, hK, c1, hx]) | ((with_reducible refine pops_plain fun K hK => ?_); simp (maxSteps := 1000000) (disch := omega) only [push_cast, seval, na, hK, c1, hx]) | ((((with_reducible refine pops_guard ?_); refine ⟨_, rfl, fun K hK => ⟨_, rfl, fun hg => ?_, fun hg => ?_⟩⟩)) <;> first | (exact absurd hg (by decide)) | ((try simp only [Bool.not_true, Bool.not_false] at hg); (try simp only [hg]); (try simp only [push_cast] at hg); (try exact absurd trivial hg); (try (exfalso; omega)); (try simp (maxSteps := 1000000) (disch := omega) only [push_cast, seval, na, hK, c1, hx]))) | ((with_reducible show pcall _ _ _ _ _ _); (first | (refine pcV (cfq Try.func23) (within_p _ _ _) ?_) | (refine pcF (cfq Try.func27) (cc) ?_) | (refine pcF (cfq Try.func29) (cr) ?_)); (try simp (maxSteps := 1000000) (disch := omega) only [push_cast, seval, na, hK, c1, hx])) | ((with_reducible refine And.intro ?_ ?_); omega))
    refine PWp.loopK (α := Nat) (fun j => [(2, .ptr 0 0), (4, .ptr 1 0), (6, .ptr 2 0), (123, .val (.int .i64 (j : Int)))]) [0, 1, 3, 7, 8, 9, 10, 11, 12, 13, 14, 15, 16, 17, 18, 19, 20, 21, 22, 23, 24, 25, 26, 27, 28, 29, 30, 31, 32, 33, 34, 35, 36, 37, 38, 39, 40, 41, 42, 43, 44, 45, 46, 47, 48, 49, 50, 51, 52, 53, 54, 55, 56, 57, 58, 59, 60, 61, 62, 63, 64, 65, 66, 67, 68, 69, 70, 71, 72, 73, 74, 75, 76, 77, 78, 79, 80, 81, 82, 83, 84, 85, 86, 87, 88, 89, 90, 91, 92, 93, 94, 95, 96, 97, 98, 99, 100, 101, 102, 103, 104, 105, 106, 107, 108, 109, 110, 111, 112, 113, 114, 115, 116, 117, 118, 119, 120, 124, 125, 126, 127, 128, 129, 130, 131, 132, 133, 134, 135, 136, 137, 138] (fun j => [some (.box (pNet ⟨N, P⟩)), some (.box [.val (.slice none 0 0), .val (.slice none 0 0)]), some (.box [.own 3, .own 4]), some (.row 39 10 ((N.map pNode).set k (pNode ⟨w1, w2, w3, w4, w5, w6, w7, w8, w9, wl⟩))), some (.row 32 5 ((poolTo P (sent.take j)).map pNMsg))]) (fun j => j ≤ sent.length) (fun j => sent.length - j) (0) (Nat.zero_le _) (by (refine ⟨[?_, ?_, ?_, ?_, ?_], ?_, ?_, ?_, ?_⟩; rotate_left 5; (· ((first | simp (maxSteps := 1000000) (disch := omega) only [push_cast, seval, List.map_set] | simp (maxSteps := 1000000) (disch := omega) only [push_cast, seval] | skip); (repeat' (first | exact trivial | exact rfl | refine And.intro ?_ ?_ | omega)))); (· ((first | simp (maxSteps := 1000000) (disch := omega) only [push_cast, seval, List.map_set] | simp (maxSteps := 1000000) (disch := omega) only [push_cast, seval] | skip); (repeat' (first | exact trivial | exact rfl | refine And.intro ?_ ?_ | omega)); (try (repeat' (first | exact trivial | exact rfl | refine And.intro ?_ ?_ | omega))))); (· exact rfl); (· (first | exact trivial | exact ⟨rfl, trivial⟩ | exact ⟨rfl, rfl, trivial⟩ | exact ⟨rfl, rfl, rfl, trivial⟩)))) ?_
    intro j ρ hI
    (try dsimp only at hI)
    refine PWp.at (tm' := ?_) (H' := ?_) ?_ ?_ ?_; rotate_left 2; (· ((try simp only [push_cast, seval]); exact rfl)); (· ((try dsimp only); exact rfl))
    have hpl : (poolTo P (sent.take j)).length ≤ 1000300 := by
      have h5 := poolTo_len (sent.take j) P
      rw [List.length_take] at h5
      have h6 := Nat.min_le_right j sent.length
      omega
    by_cases hlt : j < sent.length
    case pos =>
      obtain ⟨y, hy⟩ : ∃ y, sent[j]? = some y := ⟨_, List.getElem?_eq_getElem hlt⟩
      have es := poolTo_succ (l := P) hy
      obtain ⟨y1, y2, y3, y4, y5⟩ := y
      unfold poolF at es
      cases g1 : hasM (poolTo P (sent.take j)) ⟨y1, y2, y3, y4, y5⟩ with
      | true =>
        rw [if_pos g1] at es
        repeat' (first | with_reducible (first | refine wA ?_ | refine wB ?_ | refine wC ?_) | with_reducible (first | refine wq1 ?_ | refine wq3 ?_ | refine wq4 ?_ | refine wS ?_) | ((with_reducible refine hK _ ?_); clear hK K) | ((with_reducible refine PWp.condI ?_); refine ⟨_, rfl, fun hg => ?_, fun hg => ?_⟩ <;> first | (exact absurd hg (by decide)) | ((try simp only [Bool.not_true, Bool.not_false] at hg); (try simp only [hg]); (try simp only [push_cast] at hg); (try exact absurd trivial hg); (try (exfalso; omega)))) | ((with_reducible refine pops_plain fun K hK => ?_); simp (maxSteps := 1000000) (disch := omega) only [push_cast, seval, hy, g1]) | ((with_reducible show pcall _ _ _ _ _ _); ((refine pcV (cfq Try.func26) (containsM_p _ ⟨_, _, _, _, _⟩ sd) ?_)); (try simp (maxSteps := 1000000) (disch := omega) only [push_cast, seval, hy, g1])) | ((with_reducible refine And.intro ?_ ?_); omega))
        (refine ⟨j + 1, by ((try dsimp only); omega), ?_, by (refine ⟨[?_, ?_, ?_, ?_, ?_], ?_, ?_, ?_, ?_⟩; rotate_left 5; (· ((first | simp (maxSteps := 1000000) (disch := omega) only [push_cast, seval, es, List.map_set] | simp (maxSteps := 1000000) (disch := omega) only [push_cast, seval] | skip); (repeat' (first | exact trivial | exact rfl | refine And.intro ?_ ?_ | omega)))); (· ((first | simp (maxSteps := 1000000) (disch := omega) only [push_cast, seval, es, List.map_set] | simp (maxSteps := 1000000) (disch := omega) only [push_cast, seval] | skip); (repeat' (first | exact trivial | exact rfl | refine And.intro ?_ ?_ | omega)); (try (repeat' (first | exact trivial | exact rfl | refine And.intro ?_ ?_ | omega))))); (· exact rfl); (· (first | exact trivial | exact ⟨rfl, trivial⟩ | exact ⟨rfl, rfl, trivial⟩ | exact ⟨rfl, rfl, rfl, trivial⟩)))⟩)
        exact hlt
      | false =>
        rw [if_neg (by simp [g1])] at es
        repeat' (first | with_reducible (first | refine wA ?_ | refine wB ?_ | refine wC ?_) | with_reducible (first | refine wq1 ?_ | refine wq3 ?_ | refine wq4 ?_ | refine wS ?_) | ((with_reducible refine hK _ ?_); clear hK K) | ((with_reducible refine PWp.condI ?_); refine ⟨_, rfl, fun hg => ?_, fun hg => ?_⟩ <;> first | (exact absurd hg (by decide)) | ((try simp only [Bool.not_true, Bool.not_false] at hg); (try simp only [hg]); (try simp only [push_cast] at hg); (try exact absurd trivial hg); (try (exfalso; omega)))) | ((with_reducible refine pops_plain fun K hK => popO_row ?_); refine ⟨_, _, _, _, _, rfl, rfl, rfl, rfl, rfl, ?_⟩; simp (maxSteps := 1000000) (disch := omega) only [push_cast, seval, hy, g1]) | ((with_reducible refine pops_plain fun K hK => ?_); simp (maxSteps := 1000000) (disch := omega) only [push_cast, seval, hy, g1]) | ((with_reducible show pcall _ _ _ _ _ _); ((refine pcV (cfq Try.func26) (containsM_p _ ⟨_, _, _, _, _⟩ sd) ?_)); (try simp (maxSteps := 1000000) (disch := omega) only [push_cast, seval, hy, g1])) | ((with_reducible refine And.intro ?_ ?_); omega))
        (refine ⟨j + 1, by ((try dsimp only); omega), ?_, by (refine ⟨[?_, ?_, ?_, ?_, ?_], ?_, ?_, ?_, ?_⟩; rotate_left 5; (· ((first | simp (maxSteps := 1000000) (disch := omega) only [push_cast, seval, es, List.map_set, List.map_append, List.map_cons, List.map_nil, pNMsg] | simp (maxSteps := 1000000) (disch := omega) only [push_cast, seval] | skip); (repeat' (first | exact trivial | exact rfl | refine And.intro ?_ ?_ | omega)))); (· ((first | simp (maxSteps := 1000000) (disch := omega) only [push_cast, seval, es, List.map_set, List.map_append, List.map_cons, List.map_nil, pNMsg] | simp (maxSteps := 1000000) (disch := omega) only [push_cast, seval] | skip); (repeat' (first | exact trivial | exact rfl | refine And.intro ?_ ?_ | omega)); (try (repeat' (first | exact trivial | exact rfl | refine And.intro ?_ ?_ | omega))))); (· exact rfl); (· (first | exact trivial | exact ⟨rfl, trivial⟩ | exact ⟨rfl, rfl, trivial⟩ | exact ⟨rfl, rfl, rfl, trivial⟩)))⟩)
        exact hlt
    obtain rfl : j = sent.length := by omega
    rw [List.take_length] at *
    repeat' (first | with_reducible (first | refine wA ?_ | refine wC ?_) | with_reducible (first | refine wq1 ?_ | refine wq3 ?_ | refine wq7 ?_ | refine wq8 ?_ | refine wq9 ?_ | refine wE ?_ | refine wS ?_) | ((with_reducible refine hK _ ?_); clear hK K) | ((with_reducible refine PWp.condI ?_); refine ⟨_, rfl, fun hg => ?_, fun hg => ?_⟩ <;> first | (exact absurd hg (by decide)) | ((try simp only [Bool.not_true, Bool.not_false] at hg); (try simp only [hg]); (try simp only [push_cast] at hg); (try exact absurd trivial hg); (try (exfalso; omega)))) | ((with_reducible refine pops_plain fun K hK => ?_); simp (maxSteps := 1000000) (disch := omega) only [push_cast, seval, c8]))
    all_goals ((with_reducible show PPostR _ _ _ _ _ _); exact finH [_, _])
set_option maxHeartbeats 16000000 in
theorem iNetDo_give (x : GNet) (a : GNetAct) (hs : NSm x) (hn3 : x.fNodes.length = 3) (hK : a.fKind = 2) : PCalls Try.prog 15 [.agg (pNet x), .agg (pNetAct a)] [] (RH (.tup [.agg (pNet (netDo x a).1), .val (.bool (netDo x a).2)]) []) := by
  have cc := iCopyNet_p x hs
  have cf := iCopyNet_f x hs
  obtain ⟨h1, h2, h3⟩ := hs
  have na : ¬ a.fKind = 4 := by omega
  cases c1 : inB a.fA 1 3 with
  | false =>
    have e : netDo x a = (x, false) := by unfold netDo; rw [if_neg na, if_pos (.inl c1)]
    rw [e]
    refine net_thaw ?_
    obtain ⟨N, P⟩ := x
    obtain ⟨a1, a2, a3, ⟨m1, m2, m3, m4, m5⟩⟩ := a
    dsimp only at *
    refine pcalls_ofR okP Try.func15 rfl ?_
    simp only [Try.f15, List.length_cons, List.length_nil, Nat.reduceAdd, Nat.reduceSub, List.replicate_succ, List.replicate_zero, List.cons_append, List.nil_append, List.length_map]
    repeat' (first | with_reducible (first | refine wA ?_ | refine wC ?_) | with_reducible (first | refine wq1 ?_ | refine wq3 ?_ | refine wq5 ?_ | refine wq9 ?_ | refine wS ?_) | ((with_reducible refine hK _ ?_); clear hK K) | ((with_reducible refine PWp.condI ?_); refine ⟨_, rfl, fun hg => ?_, fun hg => ?_⟩ <;> first | (exact absurd hg (by decide)) | ((try simp only [Bool.not_true, Bool.not_false] at hg); (try simp only [hg]); (try simp only [push_cast] at hg); (try exact absurd trivial hg); (try (exfalso; omega)))) | ((((with_reducible refine pops_guard0 ?_); refine ⟨_, rfl, fun K hK => ⟨rfl, ?_⟩⟩)); (try simp (maxSteps := 1000000) (disch := omega) only [push_cast, seval, na, hK, c1])) | ((with_reducible refine pops_plain fun K hK => ?_); simp (maxSteps := 1000000) (disch := omega) only [push_cast, seval, na, hK, c1]) | ((((with_reducible refine pops_guard ?_); refine ⟨_, rfl, fun K hK => ⟨_, rfl, fun hg => ?_, fun hg => ?_⟩⟩)) <;> first | (exact absurd hg (by decide)) | ((try simp only [Bool.not_true, Bool.not_false] at hg); (try simp only [hg]); (try simp only [push_cast] at hg); (try exact absurd trivial hg); (try (exfalso; omega)); (try simp (maxSteps := 1000000) (disch := omega) only [push_cast, seval, na, hK, c1]))) | ((with_reducible show pcall _ _ _ _ _ _); (first | (refine pcV (cfq Try.func23) (within_p _ _ _) ?_) | (refine pcF (cfq Try.func27) (cc) ?_)); (try simp (maxSteps := 1000000) (disch := omega) only [push_cast, seval, na, hK, c1])))
    all_goals ((with_reducible show PPostR _ _ _ _ _ _); exact finH [_, _])
  | true =>
  have hA := inB_iff.1 c1
  obtain ⟨k, hk⟩ : ∃ k : Nat, a.fA = (k : Int) + 1 := ⟨(a.fA - 1).toNat, by omega⟩
  have hk3 : k < 3 := by omega
  obtain ⟨u, hx⟩ : ∃ u, x.fNodes[k]? = some u := ⟨_, List.getElem?_eq_getElem (by omega)⟩
  have hu := h3 u (List.mem_of_getElem? hx)
  cases cB : inB a.fB 0 ((x.fPool.length : Int) - 1) with
  | false =>
    have e : netDo x a = (x, false) := by unfold netDo; rw [if_neg na, if_pos (.inr ⟨hK, cB⟩)]
    rw [e]
    refine net_thaw ?_
    obtain ⟨N, P⟩ := x
    obtain ⟨a1, a2, a3, ⟨m1, m2, m3, m4, m5⟩⟩ := a
    dsimp only at *
    refine pcalls_ofR okP Try.func15 rfl ?_
    simp only [Try.f15, List.length_cons, List.length_nil, Nat.reduceAdd, Nat.reduceSub, List.replicate_succ, List.replicate_zero, List.cons_append, List.nil_append, List.length_map]
    repeat' (first | with_reducible (first | refine wA ?_ | refine wC ?_) | with_reducible (first | refine wq1 ?_ | refine wq3 ?_ | refine wq5 ?_ | refine wq9 ?_ | refine wS ?_) | ((with_reducible refine hK _ ?_); clear hK K) | ((with_reducible refine PWp.condI ?_); refine ⟨_, rfl, fun hg => ?_, fun hg => ?_⟩ <;> first | (exact absurd hg (by decide)) | ((try simp only [Bool.not_true, Bool.not_false] at hg); (try simp only [hg]); (try simp only [push_cast] at hg); (try exact absurd trivial hg); (try (exfalso; omega)))) | ((with_reducible refine pops_plain fun K hK => ?_); simp (maxSteps := 1000000) (disch := omega) only [push_cast, seval, na, hK, c1, cB]) | ((((with_reducible refine pops_guard ?_); refine ⟨_, rfl, fun K hK => ⟨_, rfl, fun hg => ?_, fun hg => ?_⟩⟩)) <;> first | (exact absurd hg (by decide)) | ((try simp only [Bool.not_true, Bool.not_false] at hg); (try simp only [hg]); (try simp only [push_cast] at hg); (try exact absurd trivial hg); (try (exfalso; omega)); (try simp (maxSteps := 1000000) (disch := omega) only [push_cast, seval, na, hK, c1, cB]))) | ((with_reducible show pcall _ _ _ _ _ _); (first | (refine pcV (cfq Try.func23) (within_p _ _ _) ?_) | (refine pcF (cfq Try.func27) (cc) ?_)); (try simp (maxSteps := 1000000) (disch := omega) only [push_cast, seval, na, hK, c1, cB])))
    all_goals ((with_reducible show PPostR _ _ _ _ _ _); exact finH [_, _])
  | true =>
  have hB := inB_iff.1 cB
  obtain ⟨b, hb⟩ : ∃ b : Nat, a.fB = (b : Int) := ⟨a.fB.toNat, by omega⟩
  obtain ⟨y, hy⟩ : ∃ y, x.fPool[b]? = some y := ⟨_, List.getElem?_eq_getElem (by omega)⟩
  have cr := iNodeGet_p u y hu
  rw [hb] at cB
  -- the act, and what is left of the function
  generalize hr : nodeGet u y = r at cr
  have ea : actOf x a u = r := by rw [← hr]; unfold actOf; rw [if_neg (by omega), if_pos hK, show a.fB.toNat = b by omega, hy]
  obtain ⟨⟨w, sent⟩, okb⟩ := r
  have hsl : sent.length ≤ 300 := by
    have := congrArg (fun z : Acting × Bool => z.1.2) hr
    dsimp only at this
    rw [← this]
    exact nodeGet_len u y
  have e1 : (a.fA - 1).toNat = k := by omega
  have e : netDo x a = if okb = false then (x, false) else if 150 < (poolTo x.fPool sent).length then (x, false) else (netPut x k (w, sent), true) := by
    unfold netDo
    rw [if_neg na, if_neg (by rw [c1]; simp [hb, cB]), e1, hx]
    dsimp only
    rw [ea]
  rw [e]
  clear e ea hr hA
  obtain ⟨N, P⟩ := x
  obtain ⟨a1, a2, a3, ⟨m1, m2, m3, m4, m5⟩⟩ := a
  obtain ⟨n1, n2, n3, n4, n5, n6, n7, n8, n9, l⟩ := u
  obtain ⟨w1, w2, w3, w4, w5, w6, w7, w8, w9, wl⟩ := w
  obtain ⟨y1, y2, y3, y4, y5⟩ := y
  dsimp only at *
  subst hk
  subst hb
  cases okb with
  | false =>
    rw [if_pos rfl]
    refine net_thaw ?_
    refine pcalls_ofR okP Try.func15 rfl ?_
    simp only [Try.f15, List.length_cons, List.length_nil, Nat.reduceAdd, Nat.reduceSub, List.replicate_succ, List.replicate_zero, List.cons_append, List.nil_append, List.length_map]
    repeat' (first | with_reducible (first | refine wA ?_ | refine wB ?_ | refine wC ?_) | with_reducible refine PWp.draw (id := 16) okP true [0, 1, 2, 3, 4, 5, 6, 7, 8, 9, 10, 11, 12, 13, 14] (by kernel_rfl) ?_ | with_reducible (first | refine wq1 ?_ | refine wq2 ?_ | refine wq3 ?_ | refine wq4 ?_ | refine wq5 ?_ | refine wq9 ?_ | refine wS ?_) | ((with_reducible refine hK _ ?_); clear hK K) | ((with_reducible refine PWp.condI ?_); refine ⟨_, rfl, fun hg => ?_, fun hg => ?_⟩ <;> first | (exact absurd hg (by decide)) | ((try simp only [Bool.not_true, Bool.not_false] at hg); (try simp only [hg]); (try simp only [push_cast] at hg); (try exact absurd trivial hg); (try (exfalso; omega)))) | ((with_reducible refine pany_I ?_); refine ⟨_, rfl, fun K hK => ?_⟩) | ((with_reducible refine pops_plain fun K hK => popO_row ?_); refine ⟨_, _, _, _, _, rfl, rfl, rfl, rfl, rfl, ?_⟩; simp (maxSteps := 1000000) (disch := omega) only [push_cast, seval, na, hK, c1, hx , cB, hy]) | ((with_reducible refine pops_plain fun K hK => ?_); simp (maxSteps := 1000000) (disch := omega) only [push_cast, seval, na, hK, c1, hx , cB, hy]) | ((first | ((with_reducible refine pD_y ?_ ?_); exact rfl) | ((with_reducible refine pD_x ?_ ?_); exact rfl)); simp (maxSteps := 1000000) (disch := omega) only [push_cast, seval, na, hK, c1, hx , cB, hy]) | ((((with_reducible refine pops_guard ?_); refine ⟨_, rfl, fun K hK => ⟨_, rfl, fun hg => ?_, fun hg => ?_⟩⟩)) <;> first | (exact absurd hg (by decide)) | ((try simp only [Bool.not_true, Bool.not_false] at hg); (try simp only [hg]); (try simp only [push_cast] at hg); (try exact absurd trivial hg); (try (exfalso; omega)); (try simp (maxSteps := 1000000) (disch := omega) only [push_cast, seval, na, hK, c1, hx , cB, hy]))) | ((with_reducible show pcall _ _ _ _ _ _); (first | (refine pcV (cfq Try.func23) (within_p _ _ _) ?_) | (refine pcF (cfq Try.func27) (cc) ?_) | (refine pcF (cfq Try.func30) (cr) ?_)); (try simp (maxSteps := 1000000) (disch := omega) only [push_cast, seval, na, hK, c1, hx , cB, hy])) | ((with_reducible refine And.intro ?_ ?_); omega))
    all_goals ((with_reducible show PPostR _ _ _ _ _ _); exact finH [_, _])
  | true =>
  rw [if_neg (by simp)]
  by_cases c9 : 150 < (poolTo P sent).length
  case pos =>
    rw [if_pos c9]
    have c8 : (150 : Int) < (poolTo P sent).length := by omega
    refine pcalls_ofR okP Try.func15 rfl ?_
    simp only [Try.f15, List.length_cons, List.length_nil, Nat.reduceAdd, Nat.reduceSub, List.replicate_succ, List.replicate_zero, List.cons_append, List.nil_append, List.length_map]
    repeat' (first | with_reducible (first | refine wA ?_ | refine wB ?_ | refine wC ?_) | with_reducible refine PWp.draw (id := 16) okP true [0, 1, 2, 3, 4, 5, 6, 7, 8, 9, 10, 11, 12, 13, 14] (by kernel_rfl) ?_ | with_reducible (first | refine wq1 ?_ | refine wq2 ?_ | refine wq3 ?_ | refine wq4 ?_ | refine wS ?_) | ((with_reducible refine hK _ ?_); clear hK K) | ((with_reducible refine PWp.condI ?_); refine ⟨_, rfl, fun hg => ?_, fun hg => ?_⟩ <;> first | (exact absurd hg (by decide)) | ((try simp only [Bool.not_true, Bool.not_false] at hg); (try simp only [hg]); (try simp only [push_cast] at hg); (try exact absurd trivial hg); (try (exfalso; omega)))) | ((with_reducible refine pany_I ?_); refine ⟨_, rfl, fun K hK => ?_⟩) | ((with_reducible refine pops_plain fun K hK => popO_row ?_); refine ⟨_, _, _, _, _, rfl, rfl, rfl, rfl, rfl, ?_⟩; simp (maxSteps := 1000000) (disch := omega) only [push_cast, seval, na, hK, c1, hx , cB, hy]) | ((with_reducible refine pops_plain fun K hK => ?_); simp (maxSteps := 1000000) (disch := omega) only [push_cast, seval, na, hK, c1, hx , cB, hy]) | ((first | ((with_reducible refine pD_y ?_ ?_); exact rfl) | ((with_reducible refine pD_x ?_ ?_); exact rfl)); simp (maxSteps := 1000000) (disch := omega) only [push_cast, seval, na, hK, c1, hx , cB, hy]) | ((((with_reducible refine pops_guard ?_); refine ⟨_, rfl, fun K hK => ⟨_, rfl, fun hg => ?_, fun hg => ?_⟩⟩)) <;> first | (exact absurd hg (by decide)) | ((try simp only [Bool.not_true, Bool.not_false] at hg); (try simp only [hg]); (try simp only [push_cast] at hg); (try exact absurd trivial hg); (try (exfalso; omega)); (try simp (maxSteps := 1000000) (disch := omega) only [push_cast, seval, na, hK, c1, hx , cB, hy]))) | ((with_reducible show pcall _ _ _ _ _ _); (first | (refine pcV (cfq Try.func23) (within_p _ _ _) ?_) | (refine pcF (cfq Try.func27) (cc) ?_) | (refine pcF (cfq Try.func30) (cr) ?_)); (try simp (maxSteps := 1000000) (disch := omega) only [push_cast, seval, na, hK, c1, hx , cB, hy])) | ((with_reducible refine And.intro ?_ ?_); omega))
    refine PWp.loopK (α := Nat) (fun j => [(2, .ptr 0 0), (4, .ptr 1 0), (6, .ptr 2 0), (123, .val (.int .i64 (j : Int)))]) [0, 1, 3, 7, 8, 9, 10, 11, 12, 13, 14, 15, 16, 17, 18, 19, 20, 21, 22, 23, 24, 25, 26, 27, 28, 29, 30, 31, 32, 33, 34, 35, 36, 37, 38, 39, 40, 41, 42, 43, 44, 45, 46, 47, 48, 49, 50, 51, 52, 53, 54, 55, 56, 57, 58, 59, 60, 61, 62, 63, 64, 65, 66, 67, 68, 69, 70, 71, 72, 73, 74, 75, 76, 77, 78, 79, 80, 81, 82, 83, 84, 85, 86, 87, 88, 89, 90, 91, 92, 93, 94, 95, 96, 97, 98, 99, 100, 101, 102, 103, 104, 105, 106, 107, 108, 109, 110, 111, 112, 113, 114, 115, 116, 117, 118, 119, 120, 124, 125, 126, 127, 128, 129, 130, 131, 132, 133, 134, 135, 136, 137, 138] (fun j => [some (.box (pNet ⟨N, P⟩)), some (.box [.val (.slice none 0 0), .val (.slice none 0 0)]), some (.box [.own 3, .own 4]), some (.row 39 10 ((N.map pNode).set k (pNode ⟨w1, w2, w3, w4, w5, w6, w7, w8, w9, wl⟩))), some (.row 32 5 ((poolTo P (sent.take j)).map pNMsg))]) (fun j => j ≤ sent.length) (fun j => sent.length - j) (0) (Nat.zero_le _) (by (refine ⟨[?_, ?_, ?_, ?_, ?_], ?_, ?_, ?_, ?_⟩; rotate_left 5; (· ((first | simp (maxSteps := 1000000) (disch := omega) only [push_cast, seval, List.map_set] | simp (maxSteps := 1000000) (disch := omega) only [push_cast, seval] | skip); (repeat' (first | exact trivial | exact rfl | refine And.intro ?_ ?_ | omega)))); (· ((first | simp (maxSteps := 1000000) (disch := omega) only [push_cast, seval, List.map_set] | simp (maxSteps := 1000000) (disch := omega) only [push_cast, seval] | skip); (repeat' (first | exact trivial | exact rfl | refine And.intro ?_ ?_ | omega)); (try (repeat' (first | exact trivial | exact rfl | refine And.intro ?_ ?_ | omega))))); (· exact rfl); (· (first | exact trivial | exact ⟨rfl, trivial⟩ | exact ⟨rfl, rfl, trivial⟩ | exact ⟨rfl, rfl, rfl, trivial⟩)))) ?_
    intro j ρ hI
    (try dsimp only at hI)
    refine PWp.at (tm' := ?_) (H' := ?_) ?_ ?_ ?_; rotate_left 2; (· ((try simp only [push_cast, seval]); exact rfl)); (· ((try dsimp only); exact rfl))
    have hpl : (poolTo P (sent.take j)).length ≤ 1000300 := by
      have h5 := poolTo_len (sent.take j) P
      rw [List.length_take] at h5
      have h6 := Nat.min_le_right j sent.length
      omega
    by_cases hlt : j < sent.length
    case pos =>
      obtain ⟨y, hy⟩ : ∃ y, sent[j]? = some y := ⟨_, List.getElem?_eq_getElem hlt⟩
      have es := poolTo_succ (l := P) hy
      obtain ⟨y1, y2, y3, y4, y5⟩ := y
      unfold poolF at es
      cases g1 : hasM (poolTo P (sent.take j)) ⟨y1, y2, y3, y4, y5⟩ with
      | true =>
        rw [if_pos g1] at es
        repeat' (first | with_reducible (first | refine wA ?_ | refine wB ?_ | refine wC ?_) | with_reducible (first | refine wq1 ?_ | refine wq3 ?_ | refine wq4 ?_ | refine wS ?_) | ((with_reducible refine hK _ ?_); clear hK K) | ((with_reducible refine PWp.condI ?_); refine ⟨_, rfl, fun hg => ?_, fun hg => ?_⟩ <;> first | (exact absurd hg (by decide)) | ((try simp only [Bool.not_true, Bool.not_false] at hg); (try simp only [hg]); (try simp only [push_cast] at hg); (try exact absurd trivial hg); (try (exfalso; omega)))) | ((with_reducible refine pops_plain fun K hK => ?_); simp (maxSteps := 1000000) (disch := omega) only [push_cast, seval, hy, g1]) | ((with_reducible show pcall _ _ _ _ _ _); ((refine pcV (cfq Try.func26) (containsM_p _ ⟨_, _, _, _, _⟩ sd) ?_)); (try simp (maxSteps := 1000000) (disch := omega) only [push_cast, seval, hy, g1])) | ((with_reducible refine And.intro ?_ ?_); omega))
        (refine ⟨j + 1, by ((try dsimp only); omega), ?_, by (refine ⟨[?_, ?_, ?_, ?_, ?_], ?_, ?_, ?_, ?_⟩; rotate_left 5; (· ((first | simp (maxSteps := 1000000) (disch := omega) only [push_cast, seval, es, List.map_set] | simp (maxSteps := 1000000) (disch := omega) only [push_cast, seval] | skip); (repeat' (first | exact trivial | exact rfl | refine And.intro ?_ ?_ | omega)))); (· ((first | simp (maxSteps := 1000000) (disch := omega) only [push_cast, seval, es, List.map_set] | simp (maxSteps := 1000000) (disch := omega) only [push_cast, seval] | skip); (repeat' (first | exact trivial | exact rfl | refine And.intro ?_ ?_ | omega)); (try (repeat' (first | exact trivial | exact rfl | refine And.intro ?_ ?_ | omega))))); (· exact rfl); (· (first | exact trivial | exact ⟨rfl, trivial⟩ | exact ⟨rfl, rfl, trivial⟩ | exact ⟨rfl, rfl, rfl, trivial⟩)))⟩)
        exact hlt
      | false =>
        rw [if_neg (by simp [g1])] at es
        repeat' (first | with_reducible (first | refine wA ?_ | refine wB ?_ | refine wC ?_) | with_reducible (first | refine wq1 ?_ | refine wq3 ?_ | refine wq4 ?_ | refine wS ?_) | ((with_reducible refine hK _ ?_); clear hK K) | ((with_reducible refine PWp.condI ?_); refine ⟨_, rfl, fun hg => ?_, fun hg => ?_⟩ <;> first | (exact absurd hg (by decide)) | ((try simp only [Bool.not_true, Bool.not_false] at hg); (try simp only [hg]); (try simp only [push_cast] at hg); (try exact absurd trivial hg); (try (exfalso; omega)))) | ((with_reducible refine pops_plain fun K hK => popO_row ?_); refine ⟨_, _, _, _, _, rfl, rfl, rfl, rfl, rfl, ?_⟩; simp (maxSteps := 1000000) (disch := omega) only [push_cast, seval, hy, g1]) | ((with_reducible refine pops_plain fun K hK => ?_); simp (maxSteps := 1000000) (disch := omega) only [push_cast, seval, hy, g1]) | ((with_reducible show pcall _ _ _ _ _ _); ((refine pcV (cfq Try.func26) (containsM_p _ ⟨_, _, _, _, _⟩ sd) ?_)); (try simp (maxSteps := 1000000) (disch := omega) only [push_cast, seval, hy, g1])) | ((with_reducible refine And.intro ?_ ?_); omega))
        (refine ⟨j + 1, by ((try dsimp only); omega), ?_, by (refine ⟨[?_, ?_, ?_, ?_, ?_], ?_, ?_, ?_, ?_⟩; rotate_left 5; (· ((first | simp (maxSteps := 1000000) (disch := omega) only [push_cast, seval, es, List.map_set, List.map_append, List.map_cons, List.map_nil, pNMsg] | simp (maxSteps := 1000000) (disch := omega) only [push_cast, seval] | skip); (repeat' (first | exact trivial | exact rfl | refine And.intro ?_ ?_ | omega)))); (· ((first | simp (maxSteps := 1000000) (disch := omega) only [push_cast, seval, es, List.map_set, List.map_append, List.map_cons, List.map_nil, pNMsg] | simp (maxSteps := 1000000) (disch := omega) only [push_cast, seval] | skip); (repeat' (first | exact trivial | exact rfl | refine And.intro ?_ ?_ | omega)); (try (repeat' (first | exact trivial | exact rfl | refine And.intro ?_ ?_ | omega))))); (· exact rfl); (· (first | exact trivial | exact ⟨rfl, trivial⟩ | exact ⟨rfl, rfl, trivial⟩ | exact ⟨rfl, rfl, rfl, trivial⟩)))⟩)
        exact hlt
    obtain rfl : j = sent.length := by omega
    rw [List.take_length] at *
    repeat' (first | with_reducible (first | refine wA ?_ | refine wC ?_) | with_reducible (first | refine wq1 ?_ | refine wq3 ?_ | refine wq5 ?_ | refine wq7 ?_ | refine wq8 ?_ | refine wq9 ?_ | refine wE ?_) | ((with_reducible refine hK _ ?_); clear hK K) | ((with_reducible refine PWp.condI ?_); refine ⟨_, rfl, fun hg => ?_, fun hg => ?_⟩ <;> first | (exact absurd hg (by decide)) | ((try simp only [Bool.not_true, Bool.not_false] at hg); (try simp only [hg]); (try simp only [push_cast] at hg); (try exact absurd trivial hg); (try (exfalso; omega)))) | ((with_reducible refine pops_plain fun K hK => ?_); simp (maxSteps := 1000000) (disch := omega) only [push_cast, seval, c8]) | ((with_reducible show pcall _ _ _ _ _ _); ((refine pcF (cfq Try.func27) (cf) ?_)); (try simp (maxSteps := 1000000) (disch := omega) only [push_cast, seval, c8])))
    all_goals ((with_reducible show PPostR _ _ _ _ _ _); exact finH [])
  case neg =>
    rw [if_neg c9]
    have c8 : ¬ (150 : Int) < (poolTo P sent).length := by omega
    have ep : (N.set k ⟨w1, w2, w3, w4, w5, w6, w7, w8, w9, wl⟩).map pNode = (N.map pNode).set k (pNode ⟨w1, w2, w3, w4, w5, w6, w7, w8, w9, wl⟩) := List.map_set
    refine net_thaw (x := ⟨N.set k ⟨w1, w2, w3, w4, w5, w6, w7, w8, w9, wl⟩, poolTo P sent⟩) ?_
    dsimp only
    rw [ep]
    refine pcalls_ofR okP Try.func15 rfl ?_
    simp only [Try.f15, List.length_cons, List.length_nil, Nat.reduceAdd, Nat.reduceSub, List.replicate_succ, List.replicate_zero, List.cons_append, List.nil_append, List.length_map]
    repeat' (first | with_reducible (first | refine wA ?_ | refine wB ?_ | refine wC ?_) | with_reducible refine PWp.draw (id := 16) okP true [0, 1, 2, 3, 4, 5, 6, 7, 8, 9, 10, 11, 12, 13, 14] (by kernel_rfl) ?_ | with_reducible (first | refine wq1 ?_ | refine wq2 ?_ | refine wq3 ?_ | refine wq4 ?_ | refine wS ?_) | ((with_reducible refine hK _ ?_); clear hK K) | ((with_reducible refine PWp.condI ?_); refine ⟨_, rfl, fun hg => ?_, fun hg => ?_⟩ <;> first | (exact absurd hg (by decide)) | ((try simp only [Bool.not_true, Bool.not_false] at hg); (try simp only [hg]); (try simp only [push_cast] at hg); (try exact absurd trivial hg); (try (exfalso; omega)))) | ((with_reducible refine pany_I ?_); refine ⟨_, rfl, fun K hK => ?_⟩) | ((with_reducible refine pops_plain fun K hK => popO_row ?_); refine ⟨_, _, _, _, _, rfl, rfl, rfl, rfl, rfl, ?_⟩; simp (maxSteps := 1000000) (disch := omega) only [push_cast, seval, na, hK, c1, hx , cB, hy]) | ((with_reducible refine pops_plain fun K hK => ?_); simp (maxSteps := 1000000) (disch := omega) only [push_cast, seval, na, hK, c1, hx , cB, hy]) | ((first | ((with_reducible refine pD_y ?_ ?_); exact rfl) | ((with_reducible refine pD_x ?_ ?_); exact rfl)); simp (maxSteps := 1000000) (disch := omega) only [push_cast, seval, na, hK, c1, hx , cB, hy]) | ((((with_reducible refine pops_guard ?_); refine ⟨_, rfl, fun K hK => ⟨_, rfl, fun hg => ?_, fun hg => ?_⟩⟩)) <;> first | (exact absurd hg (by decide)) | ((try simp only [Bool.not_true, Bool.not_false] at hg); (try simp only [hg]); (try simp only [push_cast] at hg); (try exact absurd trivial hg); (try (exfalso; omega)); (try simp (maxSteps := 1000000) (disch := omega) only [push_cast, seval, na, hK, c1, hx , cB, hy]))) | ((with_reducible show pcall _ _ _ _ _ _); (first | (refine pcV (cfq Try.func23) (within_p _ _ _) ?_) | (refine pcF (cfq Try.func27) (cc) ?_) | (refine pcF (cfq Try.func30) (cr) ?_)); (try simp (maxSteps := 1000000) (disch := omega) only [push_cast, seval, na, hK, c1, hx , cB, hy])) | ((with_reducible refine And.intro ?_ ?_); omega))
    refine PWp.loopK (α := Nat) (fun j => [(2, .ptr 0 0), (4, .ptr 1 0), (6, .ptr 2 0), (123, .val (.int .i64 (j : Int)))]) [0, 1, 3, 7, 8, 9, 10, 11, 12, 13, 14, 15, 16, 17, 18, 19, 20, 21, 22, 23, 24, 25, 26, 27, 28, 29, 30, 31, 32, 33, 34, 35, 36, 37, 38, 39, 40, 41, 42, 43, 44, 45, 46, 47, 48, 49, 50, 51, 52, 53, 54, 55, 56, 57, 58, 59, 60, 61, 62, 63, 64, 65, 66, 67, 68, 69, 70, 71, 72, 73, 74, 75, 76, 77, 78, 79, 80, 81, 82, 83, 84, 85, 86, 87, 88, 89, 90, 91, 92, 93, 94, 95, 96, 97, 98, 99, 100, 101, 102, 103, 104, 105, 106, 107, 108, 109, 110, 111, 112, 113, 114, 115, 116, 117, 118, 119, 120, 124, 125, 126, 127, 128, 129, 130, 131, 132, 133, 134, 135, 136, 137, 138] (fun j => [some (.box (pNet ⟨N, P⟩)), some (.box [.val (.slice none 0 0), .val (.slice none 0 0)]), some (.box [.own 3, .own 4]), some (.row 39 10 ((N.map pNode).set k (pNode ⟨w1, w2, w3, w4, w5, w6, w7, w8, w9, wl⟩))), some (.row 32 5 ((poolTo P (sent.take j)).map pNMsg))]) (fun j => j ≤ sent.length) (fun j => sent.length - j) (0) (Nat.zero_le _) (by (refine ⟨[?_, ?_, ?_, ?_, ?_], ?_, ?_, ?_, ?_⟩; rotate_left 5; (· ((first | simp (maxSteps := 1000000) (disch := omega) only [push_cast, seval, List.map_set] | simp (maxSteps := 1000000) (disch := omega) only [push_cast, seval] | skip); (repeat' (first | exact trivial | exact rfl | refine And.intro ?_ ?_ | omega)))); (· ((first | simp (maxSteps := 1000000) (disch := omega) only [push_cast, seval, List.map_set] | simp (maxSteps := 1000000) (disch := omega) only [push_cast, seval] | skip); (repeat' (first | exact trivial | exact rfl | refine And.intro ?_ ?_ | omega)); (try (repeat' (first | exact trivial | exact rfl | refine And.intro ?_ ?_ | omega))))); (· exact rfl); (· (first | exact trivial | exact ⟨rfl, trivial⟩ | exact ⟨rfl, rfl, trivial⟩ | exact ⟨rfl, rfl, rfl, trivial⟩)))) ?_
    intro j ρ hI
    (try dsimp only at hI)
    refine PWp.at (tm' := ?_) (H' := ?_) ?_ ?_ ?_; rotate_left 2; (· ((try simp only [push_cast, seval]); exact rfl)); (· ((try dsimp only); exact rfl))
    have hpl : (poolTo P (sent.take j)).length ≤ 1000300 := by
      have h5 := poolTo_len (sent.take j) P
      rw [List.length_take] at h5
      have h6 := Nat.min_le_right j sent.length
      omega
    by_cases hlt : j < sent.length
    case pos =>
      obtain ⟨y, hy⟩ : ∃ y, sent[j]? = some y := ⟨_, List.getElem?_eq_getElem hlt⟩
      have es := poolTo_succ (l := P) hy
      obtain ⟨y1, y2, y3, y4, y5⟩ := y
      unfold poolF at es
      cases g1 : hasM (poolTo P (sent.take j)) ⟨y1, y2, y3, y4, y5⟩ with
      | true =>
        rw [if_pos g1] at es
        repeat' (first | with_reducible (first | refine wA ?_ | refine wB ?_ | refine wC ?_) | with_reducible (first | refine wq1 ?_ | refine wq3 ?_ | refine wq4 ?_ | refine wS ?_) | ((with_reducible refine hK _ ?_); clear hK K) | ((with_reducible refine PWp.condI ?_); refine ⟨_, rfl, fun hg => ?_, fun hg => ?_⟩ <;> first | (exact absurd hg (by decide)) | ((try simp only [Bool.not_true, Bool.not_false] at hg); (try simp only [hg]); (try simp only [push_cast] at hg); (try exact absurd trivial hg); (try (exfalso; omega)))) | ((with_reducible refine pops_plain fun K hK => ?_); simp (maxSteps := 1000000) (disch := omega) only [push_cast, seval, hy, g1]) | ((with_reducible show pcall _ _ _ _ _ _); ((refine pcV (cfq Try.func26) (containsM_p _ ⟨_, _, _, _, _⟩ sd) ?_)); (try simp (maxSteps := 1000000) (disch := omega) only [push_cast, seval, hy, g1])) | ((with_reducible refine And.intro ?_ ?_); omega))
        (refine ⟨j + 1, by ((try dsimp only); omega), ?_, by (refine ⟨[?_, ?_, ?_, ?_, ?_], ?_, ?_, ?_, ?_⟩; rotate_left 5; (· ((first | simp (maxSteps := 1000000) (disch := omega) only [push_cast, seval, es, List.map_set] | simp (maxSteps := 1000000) (disch := omega) only [push_cast, seval] | skip); (repeat' (first | exact trivial | exact rfl | refine And.intro ?_ ?_ | omega)))); (· ((first | simp (maxSteps := 1000000) (disch := omega) only [push_cast, seval, es, List.map_set] | simp (maxSteps := 1000000) (disch := omega) only [push_cast, seval] | skip); (repeat' (first | exact trivial | exact rfl | refine And.intro ?_ ?_ | omega)); (try (repeat' (first | exact trivial | exact rfl | refine And.intro ?_ ?_ | omega))))); (· exact rfl); (· (first | exact trivial | exact ⟨rfl, trivial⟩ | exact ⟨rfl, rfl, trivial⟩ | exact ⟨rfl, rfl, rfl, trivial⟩)))⟩)
        exact hlt
      | false =>
        rw [if_neg (by simp [g1])] at es
        repeat' (first | with_reducible (first | refine wA ?_ | refine wB ?_ | refine wC ?_) | with_reducible (first | refine wq1 ?_ | refine wq3 ?_ | refine wq4 ?_ | refine wS ?_) | ((with_reducible refine hK _ ?_); clear hK K) | ((with_reducible refine PWp.condI ?_); refine ⟨_, rfl, fun hg => ?_, fun hg => ?_⟩ <;> first | (exact absurd hg (by decide)) | ((try simp only [Bool.not_true, Bool.not_false] at hg); (try simp only [hg]); (try simp only [push_cast] at hg); (try exact absurd trivial hg); (try (exfalso; omega)))) | ((with_reducible refine pops_plain fun K hK => popO_row ?_); refine ⟨_, _, _, _, _, rfl, rfl, rfl, rfl, rfl, ?_⟩; simp (maxSteps := 1000000) (disch := omega) only [push_cast, seval, hy, g1]) | ((with_reducible refine pops_plain fun K hK => ?_); simp (maxSteps := 1000000) (disch := omega) only [push_cast, seval, hy, g1]) | ((with_reducible show pcall _ _ _ _ _ _); ((refine pcV (cfq Try.func26) (containsM_p _ ⟨_, _, _, _, _⟩ sd) ?_)); (try simp (maxSteps := 1000000) (disch := omega) only [push_cast, seval, hy, g1])) | ((with_reducible refine And.intro ?_ ?_); omega))
        (refine ⟨j + 1, by ((try dsimp only); omega), ?_, by (refine ⟨[?_, ?_, ?_, ?_, ?_], ?_, ?_, ?_, ?_⟩; rotate_left 5; (· ((first | simp (maxSteps := 1000000) (disch := omega) only [push_cast, seval, es, List.map_set, List.map_append, List.map_cons, List.map_nil, pNMsg] | simp (maxSteps := 1000000) (disch := omega) only [push_cast, seval] | skip); (repeat' (first | exact trivial | exact rfl | refine And.intro ?_ ?_ | omega)))); (· ((first | simp (maxSteps := 1000000) (disch := omega) only [push_cast, seval, es, List.map_set, List.map_append, List.map_cons, List.map_nil, pNMsg] | simp (maxSteps := 1000000) (disch := omega) only [push_cast, seval] | skip); (repeat' (first | exact trivial | exact rfl | refine And.intro ?_ ?_ | omega)); (try (repeat' (first | exact trivial | exact rfl | refine And.intro ?_ ?_ | omega))))); (· exact rfl); (· (first | exact trivial | exact ⟨rfl, trivial⟩ | exact ⟨rfl, rfl, trivial⟩ | exact ⟨rfl, rfl, rfl, trivial⟩)))⟩)
        exact hlt
    obtain rfl : j = sent.length := by omega
    rw [List.take_length] at *
    repeat' (first | with_reducible (first | refine wA ?_ | refine wC ?_) | with_reducible (first | refine wq1 ?_ | refine wq3 ?_ | refine wq7 ?_ | refine wq8 ?_ | refine wq9 ?_ | refine wE ?_ | refine wS ?_) | ((with_reducible refine hK _ ?_); clear hK K) | ((with_reducible refine PWp.condI ?_); refine ⟨_, rfl, fun hg => ?_, fun hg => ?_⟩ <;> first | (exact absurd hg (by decide)) | ((try simp only [Bool.not_true, Bool.not_false] at hg); (try simp only [hg]); (try simp only [push_cast] at hg); (try exact absurd trivial hg); (try (exfalso; omega)))) | ((with_reducible refine pops_plain fun K hK => ?_); simp (maxSteps := 1000000) (disch := omega) only [push_cast, seval, c8]))
    all_goals ((with_reducible show PPostR _ _ _ _ _ _); exact finH [_, _])
end Go.Proofs.Ytcbknmnlgoeniaa
namespace Go.Proofs.Ytcbknmnlgoeniaa
set_option linter.unusedSimpArgs false
set_option linter.unusedVariables false
open Go.RowKit
set_option maxRecDepth 100000
set_option maxHeartbeats 4000000 in
theorem iNodeTime_p (n : GNode) (step : Int) (hl : n.fMsgs.length ≤ 1000000) : PCalls Try.prog 31 [.agg (pNode n), .val (.int .i64 step)] [] (RH (.tup [.agg (pNode (nodeTime n step).1.1), .sl 5 ((nodeTime n step).1.2.map pNMsg), .val (.bool (nodeTime n step).2)]) []) := by
  unfold nodeTime
  cases ho : nodeOk n with
  | false =>
    simp only [if_true, node0, pNode, List.map_nil]
    refine PCalls.wkR (v := .tup [.agg [.val (.int .i64 0), .val (.int .i64 0), .val (.int .i64 0), .val (.int .i64 0), .val (.int .i64 0), .val (.int .i64 0), .val (.int .i64 0), .val (.int .i64 0), .val (.int .i64 0), .val (.slice none 0 0)], .val (.slice none 0 0), .val (.bool false)]) ?_ (by (repeat' (first | exact Wk.rfl _ | exact Wk.nil _ | exact trivial | refine And.intro ?_ ?_ | refine wk_agg ?_ | refine wk_tup ?_)))
    refine pcalls_ofR okP Try.func31 rfl ?_
    simp only [Try.f31, List.length_cons, List.length_nil, Nat.reduceAdd, Nat.reduceSub, List.replicate_succ, List.replicate_zero, List.cons_append, List.nil_append, List.length_map]
    repeat' (first | with_reducible (first | refine wA ?_ | refine wC ?_) | with_reducible (first | refine wq1 ?_ | refine wq3 ?_ | refine wq5 ?_ | refine wq9 ?_) | ((with_reducible refine hK _ ?_); clear hK K) | ((with_reducible refine PWp.condI ?_); refine ⟨_, rfl, fun hg => ?_, fun hg => ?_⟩ <;> first | (exact absurd hg (by decide)) | ((try simp only [Bool.not_true, Bool.not_false] at hg); (try simp only [hg]); (try simp only [push_cast] at hg); (try exact absurd trivial hg); (try (exfalso; omega)))) | ((with_reducible refine pops_plain fun K hK => popO_build ?_); refine ⟨_, rfl, _, rfl, ?_⟩; simp (disch := omega) only [push_cast, seval, ho]) | ((with_reducible refine pops_plain fun K hK => ?_); simp (disch := omega) only [push_cast, seval, ho]) | ((with_reducible show pcall _ _ _ _ _ _); ((refine pcV (cfq Try.func25) (iNodeOk_p ⟨_, _, _, _, _, _, _, _, _, _⟩ sd) ?_)); (try simp (disch := omega) only [push_cast, seval, ho])))
    ((with_reducible show PPostR _ _ _ _ _ _); exact finH [])
  | true =>
    have ok := nodeOk_iff.1 ho
    have hln := ok.ln
    have hme := ok.me
    have hst := ok.st
    have hrd := ok.rd
    rw [if_neg (by simp)]
    by_cases hc : n.fStep ≠ step ∨ n.fRound = -1 ∨ 0 < n.fDecided ∨ (step = 3 ∧ n.fRound = 11)
    case pos =>
      rw [if_pos hc]
      refine node_thaw0 ?_
      obtain ⟨n1, n2, n3, n4, n5, n6, n7, n8, n9, l⟩ := n
      dsimp only at hc hl hln ⊢
      by_cases h1 : n3 = step
      case neg =>
        refine pcalls_ofR okP Try.func31 rfl ?_
        simp only [Try.f31, List.length_cons, List.length_nil, Nat.reduceAdd, Nat.reduceSub, List.replicate_succ, List.replicate_zero, List.cons_append, List.nil_append, List.length_map]
        repeat' (first | with_reducible (first | refine wA ?_ | refine wC ?_) | with_reducible (first | refine wq1 ?_ | refine wq3 ?_ | refine wq5 ?_ | refine wq9 ?_ | refine wS ?_) | ((with_reducible refine hK _ ?_); clear hK K) | ((with_reducible refine PWp.condI ?_); refine ⟨_, rfl, fun hg => ?_, fun hg => ?_⟩ <;> first | (exact absurd hg (by decide)) | ((try simp only [Bool.not_true, Bool.not_false] at hg); (try simp only [hg]); (try simp only [push_cast] at hg); (try exact absurd trivial hg); (try (exfalso; omega)))) | ((with_reducible refine pops_guard0 ?_); refine ⟨_, rfl, fun K hK => ⟨rfl, ?_⟩⟩; (try simp (disch := omega) only [push_cast, seval, ho, h1])) | ((with_reducible refine pops_plain fun K hK => popO_build ?_); refine ⟨_, rfl, _, rfl, ?_⟩; simp (disch := omega) only [push_cast, seval, ho, h1]) | ((with_reducible refine pops_plain fun K hK => ?_); simp (disch := omega) only [push_cast, seval, ho, h1]) | ((with_reducible refine pops_guard ?_); refine ⟨_, rfl, fun K hK => ⟨_, rfl, fun hg => ?_, fun hg => ?_⟩⟩ <;> first | (exact absurd hg (by decide)) | ((try simp only [Bool.not_true, Bool.not_false] at hg); (try simp only [hg]); (try simp only [push_cast] at hg); (try exact absurd trivial hg); (try (exfalso; omega)); (try simp (disch := omega) only [push_cast, seval, ho, h1]))) | ((with_reducible show pcall _ _ _ _ _ _); (first | (refine pcV (cfq Try.func25) (iNodeOk_p ⟨_, _, _, _, _, _, _, _, _, _⟩ sd) ?_) | (refine pcH (cfq Try.func39) (iCopyNode_p ⟨_, _, _, _, _, _, _, _, _, _⟩ sd) ?_)); (try simp (disch := omega) only [push_cast, seval, ho, h1])))
        ((with_reducible show PPostR _ _ _ _ _ _); exact finH [_])
      subst h1
      by_cases h2 : n2 = -1
      case pos =>
        subst h2
        refine pcalls_ofR okP Try.func31 rfl ?_
        simp only [Try.f31, List.length_cons, List.length_nil, Nat.reduceAdd, Nat.reduceSub, List.replicate_succ, List.replicate_zero, List.cons_append, List.nil_append, List.length_map]
        repeat' (first | with_reducible (first | refine wA ?_ | refine wC ?_) | with_reducible (first | refine wq1 ?_ | refine wq3 ?_ | refine wq5 ?_ | refine wq9 ?_ | refine wS ?_) | ((with_reducible refine hK _ ?_); clear hK K) | ((with_reducible refine PWp.condI ?_); refine ⟨_, rfl, fun hg => ?_, fun hg => ?_⟩ <;> first | (exact absurd hg (by decide)) | ((try simp only [Bool.not_true, Bool.not_false] at hg); (try simp only [hg]); (try simp only [push_cast] at hg); (try exact absurd trivial hg); (try (exfalso; omega)))) | ((with_reducible refine pops_guard0 ?_); refine ⟨_, rfl, fun K hK => ⟨rfl, ?_⟩⟩; (try simp (disch := omega) only [push_cast, seval, ho])) | ((with_reducible refine pops_plain fun K hK => popO_build ?_); refine ⟨_, rfl, _, rfl, ?_⟩; simp (disch := omega) only [push_cast, seval, ho]) | ((with_reducible refine pops_plain fun K hK => ?_); simp (disch := omega) only [push_cast, seval, ho]) | ((with_reducible refine pops_guard ?_); refine ⟨_, rfl, fun K hK => ⟨_, rfl, fun hg => ?_, fun hg => ?_⟩⟩ <;> first | (exact absurd hg (by decide)) | ((try simp only [Bool.not_true, Bool.not_false] at hg); (try simp only [hg]); (try simp only [push_cast] at hg); (try exact absurd trivial hg); (try (exfalso; omega)); (try simp (disch := omega) only [push_cast, seval, ho]))) | ((with_reducible show pcall _ _ _ _ _ _); (first | (refine pcV (cfq Try.func25) (iNodeOk_p ⟨_, _, _, _, _, _, _, _, _, _⟩ sd) ?_) | (refine pcH (cfq Try.func39) (iCopyNode_p ⟨_, _, _, _, _, _, _, _, _, _⟩ sd) ?_)); (try simp (disch := omega) only [push_cast, seval, ho])))
        ((with_reducible show PPostR _ _ _ _ _ _); exact finH [_])
      by_cases h3 : 0 < n9
      case pos =>
        refine pcalls_ofR okP Try.func31 rfl ?_
        simp only [Try.f31, List.length_cons, List.length_nil, Nat.reduceAdd, Nat.reduceSub, List.replicate_succ, List.replicate_zero, List.cons_append, List.nil_append, List.length_map]
        repeat' (first | with_reducible (first | refine wA ?_ | refine wC ?_) | with_reducible (first | refine wq1 ?_ | refine wq3 ?_ | refine wq5 ?_ | refine wq9 ?_ | refine wS ?_) | ((with_reducible refine hK _ ?_); clear hK K) | ((with_reducible refine PWp.condI ?_); refine ⟨_, rfl, fun hg => ?_, fun hg => ?_⟩ <;> first | (exact absurd hg (by decide)) | ((try simp only [Bool.not_true, Bool.not_false] at hg); (try simp only [hg]); (try simp only [push_cast] at hg); (try exact absurd trivial hg); (try (exfalso; omega)))) | ((with_reducible refine pops_guard0 ?_); refine ⟨_, rfl, fun K hK => ⟨rfl, ?_⟩⟩; (try simp (disch := omega) only [push_cast, seval, ho, h2, h3])) | ((with_reducible refine pops_plain fun K hK => popO_build ?_); refine ⟨_, rfl, _, rfl, ?_⟩; simp (disch := omega) only [push_cast, seval, ho, h2, h3]) | ((with_reducible refine pops_plain fun K hK => ?_); simp (disch := omega) only [push_cast, seval, ho, h2, h3]) | ((with_reducible refine pops_guard ?_); refine ⟨_, rfl, fun K hK => ⟨_, rfl, fun hg => ?_, fun hg => ?_⟩⟩ <;> first | (exact absurd hg (by decide)) | ((try simp only [Bool.not_true, Bool.not_false] at hg); (try simp only [hg]); (try simp only [push_cast] at hg); (try exact absurd trivial hg); (try (exfalso; omega)); (try simp (disch := omega) only [push_cast, seval, ho, h2, h3]))) | ((with_reducible show pcall _ _ _ _ _ _); (first | (refine pcV (cfq Try.func25) (iNodeOk_p ⟨_, _, _, _, _, _, _, _, _, _⟩ sd) ?_) | (refine pcH (cfq Try.func39) (iCopyNode_p ⟨_, _, _, _, _, _, _, _, _, _⟩ sd) ?_)); (try simp (disch := omega) only [push_cast, seval, ho, h2, h3])))
        ((with_reducible show PPostR _ _ _ _ _ _); exact finH [_])
      obtain rfl : n3 = 3 := by omega
      obtain rfl : n2 = 11 := by omega
      refine pcalls_ofR okP Try.func31 rfl ?_
      simp only [Try.f31, List.length_cons, List.length_nil, Nat.reduceAdd, Nat.reduceSub, List.replicate_succ, List.replicate_zero, List.cons_append, List.nil_append, List.length_map]
      repeat' (first | with_reducible (first | refine wA ?_ | refine wC ?_) | with_reducible (first | refine wq1 ?_ | refine wq3 ?_ | refine wq5 ?_ | refine wq9 ?_ | refine wS ?_) | ((with_reducible refine hK _ ?_); clear hK K) | ((with_reducible refine PWp.condI ?_); refine ⟨_, rfl, fun hg => ?_, fun hg => ?_⟩ <;> first | (exact absurd hg (by decide)) | ((try simp only [Bool.not_true, Bool.not_false] at hg); (try simp only [hg]); (try simp only [push_cast] at hg); (try exact absurd trivial hg); (try (exfalso; omega)))) | ((with_reducible refine pops_plain fun K hK => popO_build ?_); refine ⟨_, rfl, _, rfl, ?_⟩; simp (disch := omega) only [push_cast, seval, ho, h3]) | ((with_reducible refine pops_plain fun K hK => ?_); simp (disch := omega) only [push_cast, seval, ho, h3]) | ((with_reducible refine pops_guard ?_); refine ⟨_, rfl, fun K hK => ⟨_, rfl, fun hg => ?_, fun hg => ?_⟩⟩ <;> first | (exact absurd hg (by decide)) | ((try simp only [Bool.not_true, Bool.not_false] at hg); (try simp only [hg]); (try simp only [push_cast] at hg); (try exact absurd trivial hg); (try (exfalso; omega)); (try simp (disch := omega) only [push_cast, seval, ho, h3]))) | ((with_reducible show pcall _ _ _ _ _ _); (first | (refine pcV (cfq Try.func25) (iNodeOk_p ⟨_, _, _, _, _, _, _, _, _, _⟩ sd) ?_) | (refine pcH (cfq Try.func39) (iCopyNode_p ⟨_, _, _, _, _, _, _, _, _, _⟩ sd) ?_)); (try simp (disch := omega) only [push_cast, seval, ho, h3])))
      ((with_reducible show PPostR _ _ _ _ _ _); exact finH [_])
    rw [if_neg hc]
    refine node_thaw ?_
    have h1 : n.fStep = step := Classical.byContradiction fun q => hc (.inl q)
    have h2 : n.fRound ≠ -1 := fun q => hc (.inr (.inl q))
    have h3 : ¬ 0 < n.fDecided := fun q => hc (.inr (.inr (.inl q)))
    have h4 : ¬ (step = 3 ∧ n.fRound = 11) := fun q => hc (.inr (.inr (.inr q)))
    have g := timeD_grow ok h1 h2 h4
    have hb : (timeD n step).2.length ≤ 1 := by
      unfold timeD prevote precommit stepTo beginR send sendM
      repeat' split
      all_goals simp
    have c2 := iRest_p (timeD n step) g.ok (by omega)
    generalize rest (timeD n step) = q at c2 ⊢
    clear hc g hb
    unfold timeD at c2
    have cl : n.fMsgs.length ≤ 1000 ∧ ([] : List GNMsg).length ≤ 1000 := ⟨by omega, by simp⟩
    by_cases s1 : step = 1
    · rw [if_pos s1] at c2
      have c := iPrevote_p (n, []) 0 true cl
      generalize prevote (n, []) 0 true = r at c c2
      clear ok
      obtain ⟨n1, n2, n3, n4, n5, n6, n7, n8, n9, l⟩ := n
      obtain ⟨⟨q1, q2, q3, q4, q5, q6, q7, q8, q9, ql⟩, qs⟩ := q
      obtain ⟨⟨r1, r2, r3, r4, r5, r6, r7, r8, r9, rl⟩, rs⟩ := r
      dsimp only at *
      subst h1
      subst s1
      refine pcalls_ofR okP Try.func31 rfl ?_
      simp only [Try.f31, List.length_cons, List.length_nil, Nat.reduceAdd, Nat.reduceSub, List.replicate_succ, List.replicate_zero, List.cons_append, List.nil_append, List.length_map]
      repeat' (first | with_reducible refine mkRegion (id := 4) ?_ | with_reducible (first | refine wA ?_ | refine wC ?_) | with_reducible (first | refine wq1 ?_ | refine wq3 ?_ | refine wS ?_) | ((with_reducible refine hK _ ?_); clear hK K) | ((with_reducible refine PWp.condI ?_); refine ⟨_, rfl, fun hg => ?_, fun hg => ?_⟩ <;> first | (exact absurd hg (by decide)) | ((try simp only [Bool.not_true, Bool.not_false] at hg); (try simp only [hg]); (try simp only [push_cast] at hg); (try exact absurd trivial hg); (try (exfalso; omega)))) | ((with_reducible refine pops_plain fun K hK => popO_build ?_); refine ⟨_, rfl, _, rfl, ?_⟩; simp (disch := omega) only [push_cast, seval, ho]) | ((with_reducible refine pops_plain fun K hK => ?_); simp (disch := omega) only [push_cast, seval, ho]) | ((with_reducible show pcall _ _ _ _ _ _); (first | (refine pcV (cfq Try.func25) (iNodeOk_p ⟨_, _, _, _, _, _, _, _, _, _⟩ sd) ?_) | (refine pcH (cfq Try.func39) (iCopyNode_p ⟨_, _, _, _, _, _, _, _, _, _⟩ sd) ?_)); (try simp (disch := omega) only [push_cast, seval, ho])))
      refine Mk.of ?_
      refine PWp.nilB 3 10 32 5 rfl rfl ?_
      repeat' (first | with_reducible (first | refine wA ?_ | refine wB ?_ | refine wC ?_) | with_reducible (first | refine wq1 ?_ | refine wq3 ?_ | refine wq4 ?_ | refine wq9 ?_ | refine wS ?_) | ((with_reducible refine hK _ ?_); clear hK K) | ((with_reducible refine PWp.condI ?_); refine ⟨_, rfl, fun hg => ?_, fun hg => ?_⟩ <;> first | (exact absurd hg (by decide)) | ((try simp only [Bool.not_true, Bool.not_false] at hg); (try simp only [hg]); (try simp only [push_cast] at hg); (try exact absurd trivial hg); (try (exfalso; omega)))) | ((with_reducible refine pops_plain fun K hK => ?_); simp (disch := omega) only [push_cast, seval, h2, h3]) | ((with_reducible refine pops_guard ?_); refine ⟨_, rfl, fun K hK => ⟨_, rfl, fun hg => ?_, fun hg => ?_⟩⟩ <;> first | (exact absurd hg (by decide)) | ((try simp only [Bool.not_true, Bool.not_false] at hg); (try simp only [hg]); (try simp only [push_cast] at hg); (try exact absurd trivial hg); (try (exfalso; omega)); (try simp (disch := omega) only [push_cast, seval, h2, h3]))) | ((with_reducible show pcall _ _ _ _ _ _); (first | (refine pcO (cfq Try.func42) [_, _, _] (c2) ?_) | (refine pcO (cfq Try.func43) [_, _, _] (c) ?_)); (try simp (disch := omega) only [push_cast, seval, h2, h3])))
      all_goals first
        | (exfalso; omega)
        | ((with_reducible show PPostR _ _ _ _ _ _); exact finH [_, _])
    by_cases s2 : step = 2
    · rw [if_neg s1, if_pos s2] at c2
      unfold precommit at c2
      have c := iSend_p (n, []) 3 0 (-1) cl
      generalize send (n, []) 3 0 (-1) = r at c c2
      unfold stepTo at c2
      clear ok
      obtain ⟨n1, n2, n3, n4, n5, n6, n7, n8, n9, l⟩ := n
      obtain ⟨⟨q1, q2, q3, q4, q5, q6, q7, q8, q9, ql⟩, qs⟩ := q
      obtain ⟨⟨r1, r2, r3, r4, r5, r6, r7, r8, r9, rl⟩, rs⟩ := r
      dsimp only at *
      subst h1
      subst s2
      refine pcalls_ofR okP Try.func31 rfl ?_
      simp only [Try.f31, List.length_cons, List.length_nil, Nat.reduceAdd, Nat.reduceSub, List.replicate_succ, List.replicate_zero, List.cons_append, List.nil_append, List.length_map]
      repeat' (first | with_reducible refine mkRegion (id := 4) ?_ | with_reducible (first | refine wA ?_ | refine wC ?_) | with_reducible (first | refine wq1 ?_ | refine wq3 ?_ | refine wS ?_) | ((with_reducible refine hK _ ?_); clear hK K) | ((with_reducible refine PWp.condI ?_); refine ⟨_, rfl, fun hg => ?_, fun hg => ?_⟩ <;> first | (exact absurd hg (by decide)) | ((try simp only [Bool.not_true, Bool.not_false] at hg); (try simp only [hg]); (try simp only [push_cast] at hg); (try exact absurd trivial hg); (try (exfalso; omega)))) | ((with_reducible refine pops_plain fun K hK => popO_build ?_); refine ⟨_, rfl, _, rfl, ?_⟩; simp (disch := omega) only [push_cast, seval, ho]) | ((with_reducible refine pops_plain fun K hK => ?_); simp (disch := omega) only [push_cast, seval, ho]) | ((with_reducible show pcall _ _ _ _ _ _); (first | (refine pcV (cfq Try.func25) (iNodeOk_p ⟨_, _, _, _, _, _, _, _, _, _⟩ sd) ?_) | (refine pcH (cfq Try.func39) (iCopyNode_p ⟨_, _, _, _, _, _, _, _, _, _⟩ sd) ?_)); (try simp (disch := omega) only [push_cast, seval, ho])))
      refine Mk.of ?_
      refine PWp.nilB 3 10 32 5 rfl rfl ?_
      repeat' (first | with_reducible (first | refine wA ?_ | refine wB ?_ | refine wC ?_) | with_reducible (first | refine wq1 ?_ | refine wq3 ?_ | refine wq4 ?_ | refine wq9 ?_ | refine wS ?_) | ((with_reducible refine hK _ ?_); clear hK K) | ((with_reducible refine PWp.condI ?_); refine ⟨_, rfl, fun hg => ?_, fun hg => ?_⟩ <;> first | (exact absurd hg (by decide)) | ((try simp only [Bool.not_true, Bool.not_false] at hg); (try simp only [hg]); (try simp only [push_cast] at hg); (try exact absurd trivial hg); (try (exfalso; omega)))) | ((with_reducible refine pops_plain fun K hK => ?_); simp (disch := omega) only [push_cast, seval, h2, h3]) | ((with_reducible refine pops_guard ?_); refine ⟨_, rfl, fun K hK => ⟨_, rfl, fun hg => ?_, fun hg => ?_⟩⟩ <;> first | (exact absurd hg (by decide)) | ((try simp only [Bool.not_true, Bool.not_false] at hg); (try simp only [hg]); (try simp only [push_cast] at hg); (try exact absurd trivial hg); (try (exfalso; omega)); (try simp (disch := omega) only [push_cast, seval, h2, h3]))) | ((with_reducible show pcall _ _ _ _ _ _); (first | (refine pcO (cfq Try.func42) [_, _, _] (c2) ?_) | (refine pcO (cfq Try.func44) [_, _, _] (c) ?_)); (try simp (disch := omega) only [push_cast, seval, h2, h3])))
      all_goals first
        | (exfalso; omega)
        | ((with_reducible show PPostR _ _ _ _ _ _); exact finH [_, _])
    rw [if_neg s1, if_neg s2] at c2
    have c := iStart_p (n, []) (n.fRound + 1) (by omega) hme cl
    generalize beginR (n, []) (n.fRound + 1) = r at c c2
    have h5 : ¬ n.fRound = 11 := by omega
    clear ok
    obtain ⟨n1, n2, n3, n4, n5, n6, n7, n8, n9, l⟩ := n
    obtain ⟨⟨q1, q2, q3, q4, q5, q6, q7, q8, q9, ql⟩, qs⟩ := q
    obtain ⟨⟨r1, r2, r3, r4, r5, r6, r7, r8, r9, rl⟩, rs⟩ := r
    dsimp only at *
    subst h1
    refine pcalls_ofR okP Try.func31 rfl ?_
    simp only [Try.f31, List.length_cons, List.length_nil, Nat.reduceAdd, Nat.reduceSub, List.replicate_succ, List.replicate_zero, List.cons_append, List.nil_append, List.length_map]
    repeat' (first | with_reducible refine mkRegion (id := 4) ?_ | with_reducible (first | refine wA ?_ | refine wC ?_) | with_reducible (first | refine wq1 ?_ | refine wq3 ?_ | refine wS ?_) | ((with_reducible refine hK _ ?_); clear hK K) | ((with_reducible refine PWp.condI ?_); refine ⟨_, rfl, fun hg => ?_, fun hg => ?_⟩ <;> first | (exact absurd hg (by decide)) | ((try simp only [Bool.not_true, Bool.not_false] at hg); (try simp only [hg]); (try simp only [push_cast] at hg); (try exact absurd trivial hg); (try (exfalso; omega)))) | ((with_reducible refine pops_plain fun K hK => popO_build ?_); refine ⟨_, rfl, _, rfl, ?_⟩; simp (disch := omega) only [push_cast, seval, ho]) | ((with_reducible refine pops_plain fun K hK => ?_); simp (disch := omega) only [push_cast, seval, ho]) | ((with_reducible show pcall _ _ _ _ _ _); (first | (refine pcV (cfq Try.func25) (iNodeOk_p ⟨_, _, _, _, _, _, _, _, _, _⟩ sd) ?_) | (refine pcH (cfq Try.func39) (iCopyNode_p ⟨_, _, _, _, _, _, _, _, _, _⟩ sd) ?_)); (try simp (disch := omega) only [push_cast, seval, ho])))
    refine Mk.of ?_
    refine PWp.nilB 3 10 32 5 rfl rfl ?_
    repeat' (first | with_reducible (first | refine wA ?_ | refine wB ?_ | refine wC ?_) | with_reducible (first | refine wq1 ?_ | refine wq3 ?_ | refine wq4 ?_ | refine wq9 ?_ | refine wS ?_) | ((with_reducible refine hK _ ?_); clear hK K) | ((with_reducible refine PWp.condI ?_); refine ⟨_, rfl, fun hg => ?_, fun hg => ?_⟩ <;> first | (exact absurd hg (by decide)) | ((try simp only [Bool.not_true, Bool.not_false] at hg); (try simp only [hg]); (try simp only [push_cast] at hg); (try exact absurd trivial hg); (try (exfalso; omega)))) | ((with_reducible refine pops_plain fun K hK => ?_); simp (disch := omega) only [push_cast, seval, h2, h3, h5, s1, s2]) | ((with_reducible refine pops_guard ?_); refine ⟨_, rfl, fun K hK => ⟨_, rfl, fun hg => ?_, fun hg => ?_⟩⟩ <;> first | (exact absurd hg (by decide)) | ((try simp only [Bool.not_true, Bool.not_false] at hg); (try simp only [hg]); (try simp only [push_cast] at hg); (try exact absurd trivial hg); (try (exfalso; omega)); (try simp (disch := omega) only [push_cast, seval, h2, h3, h5, s1, s2]))) | ((with_reducible show pcall _ _ _ _ _ _); (first | (refine pcO (cfq Try.func41) [_, _, _] (c) ?_) | (refine pcO (cfq Try.func42) [_, _, _] (c2) ?_)); (try simp (disch := omega) only [push_cast, seval, h2, h3, h5, s1, s2])))
    all_goals first
      | (exfalso; omega)
      | ((with_reducible show PPostR _ _ _ _ _ _); exact finH [_, _])
end Go.Proofs.Ytcbknmnlgoeniaa
namespace Go.Proofs.Ytcbknmnlgoeniaa
set_option linter.unusedSimpArgs false
set_option linter.unusedVariables false
open Go.RowKit
set_option maxRecDepth 100000
-- more steps
set_option maxHeartbeats 16000000 in
theorem iNetDo_time (x : GNet) (a : GNetAct) (hs : NSm x) (hn3 : x.fNodes.length = 3) (hK : a.fKind = 3) : PCalls Try.prog 15 [.agg (pNet x), .agg (pNetAct a)] [] (RH (.tup [.agg (pNet (netDo x a).1), .val (.bool (netDo x a).2)]) []) := by
  have cc := iCopyNet_p x hs
  have cf := iCopyNet_f x hs
  obtain ⟨h1, h2, h3⟩ := hs
  have na : ¬ a.fKind = 4 := by omega
  cases c1 : inB a.fA 1 3 with
  | false =>
    have e : netDo x a = (x, false) := by unfold netDo; rw [if_neg na, if_pos (.inl c1)]
    rw [e]
    refine net_thaw ?_
    obtain ⟨N, P⟩ := x
    obtain ⟨a1, a2, a3, ⟨m1, m2, m3, m4, m5⟩⟩ := a
    dsimp only at *
    refine pcalls_ofR okP Try.func15 rfl ?_
    simp only [Try.f15, List.length_cons, List.length_nil, Nat.reduceAdd, Nat.reduceSub, List.replicate_succ, List.replicate_zero, List.cons_append, List.nil_append, List.length_map]
    repeat' (first | with_reducible (first | refine wA ?_ | refine wC ?_) | with_reducible (first | refine wq1 ?_ | refine wq3 ?_ | refine wq5 ?_ | refine wq9 ?_ | refine wS ?_) | ((with_reducible refine hK _ ?_); clear hK K) | ((with_reducible refine PWp.condI ?_); refine ⟨_, rfl, fun hg => ?_, fun hg => ?_⟩ <;> first | (exact absurd hg (by decide)) | ((try simp only [Bool.not_true, Bool.not_false] at hg); (try simp only [hg]); (try simp only [push_cast] at hg); (try exact absurd trivial hg); (try (exfalso; omega)))) | ((((with_reducible refine pops_guard0 ?_); refine ⟨_, rfl, fun K hK => ⟨rfl, ?_⟩⟩)); (try simp (maxSteps := 1000000) (disch := omega) only [push_cast, seval, na, hK, c1])) | ((with_reducible refine pops_plain fun K hK => ?_); simp (maxSteps := 1000000) (disch := omega) only [push_cast, seval, na, hK, c1]) | ((((with_reducible refine pops_guard ?_); refine ⟨_, rfl, fun K hK => ⟨_, rfl, fun hg => ?_, fun hg => ?_⟩⟩)) <;> first | (exact absurd hg (by decide)) | ((try simp only [Bool.not_true, Bool.not_false] at hg); (try simp only [hg]); (try simp only [push_cast] at hg); (try exact absurd trivial hg); (try (exfalso; omega)); (try simp (maxSteps := 1000000) (disch := omega) only [push_cast, seval, na, hK, c1]))) | ((with_reducible show pcall _ _ _ _ _ _); (first | (refine pcV (cfq Try.func23) (within_p _ _ _) ?_) | (refine pcF (cfq Try.func27) (cc) ?_)); (try simp (maxSteps := 1000000) (disch := omega) only [push_cast, seval, na, hK, c1])))
    all_goals ((with_reducible show PPostR _ _ _ _ _ _); exact finH [_, _])
  | true =>
  have hA := inB_iff.1 c1
  obtain ⟨k, hk⟩ : ∃ k : Nat, a.fA = (k : Int) + 1 := ⟨(a.fA - 1).toNat, by omega⟩
  have hk3 : k < 3 := by omega
  obtain ⟨u, hx⟩ : ∃ u, x.fNodes[k]? = some u := ⟨_, List.getElem?_eq_getElem (by omega)⟩
  have hu := h3 u (List.mem_of_getElem? hx)
  have cr := iNodeTime_p u a.fB hu
  -- the act, and what is left of the function
  generalize hr : nodeTime u a.fB = r at cr
  have ea : actOf x a u = r := by rw [← hr]; unfold actOf; rw [if_neg (by omega), if_neg (by omega), if_pos hK]
  obtain ⟨⟨w, sent⟩, okb⟩ := r
  have hsl : sent.length ≤ 300 := by
    have := congrArg (fun z : Acting × Bool => z.1.2) hr
    dsimp only at this
    rw [← this]
    exact nodeTime_len u a.fB
  have e1 : (a.fA - 1).toNat = k := by omega
  have e : netDo x a = if okb = false then (x, false) else if 150 < (poolTo x.fPool sent).length then (x, false) else (netPut x k (w, sent), true) := by
    unfold netDo
    rw [if_neg na, if_neg (by rw [c1]; simp [hK]), e1, hx]
    dsimp only
    rw [ea]
  rw [e]
  clear e ea hr hA
  obtain ⟨N, P⟩ := x
  obtain ⟨a1, a2, a3, ⟨m1, m2, m3, m4, m5⟩⟩ := a
  obtain ⟨n1, n2, n3, n4, n5, n6, n7, n8, n9, l⟩ := u
  obtain ⟨w1, w2, w3, w4, w5, w6, w7, w8, w9, wl⟩ := w
  dsimp only at *
  subst hk
  cases okb with
  | false =>
    rw [if_pos rfl]
    refine net_thaw ?_
    refine pcalls_ofR okP Try.func15 rfl ?_
    simp only [Try.f15, List.length_cons, List.length_nil, Nat.reduceAdd, Nat.reduceSub, List.replicate_succ, List.replicate_zero, List.cons_append, List.nil_append, List.length_map]
    repeat' (first | with_reducible (first | refine wA ?_ | refine wB ?_ | refine wC ?_) | with_reducible (first | refine wq1 ?_ | refine wq3 ?_ | refine wq4 ?_ | refine wq5 ?_ | refine wq9 ?_ | refine wS ?_) | ((with_reducible refine hK _ ?_); clear hK K) | ((with_reducible refine PWp.condI ?_); refine ⟨_, rfl, fun hg => ?_, fun hg => ?_⟩ <;> first | (exact absurd hg (by decide)) | ((try simp only [Bool.not_true, Bool.not_false] at hg); (try simp only [hg]); (try simp only [push_cast] at hg); (try exact absurd trivial hg); (try (exfalso; omega)))) | ((with_reducible refine pops_plain fun K hK => popO_row ?_); refine ⟨_, _, _, _, _, rfl, rfl, rfl, rfl, rfl, ?_⟩; simp (maxSteps := 1000000) (disch := omega) only [push_cast, seval, na, hK, c1, hx]) | ((with_reducible refine pops_plain fun K hK => ?_); simp (maxSteps := 1000000) (disch := omega) only [push_cast, seval, na, hK, c1, hx]) | ((((with_reducible refine pops_guard ?_); refine ⟨_, rfl, fun K hK => ⟨_, rfl, fun hg => ?_, fun hg => ?_⟩⟩)) <;> first | (exact absurd hg (by decide)) | ((try simp only [Bool.not_true, Bool.not_false] at hg); (try simp only [hg]); (try simp only [push_cast] at hg); (try exact absurd trivial hg); (try (exfalso; omega)); (try simp (maxSteps := 1000000) (disch := omega) only [push_cast, seval, na, hK, c1, hx]))) | ((with_reducible show pcall _ _ _ _ _ _); (first | (refine pcV (cfq Try.func23) (within_p _ _ _) ?_) | (refine pcF (cfq Try.func27) (cc) ?_) | (refine pcF (cfq Try.func31) (cr) ?_)); (try simp (maxSteps := 1000000) (disch := omega) only [push_cast, seval, na, hK, c1, hx])) | ((with_reducible refine And.intro ?_ ?_); omega))
    all_goals ((with_reducible show PPostR _ _ _ _ _ _); exact finH [_, _])
  | true =>
  rw [if_neg (by simp)]
  by_cases c9 : 150 < (poolTo P sent).length
  case pos =>
    rw [if_pos c9]
    have c8 : (150 : Int) < (poolTo P sent).length := by omega
    refine pcalls_ofR okP Try.func15 rfl ?_
    simp only [Try.f15, List.length_cons, List.length_nil, Nat.reduceAdd, Nat.reduceSub, List.replicate_succ, List.replicate_zero, List.cons_append, List.nil_append, List.length_map]
    repeat' (first | with_reducible (first | refine wA ?_ | refine wB ?_ | refine wC ?_) | with_reducible (first | refine wq1 ?_ | refine wq3 ?_ | refine wq4 ?_ | refine wS ?_) | ((with_reducible refine hK _ ?_); clear hK K) | ((with_reducible refine PWp.condI ?_); refine ⟨_, rfl, fun hg => ?_, fun hg => ?_⟩ <;> first | (exact absurd hg (by decide)) | ((try simp only [Bool.not_true, Bool.not_false] at hg); (try simp only [hg]); (try simp only [push_cast] at hg); (try exact absurd trivial hg); (try (exfalso; omega)))) | ((with_reducible refine pops_plain fun K hK => popO_row ?_); refine ⟨_, _, _, _, _, rfl, rfl, rfl, rfl, rfl, ?_⟩; simp (maxSteps := 1000000) (disch := omega) only [push_cast, seval, na, hK, c1, hx]) | ((with_reducible refine pops_plain fun K hK => ?_); simp (maxSteps := 1000000) (disch := omega) only [push_cast, seval, na, hK, c1, hx]) | ((((with_reducible refine pops_guard ?_); refine ⟨_, rfl, fun K hK => ⟨_, rfl, fun hg => ?_, fun hg => ?_⟩⟩)) <;> first | (exact absurd hg (by decide)) | ((try simp only [Bool.not_true, Bool.not_false] at hg); (try simp only [hg]); (try simp only [push_cast] at hg); (try exact absurd trivial hg); (try (exfalso; omega)); (try simp (maxSteps := 1000000) (disch := omega) only [push_cast, seval, na, hK, c1, hx]))) | ((with_reducible show pcall _ _ _ _ _ _); (first | (refine pcV (cfq Try.func23) (within_p _ _ _) ?_) | (refine pcF (cfq Try.func27) (cc) ?_) | (refine pcF (cfq Try.func31) (cr) ?_)); (try simp (maxSteps := 1000000) (disch := omega) only [push_cast, seval, na, hK, c1, hx])) | ((with_reducible refine And.intro ?_ ?_); omega))
    refine PWp.loopK (α := Nat) (fun j => [(2, .ptr 0 0), (4, .ptr 1 0), (6, .ptr 2 0), (123, .val (.int .i64 (j : Int)))]) [0, 1, 3, 7, 8, 9, 10, 11, 12, 13, 14, 15, 16, 17, 18, 19, 20, 21, 22, 23, 24, 25, 26, 27, 28, 29, 30, 31, 32, 33, 34, 35, 36, 37, 38, 39, 40, 41, 42, 43, 44, 45, 46, 47, 48, 49, 50, 51, 52, 53, 54, 55, 56, 57, 58, 59, 60, 61, 62, 63, 64, 65, 66, 67, 68, 69, 70, 71, 72, 73, 74, 75, 76, 77, 78, 79, 80, 81, 82, 83, 84, 85, 86, 87, 88, 89, 90, 91, 92, 93, 94, 95, 96, 97, 98, 99, 100, 101, 102, 103, 104, 105, 106, 107, 108, 109, 110, 111, 112, 113, 114, 115, 116, 117, 118, 119, 120, 124, 125, 126, 127, 128, 129, 130, 131, 132, 133, 134, 135, 136, 137, 138] (fun j => [some (.box (pNet ⟨N, P⟩)), some (.box [.val (.slice none 0 0), .val (.slice none 0 0)]), some (.box [.own 3, .own 4]), some (.row 39 10 ((N.map pNode).set k (pNode ⟨w1, w2, w3, w4, w5, w6, w7, w8, w9, wl⟩))), some (.row 32 5 ((poolTo P (sent.take j)).map pNMsg))]) (fun j => j ≤ sent.length) (fun j => sent.length - j) (0) (Nat.zero_le _) (by (refine ⟨[?_, ?_, ?_, ?_, ?_], ?_, ?_, ?_, ?_⟩; rotate_left 5; (· ((first | simp (maxSteps := 1000000) (disch := omega) only [push_cast, seval, List.map_set] | simp (maxSteps := 1000000) (disch := omega) only [push_cast, seval] | skip); (repeat' (first | exact trivial | exact rfl | refine And.intro ?_ ?_ | omega)))); (· ((first | simp (maxSteps := 1000000) (disch := omega) only [push_cast, seval, List.map_set] | simp (maxSteps := 1000000) (disch := omega) only [push_cast, seval] | skip); (repeat' (first | exact trivial | exact rfl | refine And.intro ?_ ?_ | omega)); (try (repeat' (first | exact trivial | exact rfl | refine And.intro ?_ ?_ | omega))))); (· exact rfl); (· (first | exact trivial | exact ⟨rfl, trivial⟩ | exact ⟨rfl, rfl, trivial⟩ | exact ⟨rfl, rfl, rfl, trivial⟩)))) ?_
    intro j ρ hI
    (try dsimp only at hI)
    refine PWp.at (tm' := ?_) (H' := ?_) ?_ ?_ ?_; rotate_left 2; (· ((try simp only [push_cast, seval]); exact rfl)); (· ((try dsimp only); exact rfl))
    have hpl : (poolTo P (sent.take j)).length ≤ 1000300 := by
      have h5 := poolTo_len (sent.take j) P
      rw [List.length_take] at h5
      have h6 := Nat.min_le_right j sent.length
      omega
    by_cases hlt : j < sent.length
    case pos =>
      obtain ⟨y, hy⟩ : ∃ y, sent[j]? = some y := ⟨_, List.getElem?_eq_getElem hlt⟩
      have es := poolTo_succ (l := P) hy
      obtain ⟨y1, y2, y3, y4, y5⟩ := y
      unfold poolF at es
      cases g1 : hasM (poolTo P (sent.take j)) ⟨y1, y2, y3, y4, y5⟩ with
      | true =>
        rw [if_pos g1] at es
        repeat' (first | with_reducible (first | refine wA ?_ | refine wB ?_ | refine wC ?_) | with_reducible (first | refine wq1 ?_ | refine wq3 ?_ | refine wq4 ?_ | refine wS ?_) | ((with_reducible refine hK _ ?_); clear hK K) | ((with_reducible refine PWp.condI ?_); refine ⟨_, rfl, fun hg => ?_, fun hg => ?_⟩ <;> first | (exact absurd hg (by decide)) | ((try simp only [Bool.not_true, Bool.not_false] at hg); (try simp only [hg]); (try simp only [push_cast] at hg); (try exact absurd trivial hg); (try (exfalso; omega)))) | ((with_reducible refine pops_plain fun K hK => ?_); simp (maxSteps := 1000000) (disch := omega) only [push_cast, seval, hy, g1]) | ((with_reducible show pcall _ _ _ _ _ _); ((refine pcV (cfq Try.func26) (containsM_p _ ⟨_, _, _, _, _⟩ sd) ?_)); (try simp (maxSteps := 1000000) (disch := omega) only [push_cast, seval, hy, g1])) | ((with_reducible refine And.intro ?_ ?_); omega))
        (refine ⟨j + 1, by ((try dsimp only); omega), ?_, by (refine ⟨[?_, ?_, ?_, ?_, ?_], ?_, ?_, ?_, ?_⟩; rotate_left 5; (· ((first | simp (maxSteps := 1000000) (disch := omega) only [push_cast, seval, es, List.map_set] | simp (maxSteps := 1000000) (disch := omega) only [push_cast, seval] | skip); (repeat' (first | exact trivial | exact rfl | refine And.intro ?_ ?_ | omega)))); (· ((first | simp (maxSteps := 1000000) (disch := omega) only [push_cast, seval, es, List.map_set] | simp (maxSteps := 1000000) (disch := omega) only [push_cast, seval] | skip); (repeat' (first | exact trivial | exact rfl | refine And.intro ?_ ?_ | omega)); (try (repeat' (first | exact trivial | exact rfl | refine And.intro ?_ ?_ | omega))))); (· exact rfl); (· (first | exact trivial | exact ⟨rfl, trivial⟩ | exact ⟨rfl, rfl, trivial⟩ | exact ⟨rfl, rfl, rfl, trivial⟩)))⟩)
        exact hlt
      | false =>
        rw [if_neg (by simp [g1])] at es
        repeat' (first | with_reducible (first | refine wA ?_ | refine wB ?_ | refine wC ?_) | with_reducible (first | refine wq1 ?_ | refine wq3 ?_ | refine wq4 ?_ | refine wS ?_) | ((with_reducible refine hK _ ?_); clear hK K) | ((with_reducible refine PWp.condI ?_); refine ⟨_, rfl, fun hg => ?_, fun hg => ?_⟩ <;> first | (exact absurd hg (by decide)) | ((try simp only [Bool.not_true, Bool.not_false] at hg); (try simp only [hg]); (try simp only [push_cast] at hg); (try exact absurd trivial hg); (try (exfalso; omega)))) | ((with_reducible refine pops_plain fun K hK => popO_row ?_); refine ⟨_, _, _, _, _, rfl, rfl, rfl, rfl, rfl, ?_⟩; simp (maxSteps := 1000000) (disch := omega) only [push_cast, seval, hy, g1]) | ((with_reducible refine pops_plain fun K hK => ?_); simp (maxSteps := 1000000) (disch := omega) only [push_cast, seval, hy, g1]) | ((with_reducible show pcall _ _ _ _ _ _); ((refine pcV (cfq Try.func26) (containsM_p _ ⟨_, _, _, _, _⟩ sd) ?_)); (try simp (maxSteps := 1000000) (disch := omega) only [push_cast, seval, hy, g1])) | ((with_reducible refine And.intro ?_ ?_); omega))
        (refine ⟨j + 1, by ((try dsimp only); omega), ?_, by (refine ⟨[?_, ?_, ?_, ?_, ?_], ?_, ?_, ?_, ?_⟩; rotate_left 5; (· ((first | simp (maxSteps := 1000000) (disch := omega) only [push_cast, seval, es, List.map_set, List.map_append, List.map_cons, List.map_nil, pNMsg] | simp (maxSteps := 1000000) (disch := omega) only [push_cast, seval] | skip); (repeat' (first | exact trivial | exact rfl | refine And.intro ?_ ?_ | omega)))); (· ((first | simp (maxSteps := 1000000) (disch := omega) only [push_cast, seval, es, List.map_set, List.map_append, List.map_cons, List.map_nil, pNMsg] | simp (maxSteps := 1000000) (disch := omega) only [push_cast, seval] | skip); (repeat' (first | exact trivial | exact rfl | refine And.intro ?_ ?_ | omega)); (try (repeat' (first | exact trivial | exact rfl | refine And.intro ?_ ?_ | omega))))); (· exact rfl); (· (first | exact trivial | exact ⟨rfl, trivial⟩ | exact ⟨rfl, rfl, trivial⟩ | exact ⟨rfl, rfl, rfl, trivial⟩)))⟩)
        exact hlt
    obtain rfl : j = sent.length := by omega
    rw [List.take_length] at *
    repeat' (first | with_reducible (first | refine wA ?_ | refine wC ?_) | with_reducible (first | refine wq1 ?_ | refine wq3 ?_ | refine wq5 ?_ | refine wq7 ?_ | refine wq8 ?_ | refine wq9 ?_ | refine wE ?_) | ((with_reducible refine hK _ ?_); clear hK K) | ((with_reducible refine PWp.condI ?_); refine ⟨_, rfl, fun hg => ?_, fun hg => ?_⟩ <;> first | (exact absurd hg (by decide)) | ((try simp only [Bool.not_true, Bool.not_false] at hg); (try simp only [hg]); (try simp only [push_cast] at hg); (try exact absurd trivial hg); (try (exfalso; omega)))) | ((with_reducible refine pops_plain fun K hK => ?_); simp (maxSteps := 1000000) (disch := omega) only [push_cast, seval, c8]) | ((with_reducible show pcall _ _ _ _ _ _); ((refine pcF (cfq Try.func27) (cf) ?_)); (try simp (maxSteps := 1000000) (disch := omega) only [push_cast, seval, c8])))
    all_goals ((with_reducible show PPostR _ _ _ _ _ _); exact finH [])
  case neg =>
    rw [if_neg c9]
    have c8 : ¬ (150 : Int) < (poolTo P sent).length := by omega
    have ep : (N.set k ⟨w1, w2, w3, w4, w5, w6, w7, w8, w9, wl⟩).map pNode = (N.map pNode).set k (pNode ⟨w1, w2, w3, w4, w5, w6, w7, w8, w9, wl⟩) := List.map_set
    refine net_thaw (x := ⟨N.set k ⟨w1, w2, w3, w4, w5, w6, w7, w8, w9, wl⟩, poolTo P sent⟩) ?_
    dsimp only
    rw [ep]
    refine pcalls_ofR okP Try.func15 rfl ?_
    simp only [Try.f15, List.length_cons, List.length_nil, Nat.reduceAdd, Nat.reduceSub, List.replicate_succ, List.replicate_zero, List.cons_append, List.nil_append, List.length_map]
    repeat' (first | with_reducible (first | refine wA ?_ | refine wB ?_ | refine wC ?_) | with_reducible (first | refine wq1 ?_ | refine wq3 ?_ | refine wq4 ?_ | refine wS ?_) | ((with_reducible refine hK _ ?_); clear hK K) | ((with_reducible refine PWp.condI ?_); refine ⟨_, rfl, fun hg => ?_, fun hg => ?_⟩ <;> first | (exact absurd hg (by decide)) | ((try simp only [Bool.not_true, Bool.not_false] at hg); (try simp only [hg]); (try simp only [push_cast] at hg); (try exact absurd trivial hg); (try (exfalso; omega)))) | ((with_reducible refine pops_plain fun K hK => popO_row ?_); refine ⟨_, _, _, _, _, rfl, rfl, rfl, rfl, rfl, ?_⟩; simp (maxSteps := 1000000) (disch := omega) only [push_cast, seval, na, hK, c1, hx]) | ((with_reducible refine pops_plain fun K hK => ?_); simp (maxSteps := 1000000) (disch := omega) only [push_cast, seval, na, hK, c1, hx]) | ((((with_reducible refine pops_guard ?_); refine ⟨_, rfl, fun K hK => ⟨_, rfl, fun hg => ?_, fun hg => ?_⟩⟩)) <;> first | (exact absurd hg (by decide)) | ((try simp only [Bool.not_true, Bool.not_false] at hg); (try simp only [hg]); (try simp only [push_cast] at hg); (try exact absurd trivial hg); (try (exfalso; omega)); (try simp (maxSteps := 1000000) (disch := omega) only [push_cast, seval, na, hK, c1, hx]))) | ((with_reducible show pcall _ _ _ _ _ _); (first | (refine pcV (cfq Try.func23) (within_p _ _ _) ?_) | (refine pcF (cfq Try.func27) (cc) ?_) | (refine pcF (cfq Try.func31) (cr) ?_)); (try simp (maxSteps := 1000000) (disch := omega) only [push_cast, seval, na, hK, c1, hx])) | ((with_reducible refine And.intro ?_ ?_); omega))
    refine PWp.loopK (α := Nat) (fun j => [(2, .ptr 0 0), (4, .ptr 1 0), (6, .ptr 2 0), (123, .val (.int .i64 (j : Int)))]) [0, 1, 3, 7, 8, 9, 10, 11, 12, 13, 14, 15, 16, 17, 18, 19, 20, 21, 22, 23, 24, 25, 26, 27, 28, 29, 30, 31, 32, 33, 34, 35, 36, 37, 38, 39, 40, 41, 42, 43, 44, 45, 46, 47, 48, 49, 50, 51, 52, 53, 54, 55, 56, 57, 58, 59, 60, 61, 62, 63, 64, 65, 66, 67, 68, 69, 70, 71, 72, 73, 74, 75, 76, 77, 78, 79, 80, 81, 82, 83, 84, 85, 86, 87, 88, 89, 90, 91, 92, 93, 94, 95, 96, 97, 98, 99, 100, 101, 102, 103, 104, 105, 106, 107, 108, 109, 110, 111, 112, 113, 114, 115, 116, 117, 118, 119, 120, 124, 125, 126, 127, 128, 129, 130, 131, 132, 133, 134, 135, 136, 137, 138] (fun j => [some (.box (pNet ⟨N, P⟩)), some (.box [.val (.slice none 0 0), .val (.slice none 0 0)]), some (.box [.own 3, .own 4]), some (.row 39 10 ((N.map pNode).set k (pNode ⟨w1, w2, w3, w4, w5, w6, w7, w8, w9, wl⟩))), some (.row 32 5 ((poolTo P (sent.take j)).map pNMsg))]) (fun j => j ≤ sent.length) (fun j => sent.length - j) (0) (Nat.zero_le _) (by (refine ⟨[?_, ?_, ?_, ?_, ?_], ?_, ?_, ?_, ?_⟩; rotate_left 5; (· ((first | simp (maxSteps := 1000000) (disch := omega) only [push_cast, seval, List.map_set] | simp (maxSteps := 1000000) (disch := omega) only [push_cast, seval] | skip); (repeat' (first | exact trivial | exact rfl | refine And.intro ?_ ?_ | omega)))); (· ((first | simp (maxSteps := 1000000) (disch := omega) only [push_cast, seval, List.map_set] | simp (maxSteps := 1000000) (disch := omega) only [push_cast, seval] | skip); (repeat' (first | exact trivial | exact rfl | refine And.intro ?_ ?_ | omega)); (try (repeat' (first | exact trivial | exact rfl | refine And.intro ?_ ?_ | omega))))); (· exact rfl); (· (first | exact trivial | exact ⟨rfl, trivial⟩ | exact ⟨rfl, rfl, trivial⟩ | exact ⟨rfl, rfl, rfl, trivial⟩)))) ?_
    intro j ρ hI
    (try dsimp only at hI)
    refine PWp.at (tm' := ?_) (H' := ?_) ?_ ?_ ?_; rotate_left 2; (· ((try simp only [push_cast, seval]); exact rfl)); (· ((try dsimp only); exact rfl))
    have hpl : (poolTo P (sent.take j)).length ≤ 1000300 := by
      have h5 := poolTo_len (sent.take j) P
      rw [List.length_take] at h5
      have h6 := Nat.min_le_right j sent.length
      omega
    by_cases hlt : j < sent.length
    case pos =>
      obtain ⟨y, hy⟩ : ∃ y, sent[j]? = some y := ⟨_, List.getElem?_eq_getElem hlt⟩
      have es := poolTo_succ (l := P) hy
      obtain ⟨y1, y2, y3, y4, y5⟩ := y
      unfold poolF at es
      cases g1 : hasM (poolTo P (sent.take j)) ⟨y1, y2, y3, y4, y5⟩ with
      | true =>
        rw [if_pos g1] at es
        repeat' (first | with_reducible (first | refine wA ?_ | refine wB ?_ | refine wC ?_) | with_reducible (first | refine wq1 ?_ | refine wq3 ?_ | refine wq4 ?_ | refine wS ?_) | ((with_reducible refine hK _ ?_); clear hK K) | ((with_reducible refine PWp.condI ?_); refine ⟨_, rfl, fun hg => ?_, fun hg => ?_⟩ <;> first | (exact absurd hg (by decide)) | ((try simp only [Bool.not_true, Bool.not_false] at hg); (try simp only [hg]); (try simp only [push_cast] at hg); (try exact absurd trivial hg); (try (exfalso; omega)))) | ((with_reducible refine pops_plain fun K hK => ?_); simp (maxSteps := 1000000) (disch := omega) only [push_cast, seval, hy, g1]) | ((with_reducible show pcall _ _ _ _ _ _); ((refine pcV (cfq Try.func26) (containsM_p _ ⟨_, _, _, _, _⟩ sd) ?_)); (try simp (maxSteps := 1000000) (disch := omega) only [push_cast, seval, hy, g1])) | ((with_reducible refine And.intro ?_ ?_); omega))
        (refine ⟨j + 1, by ((try dsimp only); omega), ?_, by (refine ⟨[?_, ?_, ?_, ?_, ?_], ?_, ?_, ?_, ?_⟩; rotate_left 5; (· ((first | simp (maxSteps := 1000000) (disch := omega) only [push_cast, seval, es, List.map_set] | simp (maxSteps := 1000000) (disch := omega) only [push_cast, seval] | skip); (repeat' (first | exact trivial | exact rfl | refine And.intro ?_ ?_ | omega)))); (· ((first | simp (maxSteps := 1000000) (disch := omega) only [push_cast, seval, es, List.map_set] | simp (maxSteps := 1000000) (disch := omega) only [push_cast, seval] | skip); (repeat' (first | exact trivial | exact rfl | refine And.intro ?_ ?_ | omega)); (try (repeat' (first | exact trivial | exact rfl | refine And.intro ?_ ?_ | omega))))); (· exact rfl); (· (first | exact trivial | exact ⟨rfl, trivial⟩ | exact ⟨rfl, rfl, trivial⟩ | exact ⟨rfl, rfl, rfl, trivial⟩)))⟩)
        exact hlt
      | false =>
        rw [if_neg (by simp [g1])] at es
        repeat' (first | with_reducible (first | refine wA ?_ | refine wB ?_ | refine wC ?_) | with_reducible (first | refine wq1 ?_ | refine wq3 ?_ | refine wq4 ?_ | refine wS ?_) | ((with_reducible refine hK _ ?_); clear hK K) | ((with_reducible refine PWp.condI ?_); refine ⟨_, rfl, fun hg => ?_, fun hg => ?_⟩ <;> first | (exact absurd hg (by decide)) | ((try simp only [Bool.not_true, Bool.not_false] at hg); (try simp only [hg]); (try simp only [push_cast] at hg); (try exact absurd trivial hg); (try (exfalso; omega)))) | ((with_reducible refine pops_plain fun K hK => popO_row ?_); refine ⟨_, _, _, _, _, rfl, rfl, rfl, rfl, rfl, ?_⟩; simp (maxSteps := 1000000) (disch := omega) only [push_cast, seval, hy, g1]) | ((with_reducible refine pops_plain fun K hK => ?_); simp (maxSteps := 1000000) (disch := omega) only [push_cast, seval, hy, g1]) | ((with_reducible show pcall _ _ _ _ _ _); ((refine pcV (cfq Try.func26) (containsM_p _ ⟨_, _, _, _, _⟩ sd) ?_)); (try simp (maxSteps := 1000000) (disch := omega) only [push_cast, seval, hy, g1])) | ((with_reducible refine And.intro ?_ ?_); omega))
        (refine ⟨j + 1, by ((try dsimp only); omega), ?_, by (refine ⟨[?_, ?_, ?_, ?_, ?_], ?_, ?_, ?_, ?_⟩; rotate_left 5; (· ((first | simp (maxSteps := 1000000) (disch := omega) only [push_cast, seval, es, List.map_set, List.map_append, List.map_cons, List.map_nil, pNMsg] | simp (maxSteps := 1000000) (disch := omega) only [push_cast, seval] | skip); (repeat' (first | exact trivial | exact rfl | refine And.intro ?_ ?_ | omega)))); (· ((first | simp (maxSteps := 1000000) (disch := omega) only [push_cast, seval, es, List.map_set, List.map_append, List.map_cons, List.map_nil, pNMsg] | simp (maxSteps := 1000000) (disch := omega) only [push_cast, seval] | skip); (repeat' (first | exact trivial | exact rfl | refine And.intro ?_ ?_ | omega)); (try (repeat' (first | exact trivial | exact rfl | refine And.intro ?_ ?_ | omega))))); (· exact rfl); (· (first | exact trivial | exact ⟨rfl, trivial⟩ | exact ⟨rfl, rfl, trivial⟩ | exact ⟨rfl, rfl, rfl, trivial⟩)))⟩)
        exact hlt
    obtain rfl : j = sent.length := by omega
    rw [List.take_length] at *
    repeat' (first | with_reducible (first | refine wA ?_ | refine wC ?_) | with_reducible (first | refine wq1 ?_ | refine wq3 ?_ | refine wq7 ?_ | refine wq8 ?_ | refine wq9 ?_ | refine wE ?_ | refine wS ?_) | ((with_reducible refine hK _ ?_); clear hK K) | ((with_reducible refine PWp.condI ?_); refine ⟨_, rfl, fun hg => ?_, fun hg => ?_⟩ <;> first | (exact absurd hg (by decide)) | ((try simp only [Bool.not_true, Bool.not_false] at hg); (try simp only [hg]); (try simp only [push_cast] at hg); (try exact absurd trivial hg); (try (exfalso; omega)))) | ((with_reducible refine pops_plain fun K hK => ?_); simp (maxSteps := 1000000) (disch := omega) only [push_cast, seval, c8]))
    all_goals ((with_reducible show PPostR _ _ _ _ _ _); exact finH [_, _])
set_option maxHeartbeats 8000000 in
theorem iNetDo_none (x : GNet) (a : GNetAct) (hs : NSm x) (hn3 : x.fNodes.length = 3) (hK : a.fKind ≠ 1 ∧ a.fKind ≠ 2 ∧ a.fKind ≠ 3 ∧ a.fKind ≠ 4) : PCalls Try.prog 15 [.agg (pNet x), .agg (pNetAct a)] [] (RH (.tup [.agg (pNet (netDo x a).1), .val (.bool (netDo x a).2)]) []) := by
  have cc := iCopyNet_p x hs
  obtain ⟨k1, k2, k3, k4⟩ := hK
  have e : netDo x a = (x, false) := by
    unfold netDo
    rw [if_neg k4]
    split
    · rfl
    · split
      · rfl
      · rename_i n _
        have : (actOf x a n).2 = false := by unfold actOf; rw [if_neg k1, if_neg k2, if_neg k3]
        rw [if_pos this]
  rw [e]
  refine net_thaw ?_
  cases c1 : inB a.fA 1 3 with
  | false =>
    obtain ⟨N, P⟩ := x
    obtain ⟨a1, a2, a3, ⟨m1, m2, m3, m4, m5⟩⟩ := a
    dsimp only at *
    refine pcalls_ofR okP Try.func15 rfl ?_
    simp only [Try.f15, List.length_cons, List.length_nil, Nat.reduceAdd, Nat.reduceSub, List.replicate_succ, List.replicate_zero, List.cons_append, List.nil_append, List.length_map]
    repeat' (first | with_reducible (first | refine wA ?_ | refine wC ?_) | with_reducible (first | refine wq1 ?_ | refine wq3 ?_ | refine wq5 ?_ | refine wq9 ?_ | refine wS ?_) | ((with_reducible refine hK _ ?_); clear hK K) | ((with_reducible refine PWp.condI ?_); refine ⟨_, rfl, fun hg => ?_, fun hg => ?_⟩ <;> first | (exact absurd hg (by decide)) | ((try simp only [Bool.not_true, Bool.not_false] at hg); (try simp only [hg]); (try simp only [push_cast] at hg); (try exact absurd trivial hg); (try (exfalso; omega)))) | ((((with_reducible refine pops_guard0 ?_); refine ⟨_, rfl, fun K hK => ⟨rfl, ?_⟩⟩)); (try simp (maxSteps := 1000000) (disch := omega) only [push_cast, seval, k1, k2, k3, k4, c1])) | ((with_reducible refine pops_plain fun K hK => ?_); simp (maxSteps := 1000000) (disch := omega) only [push_cast, seval, k1, k2, k3, k4, c1]) | ((((with_reducible refine pops_guard ?_); refine ⟨_, rfl, fun K hK => ⟨_, rfl, fun hg => ?_, fun hg => ?_⟩⟩)) <;> first | (exact absurd hg (by decide)) | ((try simp only [Bool.not_true, Bool.not_false] at hg); (try simp only [hg]); (try simp only [push_cast] at hg); (try exact absurd trivial hg); (try (exfalso; omega)); (try simp (maxSteps := 1000000) (disch := omega) only [push_cast, seval, k1, k2, k3, k4, c1]))) | ((with_reducible show pcall _ _ _ _ _ _); (first | (refine pcV (cfq Try.func23) (within_p _ _ _) ?_) | (refine pcF (cfq Try.func27) (cc) ?_)); (try simp (maxSteps := 1000000) (disch := omega) only [push_cast, seval, k1, k2, k3, k4, c1])))
    all_goals ((with_reducible show PPostR _ _ _ _ _ _); exact finH [_, _])
  | true =>
    have hA := inB_iff.1 c1
    obtain ⟨k, hk⟩ : ∃ k : Nat, a.fA = (k : Int) + 1 := ⟨(a.fA - 1).toNat, by omega⟩
    obtain ⟨u, hx⟩ : ∃ u, x.fNodes[k]? = some u := ⟨_, List.getElem?_eq_getElem (by omega)⟩
    obtain ⟨N, P⟩ := x
    obtain ⟨a1, a2, a3, ⟨m1, m2, m3, m4, m5⟩⟩ := a
    obtain ⟨n1, n2, n3, n4, n5, n6, n7, n8, n9, l⟩ := u
    dsimp only at *
    subst hk
    refine pcalls_ofR okP Try.func15 rfl ?_
    simp only [Try.f15, List.length_cons, List.length_nil, Nat.reduceAdd, Nat.reduceSub, List.replicate_succ, List.replicate_zero, List.cons_append, List.nil_append, List.length_map]
    repeat' (first | with_reducible (first | refine wA ?_ | refine wB ?_ | refine wC ?_) | with_reducible (first | refine wq1 ?_ | refine wq3 ?_ | refine wq4 ?_ | refine wq5 ?_ | refine wq9 ?_ | refine wS ?_) | ((with_reducible refine hK _ ?_); clear hK K) | ((with_reducible refine PWp.condI ?_); refine ⟨_, rfl, fun hg => ?_, fun hg => ?_⟩ <;> first | (exact absurd hg (by decide)) | ((try simp only [Bool.not_true, Bool.not_false] at hg); (try simp only [hg]); (try simp only [push_cast] at hg); (try exact absurd trivial hg); (try (exfalso; omega)))) | ((with_reducible refine pops_plain fun K hK => popO_row ?_); refine ⟨_, _, _, _, _, rfl, rfl, rfl, rfl, rfl, ?_⟩; simp (maxSteps := 1000000) (disch := omega) only [push_cast, seval, k1, k2, k3, k4, c1, hx]) | ((with_reducible refine pops_plain fun K hK => ?_); simp (maxSteps := 1000000) (disch := omega) only [push_cast, seval, k1, k2, k3, k4, c1, hx]) | ((((with_reducible refine pops_guard ?_); refine ⟨_, rfl, fun K hK => ⟨_, rfl, fun hg => ?_, fun hg => ?_⟩⟩)) <;> first | (exact absurd hg (by decide)) | ((try simp only [Bool.not_true, Bool.not_false] at hg); (try simp only [hg]); (try simp only [push_cast] at hg); (try exact absurd trivial hg); (try (exfalso; omega)); (try simp (maxSteps := 1000000) (disch := omega) only [push_cast, seval, k1, k2, k3, k4, c1, hx]))) | ((with_reducible show pcall _ _ _ _ _ _); (first | (refine pcV (cfq Try.func23) (within_p _ _ _) ?_) | (refine pcF (cfq Try.func27) (cc) ?_)); (try simp (maxSteps := 1000000) (disch := omega) only [push_cast, seval, k1, k2, k3, k4, c1, hx])) | ((with_reducible refine And.intro ?_ ?_); omega))
    all_goals ((with_reducible show PPostR _ _ _ _ _ _); exact finH [_, _])
end Go.Proofs.Ytcbknmnlgoeniaa
namespace Go.Proofs.Ytcbknmnlgoeniaa
set_option linter.unusedSimpArgs false
set_option linter.unusedVariables false
open Go.RowKit
set_option maxRecDepth 100000
theorem NInv.sm {x : GNet} (h : NInv x) : NSm x := ⟨by rw [h.n3]; decide, by have := h.p; omega, fun u hu => by have := (h.ok u hu).ln; omega⟩
theorem iNetDoA_p (x : GNet) (a : GNetAct) (h : NInv x) : PCalls Try.prog 15 [.agg (pNet x), .agg (pNetAct a)] [] (RH (.tup [.agg (pNet (netDo x a).1), .val (.bool (netDo x a).2)]) []) := by
  by_cases h1 : a.fKind = 1
  · exact iNetDo_start x a h.sm h.n3 h1
  by_cases h2 : a.fKind = 2
  · exact iNetDo_give x a h.sm h.n3 h2
  by_cases h3 : a.fKind = 3
  · exact iNetDo_time x a h.sm h.n3 h3
  by_cases h4 : a.fKind = 4
  · exact iNetDo_lie x a h.sm h4
  exact iNetDo_none x a h.sm h.n3 ⟨h1, h2, h3, h4⟩
theorem playTo_inv (l : List GNetAct) (k : Nat) : NInv (netPlay (l.take k)).1 := netPlay_inv _
theorem playTo_cnt (l : List GNetAct) (k : Nat) : 0 ≤ (netPlay (l.take k)).2 := by
  have key : ∀ (l : List GNetAct) (s : GNet × Int), 0 ≤ s.2 → 0 ≤ (l.foldl playF s).2 := by
    intro l
    induction l with
    | nil => exact fun s h => h
    | cons a r ih =>
      intro s h
      refine ih _ ?_
      unfold playF
      dsimp only
      split <;> omega
  exact key _ _ (Int.le_refl 0)
theorem playTo_le (l : List GNetAct) (k : Nat) : (netPlay (l.take k)).2 ≤ k := by
  have h1 := netPlay_cnt (l.take k)
  rw [List.length_take] at h1
  have := Nat.min_le_left k l.length
  omega
set_option maxHeartbeats 4000000 in
theorem iNetPlay_p (l : List GNetAct) (hl : l.length ≤ 400) : PCalls Try.prog 11 [.sl 8 (l.map pNetAct)] [] (RH (.tup [.agg (pNet (netPlay l).1), .val (.int .i64 (netPlay l).2)]) []) := by
  refine pcalls_ofR okP Try.func11 rfl ?_
  simp only [Try.f11, List.length_cons, List.length_nil, Nat.reduceAdd, Nat.reduceSub, List.replicate_succ, List.replicate_zero, List.cons_append, List.nil_append, List.length_map]
  repeat' (first | with_reducible (first | refine wA ?_ | refine wB ?_ | refine wC ?_) | with_reducible (first | refine wq1 ?_ | refine wq3 ?_ | refine wS ?_) | ((with_reducible refine hK _ ?_); clear hK K) | ((with_reducible refine PWp.condI ?_); refine ⟨_, rfl, fun hg => ?_, fun hg => ?_⟩ <;> first | (exact absurd hg (by decide)) | ((try simp only [Bool.not_true, Bool.not_false] at hg); (try simp only [hg]); (try simp only [push_cast] at hg); (try exact absurd trivial hg); (try (exfalso; omega)))) | ((with_reducible refine pops_plain fun K hK => ?_); simp (disch := omega) only [push_cast, seval]) | ((with_reducible show pcall _ _ _ _ _ _); ((refine pcF (cfq Try.func6) (iNetNew_p) ?_)); (try simp (disch := omega) only [push_cast, seval])))
  refine PWp.loopK (α := Nat) (fun k => [(2, .ptr 0 0), (4, .ptr 1 0), (5, .val (.int .i64 (netPlay (l.take k)).2)), (17, .val (.int .i64 (k : Int)))]) [0, 1, 6, 7, 8, 9, 10, 11, 12, 13, 14, 18, 19, 20, 21, 22, 23, 24, 25, 26, 27, 28, 29, 30, 31] (fun k => [some (.box [.val (.slice none 0 0), .val (.slice none 0 0)]), some (.box (pNet (netPlay (l.take k)).1))]) (fun k => k ≤ l.length) (fun k => l.length - k) (0) (Nat.zero_le _) (by exact fitA [_, _]) ?_
  intro k ρ hI
  (try dsimp only at hI)
  refine PWp.at (tm' := ?_) (H' := ?_) ?_ ?_ ?_; rotate_left 2; (· ((try simp only [push_cast, seval]); exact rfl)); (· ((try dsimp only); exact rfl))
  by_cases hlt : k < l.length
  · obtain ⟨a, hx⟩ : ∃ a, l[k]? = some a := ⟨_, List.getElem?_eq_getElem hlt⟩
    have e := playF_succ hx
    have hc := playTo_le l k
    have hc0 := playTo_cnt l k
    have cd := iNetDoA_p (netPlay (l.take k)).1 a (playTo_inv l k)
    unfold playF at e
    generalize netPlay (l.take k) = s at e hc hc0 cd ⊢
    generalize netDo s.1 a = r at e cd
    obtain ⟨⟨N, P⟩, z⟩ := s
    obtain ⟨⟨N', P'⟩, b⟩ := r
    obtain ⟨a1, a2, a3, ⟨m1, m2, m3, m4, m5⟩⟩ := a
    dsimp only at e hc hc0 cd
    cases b with
    | false =>
      simp only [Bool.false_eq_true, if_false] at e
      repeat' (first | with_reducible (first | refine wA ?_ | refine wB ?_ | refine wC ?_) | with_reducible (first | refine wq1 ?_ | refine wq3 ?_ | refine wq4 ?_ | refine wS ?_) | ((with_reducible refine hK _ ?_); clear hK K) | ((with_reducible refine PWp.condI ?_); refine ⟨_, rfl, fun hg => ?_, fun hg => ?_⟩ <;> first | (exact absurd hg (by decide)) | ((try simp only [Bool.not_true, Bool.not_false] at hg); (try simp only [hg]); (try simp only [push_cast] at hg); (try exact absurd trivial hg); (try (exfalso; omega)))) | ((with_reducible refine pops_plain fun K hK => ?_); simp (disch := omega) only [push_cast, seval, hx]) | ((with_reducible show pcall _ _ _ _ _ _); ((refine pcF (cfq Try.func15) (cd) ?_)); (try simp (disch := omega) only [push_cast, seval, hx])) | ((with_reducible refine And.intro ?_ ?_); omega))
      (refine ⟨k + 1, by ((try dsimp only); omega), ?_, by (refine ⟨[?_, ?_], ?_, ?_, ?_, ?_⟩; rotate_left 2; (· ((first | simp (disch := omega) only [push_cast, seval, e] | simp (disch := omega) only [push_cast, seval] | skip); (repeat' (first | exact trivial | exact rfl | refine And.intro ?_ ?_ | omega)))); (· ((first | simp (disch := omega) only [push_cast, seval, e] | simp (disch := omega) only [push_cast, seval] | skip); (repeat' (first | exact trivial | exact rfl | refine And.intro ?_ ?_ | omega)); (try (repeat' (first | exact trivial | exact rfl | refine And.intro ?_ ?_ | omega))))); (· exact rfl); (· (first | exact trivial | exact ⟨rfl, trivial⟩ | exact ⟨rfl, rfl, trivial⟩ | exact ⟨rfl, rfl, rfl, trivial⟩)))⟩)
      exact hlt
    | true =>
      simp only [if_true] at e
      repeat' (first | with_reducible (first | refine wA ?_ | refine wB ?_ | refine wC ?_) | with_reducible (first | refine wq1 ?_ | refine wq3 ?_ | refine wq4 ?_ | refine wS ?_) | ((with_reducible refine hK _ ?_); clear hK K) | ((with_reducible refine PWp.condI ?_); refine ⟨_, rfl, fun hg => ?_, fun hg => ?_⟩ <;> first | (exact absurd hg (by decide)) | ((try simp only [Bool.not_true, Bool.not_false] at hg); (try simp only [hg]); (try simp only [push_cast] at hg); (try exact absurd trivial hg); (try (exfalso; omega)))) | ((with_reducible refine pops_plain fun K hK => ?_); simp (disch := omega) only [push_cast, seval, hx]) | ((with_reducible show pcall _ _ _ _ _ _); ((refine pcF (cfq Try.func15) (cd) ?_)); (try simp (disch := omega) only [push_cast, seval, hx])) | ((with_reducible refine And.intro ?_ ?_); omega))
      (refine ⟨k + 1, by ((try dsimp only); omega), ?_, by (refine ⟨[?_, ?_], ?_, ?_, ?_, ?_⟩; rotate_left 2; (· ((first | simp (disch := omega) only [push_cast, seval, e] | simp (disch := omega) only [push_cast, seval] | skip); (repeat' (first | exact trivial | exact rfl | refine And.intro ?_ ?_ | omega)))); (· ((first | simp (disch := omega) only [push_cast, seval, e] | simp (disch := omega) only [push_cast, seval] | skip); (repeat' (first | exact trivial | exact rfl | refine And.intro ?_ ?_ | omega)); (try (repeat' (first | exact trivial | exact rfl | refine And.intro ?_ ?_ | omega))))); (· exact rfl); (· (first | exact trivial | exact ⟨rfl, trivial⟩ | exact ⟨rfl, rfl, trivial⟩ | exact ⟨rfl, rfl, rfl, trivial⟩)))⟩)
      exact hlt
  obtain rfl : k = l.length := by omega
  rw [List.take_length]
  repeat' (first | with_reducible (first | refine wA ?_ | refine wC ?_) | with_reducible (first | refine wq1 ?_ | refine wq3 ?_ | refine wq7 ?_ | refine wq8 ?_ | refine wq9 ?_ | refine wE ?_) | ((with_reducible refine hK _ ?_); clear hK K) | ((with_reducible refine PWp.condI ?_); refine ⟨_, rfl, fun hg => ?_, fun hg => ?_⟩ <;> first | (exact absurd hg (by decide)) | ((try simp only [Bool.not_true, Bool.not_false] at hg); (try simp only [hg]); (try simp only [push_cast] at hg); (try exact absurd trivial hg); (try (exfalso; omega)))) | ((with_reducible refine pops_plain fun K hK => ?_); simp (disch := omega) only [push_cast, seval]))
  ((with_reducible show PPostR _ _ _ _ _ _); exact finH [])
end Go.Proofs.Ytcbknmnlgoeniaa
namespace Go.Proofs.Ytcbknmnlgoeniaa
set_option linter.unusedSimpArgs false
set_option linter.unusedVariables false
open Go.RowKit
set_option maxRecDepth 100000
set_option maxHeartbeats 2000000 in
theorem sameMsgs_p (l : List GNMsg) (hl : l.length ≤ 1000000) : PCalls Try.prog 12 [.sl 5 (l.map pNMsg), .sl 5 (l.map pNMsg)] [] (RV (.val (.bool true))) := by
  refine pcalls_ofR okP Try.func12 rfl ?_
  simp only [Try.f12, List.length_cons, List.length_nil, Nat.reduceAdd, Nat.reduceSub, List.replicate_succ, List.replicate_zero, List.cons_append, List.nil_append, List.length_map]
  repeat' (first | with_reducible (first | refine wA ?_ | refine wB ?_ | refine wC ?_) | with_reducible (first | refine wq1 ?_ | refine wq3 ?_ | refine wS ?_) | ((with_reducible refine hK _ ?_); clear hK K) | ((with_reducible refine PWp.condI ?_); refine ⟨_, rfl, fun hg => ?_, fun hg => ?_⟩ <;> first | (exact absurd hg (by decide)) | ((try simp only [Bool.not_true, Bool.not_false] at hg); (try simp only [hg]); (try simp only [push_cast] at hg); (try exact absurd trivial hg); (try (exfalso; omega)))) | ((with_reducible refine pops_plain fun K hK => ?_); simp (disch := omega) only [push_cast, seval]))
  refine PWp.loopK (α := Nat) (fun k => [(5, .val (.int .i64 (k : Int)))]) [2, 3, 4, 6, 7, 8, 9, 10, 11, 12, 13, 14, 15, 16, 17, 18, 19, 20, 21, 22, 23, 24, 25] (fun k => []) (fun k => k ≤ l.length) (fun k => l.length - k) (0) (Nat.zero_le _) (by exact fitA []) ?_
  intro k ρ hI
  (try dsimp only at hI)
  refine PWp.at (tm' := ?_) (H' := ?_) ?_ ?_ ?_; rotate_left 2; (· ((try simp only [push_cast, seval]); exact rfl)); (· ((try dsimp only); exact rfl))
  by_cases hlt : k < l.length
  · obtain ⟨y, hy⟩ : ∃ y, l[k]? = some y := ⟨_, List.getElem?_eq_getElem hlt⟩
    obtain ⟨y1, y2, y3, y4, y5⟩ := y
    repeat' (first | with_reducible (first | refine wA ?_ | refine wB ?_ | refine wC ?_) | with_reducible refine PWp.draw (id := 6) okP true [0, 1, 2, 3, 4, 5, 6, 7, 8] (by kernel_rfl) ?_ | with_reducible (first | refine wq1 ?_ | refine wq2 ?_ | refine wq3 ?_ | refine wq4 ?_ | refine wS ?_) | ((with_reducible refine hK _ ?_); clear hK K) | ((with_reducible refine PWp.condI ?_); refine ⟨_, rfl, fun hg => ?_, fun hg => ?_⟩ <;> first | (exact absurd hg (by decide)) | ((try simp only [Bool.not_true, Bool.not_false] at hg); (try simp only [hg]); (try simp only [push_cast] at hg); (try exact absurd trivial hg); (try (exfalso; omega)))) | ((with_reducible refine pany_I ?_); refine ⟨_, rfl, fun K hK => ?_⟩) | ((with_reducible refine pops_plain fun K hK => ?_); simp (disch := omega) only [push_cast, seval, hy, decide_true, Bool.and_self, Bool.not_true]) | ((((with_reducible refine pD_y ?_ ?_); exact rfl)); simp (disch := omega) only [push_cast, seval, hy, decide_true, Bool.and_self, Bool.not_true]) | ((with_reducible refine And.intro ?_ ?_); omega))
    (refine ⟨k + 1, by ((try dsimp only); omega), ?_, by exact fitA []⟩)
    exact hlt
  obtain rfl : k = l.length := by omega
  repeat' (first | with_reducible (first | refine wA ?_ | refine wC ?_) | with_reducible (first | refine wq1 ?_ | refine wq3 ?_ | refine wq7 ?_ | refine wq8 ?_ | refine wq9 ?_ | refine wE ?_) | ((with_reducible refine hK _ ?_); clear hK K) | ((with_reducible refine PWp.condI ?_); refine ⟨_, rfl, fun hg => ?_, fun hg => ?_⟩ <;> first | (exact absurd hg (by decide)) | ((try simp only [Bool.not_true, Bool.not_false] at hg); (try simp only [hg]); (try simp only [push_cast] at hg); (try exact absurd trivial hg); (try (exfalso; omega)))) | ((with_reducible refine pops_plain fun K hK => ?_); simp (disch := omega) only [push_cast, seval]))
  ((with_reducible show PPostR _ _ _ _ _ _); refine finV ?_; (try simp only [push_cast, seval]))
end Go.Proofs.Ytcbknmnlgoeniaa
