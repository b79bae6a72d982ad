/- FnLive: an act of a right net, its decisions. -/
import Derived.Test.YtcbknmnlgoeniaaPn7
import Derived.Test.YtcbknmnlgoeniaaK4
namespace Go.Proofs.Ytcbknmnlgoeniaa
set_option linter.unusedSimpArgs false
set_option linter.unusedVariables false
open Go.RowKit
set_option maxRecDepth 100000

theorem ok_nsm {x : GNet} (h : netOk x = true) : NSm x ∧ x.fNodes.length = 3 := by
  unfold netOk at h
  rw [Bool.and_eq_true, Bool.and_eq_true, Bool.and_eq_true, decide_eq_true_eq, decide_eq_true_eq] at h
  obtain ⟨⟨h1, h2, h3⟩, h4⟩ := h
  refine ⟨⟨by omega, by omega, fun u hu => ?_⟩, h1⟩
  obtain ⟨k, hk⟩ := List.getElem?_of_mem hu
  have hlt := (List.getElem?_eq_some_iff.1 hk).1
  have := allN_get h4 (k := k) (by omega)
  unfold netOkAt at this
  rw [hk] at this
  dsimp only at this
  rw [Bool.and_eq_true, Bool.and_eq_true] at this
  have := (nodeOk_iff.1 this.1.1).ln
  omega
set_option maxHeartbeats 2000000 in
theorem iNetDoC_p (x : GNet) (a : GNetAct) (ok : netOk x = true) (hk : a.fKind = 1 ∨ a.fKind = 2 ∨ a.fKind = 4) : PCalls Try.prog 7 [.agg (pNet x), .agg (pNetAct a)] [] (RH (.tup [.agg (pNet (netDoC x a).1), .val (.bool (netDoC x a).2)]) []) := by
  obtain ⟨hs, h3⟩ := ok_nsm ok
  have e : netDoC x a = netDo x a := by unfold netDoC; rw [if_pos ok]
  rw [e]
  have co := iNetOk_p x hs
  rw [ok] at co
  have cd : PCalls Try.prog 15 [.agg (pNet x), .agg (pNetAct a)] [] (RH (.tup [.agg (pNet (netDo x a).1), .val (.bool (netDo x a).2)]) []) := by
    rcases hk with h | h | h
    · exact iNetDo_start x a hs h3 h
    · exact iNetDo_give x a hs h3 h
    · exact iNetDo_lie x a hs h
  generalize netDo x a = r at cd ⊢
  obtain ⟨⟨N', P'⟩, b⟩ := r
  obtain ⟨N, P⟩ := x
  obtain ⟨a1, a2, a3, ⟨m1, m2, m3, m4, m5⟩⟩ := a
  dsimp only at *
  refine pcalls_ofR okP Try.func7 rfl ?_
  simp only [Try.f7, List.length_cons, List.length_nil, Nat.reduceAdd, Nat.reduceSub, List.replicate_succ, List.replicate_zero, List.cons_append, List.nil_append, List.length_map]
  repeat' (first | with_reducible refine PWp.seq ?_ | with_reducible refine PWp.block ?_ | with_reducible refine PWp.region okP true ?_ | with_reducible (first | refine pops_nil ?_ | refine pany_nil ?_ | refine pthen_normal ?_ | refine pblock_normal ?_ | refine pthen_ret ?_ | refine pblock_ret ?_ | refine pthen_exit ?_ | refine pblock_here ?_ | refine pblock_there rfl ?_ | refine PWp.ret ?_ | refine PWp.exit ?_ | refine PWp.skip ?_) | ((with_reducible refine hK _ ?_); clear hK K) | ((with_reducible refine PWp.condI ?_); refine ⟨_, rfl, fun hg => ?_, fun hg => ?_⟩ <;> first | (exact absurd hg (by decide)) | ((try simp only [Bool.not_true, Bool.not_false] at hg); (try simp only [hg]); (try simp only [push_cast] at hg); (try exact absurd trivial hg); (try (exfalso; omega)))) | ((with_reducible refine pops_plain fun K hK => popO_build ?_); refine ⟨_, rfl, _, rfl, ?_⟩; simp (disch := omega) only [push_cast, seval]) | ((with_reducible refine pbuild_cs ?_); refine ⟨_, rfl, _, rfl, ?_⟩; simp (disch := omega) only [push_cast, seval]) | ((with_reducible refine pops_plain fun K hK => ?_); simp (disch := omega) only [push_cast, seval]) | ((with_reducible show pcall _ _ _ _ _ _); (first | (refine pcV (g := 14) (callable_of Try.func14 rfl rfl) (co) ?_) | (refine pcF (g := 15) (callable_of Try.func15 rfl rfl) (cd) ?_)); (try simp (disch := omega) only [push_cast, seval])) | ((with_reducible refine And.intro ?_ ?_); omega))
  ((first | with_reducible (first | refine pendH1 [] ?_ ?_ ?_ ?_ ?_ | refine pendH2 [] ?_ ?_ ?_ ?_ ?_ | refine pendH3 [] ?_ ?_ ?_ ?_ ?_ | refine pendH0 [] ?_ ?_ ?_ ?_ ?_) | refine pendHG [] ?_ ?_ ?_ ?_ ?_); rotate_left 0; (· (first | exact .inl rfl | exact .inr rfl)); (· ((try (apply Exists.intro; apply And.intro; (· repeat' (first | exact presults_nil | apply presults_tmp | (apply presults_agg; (· exact rfl); (· exact rfl); (· exact rfl); (· exact rfl); (· exact rfl); (· first | exact Nat.le_refl _ | decide | simp)) | (apply presults_one; (· exact rfl); (· exact rfl); (· exact rfl); (· exact rfl); (· exact rfl)))))); (try simp (disch := omega) only [push_cast, seval]); (repeat' (first | exact trivial | exact rfl | refine And.intro ?_ ?_ | omega)))); (· ((try simp (disch := omega) only [push_cast, seval]); (repeat' (first | exact trivial | exact rfl | refine And.intro ?_ ?_ | omega)))); (· exact rfl); (· first | exact trivial | exact ⟨rfl, trivial⟩ | exact ⟨rfl, rfl, trivial⟩ | exact ⟨rfl, rfl, rfl, trivial⟩))
set_option maxHeartbeats 4000000 in
theorem iDecisions_p (x : GNet) (ok : netOk x = true) (hd : ∀ (k : Nat) n, x.fNodes[k]? = some n → n.fDecided = 11) : PCalls Try.prog 9 [.agg (pNet x)] [] (RH (.sl 1 [[.val (.int .i64 11)]]) []) := by
  obtain ⟨hs, h3⟩ := ok_nsm ok
  have co := iNetOk_p x hs
  rw [ok] at co
  have cs := sortI_p [11, 11, 11] (by simp)
  have cc := compactI_p [11, 11, 11] (by simp)
  rw [show sortI [11, 11, 11] = [11, 11, 11] from List.perm_replicate (n := 3) (a := (11 : Int)) |>.1 (List.mergeSort_perm _ _)] at cs
  rw [show Lib.compact [(11 : Int), 11, 11] = [11] by decide] at cc
  simp only [List.map_cons, List.map_nil, pInt] at cs cc
  suffices h : PCalls Try.prog 9 [.agg (pNet x)] [] (RH (.own 0) [some (.row 3 1 [[.val (.int .i64 11)]])]) from h.thawH 0 [] rfl (by simp [cloC]) rfl rfl trivial trivial
  obtain ⟨N, P⟩ := x
  dsimp only at *
  refine pcalls_ofR okP Try.func9 rfl ?_
  simp only [Try.f9, List.length_cons, List.length_nil, Nat.reduceAdd, Nat.reduceSub, List.replicate_succ, List.replicate_zero, List.cons_append, List.nil_append, List.length_map]
  repeat' (first | with_reducible refine PWp.seq ?_ | with_reducible refine PWp.block ?_ | with_reducible refine PWp.region okP true ?_ | with_reducible (first | refine pops_nil ?_ | refine pany_nil ?_ | refine pthen_normal ?_ | refine pblock_normal ?_ | refine pthen_ret ?_ | refine pblock_ret ?_ | refine pthen_exit ?_ | refine pblock_here ?_ | refine pblock_there rfl ?_ | refine PWp.ret ?_ | refine PWp.exit ?_ | refine PWp.skip ?_) | ((with_reducible refine hK _ ?_); clear hK K) | ((with_reducible refine PWp.condI ?_); refine ⟨_, rfl, fun hg => ?_, fun hg => ?_⟩ <;> first | (exact absurd hg (by decide)) | ((try simp only [Bool.not_true, Bool.not_false] at hg); (try simp only [hg]); (try simp only [push_cast] at hg); (try exact absurd trivial hg); (try (exfalso; omega)))) | ((with_reducible refine pops_plain fun K hK => popO_row ?_); refine ⟨_, _, _, _, _, rfl, rfl, rfl, rfl, rfl, ?_⟩; simp (disch := omega) only [push_cast, seval]) | ((with_reducible refine pops_plain fun K hK => ?_); simp (disch := omega) only [push_cast, seval]) | ((with_reducible show pcall _ _ _ _ _ _); (first | (refine pcV (g := 14) (callable_of Try.func14 rfl rfl) (co) ?_) | (refine pcall_RGf (g := 16) (callable_of Try.func16 rfl rfl) [?_] ?_ ?_ ?_ (sortI_p ?_ ?_) ?_; rotate_left 1; (· ((try simp (disch := omega) only [push_cast, seval]); (repeat' (first | exact trivial | exact rfl | refine And.intro ?_ ?_ | omega)))); (· (repeat' (first | exact trivial | refine And.intro ?_ ?_ | exact ⟨_, rfl⟩ | (simp (disch := omega) only [push_cast, seval]; done) | exact rfl))); (· exact rfl); rotate_right 1; rotate_left 1; (all_goals (try (first | omega | exact (show _ = _ by assumption))))) | (refine pcall_RGf (g := 17) (callable_of Try.func17 rfl rfl) [?_] ?_ ?_ ?_ (compactI_p ?_ ?_) ?_; rotate_left 1; (· ((try simp (disch := omega) only [push_cast, seval]); (repeat' (first | exact trivial | exact rfl | refine And.intro ?_ ?_ | omega)))); (· (repeat' (first | exact trivial | refine And.intro ?_ ?_ | exact ⟨_, rfl⟩ | (simp (disch := omega) only [push_cast, seval]; done) | exact rfl))); (· exact rfl); rotate_right 1; rotate_left 1; (all_goals (try (first | omega | exact (show _ = _ by assumption)))))); (try simp (disch := omega) only [push_cast, seval])) | ((with_reducible refine And.intro ?_ ?_); omega))
  refine PWp.loopK (α := Nat) (fun k => [(3, .own 0), (13, .val (.int .i64 (k : Int)))]) [0, 1, 4, 5, 6, 7, 8, 9, 10, 14, 15, 16, 17, 18, 19, 20, 21, 22, 23, 24, 25, 27] (fun k => [some (.row 3 1 (List.replicate k [.val (.int .i64 11)]))]) (fun k => k ≤ 3) (fun k => 3 - k) (0) (Nat.zero_le _) (by (refine ⟨[?_], ?_, ?_, ?_, ?_⟩; rotate_left 1; (· ((try simp (disch := omega) only [push_cast, seval]); (repeat' (first | exact trivial | exact rfl | refine And.intro ?_ ?_ | omega)))); (· ((try simp (disch := omega) only [push_cast, seval]); (repeat' (first | exact trivial | exact rfl | refine And.intro ?_ ?_ | omega)))); (· exact rfl); (· (first | exact trivial | exact ⟨rfl, trivial⟩ | exact ⟨rfl, rfl, trivial⟩ | exact ⟨rfl, rfl, rfl, trivial⟩)))) ?_
  intro k ρ hI
  (try dsimp only at hI)
  refine PWp.at (tm' := ?_) (H' := ?_) ?_ ?_ ?_; rotate_left 2; (· ((try simp only [push_cast, seval]); exact rfl)); (· ((try dsimp only); exact rfl))
  by_cases hlt : k < 3
  · obtain ⟨u, hx⟩ : ∃ u, N[k]? = some u := ⟨_, List.getElem?_eq_getElem (by omega)⟩
    have h11 := hd k u hx
    have hl3 : (k : Int) < (N.length : Int) := by omega
    obtain ⟨n1, n2, n3, n4, n5, n6, n7, n8, n9, l⟩ := u
    dsimp only at h11
    subst h11
    repeat' (first | with_reducible refine PWp.seq ?_ | with_reducible refine PWp.block ?_ | with_reducible refine PWp.region okP true ?_ | with_reducible (first | refine pops_nil ?_ | refine pany_nil ?_ | refine pthen_normal ?_ | refine pblock_normal ?_ | refine pthen_ret ?_ | refine pblock_ret ?_ | refine pthen_exit ?_ | refine pblock_here ?_ | refine pblock_there rfl ?_ | refine PWp.ret ?_ | refine PWp.exit ?_ | refine PWp.skip ?_) | ((with_reducible refine hK _ ?_); clear hK K) | ((with_reducible refine PWp.condI ?_); refine ⟨_, rfl, fun hg => ?_, fun hg => ?_⟩ <;> first | (exact absurd hg (by decide)) | ((try simp only [Bool.not_true, Bool.not_false] at hg); (try simp only [hg]); (try simp only [push_cast] at hg); (try exact absurd trivial hg); (try (exfalso; omega)))) | ((with_reducible refine pops_plain fun K hK => popO_row ?_); refine ⟨_, _, _, _, _, rfl, rfl, rfl, rfl, rfl, ?_⟩; simp (disch := omega) only [push_cast, seval, hx, List.length_replicate]) | ((with_reducible refine pops_plain fun K hK => ?_); simp (disch := omega) only [push_cast, seval, hx, List.length_replicate]) | ((with_reducible show pcall _ _ _ _ _ _); (first | (refine pcV (g := 14) (callable_of Try.func14 rfl rfl) (co) ?_) | (refine pcall_RGf (g := 16) (callable_of Try.func16 rfl rfl) [?_] ?_ ?_ ?_ (sortI_p ?_ ?_) ?_; rotate_left 1; (· ((try simp (disch := omega) only [push_cast, seval]); (repeat' (first | exact trivial | exact rfl | refine And.intro ?_ ?_ | omega)))); (· (repeat' (first | exact trivial | refine And.intro ?_ ?_ | exact ⟨_, rfl⟩ | (simp (disch := omega) only [push_cast, seval]; done) | exact rfl))); (· exact rfl); rotate_right 1; rotate_left 1; (all_goals (try (first | omega | exact (show _ = _ by assumption))))) | (refine pcall_RGf (g := 17) (callable_of Try.func17 rfl rfl) [?_] ?_ ?_ ?_ (compactI_p ?_ ?_) ?_; rotate_left 1; (· ((try simp (disch := omega) only [push_cast, seval]); (repeat' (first | exact trivial | exact rfl | refine And.intro ?_ ?_ | omega)))); (· (repeat' (first | exact trivial | refine And.intro ?_ ?_ | exact ⟨_, rfl⟩ | (simp (disch := omega) only [push_cast, seval]; done) | exact rfl))); (· exact rfl); rotate_right 1; rotate_left 1; (all_goals (try (first | omega | exact (show _ = _ by assumption)))))); (try simp (disch := omega) only [push_cast, seval, hx, List.length_replicate])) | ((with_reducible refine And.intro ?_ ?_); omega))
    (refine ⟨k + 1, by ((try dsimp only); omega), ?_, by (refine ⟨[?_], ?_, ?_, ?_, ?_⟩; rotate_left 1; (· ((first | simp (disch := omega) only [push_cast, seval, List.replicate_succ', List.map_replicate] | simp (disch := omega) only [push_cast, seval] | skip); (repeat' (first | exact trivial | exact rfl | refine And.intro ?_ ?_ | omega)))); (· ((first | simp (disch := omega) only [push_cast, seval, List.replicate_succ', List.map_replicate] | simp (disch := omega) only [push_cast, seval] | skip); (repeat' (first | exact trivial | exact rfl | refine And.intro ?_ ?_ | omega)))); (· exact rfl); (· (first | exact trivial | exact ⟨rfl, trivial⟩ | exact ⟨rfl, rfl, trivial⟩ | exact ⟨rfl, rfl, rfl, trivial⟩)))⟩)
    exact hlt
  obtain rfl : k = 3 := by omega
  simp only [List.replicate_succ, List.replicate_zero]
  repeat' (first | with_reducible refine PWp.seq ?_ | with_reducible refine PWp.block ?_ | with_reducible refine PWp.region okP true ?_ | with_reducible (first | refine pops_nil ?_ | refine pany_nil ?_ | refine pthen_normal ?_ | refine pblock_normal ?_ | refine pthen_ret ?_ | refine pblock_ret ?_ | refine pthen_exit ?_ | refine pblock_here ?_ | refine pblock_there rfl ?_ | refine PWp.ret ?_ | refine PWp.exit ?_ | refine PWp.skip ?_) | ((with_reducible refine hK _ ?_); clear hK K) | ((with_reducible refine PWp.condI ?_); refine ⟨_, rfl, fun hg => ?_, fun hg => ?_⟩ <;> first | (exact absurd hg (by decide)) | ((try simp only [Bool.not_true, Bool.not_false] at hg); (try simp only [hg]); (try simp only [push_cast] at hg); (try exact absurd trivial hg); (try (exfalso; omega)))) | ((with_reducible refine pops_plain fun K hK => popO_row ?_); refine ⟨_, _, _, _, _, rfl, rfl, rfl, rfl, rfl, ?_⟩; simp (disch := omega) only [push_cast, seval, h3]) | ((with_reducible refine pops_plain fun K hK => ?_); simp (disch := omega) only [push_cast, seval, h3]) | ((with_reducible show pcall _ _ _ _ _ _); (first | (refine pcV (g := 14) (callable_of Try.func14 rfl rfl) (co) ?_) | (refine pcall_RGf (g := 16) (callable_of Try.func16 rfl rfl) [?_] ?_ ?_ ?_ cs ?_; rotate_left 1; (· exact rfl); (· exact ⟨rfl, ⟨_, rfl⟩, rfl, trivial⟩); (· exact rfl); rotate_right 1; rotate_left 1) | (refine pcall_RGf (g := 17) (callable_of Try.func17 rfl rfl) [?_] ?_ ?_ ?_ cc ?_; rotate_left 1; (· exact rfl); (· exact ⟨rfl, ⟨_, rfl⟩, rfl, trivial⟩); (· exact rfl); rotate_right 1; rotate_left 1)); (try simp (disch := omega) only [push_cast, seval, h3])) | ((with_reducible refine And.intro ?_ ?_); omega))
  ((first | with_reducible (first | refine pendH1 [?_] ?_ ?_ ?_ ?_ ?_ | refine pendH2 [?_] ?_ ?_ ?_ ?_ ?_ | refine pendH3 [?_] ?_ ?_ ?_ ?_ ?_ | refine pendH0 [?_] ?_ ?_ ?_ ?_ ?_) | refine pendHG [?_] ?_ ?_ ?_ ?_ ?_); rotate_left 1; (· (first | exact .inl rfl | exact .inr rfl)); (· ((try (apply Exists.intro; apply And.intro; (· repeat' (first | exact presults_nil | apply presults_tmp | (apply presults_agg; (· exact rfl); (· exact rfl); (· exact rfl); (· exact rfl); (· exact rfl); (· first | exact Nat.le_refl _ | decide | simp)) | (apply presults_one; (· exact rfl); (· exact rfl); (· exact rfl); (· exact rfl); (· exact rfl)))))); (try simp (disch := omega) only [push_cast, seval]); (repeat' (first | exact trivial | exact rfl | refine And.intro ?_ ?_ | omega)))); (· ((try simp (disch := omega) only [push_cast, seval]); (repeat' (first | exact trivial | exact rfl | refine And.intro ?_ ?_ | omega)))); (· exact rfl); (· first | exact trivial | exact ⟨rfl, trivial⟩ | exact ⟨rfl, rfl, trivial⟩ | exact ⟨rfl, rfl, rfl, trivial⟩))
end Go.Proofs.Ytcbknmnlgoeniaa
