/- Walks on the pure machine: the smallest functions. -/
import Derived.Test.YtolabdbojephpaaDoorTys
import Derived.Test.YtolabdbojephpaaDoorM0
namespace Go.Proofs.YtolabdbojephpaaDoor
set_option linter.unusedSimpArgs false
set_option linter.unusedVariables false
open Go.RowKit
set_option maxRecDepth 100000

set_option maxHeartbeats 1000000 in
theorem l1In_p (x lo hi : Int) : PCalls Tryd.prog 38 [.val (.int .i64 x), .val (.int .i64 lo), .val (.int .i64 hi)] [] (RV (.val (.bool (inB x lo hi)))) := by
  refine pcalls_ofR okP Tryd.func38 rfl ?_
  simp only [Tryd.f38, List.length_cons, List.length_nil, Nat.reduceAdd, Nat.reduceSub, List.replicate_succ, List.replicate_zero, List.cons_append, List.nil_append, List.length_map]
  repeat' (first
      | with_reducible refine PWp.seq ?_
      | with_reducible refine PWp.block ?_
      | with_reducible refine PWp.region okP true ?_
      | with_reducible (first | refine pops_nil ?_ | refine pany_nil ?_ | refine pthen_normal ?_ | refine pblock_normal ?_ | refine pthen_ret ?_ | refine pblock_ret ?_ | refine pthen_exit ?_ | refine pblock_here ?_ | refine pblock_there rfl ?_ | refine PWp.ret ?_ | refine PWp.exit ?_ | refine PWp.skip ?_)
      | ((with_reducible refine hK _ ?_); clear hK K)
      | ((with_reducible refine PWp.condI ?_); refine ⟨_, rfl, fun hg => ?_, fun hg => ?_⟩ <;> first | (exact absurd hg (by decide)) | ((try simp only [Bool.not_true, Bool.not_false] at hg); (try simp only [hg]); (try simp only [push_cast] at hg); (try (exfalso; omega))))
      | ((first | ((with_reducible refine pops_guard0 ?_); refine ⟨_, rfl, fun K hK => ⟨rfl, ?_⟩⟩) | ((with_reducible refine pD_g0 ?_); refine ⟨_, rfl, rfl, ?_⟩)); (try simp (disch := omega) only [push_cast, Nat.reduceAdd, Nat.reduceSub, Nat.reduceMul, Nat.reduceLeDiff, Nat.reduceEqDiff, Int.reduceToNat, Int.reducePow, Int.reduceMul, Int.reduceAdd, Int.reduceNeg, ↓reduceIte, reduceCtorEq]))
      | ((with_reducible refine pany_I ?_); refine ⟨_, rfl, fun K hK => ?_⟩)
      | ((with_reducible refine pops_plain fun K hK => ?_); simp (disch := omega) only [push_cast, Nat.reduceAdd, Nat.reduceSub, Nat.reduceMul, Nat.reduceLeDiff, Nat.reduceEqDiff, Int.reduceToNat, Int.reducePow, Int.reduceMul, Int.reduceAdd, Int.reduceNeg, ↓reduceIte, reduceCtorEq])
      | ((first | ((with_reducible refine pD_y ?_ ?_); exact rfl) | ((with_reducible refine pD_x ?_ ?_); exact rfl)); simp (disch := omega) only [push_cast, Nat.reduceAdd, Nat.reduceSub, Nat.reduceMul, Nat.reduceLeDiff, Nat.reduceEqDiff, Int.reduceToNat, Int.reducePow, Int.reduceMul, Int.reduceAdd, Int.reduceNeg, ↓reduceIte, reduceCtorEq])
      | ((first | ((with_reducible refine pops_guard ?_); refine ⟨_, rfl, fun K hK => ⟨_, rfl, fun hg => ?_, fun hg => ?_⟩⟩) | ((first | ((with_reducible refine pD_gy ?_ ?_); exact rfl) | ((with_reducible refine pD_gx ?_ ?_); exact rfl)); refine ⟨_, rfl, _, rfl, fun hg => ?_, fun hg => ?_⟩)) <;> first | (exact absurd hg (by decide)) | ((try simp only [Bool.not_true, Bool.not_false] at hg); (try simp only [hg]); (try simp only [push_cast] at hg); (try (exfalso; omega)); (try simp (disch := omega) only [push_cast, Nat.reduceAdd, Nat.reduceSub, Nat.reduceMul, Nat.reduceLeDiff, Nat.reduceEqDiff, Int.reduceToNat, Int.reducePow, Int.reduceMul, Int.reduceAdd, Int.reduceNeg, ↓reduceIte, reduceCtorEq])))
      | ((with_reducible refine And.intro ?_ ?_); omega))
  all_goals
    ((first | with_reducible (first | refine pendV1 ?_ ?_ ?_ | refine pendV2 ?_ ?_ ?_ | refine pendV3 ?_ ?_ ?_ | refine pendV0 ?_ ?_ ?_) | refine pendVG ?_ (by repeat' (first | exact presults_nil | refine presults_tmp ?_ | refine presults_agg rfl rfl rfl rfl rfl (by first | exact Nat.le_refl _ | decide | simp) ?_ | refine presults_one rfl rfl rfl rfl rfl ?_)) ?_ ?_); (· (first | exact .inl rfl | exact .inr rfl)); rotate_left 1; (· exact rfl); (try simp only [push_cast, Nat.reduceAdd, Nat.reduceSub, Nat.reduceMul, Nat.reduceLeDiff, Nat.reduceEqDiff, Int.reduceToNat, Int.reducePow, Int.reduceMul, Int.reduceAdd, Int.reduceNeg, ↓reduceIte, reduceCtorEq]))
    simp [inB]
    omega
set_option maxHeartbeats 1000000 in
theorem within_p (x lo hi : Int) : PCalls Tryd.prog 50 [.val (.int .i64 x), .val (.int .i64 lo), .val (.int .i64 hi)] [] (RV (.val (.bool (inB x lo hi)))) := by
  refine pcalls_ofR okP Tryd.func50 rfl ?_
  simp only [Tryd.f50, List.length_cons, List.length_nil, Nat.reduceAdd, Nat.reduceSub, List.replicate_succ, List.replicate_zero, List.cons_append, List.nil_append, List.length_map]
  repeat' (first
      | with_reducible refine PWp.seq ?_
      | with_reducible refine PWp.block ?_
      | with_reducible refine PWp.region okP true ?_
      | with_reducible (first | refine pops_nil ?_ | refine pany_nil ?_ | refine pthen_normal ?_ | refine pblock_normal ?_ | refine pthen_ret ?_ | refine pblock_ret ?_ | refine pthen_exit ?_ | refine pblock_here ?_ | refine pblock_there rfl ?_ | refine PWp.ret ?_ | refine PWp.exit ?_ | refine PWp.skip ?_)
      | ((with_reducible refine hK _ ?_); clear hK K)
      | ((with_reducible refine PWp.condI ?_); refine ⟨_, rfl, fun hg => ?_, fun hg => ?_⟩ <;> first | (exact absurd hg (by decide)) | ((try simp only [Bool.not_true, Bool.not_false] at hg); (try simp only [hg]); (try simp only [push_cast] at hg); (try (exfalso; omega))))
      | ((first | ((with_reducible refine pops_guard0 ?_); refine ⟨_, rfl, fun K hK => ⟨rfl, ?_⟩⟩) | ((with_reducible refine pD_g0 ?_); refine ⟨_, rfl, rfl, ?_⟩)); (try simp (disch := omega) only [push_cast, Nat.reduceAdd, Nat.reduceSub, Nat.reduceMul, Nat.reduceLeDiff, Nat.reduceEqDiff, Int.reduceToNat, Int.reducePow, Int.reduceMul, Int.reduceAdd, Int.reduceNeg, ↓reduceIte, reduceCtorEq]))
      | ((with_reducible refine pany_I ?_); refine ⟨_, rfl, fun K hK => ?_⟩)
      | ((with_reducible refine pops_plain fun K hK => ?_); simp (disch := omega) only [push_cast, Nat.reduceAdd, Nat.reduceSub, Nat.reduceMul, Nat.reduceLeDiff, Nat.reduceEqDiff, Int.reduceToNat, Int.reducePow, Int.reduceMul, Int.reduceAdd, Int.reduceNeg, ↓reduceIte, reduceCtorEq])
      | ((first | ((with_reducible refine pD_y ?_ ?_); exact rfl) | ((with_reducible refine pD_x ?_ ?_); exact rfl)); simp (disch := omega) only [push_cast, Nat.reduceAdd, Nat.reduceSub, Nat.reduceMul, Nat.reduceLeDiff, Nat.reduceEqDiff, Int.reduceToNat, Int.reducePow, Int.reduceMul, Int.reduceAdd, Int.reduceNeg, ↓reduceIte, reduceCtorEq])
      | ((first | ((with_reducible refine pops_guard ?_); refine ⟨_, rfl, fun K hK => ⟨_, rfl, fun hg => ?_, fun hg => ?_⟩⟩) | ((first | ((with_reducible refine pD_gy ?_ ?_); exact rfl) | ((with_reducible refine pD_gx ?_ ?_); exact rfl)); refine ⟨_, rfl, _, rfl, fun hg => ?_, fun hg => ?_⟩)) <;> first | (exact absurd hg (by decide)) | ((try simp only [Bool.not_true, Bool.not_false] at hg); (try simp only [hg]); (try simp only [push_cast] at hg); (try (exfalso; omega)); (try simp (disch := omega) only [push_cast, Nat.reduceAdd, Nat.reduceSub, Nat.reduceMul, Nat.reduceLeDiff, Nat.reduceEqDiff, Int.reduceToNat, Int.reducePow, Int.reduceMul, Int.reduceAdd, Int.reduceNeg, ↓reduceIte, reduceCtorEq])))
      | ((with_reducible refine And.intro ?_ ?_); omega))
  all_goals
    ((first | with_reducible (first | refine pendV1 ?_ ?_ ?_ | refine pendV2 ?_ ?_ ?_ | refine pendV3 ?_ ?_ ?_ | refine pendV0 ?_ ?_ ?_) | refine pendVG ?_ (by repeat' (first | exact presults_nil | refine presults_tmp ?_ | refine presults_agg rfl rfl rfl rfl rfl (by first | exact Nat.le_refl _ | decide | simp) ?_ | refine presults_one rfl rfl rfl rfl rfl ?_)) ?_ ?_); (· (first | exact .inl rfl | exact .inr rfl)); rotate_left 1; (· exact rfl); (try simp only [push_cast, Nat.reduceAdd, Nat.reduceSub, Nat.reduceMul, Nat.reduceLeDiff, Nat.reduceEqDiff, Int.reduceToNat, Int.reducePow, Int.reduceMul, Int.reduceAdd, Int.reduceNeg, ↓reduceIte, reduceCtorEq]))
    simp [inB]
    omega
end Go.Proofs.YtolabdbojephpaaDoor
