/- What the proof leans on, part 6. -/
import Derived.Test.YtiboajlnjldalaaGreatDoorQC5
namespace Go.Proofs.YtiboajlnjldalaaGreatDoor
set_option linter.unusedSimpArgs false
set_option linter.unusedVariables false
open Go.RowKit
set_option maxRecDepth 100000
structure SmB (b : GBlock) : Prop where
  v : b.fVals.length ≤ 2000000
  n : b.fNext.length ≤ 2000000
  s : b.fCommit.fSigs.length ≤ 2000000
theorem blockOk_i (b : GBlock) : (valsOk b.fVals && valsOk b.fNext && headerOk b.fHead && eqB b.fHead.fVals (valsHash b.fVals) && eqB b.fHead.fNext (valsHash b.fNext) && commitOk b.fVals b.fHead b.fCommit) = blockOk b := by
  unfold blockOk commitOk
  rw [eqB_comm (s := valsHash b.fVals)]
  cases valsOk b.fVals <;> cases valsOk b.fNext <;> cases headerOk b.fHead <;> cases eqB b.fHead.fVals (valsHash b.fVals) <;> cases eqB b.fHead.fNext (valsHash b.fNext) <;> simp
set_option maxHeartbeats 1000000 in
theorem iBlockOk_p (b : GBlock) (hs : SmB b) : PCalls Tryz.prog 17 [.agg (pBlock b)] [] (RV (.val (.bool (blockOk b)))) := by
  obtain ⟨s1, s2, s3⟩ := hs
  rw [← blockOk_i]
  obtain ⟨h, vs, nx, ⟨ch, cr, ci, cs⟩⟩ := b
  dsimp only at s1 s2 s3
  refine pcalls_ofR okP Tryz.func17 rfl ?_
  simp only [Tryz.f17, List.length_cons, List.length_nil, Nat.reduceAdd, Nat.reduceSub, List.replicate_succ, List.replicate_zero, List.cons_append, List.nil_append, List.length_map]
  repeat' (first | with_reducible (first | refine wA ?_ | refine wB ?_ | refine wC ?_) | with_reducible refine PWp.draw (id := 1) okP true [0, 1, 2, 3, 4, 5, 6, 7, 8, 9, 10, 11, 12, 13, 14, 15, 16, 17, 18, 19, 20, 21, 22, 23, 24, 25, 26, 27, 28, 29, 30, 31, 32, 33, 34, 35, 36, 37, 38, 39, 40] (by kernel_rfl) ?_ | with_reducible (first | refine w1 ?_ | refine w2 ?_ | refine w3 ?_ | refine w4 ?_ | refine w5 ?_ | refine w6 ?_ | refine w7 ?_ | refine w8 ?_ | refine wT ?_ | refine w9 ?_ | refine wE ?_ | refine wS ?_) | ((with_reducible refine hK _ ?_); clear hK K) | ((first | ((with_reducible refine pops_guard0 ?_); refine ⟨_, rfl, fun K hK => ⟨rfl, ?_⟩⟩) | ((with_reducible refine pD_g0 ?_); refine ⟨_, rfl, rfl, ?_⟩)); (try simp (disch := omega) only [push_cast, seval])) | ((with_reducible refine pany_I ?_); refine ⟨_, rfl, fun K hK => ?_⟩) | ((with_reducible refine pops_plain fun K hK => ?_); simp (disch := omega) only [push_cast, seval]) | ((first | ((with_reducible refine pD_y ?_ ?_); exact rfl) | ((with_reducible refine pD_x ?_ ?_); exact rfl)); simp (disch := omega) only [push_cast, seval]) | ((first | ((with_reducible refine pops_guard ?_); refine ⟨_, rfl, fun K hK => ⟨_, rfl, fun hg => ?_, fun hg => ?_⟩⟩) | ((first | ((with_reducible refine pD_gy ?_ ?_); exact rfl) | ((with_reducible refine pD_gx ?_ ?_); exact rfl)); refine ⟨_, rfl, _, rfl, fun hg => ?_, fun hg => ?_⟩)) <;> first | (exact absurd hg (by decide)) | ((try simp only [Bool.not_true, Bool.not_false] at hg); (try simp only [hg]); (try simp only [push_cast] at hg); (try exact absurd trivial hg); (try (exfalso; omega)); (try simp (disch := omega) only [push_cast, seval]))) | ((with_reducible show pcall _ _ _ _ _ _); (first | (refine pcV (cf Tryz.func90) (iValsOk_p _ sd) ?_) | (refine pcV (cf Tryz.func90) (iValsOk_p _ sd) ?_) | (refine pcV (cf Tryz.func91) (iHeaderOk_p ⟨_, _, _, _, _, _⟩) ?_) | (refine pcV (cf Tryz.func92) (iValsHash_p _ sd) ?_) | (refine pcV (cf Tryz.func93) (iCommitOk_p _ ⟨_, _, _, _, _, _⟩ ⟨_, _, _, _⟩ sd sd) ?_)); (try simp (disch := omega) only [push_cast, seval])) | ((with_reducible refine And.intro ?_ ?_); omega))
  all_goals
    ((with_reducible show PPostR _ _ _ _ _ _); refine finV ?_; (try simp only [push_cast, seval]))
    simp_all
set_option maxHeartbeats 1000000 in
theorem sBlockOk_p (b : GBlock) (hs : SmB b) : PCalls Tryz.prog 29 [.agg (pBlock b)] [] (RV (.val (.bool (blockOk b)))) := by
  obtain ⟨s1, s2, s3⟩ := hs
  obtain ⟨h, vs, nx, ⟨ch, cr, ci, cs⟩⟩ := b
  dsimp only at s1 s2 s3
  refine pcalls_ofR okP Tryz.func29 rfl ?_
  simp only [Tryz.f29, List.length_cons, List.length_nil, Nat.reduceAdd, Nat.reduceSub, List.replicate_succ, List.replicate_zero, List.cons_append, List.nil_append, List.length_map]
  repeat' (first | with_reducible (first | refine wA ?_ | refine wB ?_ | refine wC ?_) | with_reducible refine PWp.draw (id := 1) okP true [0, 1, 2, 3, 4, 5, 6, 7, 8, 9, 10, 11, 12, 13, 14, 15, 16, 17, 18, 19, 20, 21] (by kernel_rfl) ?_ | with_reducible (first | refine w1 ?_ | refine w2 ?_ | refine w3 ?_ | refine w4 ?_ | refine w5 ?_ | refine w6 ?_ | refine w7 ?_ | refine w8 ?_ | refine wT ?_ | refine w9 ?_ | refine wE ?_ | refine wS ?_) | ((with_reducible refine hK _ ?_); clear hK K) | ((first | ((with_reducible refine pops_guard0 ?_); refine ⟨_, rfl, fun K hK => ⟨rfl, ?_⟩⟩) | ((with_reducible refine pD_g0 ?_); refine ⟨_, rfl, rfl, ?_⟩)); (try simp (disch := omega) only [push_cast, seval])) | ((with_reducible refine pany_I ?_); refine ⟨_, rfl, fun K hK => ?_⟩) | ((with_reducible refine pops_plain fun K hK => ?_); simp (disch := omega) only [push_cast, seval]) | ((first | ((with_reducible refine pD_y ?_ ?_); exact rfl) | ((with_reducible refine pD_x ?_ ?_); exact rfl)); simp (disch := omega) only [push_cast, seval]) | ((first | ((with_reducible refine pops_guard ?_); refine ⟨_, rfl, fun K hK => ⟨_, rfl, fun hg => ?_, fun hg => ?_⟩⟩) | ((first | ((with_reducible refine pD_gy ?_ ?_); exact rfl) | ((with_reducible refine pD_gx ?_ ?_); exact rfl)); refine ⟨_, rfl, _, rfl, fun hg => ?_, fun hg => ?_⟩)) <;> first | (exact absurd hg (by decide)) | ((try simp only [Bool.not_true, Bool.not_false] at hg); (try simp only [hg]); (try simp only [push_cast] at hg); (try exact absurd trivial hg); (try (exfalso; omega)); (try simp (disch := omega) only [push_cast, seval]))) | ((with_reducible show pcall _ _ _ _ _ _); (first | (refine pcV (cf Tryz.func83) (sValsHash_p _ sd) ?_) | (refine pcV (cf Tryz.func105) (sValsOk_p _ sd) ?_) | (refine pcV (cf Tryz.func106) (sCommitOk_p _ ⟨_, _, _, _, _, _⟩ ⟨_, _, _, _⟩ sd sd) ?_)); (try simp (disch := omega) only [push_cast, seval])) | ((with_reducible refine And.intro ?_ ?_); omega))
  all_goals
    ((with_reducible show PPostR _ _ _ _ _ _); refine finV ?_; (try simp only [push_cast, seval]))
    simp_all [blockOk]
theorem sameVals_no {a b : List GVal} {k : Nat} (hk : k < a.length) (h : sameAtV a b k = false) : sameVals a b = false := by unfold sameVals; rw [allN_no hk h, Bool.and_false]
theorem eqVals_p (a b : List GVal) (ha : a.length ≤ 2000000) (hb : b.length ≤ 2000000) : PCalls Tryz.prog 88 [.sl 2 (a.map pVal), .sl 2 (b.map pVal)] [] (RV (.val (.bool (sameVals a b)))) := by
  by_cases hl : a.length = b.length
  case neg =>
    have e : sameVals a b = false := by unfold sameVals; rw [decide_eq_false hl]; rfl
    rw [e]
    refine pcalls_ofR okP Tryz.func88 rfl ?_
    simp only [Tryz.f88, List.length_cons, List.length_nil, Nat.reduceAdd, Nat.reduceSub, List.replicate_succ, List.replicate_zero, List.cons_append, List.nil_append, List.length_map]
    repeat' (first | with_reducible (first | refine wA ?_ | refine wB ?_ | refine wC ?_) | with_reducible refine PWp.draw (id := 6) okP true [0, 1, 2, 3, 4, 5, 6, 7, 8] (by kernel_rfl) ?_ | with_reducible (first | refine w1 ?_ | refine w2 ?_ | refine w3 ?_ | refine w4 ?_ | refine w5 ?_ | refine w6 ?_ | refine w7 ?_ | refine w8 ?_ | refine wT ?_ | refine w9 ?_ | refine wE ?_ | refine wS ?_) | ((with_reducible refine hK _ ?_); clear hK K) | ((with_reducible refine PWp.condI ?_); refine ⟨_, rfl, fun hg => ?_, fun hg => ?_⟩ <;> first | (exact absurd hg (by decide)) | ((try simp only [Bool.not_true, Bool.not_false] at hg); (try simp only [hg]); (try simp only [push_cast] at hg); (try exact absurd trivial hg); (try (exfalso; omega)))) | ((with_reducible refine pany_I ?_); refine ⟨_, rfl, fun K hK => ?_⟩) | ((with_reducible refine pops_plain fun K hK => ?_); simp (disch := omega) only [push_cast, seval]) | ((first | ((with_reducible refine pD_y ?_ ?_); exact rfl) | ((with_reducible refine pD_x ?_ ?_); exact rfl)); simp (disch := omega) only [push_cast, seval]) | ((with_reducible refine And.intro ?_ ?_); omega))
    ((with_reducible show PPostR _ _ _ _ _ _); refine finV ?_; (try simp only [push_cast, seval]))
  refine pcalls_ofR okP Tryz.func88 rfl ?_
  simp only [Tryz.f88, List.length_cons, List.length_nil, Nat.reduceAdd, Nat.reduceSub, List.replicate_succ, List.replicate_zero, List.cons_append, List.nil_append, List.length_map]
  repeat' (first | with_reducible (first | refine wA ?_ | refine wB ?_ | refine wC ?_) | with_reducible refine PWp.draw (id := 6) okP true [0, 1, 2, 3, 4, 5, 6, 7, 8] (by kernel_rfl) ?_ | with_reducible (first | refine w1 ?_ | refine w2 ?_ | refine w3 ?_ | refine w4 ?_ | refine w5 ?_ | refine w6 ?_ | refine w7 ?_ | refine w8 ?_ | refine wT ?_ | refine w9 ?_ | refine wE ?_ | refine wS ?_) | ((with_reducible refine hK _ ?_); clear hK K) | ((with_reducible refine PWp.condI ?_); refine ⟨_, rfl, fun hg => ?_, fun hg => ?_⟩ <;> first | (exact absurd hg (by decide)) | ((try simp only [Bool.not_true, Bool.not_false] at hg); (try simp only [hg]); (try simp only [push_cast] at hg); (try exact absurd trivial hg); (try (exfalso; omega)))) | ((with_reducible refine pany_I ?_); refine ⟨_, rfl, fun K hK => ?_⟩) | ((with_reducible refine pops_plain fun K hK => ?_); simp (disch := omega) only [push_cast, seval]) | ((first | ((with_reducible refine pD_y ?_ ?_); exact rfl) | ((with_reducible refine pD_x ?_ ?_); exact rfl)); simp (disch := omega) only [push_cast, seval]) | ((with_reducible refine And.intro ?_ ?_); omega))
  refine PWp.loopK (α := Nat) (fun k => [(13, .val (.int .i64 (k : Int)))]) [2, 3, 4, 5, 6, 7, 8, 9, 10, 11, 14, 15, 16, 17, 18, 19, 20, 21, 22, 23, 24, 25] (fun k => []) (fun k => k ≤ a.length ∧ allTo (sameAtV a b) k) (fun k => a.length - k) (0) (⟨Nat.zero_le _, allTo_zero⟩) (by (refine ⟨[], ?_, ?_, ?_, ?_⟩; (· ((try simp (disch := omega) only [push_cast, seval]); (repeat' (first | exact trivial | exact rfl | refine And.intro ?_ ?_ | omega)))); (· ((try simp (disch := omega) only [push_cast, seval]); (repeat' (first | exact trivial | exact rfl | refine And.intro ?_ ?_ | omega)))); (· exact rfl); (· (first | exact trivial | exact ⟨rfl, trivial⟩ | exact ⟨rfl, rfl, trivial⟩)))) ?_
  intro k ρ hI
  (try dsimp only at hI)
  refine PWp.at (tm' := ?_) (H' := ?_) ?_ ?_ ?_; rotate_left 2; (· ((try simp only [push_cast, seval]); exact rfl)); (· ((try dsimp only); exact rfl))
  obtain ⟨hk, hA⟩ := hI
  by_cases hlt : k < a.length
  · obtain ⟨x, hx⟩ : ∃ x, a[k]? = some x := ⟨_, List.getElem?_eq_getElem hlt⟩
    obtain ⟨y, hy⟩ : ∃ y, b[k]? = some y := ⟨_, List.getElem?_eq_getElem (by omega)⟩
    have hs : sameAtV a b k = valEq x y := by unfold sameAtV; rw [hx, hy]
    cases he : valEq x y with
    | true =>
      have he' := he
      unfold valEq at he'
      repeat' (first | with_reducible (first | refine wA ?_ | refine wB ?_ | refine wC ?_) | with_reducible refine PWp.draw (id := 6) okP true [0, 1, 2, 3, 4, 5, 6, 7, 8] (by kernel_rfl) ?_ | with_reducible (first | refine w1 ?_ | refine w2 ?_ | refine w3 ?_ | refine w4 ?_ | refine w5 ?_ | refine w6 ?_ | refine w7 ?_ | refine w8 ?_ | refine wT ?_ | refine w9 ?_ | refine wE ?_ | refine wS ?_) | ((with_reducible refine hK _ ?_); clear hK K) | ((with_reducible refine PWp.condI ?_); refine ⟨_, rfl, fun hg => ?_, fun hg => ?_⟩ <;> first | (exact absurd hg (by decide)) | ((try simp only [Bool.not_true, Bool.not_false] at hg); (try simp only [hg]); (try simp only [push_cast] at hg); (try exact absurd trivial hg); (try (exfalso; omega)))) | ((with_reducible refine pany_I ?_); refine ⟨_, rfl, fun K hK => ?_⟩) | ((with_reducible refine pops_plain fun K hK => ?_); simp (disch := omega) only [push_cast, seval, hx, hy, he']) | ((first | ((with_reducible refine pD_y ?_ ?_); exact rfl) | ((with_reducible refine pD_x ?_ ?_); exact rfl)); simp (disch := omega) only [push_cast, seval, hx, hy, he']) | ((with_reducible refine And.intro ?_ ?_); omega))
      all_goals first
        | (exfalso; simp_all; done)
        | ((refine ⟨k + 1, by ((try dsimp only); omega), ?_, by (refine ⟨[], ?_, ?_, ?_, ?_⟩; (· ((try simp (disch := omega) only [push_cast, seval]); (repeat' (first | exact trivial | exact rfl | refine And.intro ?_ ?_ | omega)))); (· ((try simp (disch := omega) only [push_cast, seval]); (repeat' (first | exact trivial | exact rfl | refine And.intro ?_ ?_ | omega)))); (· exact rfl); (· (first | exact trivial | exact ⟨rfl, trivial⟩ | exact ⟨rfl, rfl, trivial⟩)))⟩); exact ⟨hlt, allTo_succ hA (hs.trans he)⟩)
    | false =>
      have he' := he
      unfold valEq at he'
      repeat' (first | with_reducible (first | refine wA ?_ | refine wB ?_ | refine wC ?_) | with_reducible refine PWp.draw (id := 6) okP true [0, 1, 2, 3, 4, 5, 6, 7, 8] (by kernel_rfl) ?_ | with_reducible (first | refine w1 ?_ | refine w2 ?_ | refine w3 ?_ | refine w4 ?_ | refine w5 ?_ | refine w6 ?_ | refine w7 ?_ | refine w8 ?_ | refine wT ?_ | refine w9 ?_ | refine wE ?_ | refine wS ?_) | ((with_reducible refine hK _ ?_); clear hK K) | ((with_reducible refine PWp.condI ?_); refine ⟨_, rfl, fun hg => ?_, fun hg => ?_⟩ <;> first | (exact absurd hg (by decide)) | ((try simp only [Bool.not_true, Bool.not_false] at hg); (try simp only [hg]); (try simp only [push_cast] at hg); (try exact absurd trivial hg); (try (exfalso; omega)))) | ((with_reducible refine pany_I ?_); refine ⟨_, rfl, fun K hK => ?_⟩) | ((with_reducible refine pops_plain fun K hK => ?_); simp (disch := omega) only [push_cast, seval, hx, hy, he']) | ((first | ((with_reducible refine pD_y ?_ ?_); exact rfl) | ((with_reducible refine pD_x ?_ ?_); exact rfl)); simp (disch := omega) only [push_cast, seval, hx, hy, he']) | ((with_reducible refine And.intro ?_ ?_); omega))
      all_goals first
        | (exfalso; simp_all; done)
        | (((with_reducible show PPostR _ _ _ _ _ _); refine finV ?_; (try simp only [push_cast, seval])); rw [sameVals_no hlt (hs.trans he)])
  obtain rfl : k = a.length := by omega
  repeat' (first | with_reducible (first | refine wA ?_ | refine wB ?_ | refine wC ?_) | with_reducible refine PWp.draw (id := 6) okP true [0, 1, 2, 3, 4, 5, 6, 7, 8] (by kernel_rfl) ?_ | with_reducible (first | refine w1 ?_ | refine w2 ?_ | refine w3 ?_ | refine w4 ?_ | refine w5 ?_ | refine w6 ?_ | refine w7 ?_ | refine w8 ?_ | refine wT ?_ | refine w9 ?_ | refine wE ?_ | refine wS ?_) | ((with_reducible refine hK _ ?_); clear hK K) | ((with_reducible refine PWp.condI ?_); refine ⟨_, rfl, fun hg => ?_, fun hg => ?_⟩ <;> first | (exact absurd hg (by decide)) | ((try simp only [Bool.not_true, Bool.not_false] at hg); (try simp only [hg]); (try simp only [push_cast] at hg); (try exact absurd trivial hg); (try (exfalso; omega)))) | ((with_reducible refine pany_I ?_); refine ⟨_, rfl, fun K hK => ?_⟩) | ((with_reducible refine pops_plain fun K hK => ?_); simp (disch := omega) only [push_cast, seval]) | ((first | ((with_reducible refine pD_y ?_ ?_); exact rfl) | ((with_reducible refine pD_x ?_ ?_); exact rfl)); simp (disch := omega) only [push_cast, seval]) | ((with_reducible refine And.intro ?_ ?_); omega))
  ((with_reducible show PPostR _ _ _ _ _ _); refine finV ?_; (try simp only [push_cast, seval]))
  unfold sameVals
  rw [decide_eq_true hl, allTo_end hA]
  rfl
theorem sSameVals_p (a b : List GVal) (ha : a.length ≤ 2000000) (hb : b.length ≤ 2000000) : PCalls Tryz.prog 89 [.sl 2 (a.map pVal), .sl 2 (b.map pVal)] [] (RV (.val (.bool (sameVals a b)))) := by
  by_cases hl : a.length = b.length
  case neg =>
    have e : sameVals a b = false := by unfold sameVals; rw [decide_eq_false hl]; rfl
    rw [e]
    refine pcalls_ofR okP Tryz.func89 rfl ?_
    simp only [Tryz.f89, List.length_cons, List.length_nil, Nat.reduceAdd, Nat.reduceSub, List.replicate_succ, List.replicate_zero, List.cons_append, List.nil_append, List.length_map]
    repeat' (first | with_reducible (first | refine wA ?_ | refine wB ?_ | refine wC ?_) | with_reducible refine PWp.draw (id := 6) okP true [0, 1, 2, 3, 4, 5, 6, 7, 8] (by kernel_rfl) ?_ | with_reducible (first | refine w1 ?_ | refine w2 ?_ | refine w3 ?_ | refine w4 ?_ | refine w5 ?_ | refine w6 ?_ | refine w7 ?_ | refine w8 ?_ | refine wT ?_ | refine w9 ?_ | refine wE ?_ | refine wS ?_) | ((with_reducible refine hK _ ?_); clear hK K) | ((with_reducible refine PWp.condI ?_); refine ⟨_, rfl, fun hg => ?_, fun hg => ?_⟩ <;> first | (exact absurd hg (by decide)) | ((try simp only [Bool.not_true, Bool.not_false] at hg); (try simp only [hg]); (try simp only [push_cast] at hg); (try exact absurd trivial hg); (try (exfalso; omega)))) | ((with_reducible refine pany_I ?_); refine ⟨_, rfl, fun K hK => ?_⟩) | ((with_reducible refine pops_plain fun K hK => ?_); simp (disch := omega) only [push_cast, seval]) | ((first | ((with_reducible refine pD_y ?_ ?_); exact rfl) | ((with_reducible refine pD_x ?_ ?_); exact rfl)); simp (disch := omega) only [push_cast, seval]) | ((with_reducible refine And.intro ?_ ?_); omega))
    ((with_reducible show PPostR _ _ _ _ _ _); refine finV ?_; (try simp only [push_cast, seval]))
  refine pcalls_ofR okP Tryz.func89 rfl ?_
  simp only [Tryz.f89, List.length_cons, List.length_nil, Nat.reduceAdd, Nat.reduceSub, List.replicate_succ, List.replicate_zero, List.cons_append, List.nil_append, List.length_map]
  repeat' (first | with_reducible (first | refine wA ?_ | refine wB ?_ | refine wC ?_) | with_reducible refine PWp.draw (id := 6) okP true [0, 1, 2, 3, 4, 5, 6, 7, 8] (by kernel_rfl) ?_ | with_reducible (first | refine w1 ?_ | refine w2 ?_ | refine w3 ?_ | refine w4 ?_ | refine w5 ?_ | refine w6 ?_ | refine w7 ?_ | refine w8 ?_ | refine wT ?_ | refine w9 ?_ | refine wE ?_ | refine wS ?_) | ((with_reducible refine hK _ ?_); clear hK K) | ((with_reducible refine PWp.condI ?_); refine ⟨_, rfl, fun hg => ?_, fun hg => ?_⟩ <;> first | (exact absurd hg (by decide)) | ((try simp only [Bool.not_true, Bool.not_false] at hg); (try simp only [hg]); (try simp only [push_cast] at hg); (try exact absurd trivial hg); (try (exfalso; omega)))) | ((with_reducible refine pany_I ?_); refine ⟨_, rfl, fun K hK => ?_⟩) | ((with_reducible refine pops_plain fun K hK => ?_); simp (disch := omega) only [push_cast, seval]) | ((first | ((with_reducible refine pD_y ?_ ?_); exact rfl) | ((with_reducible refine pD_x ?_ ?_); exact rfl)); simp (disch := omega) only [push_cast, seval]) | ((with_reducible refine And.intro ?_ ?_); omega))
  refine PWp.loopK (α := Nat) (fun k => [(5, .val (.int .i64 (k : Int)))]) [2, 3, 4, 6, 7, 8, 9, 10, 11, 12, 13, 14, 15, 16, 17, 18, 19, 20, 21, 22, 23, 24, 25] (fun k => []) (fun k => k ≤ a.length ∧ allTo (sameAtV a b) k) (fun k => a.length - k) (0) (⟨Nat.zero_le _, allTo_zero⟩) (by (refine ⟨[], ?_, ?_, ?_, ?_⟩; (· ((try simp (disch := omega) only [push_cast, seval]); (repeat' (first | exact trivial | exact rfl | refine And.intro ?_ ?_ | omega)))); (· ((try simp (disch := omega) only [push_cast, seval]); (repeat' (first | exact trivial | exact rfl | refine And.intro ?_ ?_ | omega)))); (· exact rfl); (· (first | exact trivial | exact ⟨rfl, trivial⟩ | exact ⟨rfl, rfl, trivial⟩)))) ?_
  intro k ρ hI
  (try dsimp only at hI)
  refine PWp.at (tm' := ?_) (H' := ?_) ?_ ?_ ?_; rotate_left 2; (· ((try simp only [push_cast, seval]); exact rfl)); (· ((try dsimp only); exact rfl))
  obtain ⟨hk, hA⟩ := hI
  by_cases hlt : k < a.length
  · obtain ⟨x, hx⟩ : ∃ x, a[k]? = some x := ⟨_, List.getElem?_eq_getElem hlt⟩
    obtain ⟨y, hy⟩ : ∃ y, b[k]? = some y := ⟨_, List.getElem?_eq_getElem (by omega)⟩
    have hs : sameAtV a b k = valEq x y := by unfold sameAtV; rw [hx, hy]
    cases he : valEq x y with
    | true =>
      have he' := he
      unfold valEq at he'
      repeat' (first | with_reducible (first | refine wA ?_ | refine wB ?_ | refine wC ?_) | with_reducible refine PWp.draw (id := 6) okP true [0, 1, 2, 3, 4, 5, 6, 7, 8] (by kernel_rfl) ?_ | with_reducible (first | refine w1 ?_ | refine w2 ?_ | refine w3 ?_ | refine w4 ?_ | refine w5 ?_ | refine w6 ?_ | refine w7 ?_ | refine w8 ?_ | refine wT ?_ | refine w9 ?_ | refine wE ?_ | refine wS ?_) | ((with_reducible refine hK _ ?_); clear hK K) | ((with_reducible refine PWp.condI ?_); refine ⟨_, rfl, fun hg => ?_, fun hg => ?_⟩ <;> first | (exact absurd hg (by decide)) | ((try simp only [Bool.not_true, Bool.not_false] at hg); (try simp only [hg]); (try simp only [push_cast] at hg); (try exact absurd trivial hg); (try (exfalso; omega)))) | ((with_reducible refine pany_I ?_); refine ⟨_, rfl, fun K hK => ?_⟩) | ((with_reducible refine pops_plain fun K hK => ?_); simp (disch := omega) only [push_cast, seval, hx, hy, he']) | ((first | ((with_reducible refine pD_y ?_ ?_); exact rfl) | ((with_reducible refine pD_x ?_ ?_); exact rfl)); simp (disch := omega) only [push_cast, seval, hx, hy, he']) | ((with_reducible refine And.intro ?_ ?_); omega))
      all_goals first
        | (exfalso; simp_all; done)
        | ((refine ⟨k + 1, by ((try dsimp only); omega), ?_, by (refine ⟨[], ?_, ?_, ?_, ?_⟩; (· ((try simp (disch := omega) only [push_cast, seval]); (repeat' (first | exact trivial | exact rfl | refine And.intro ?_ ?_ | omega)))); (· ((try simp (disch := omega) only [push_cast, seval]); (repeat' (first | exact trivial | exact rfl | refine And.intro ?_ ?_ | omega)))); (· exact rfl); (· (first | exact trivial | exact ⟨rfl, trivial⟩ | exact ⟨rfl, rfl, trivial⟩)))⟩); exact ⟨hlt, allTo_succ hA (hs.trans he)⟩)
    | false =>
      have he' := he
      unfold valEq at he'
      repeat' (first | with_reducible (first | refine wA ?_ | refine wB ?_ | refine wC ?_) | with_reducible refine PWp.draw (id := 6) okP true [0, 1, 2, 3, 4, 5, 6, 7, 8] (by kernel_rfl) ?_ | with_reducible (first | refine w1 ?_ | refine w2 ?_ | refine w3 ?_ | refine w4 ?_ | refine w5 ?_ | refine w6 ?_ | refine w7 ?_ | refine w8 ?_ | refine wT ?_ | refine w9 ?_ | refine wE ?_ | refine wS ?_) | ((with_reducible refine hK _ ?_); clear hK K) | ((with_reducible refine PWp.condI ?_); refine ⟨_, rfl, fun hg => ?_, fun hg => ?_⟩ <;> first | (exact absurd hg (by decide)) | ((try simp only [Bool.not_true, Bool.not_false] at hg); (try simp only [hg]); (try simp only [push_cast] at hg); (try exact absurd trivial hg); (try (exfalso; omega)))) | ((with_reducible refine pany_I ?_); refine ⟨_, rfl, fun K hK => ?_⟩) | ((with_reducible refine pops_plain fun K hK => ?_); simp (disch := omega) only [push_cast, seval, hx, hy, he']) | ((first | ((with_reducible refine pD_y ?_ ?_); exact rfl) | ((with_reducible refine pD_x ?_ ?_); exact rfl)); simp (disch := omega) only [push_cast, seval, hx, hy, he']) | ((with_reducible refine And.intro ?_ ?_); omega))
      all_goals first
        | (exfalso; simp_all; done)
        | (((with_reducible show PPostR _ _ _ _ _ _); refine finV ?_; (try simp only [push_cast, seval])); rw [sameVals_no hlt (hs.trans he)])
  obtain rfl : k = a.length := by omega
  repeat' (first | with_reducible (first | refine wA ?_ | refine wB ?_ | refine wC ?_) | with_reducible refine PWp.draw (id := 6) okP true [0, 1, 2, 3, 4, 5, 6, 7, 8] (by kernel_rfl) ?_ | with_reducible (first | refine w1 ?_ | refine w2 ?_ | refine w3 ?_ | refine w4 ?_ | refine w5 ?_ | refine w6 ?_ | refine w7 ?_ | refine w8 ?_ | refine wT ?_ | refine w9 ?_ | refine wE ?_ | refine wS ?_) | ((with_reducible refine hK _ ?_); clear hK K) | ((with_reducible refine PWp.condI ?_); refine ⟨_, rfl, fun hg => ?_, fun hg => ?_⟩ <;> first | (exact absurd hg (by decide)) | ((try simp only [Bool.not_true, Bool.not_false] at hg); (try simp only [hg]); (try simp only [push_cast] at hg); (try exact absurd trivial hg); (try (exfalso; omega)))) | ((with_reducible refine pany_I ?_); refine ⟨_, rfl, fun K hK => ?_⟩) | ((with_reducible refine pops_plain fun K hK => ?_); simp (disch := omega) only [push_cast, seval]) | ((first | ((with_reducible refine pD_y ?_ ?_); exact rfl) | ((with_reducible refine pD_x ?_ ?_); exact rfl)); simp (disch := omega) only [push_cast, seval]) | ((with_reducible refine And.intro ?_ ?_); omega))
  ((with_reducible show PPostR _ _ _ _ _ _); refine finV ?_; (try simp only [push_cast, seval]))
  unfold sameVals
  rw [decide_eq_true hl, allTo_end hA]
  rfl
theorem blockOk_head {b : GBlock} (h : blockOk b = true) : headerOk b.fHead = true := by
  unfold blockOk commitOk at h
  simp only [Bool.and_eq_true] at h
  exact h.2.1.1.1.1.2
set_option maxHeartbeats 2000000 in
theorem iChainOk_p (l : List GBlock) (hl : l.length ≤ 2000000) (hs : ∀ b ∈ l, SmB b) : PCalls Tryz.prog 15 [.sl 12 (l.map pBlock)] [] (RV (.val (.bool (chainOk l)))) := by
  refine pcalls_ofR okP Tryz.func15 rfl ?_
  simp only [Tryz.f15, List.length_cons, List.length_nil, Nat.reduceAdd, Nat.reduceSub, List.replicate_succ, List.replicate_zero, List.cons_append, List.nil_append, List.length_map]
  repeat' (first | with_reducible (first | refine wA ?_ | refine wB ?_ | refine wC ?_) | with_reducible refine PWp.draw (id := 8) okP true [0, 1, 2, 3, 4, 5, 6, 7, 8, 9, 10, 11, 12, 13, 14, 15, 16, 17, 18, 19, 20, 21, 22, 23, 24, 25, 26, 27, 28, 29, 30, 31, 32, 33] (by kernel_rfl) ?_ | with_reducible (first | refine w1 ?_ | refine w2 ?_ | refine w3 ?_ | refine w4 ?_ | refine w5 ?_ | refine w6 ?_ | refine w7 ?_ | refine w8 ?_ | refine wT ?_ | refine w9 ?_ | refine wE ?_ | refine wS ?_) | ((with_reducible refine hK _ ?_); clear hK K) | ((with_reducible refine PWp.condI ?_); refine ⟨_, rfl, fun hg => ?_, fun hg => ?_⟩ <;> first | (exact absurd hg (by decide)) | ((try simp only [Bool.not_true, Bool.not_false] at hg); (try simp only [hg]); (try simp only [push_cast] at hg); (try exact absurd trivial hg); (try (exfalso; omega)))) | ((first | ((with_reducible refine pops_guard0 ?_); refine ⟨_, rfl, fun K hK => ⟨rfl, ?_⟩⟩) | ((with_reducible refine pD_g0 ?_); refine ⟨_, rfl, rfl, ?_⟩)); (try simp (disch := omega) only [push_cast, seval])) | ((with_reducible refine pany_I ?_); refine ⟨_, rfl, fun K hK => ?_⟩) | ((with_reducible refine pops_plain fun K hK => ?_); simp (disch := omega) only [push_cast, seval]) | ((first | ((with_reducible refine pD_y ?_ ?_); exact rfl) | ((with_reducible refine pD_x ?_ ?_); exact rfl)); simp (disch := omega) only [push_cast, seval]) | ((first | ((with_reducible refine pops_guard ?_); refine ⟨_, rfl, fun K hK => ⟨_, rfl, fun hg => ?_, fun hg => ?_⟩⟩) | ((first | ((with_reducible refine pD_gy ?_ ?_); exact rfl) | ((with_reducible refine pD_gx ?_ ?_); exact rfl)); refine ⟨_, rfl, _, rfl, fun hg => ?_, fun hg => ?_⟩)) <;> first | (exact absurd hg (by decide)) | ((try simp only [Bool.not_true, Bool.not_false] at hg); (try simp only [hg]); (try simp only [push_cast] at hg); (try exact absurd trivial hg); (try (exfalso; omega)); (try simp (disch := omega) only [push_cast, seval]))) | ((with_reducible show pcall _ _ _ _ _ _); (first | (refine pcV (cf Tryz.func17) (iBlockOk_p ⟨⟨_, _, _, _, _, _⟩, _, _, ⟨_, _, _, _⟩⟩ (by first | assumption | exact ⟨by (first | assumption | omega | (simp; omega) | (simp_all; done) | (simp_all; omega)), by (first | assumption | omega | (simp; omega) | (simp_all; done) | (simp_all; omega)), by (first | assumption | omega | (simp; omega) | (simp_all; done) | (simp_all; omega))⟩)) ?_) | (refine pcV (cf Tryz.func87) (iHeadId_p ⟨_, _, _, _, _, _⟩) ?_) | (refine pcV (cf Tryz.func88) (eqVals_p _ _ sd sd) ?_)); (try simp (disch := omega) only [push_cast, seval])) | ((with_reducible refine And.intro ?_ ?_); omega))
  refine PWp.loopK (α := Nat) (fun k => [(8, .val (.int .i64 (k : Int)))]) [1, 2, 3, 4, 5, 9, 10, 11, 12, 13, 14, 15, 16, 17, 18, 19, 20, 21, 22, 23, 24, 25, 26, 27, 28, 29, 30, 31, 32, 33, 34, 35, 36, 37, 38, 39, 40, 41, 42, 43, 44, 45, 46, 47, 48, 49, 50, 51, 52, 53, 54, 55, 56, 57] (fun k => []) (fun k => k ≤ l.length ∧ allTo (adjAt blockOk blockLink l) k) (fun k => l.length - k) (0) (⟨Nat.zero_le _, allTo_zero⟩) (by (refine ⟨[], ?_, ?_, ?_, ?_⟩; (· ((try simp (disch := omega) only [push_cast, seval]); (repeat' (first | exact trivial | exact rfl | refine And.intro ?_ ?_ | omega)))); (· ((try simp (disch := omega) only [push_cast, seval]); (repeat' (first | exact trivial | exact rfl | refine And.intro ?_ ?_ | omega)))); (· exact rfl); (· (first | exact trivial | exact ⟨rfl, trivial⟩ | exact ⟨rfl, rfl, trivial⟩)))) ?_
  intro k ρ hI
  (try dsimp only at hI)
  refine PWp.at (tm' := ?_) (H' := ?_) ?_ ?_ ?_; rotate_left 2; (· ((try simp only [push_cast, seval]); exact rfl)); (· ((try dsimp only); exact rfl))
  obtain ⟨hk, hA⟩ := hI
  by_cases hlt : k < l.length
  · obtain ⟨x, hx⟩ : ∃ x, l[k]? = some x := ⟨_, List.getElem?_eq_getElem hlt⟩
    have bad : adjAt blockOk blockLink l k = false → chainOk l = false := fun h => adjOk_no hlt h
    obtain ⟨s1, s2, s3⟩ := hs x (List.mem_of_getElem? hx)
    cases k with
    | zero =>
      have e := adjAt_zero (f := blockOk) (g := blockLink) hx
      obtain ⟨h, vs, nx, ⟨ch, cr, ci, cs⟩⟩ := x
      dsimp only at s1 s2 s3
      repeat' (first | with_reducible (first | refine wA ?_ | refine wB ?_ | refine wC ?_) | with_reducible refine PWp.draw (id := 8) okP true [0, 1, 2, 3, 4, 5, 6, 7, 8, 9, 10, 11, 12, 13, 14, 15, 16, 17, 18, 19, 20, 21, 22, 23, 24, 25, 26, 27, 28, 29, 30, 31, 32, 33] (by kernel_rfl) ?_ | with_reducible (first | refine w1 ?_ | refine w2 ?_ | refine w3 ?_ | refine w4 ?_ | refine w5 ?_ | refine w6 ?_ | refine w7 ?_ | refine w8 ?_ | refine wT ?_ | refine w9 ?_ | refine wE ?_ | refine wS ?_) | ((with_reducible refine hK _ ?_); clear hK K) | ((with_reducible refine PWp.condI ?_); refine ⟨_, rfl, fun hg => ?_, fun hg => ?_⟩ <;> first | (exact absurd hg (by decide)) | ((try simp only [Bool.not_true, Bool.not_false] at hg); (try simp only [hg]); (try simp only [push_cast] at hg); (try exact absurd trivial hg); (try (exfalso; omega)))) | ((first | ((with_reducible refine pops_guard0 ?_); refine ⟨_, rfl, fun K hK => ⟨rfl, ?_⟩⟩) | ((with_reducible refine pD_g0 ?_); refine ⟨_, rfl, rfl, ?_⟩)); (try simp (disch := omega) only [push_cast, seval, hx])) | ((with_reducible refine pany_I ?_); refine ⟨_, rfl, fun K hK => ?_⟩) | ((with_reducible refine pops_plain fun K hK => ?_); simp (disch := omega) only [push_cast, seval, hx]) | ((first | ((with_reducible refine pD_y ?_ ?_); exact rfl) | ((with_reducible refine pD_x ?_ ?_); exact rfl)); simp (disch := omega) only [push_cast, seval, hx]) | ((first | ((with_reducible refine pops_guard ?_); refine ⟨_, rfl, fun K hK => ⟨_, rfl, fun hg => ?_, fun hg => ?_⟩⟩) | ((first | ((with_reducible refine pD_gy ?_ ?_); exact rfl) | ((with_reducible refine pD_gx ?_ ?_); exact rfl)); refine ⟨_, rfl, _, rfl, fun hg => ?_, fun hg => ?_⟩)) <;> first | (exact absurd hg (by decide)) | ((try simp only [Bool.not_true, Bool.not_false] at hg); (try simp only [hg]); (try simp only [push_cast] at hg); (try exact absurd trivial hg); (try (exfalso; omega)); (try simp (disch := omega) only [push_cast, seval, hx]))) | ((with_reducible show pcall _ _ _ _ _ _); (first | (refine pcV (cf Tryz.func17) (iBlockOk_p ⟨⟨_, _, _, _, _, _⟩, _, _, ⟨_, _, _, _⟩⟩ (by first | assumption | exact ⟨by (first | assumption | omega | (simp; omega) | (simp_all; done) | (simp_all; omega)), by (first | assumption | omega | (simp; omega) | (simp_all; done) | (simp_all; omega)), by (first | assumption | omega | (simp; omega) | (simp_all; done) | (simp_all; omega))⟩)) ?_) | (refine pcV (cf Tryz.func87) (iHeadId_p ⟨_, _, _, _, _, _⟩) ?_) | (refine pcV (cf Tryz.func88) (eqVals_p _ _ sd sd) ?_)); (try simp (disch := omega) only [push_cast, seval, hx])) | ((with_reducible refine And.intro ?_ ?_); omega))
      all_goals first
        | (((with_reducible show PPostR _ _ _ _ _ _); refine finV ?_; (try simp only [push_cast, seval])); rw [bad (by rw [e]; simp_all)])
        | ((refine ⟨1, by ((try dsimp only); omega), ?_, by (refine ⟨[], ?_, ?_, ?_, ?_⟩; (· ((try simp (disch := omega) only [push_cast, seval]); (repeat' (first | exact trivial | exact rfl | refine And.intro ?_ ?_ | omega)))); (· ((try simp (disch := omega) only [push_cast, seval]); (repeat' (first | exact trivial | exact rfl | refine And.intro ?_ ?_ | omega)))); (· exact rfl); (· (first | exact trivial | exact ⟨rfl, trivial⟩ | exact ⟨rfl, rfl, trivial⟩)))⟩); exact ⟨by omega, allTo_succ hA (by rw [e]; simp_all)⟩)
    | succ j =>
      obtain ⟨y, hy⟩ : ∃ y, l[j]? = some y := ⟨_, List.getElem?_eq_getElem (by omega)⟩
      have e := adjAt_succ (f := blockOk) (g := blockLink) hx hy
      have by' := headerOk_facts (blockOk_head (adjAt_f (hA j (by omega)) hy))
      have b1 := by'.h1; have b2 := by'.h2
      clear by'
      obtain ⟨t1, t2, t3⟩ := hs y (List.mem_of_getElem? hy)
      obtain ⟨h, vs, nx, ⟨ch, cr, ci, cs⟩⟩ := x
      obtain ⟨yh, yv, yn, ⟨yc, yr, yi, ys⟩⟩ := y
      dsimp only at s1 s2 s3 t1 t2 t3 b1 b2
      repeat' (first | with_reducible (first | refine wA ?_ | refine wB ?_ | refine wC ?_) | with_reducible refine PWp.draw (id := 8) okP true [0, 1, 2, 3, 4, 5, 6, 7, 8, 9, 10, 11, 12, 13, 14, 15, 16, 17, 18, 19, 20, 21, 22, 23, 24, 25, 26, 27, 28, 29, 30, 31, 32, 33] (by kernel_rfl) ?_ | with_reducible (first | refine w1 ?_ | refine w2 ?_ | refine w3 ?_ | refine w4 ?_ | refine w5 ?_ | refine w6 ?_ | refine w7 ?_ | refine w8 ?_ | refine wT ?_ | refine w9 ?_ | refine wE ?_ | refine wS ?_) | ((with_reducible refine hK _ ?_); clear hK K) | ((with_reducible refine PWp.condI ?_); refine ⟨_, rfl, fun hg => ?_, fun hg => ?_⟩ <;> first | (exact absurd hg (by decide)) | ((try simp only [Bool.not_true, Bool.not_false] at hg); (try simp only [hg]); (try simp only [push_cast] at hg); (try exact absurd trivial hg); (try (exfalso; omega)))) | ((first | ((with_reducible refine pops_guard0 ?_); refine ⟨_, rfl, fun K hK => ⟨rfl, ?_⟩⟩) | ((with_reducible refine pD_g0 ?_); refine ⟨_, rfl, rfl, ?_⟩)); (try simp (disch := omega) only [push_cast, seval, hx, hy])) | ((with_reducible refine pany_I ?_); refine ⟨_, rfl, fun K hK => ?_⟩) | ((with_reducible refine pops_plain fun K hK => ?_); simp (disch := omega) only [push_cast, seval, hx, hy]) | ((first | ((with_reducible refine pD_y ?_ ?_); exact rfl) | ((with_reducible refine pD_x ?_ ?_); exact rfl)); simp (disch := omega) only [push_cast, seval, hx, hy]) | ((first | ((with_reducible refine pops_guard ?_); refine ⟨_, rfl, fun K hK => ⟨_, rfl, fun hg => ?_, fun hg => ?_⟩⟩) | ((first | ((with_reducible refine pD_gy ?_ ?_); exact rfl) | ((with_reducible refine pD_gx ?_ ?_); exact rfl)); refine ⟨_, rfl, _, rfl, fun hg => ?_, fun hg => ?_⟩)) <;> first | (exact absurd hg (by decide)) | ((try simp only [Bool.not_true, Bool.not_false] at hg); (try simp only [hg]); (try simp only [push_cast] at hg); (try exact absurd trivial hg); (try (exfalso; omega)); (try simp (disch := omega) only [push_cast, seval, hx, hy]))) | ((with_reducible show pcall _ _ _ _ _ _); (first | (refine pcV (cf Tryz.func17) (iBlockOk_p ⟨⟨_, _, _, _, _, _⟩, _, _, ⟨_, _, _, _⟩⟩ (by first | assumption | exact ⟨by (first | assumption | omega | (simp; omega) | (simp_all; done) | (simp_all; omega)), by (first | assumption | omega | (simp; omega) | (simp_all; done) | (simp_all; omega)), by (first | assumption | omega | (simp; omega) | (simp_all; done) | (simp_all; omega))⟩)) ?_) | (refine pcV (cf Tryz.func87) (iHeadId_p ⟨_, _, _, _, _, _⟩) ?_) | (refine pcV (cf Tryz.func88) (eqVals_p _ _ sd sd) ?_)); (try simp (disch := omega) only [push_cast, seval, hx, hy])) | ((with_reducible refine And.intro ?_ ?_); omega))
      all_goals first
        | (((with_reducible show PPostR _ _ _ _ _ _); refine finV ?_; (try simp only [push_cast, seval])); rw [bad (by rw [e]; (first | (simp_all [blockLink]; done) | (simp_all [blockLink]; omega)))])
        | ((refine ⟨j + 2, by ((try dsimp only); omega), ?_, by (refine ⟨[], ?_, ?_, ?_, ?_⟩; (· ((try simp (disch := omega) only [push_cast, seval]); (repeat' (first | exact trivial | exact rfl | refine And.intro ?_ ?_ | omega)))); (· ((try simp (disch := omega) only [push_cast, seval]); (repeat' (first | exact trivial | exact rfl | refine And.intro ?_ ?_ | omega)))); (· exact rfl); (· (first | exact trivial | exact ⟨rfl, trivial⟩ | exact ⟨rfl, rfl, trivial⟩)))⟩); exact ⟨by omega, allTo_succ hA (by rw [e]; (first | (simp_all [blockLink]; done) | (simp_all [blockLink]; omega)))⟩)
  obtain rfl : k = l.length := by omega
  have hend : chainOk l = true := adjOk_end hA
  repeat' (first | with_reducible (first | refine wA ?_ | refine wB ?_ | refine wC ?_) | with_reducible refine PWp.draw (id := 8) okP true [0, 1, 2, 3, 4, 5, 6, 7, 8, 9, 10, 11, 12, 13, 14, 15, 16, 17, 18, 19, 20, 21, 22, 23, 24, 25, 26, 27, 28, 29, 30, 31, 32, 33] (by kernel_rfl) ?_ | with_reducible (first | refine w1 ?_ | refine w2 ?_ | refine w3 ?_ | refine w4 ?_ | refine w5 ?_ | refine w6 ?_ | refine w7 ?_ | refine w8 ?_ | refine wT ?_ | refine w9 ?_ | refine wE ?_ | refine wS ?_) | ((with_reducible refine hK _ ?_); clear hK K) | ((with_reducible refine PWp.condI ?_); refine ⟨_, rfl, fun hg => ?_, fun hg => ?_⟩ <;> first | (exact absurd hg (by decide)) | ((try simp only [Bool.not_true, Bool.not_false] at hg); (try simp only [hg]); (try simp only [push_cast] at hg); (try exact absurd trivial hg); (try (exfalso; omega)))) | ((first | ((with_reducible refine pops_guard0 ?_); refine ⟨_, rfl, fun K hK => ⟨rfl, ?_⟩⟩) | ((with_reducible refine pD_g0 ?_); refine ⟨_, rfl, rfl, ?_⟩)); (try simp (disch := omega) only [push_cast, seval])) | ((with_reducible refine pany_I ?_); refine ⟨_, rfl, fun K hK => ?_⟩) | ((with_reducible refine pops_plain fun K hK => ?_); simp (disch := omega) only [push_cast, seval]) | ((first | ((with_reducible refine pD_y ?_ ?_); exact rfl) | ((with_reducible refine pD_x ?_ ?_); exact rfl)); simp (disch := omega) only [push_cast, seval]) | ((first | ((with_reducible refine pops_guard ?_); refine ⟨_, rfl, fun K hK => ⟨_, rfl, fun hg => ?_, fun hg => ?_⟩⟩) | ((first | ((with_reducible refine pD_gy ?_ ?_); exact rfl) | ((with_reducible refine pD_gx ?_ ?_); exact rfl)); refine ⟨_, rfl, _, rfl, fun hg => ?_, fun hg => ?_⟩)) <;> first | (exact absurd hg (by decide)) | ((try simp only [Bool.not_true, Bool.not_false] at hg); (try simp only [hg]); (try simp only [push_cast] at hg); (try exact absurd trivial hg); (try (exfalso; omega)); (try simp (disch := omega) only [push_cast, seval]))) | ((with_reducible show pcall _ _ _ _ _ _); (first | (refine pcV (cf Tryz.func17) (iBlockOk_p ⟨⟨_, _, _, _, _, _⟩, _, _, ⟨_, _, _, _⟩⟩ (by first | assumption | exact ⟨by (first | assumption | omega | (simp; omega) | (simp_all; done) | (simp_all; omega)), by (first | assumption | omega | (simp; omega) | (simp_all; done) | (simp_all; omega)), by (first | assumption | omega | (simp; omega) | (simp_all; done) | (simp_all; omega))⟩)) ?_) | (refine pcV (cf Tryz.func87) (iHeadId_p ⟨_, _, _, _, _, _⟩) ?_) | (refine pcV (cf Tryz.func88) (eqVals_p _ _ sd sd) ?_)); (try simp (disch := omega) only [push_cast, seval])) | ((with_reducible refine And.intro ?_ ?_); omega))
  ((with_reducible show PPostR _ _ _ _ _ _); refine finV ?_; (try simp only [push_cast, seval]))
  rw [hend]
set_option maxHeartbeats 2000000 in
theorem sChainOk_p (l : List GBlock) (hl : l.length ≤ 2000000) (hs : ∀ b ∈ l, SmB b) : PCalls Tryz.prog 16 [.sl 12 (l.map pBlock)] [] (RV (.val (.bool (chainOk l)))) := by
  refine pcalls_ofR okP Tryz.func16 rfl ?_
  simp only [Tryz.f16, List.length_cons, List.length_nil, Nat.reduceAdd, Nat.reduceSub, List.replicate_succ, List.replicate_zero, List.cons_append, List.nil_append, List.length_map]
  repeat' (first | with_reducible (first | refine wA ?_ | refine wB ?_ | refine wC ?_) | with_reducible refine PWp.draw (id := 8) okP true [0, 1, 2, 3, 4, 5, 6, 7, 8, 9, 10, 11, 12, 13, 14, 15, 16, 17, 18, 19, 20, 21, 22, 23, 24, 25, 26, 27, 28, 29, 30, 31, 32, 33, 34, 35, 36, 37, 38, 39, 40, 41, 42, 43, 44, 45] (by kernel_rfl) ?_ | with_reducible (first | refine w1 ?_ | refine w2 ?_ | refine w3 ?_ | refine w4 ?_ | refine w5 ?_ | refine w6 ?_ | refine w7 ?_ | refine w8 ?_ | refine wT ?_ | refine w9 ?_ | refine wE ?_ | refine wS ?_) | ((with_reducible refine hK _ ?_); clear hK K) | ((with_reducible refine PWp.condI ?_); refine ⟨_, rfl, fun hg => ?_, fun hg => ?_⟩ <;> first | (exact absurd hg (by decide)) | ((try simp only [Bool.not_true, Bool.not_false] at hg); (try simp only [hg]); (try simp only [push_cast] at hg); (try exact absurd trivial hg); (try (exfalso; omega)))) | ((first | ((with_reducible refine pops_guard0 ?_); refine ⟨_, rfl, fun K hK => ⟨rfl, ?_⟩⟩) | ((with_reducible refine pD_g0 ?_); refine ⟨_, rfl, rfl, ?_⟩)); (try simp (disch := omega) only [push_cast, seval])) | ((with_reducible refine pany_I ?_); refine ⟨_, rfl, fun K hK => ?_⟩) | ((with_reducible refine pops_plain fun K hK => ?_); simp (disch := omega) only [push_cast, seval]) | ((first | ((with_reducible refine pD_y ?_ ?_); exact rfl) | ((with_reducible refine pD_x ?_ ?_); exact rfl)); simp (disch := omega) only [push_cast, seval]) | ((first | ((with_reducible refine pops_guard ?_); refine ⟨_, rfl, fun K hK => ⟨_, rfl, fun hg => ?_, fun hg => ?_⟩⟩) | ((first | ((with_reducible refine pD_gy ?_ ?_); exact rfl) | ((with_reducible refine pD_gx ?_ ?_); exact rfl)); refine ⟨_, rfl, _, rfl, fun hg => ?_, fun hg => ?_⟩)) <;> first | (exact absurd hg (by decide)) | ((try simp only [Bool.not_true, Bool.not_false] at hg); (try simp only [hg]); (try simp only [push_cast] at hg); (try exact absurd trivial hg); (try (exfalso; omega)); (try simp (disch := omega) only [push_cast, seval]))) | ((with_reducible show pcall _ _ _ _ _ _); (first | (refine pcV (cf Tryz.func29) (sBlockOk_p ⟨⟨_, _, _, _, _, _⟩, _, _, ⟨_, _, _, _⟩⟩ (by first | assumption | exact ⟨by (first | assumption | omega | (simp; omega) | (simp_all; done) | (simp_all; omega)), by (first | assumption | omega | (simp; omega) | (simp_all; done) | (simp_all; omega)), by (first | assumption | omega | (simp; omega) | (simp_all; done) | (simp_all; omega))⟩)) ?_) | (refine pcV (cf Tryz.func72) (sHeadId_p ⟨_, _, _, _, _, _⟩) ?_) | (refine pcV (cf Tryz.func89) (sSameVals_p _ _ sd sd) ?_)); (try simp (disch := omega) only [push_cast, seval])) | ((with_reducible refine And.intro ?_ ?_); omega))
  refine PWp.loopK (α := Nat) (fun k => [(3, .val (.int .i64 (k : Int)))]) [1, 2, 4, 5, 6, 7, 8, 9, 10, 11, 12, 13, 14, 15, 16, 17, 18, 19, 20, 21, 22, 23, 24, 25, 26, 27, 28, 29, 30, 31, 32, 33, 34, 35, 36, 37, 38, 39, 40, 41, 42, 43, 44, 45, 46, 47, 48, 49, 50, 51, 52, 53, 54, 55, 56, 57, 58, 59, 60, 61, 62, 63, 64, 65, 66, 67, 68, 69] (fun k => []) (fun k => k ≤ l.length ∧ allTo (adjAt blockOk blockLink l) k) (fun k => l.length - k) (0) (⟨Nat.zero_le _, allTo_zero⟩) (by (refine ⟨[], ?_, ?_, ?_, ?_⟩; (· ((try simp (disch := omega) only [push_cast, seval]); (repeat' (first | exact trivial | exact rfl | refine And.intro ?_ ?_ | omega)))); (· ((try simp (disch := omega) only [push_cast, seval]); (repeat' (first | exact trivial | exact rfl | refine And.intro ?_ ?_ | omega)))); (· exact rfl); (· (first | exact trivial | exact ⟨rfl, trivial⟩ | exact ⟨rfl, rfl, trivial⟩)))) ?_
  intro k ρ hI
  (try dsimp only at hI)
  refine PWp.at (tm' := ?_) (H' := ?_) ?_ ?_ ?_; rotate_left 2; (· ((try simp only [push_cast, seval]); exact rfl)); (· ((try dsimp only); exact rfl))
  obtain ⟨hk, hA⟩ := hI
  by_cases hlt : k < l.length
  · obtain ⟨x, hx⟩ : ∃ x, l[k]? = some x := ⟨_, List.getElem?_eq_getElem hlt⟩
    have bad : adjAt blockOk blockLink l k = false → chainOk l = false := fun h => adjOk_no hlt h
    obtain ⟨s1, s2, s3⟩ := hs x (List.mem_of_getElem? hx)
    cases k with
    | zero =>
      have e := adjAt_zero (f := blockOk) (g := blockLink) hx
      obtain ⟨h, vs, nx, ⟨ch, cr, ci, cs⟩⟩ := x
      dsimp only at s1 s2 s3
      repeat' (first | with_reducible (first | refine wA ?_ | refine wB ?_ | refine wC ?_) | with_reducible refine PWp.draw (id := 8) okP true [0, 1, 2, 3, 4, 5, 6, 7, 8, 9, 10, 11, 12, 13, 14, 15, 16, 17, 18, 19, 20, 21, 22, 23, 24, 25, 26, 27, 28, 29, 30, 31, 32, 33, 34, 35, 36, 37, 38, 39, 40, 41, 42, 43, 44, 45] (by kernel_rfl) ?_ | with_reducible (first | refine w1 ?_ | refine w2 ?_ | refine w3 ?_ | refine w4 ?_ | refine w5 ?_ | refine w6 ?_ | refine w7 ?_ | refine w8 ?_ | refine wT ?_ | refine w9 ?_ | refine wE ?_ | refine wS ?_) | ((with_reducible refine hK _ ?_); clear hK K) | ((with_reducible refine PWp.condI ?_); refine ⟨_, rfl, fun hg => ?_, fun hg => ?_⟩ <;> first | (exact absurd hg (by decide)) | ((try simp only [Bool.not_true, Bool.not_false] at hg); (try simp only [hg]); (try simp only [push_cast] at hg); (try exact absurd trivial hg); (try (exfalso; omega)))) | ((first | ((with_reducible refine pops_guard0 ?_); refine ⟨_, rfl, fun K hK => ⟨rfl, ?_⟩⟩) | ((with_reducible refine pD_g0 ?_); refine ⟨_, rfl, rfl, ?_⟩)); (try simp (disch := omega) only [push_cast, seval, hx])) | ((with_reducible refine pany_I ?_); refine ⟨_, rfl, fun K hK => ?_⟩) | ((with_reducible refine pops_plain fun K hK => ?_); simp (disch := omega) only [push_cast, seval, hx]) | ((first | ((with_reducible refine pD_y ?_ ?_); exact rfl) | ((with_reducible refine pD_x ?_ ?_); exact rfl)); simp (disch := omega) only [push_cast, seval, hx]) | ((first | ((with_reducible refine pops_guard ?_); refine ⟨_, rfl, fun K hK => ⟨_, rfl, fun hg => ?_, fun hg => ?_⟩⟩) | ((first | ((with_reducible refine pD_gy ?_ ?_); exact rfl) | ((with_reducible refine pD_gx ?_ ?_); exact rfl)); refine ⟨_, rfl, _, rfl, fun hg => ?_, fun hg => ?_⟩)) <;> first | (exact absurd hg (by decide)) | ((try simp only [Bool.not_true, Bool.not_false] at hg); (try simp only [hg]); (try simp only [push_cast] at hg); (try exact absurd trivial hg); (try (exfalso; omega)); (try simp (disch := omega) only [push_cast, seval, hx]))) | ((with_reducible show pcall _ _ _ _ _ _); (first | (refine pcV (cf Tryz.func29) (sBlockOk_p ⟨⟨_, _, _, _, _, _⟩, _, _, ⟨_, _, _, _⟩⟩ (by first | assumption | exact ⟨by (first | assumption | omega | (simp; omega) | (simp_all; done) | (simp_all; omega)), by (first | assumption | omega | (simp; omega) | (simp_all; done) | (simp_all; omega)), by (first | assumption | omega | (simp; omega) | (simp_all; done) | (simp_all; omega))⟩)) ?_) | (refine pcV (cf Tryz.func72) (sHeadId_p ⟨_, _, _, _, _, _⟩) ?_) | (refine pcV (cf Tryz.func89) (sSameVals_p _ _ sd sd) ?_)); (try simp (disch := omega) only [push_cast, seval, hx])) | ((with_reducible refine And.intro ?_ ?_); omega))
      all_goals first
        | (((with_reducible show PPostR _ _ _ _ _ _); refine finV ?_; (try simp only [push_cast, seval])); rw [bad (by rw [e]; simp_all)])
        | ((refine ⟨1, by ((try dsimp only); omega), ?_, by (refine ⟨[], ?_, ?_, ?_, ?_⟩; (· ((try simp (disch := omega) only [push_cast, seval]); (repeat' (first | exact trivial | exact rfl | refine And.intro ?_ ?_ | omega)))); (· ((try simp (disch := omega) only [push_cast, seval]); (repeat' (first | exact trivial | exact rfl | refine And.intro ?_ ?_ | omega)))); (· exact rfl); (· (first | exact trivial | exact ⟨rfl, trivial⟩ | exact ⟨rfl, rfl, trivial⟩)))⟩); exact ⟨by omega, allTo_succ hA (by rw [e]; simp_all)⟩)
    | succ j =>
      obtain ⟨y, hy⟩ : ∃ y, l[j]? = some y := ⟨_, List.getElem?_eq_getElem (by omega)⟩
      have e := adjAt_succ (f := blockOk) (g := blockLink) hx hy
      have by' := headerOk_facts (blockOk_head (adjAt_f (hA j (by omega)) hy))
      have b1 := by'.h1; have b2 := by'.h2
      clear by'
      obtain ⟨t1, t2, t3⟩ := hs y (List.mem_of_getElem? hy)
      obtain ⟨h, vs, nx, ⟨ch, cr, ci, cs⟩⟩ := x
      obtain ⟨yh, yv, yn, ⟨yc, yr, yi, ys⟩⟩ := y
      dsimp only at s1 s2 s3 t1 t2 t3 b1 b2
      repeat' (first | with_reducible (first | refine wA ?_ | refine wB ?_ | refine wC ?_) | with_reducible refine PWp.draw (id := 8) okP true [0, 1, 2, 3, 4, 5, 6, 7, 8, 9, 10, 11, 12, 13, 14, 15, 16, 17, 18, 19, 20, 21, 22, 23, 24, 25, 26, 27, 28, 29, 30, 31, 32, 33, 34, 35, 36, 37, 38, 39, 40, 41, 42, 43, 44, 45] (by kernel_rfl) ?_ | with_reducible (first | refine w1 ?_ | refine w2 ?_ | refine w3 ?_ | refine w4 ?_ | refine w5 ?_ | refine w6 ?_ | refine w7 ?_ | refine w8 ?_ | refine wT ?_ | refine w9 ?_ | refine wE ?_ | refine wS ?_) | ((with_reducible refine hK _ ?_); clear hK K) | ((with_reducible refine PWp.condI ?_); refine ⟨_, rfl, fun hg => ?_, fun hg => ?_⟩ <;> first | (exact absurd hg (by decide)) | ((try simp only [Bool.not_true, Bool.not_false] at hg); (try simp only [hg]); (try simp only [push_cast] at hg); (try exact absurd trivial hg); (try (exfalso; omega)))) | ((first | ((with_reducible refine pops_guard0 ?_); refine ⟨_, rfl, fun K hK => ⟨rfl, ?_⟩⟩) | ((with_reducible refine pD_g0 ?_); refine ⟨_, rfl, rfl, ?_⟩)); (try simp (disch := omega) only [push_cast, seval, hx, hy])) | ((with_reducible refine pany_I ?_); refine ⟨_, rfl, fun K hK => ?_⟩) | ((with_reducible refine pops_plain fun K hK => ?_); simp (disch := omega) only [push_cast, seval, hx, hy]) | ((first | ((with_reducible refine pD_y ?_ ?_); exact rfl) | ((with_reducible refine pD_x ?_ ?_); exact rfl)); simp (disch := omega) only [push_cast, seval, hx, hy]) | ((first | ((with_reducible refine pops_guard ?_); refine ⟨_, rfl, fun K hK => ⟨_, rfl, fun hg => ?_, fun hg => ?_⟩⟩) | ((first | ((with_reducible refine pD_gy ?_ ?_); exact rfl) | ((with_reducible refine pD_gx ?_ ?_); exact rfl)); refine ⟨_, rfl, _, rfl, fun hg => ?_, fun hg => ?_⟩)) <;> first | (exact absurd hg (by decide)) | ((try simp only [Bool.not_true, Bool.not_false] at hg); (try simp only [hg]); (try simp only [push_cast] at hg); (try exact absurd trivial hg); (try (exfalso; omega)); (try simp (disch := omega) only [push_cast, seval, hx, hy]))) | ((with_reducible show pcall _ _ _ _ _ _); (first | (refine pcV (cf Tryz.func29) (sBlockOk_p ⟨⟨_, _, _, _, _, _⟩, _, _, ⟨_, _, _, _⟩⟩ (by first | assumption | exact ⟨by (first | assumption | omega | (simp; omega) | (simp_all; done) | (simp_all; omega)), by (first | assumption | omega | (simp; omega) | (simp_all; done) | (simp_all; omega)), by (first | assumption | omega | (simp; omega) | (simp_all; done) | (simp_all; omega))⟩)) ?_) | (refine pcV (cf Tryz.func72) (sHeadId_p ⟨_, _, _, _, _, _⟩) ?_) | (refine pcV (cf Tryz.func89) (sSameVals_p _ _ sd sd) ?_)); (try simp (disch := omega) only [push_cast, seval, hx, hy])) | ((with_reducible refine And.intro ?_ ?_); omega))
      all_goals first
        | (((with_reducible show PPostR _ _ _ _ _ _); refine finV ?_; (try simp only [push_cast, seval])); rw [bad (by rw [e]; (first | (simp_all [blockLink]; done) | (simp_all [blockLink]; omega)))])
        | ((refine ⟨j + 2, by ((try dsimp only); omega), ?_, by (refine ⟨[], ?_, ?_, ?_, ?_⟩; (· ((try simp (disch := omega) only [push_cast, seval]); (repeat' (first | exact trivial | exact rfl | refine And.intro ?_ ?_ | omega)))); (· ((try simp (disch := omega) only [push_cast, seval]); (repeat' (first | exact trivial | exact rfl | refine And.intro ?_ ?_ | omega)))); (· exact rfl); (· (first | exact trivial | exact ⟨rfl, trivial⟩ | exact ⟨rfl, rfl, trivial⟩)))⟩); exact ⟨by omega, allTo_succ hA (by rw [e]; (first | (simp_all [blockLink]; done) | (simp_all [blockLink]; omega)))⟩)
  obtain rfl : k = l.length := by omega
  have hend : chainOk l = true := adjOk_end hA
  repeat' (first | with_reducible (first | refine wA ?_ | refine wB ?_ | refine wC ?_) | with_reducible refine PWp.draw (id := 8) okP true [0, 1, 2, 3, 4, 5, 6, 7, 8, 9, 10, 11, 12, 13, 14, 15, 16, 17, 18, 19, 20, 21, 22, 23, 24, 25, 26, 27, 28, 29, 30, 31, 32, 33, 34, 35, 36, 37, 38, 39, 40, 41, 42, 43, 44, 45] (by kernel_rfl) ?_ | with_reducible (first | refine w1 ?_ | refine w2 ?_ | refine w3 ?_ | refine w4 ?_ | refine w5 ?_ | refine w6 ?_ | refine w7 ?_ | refine w8 ?_ | refine wT ?_ | refine w9 ?_ | refine wE ?_ | refine wS ?_) | ((with_reducible refine hK _ ?_); clear hK K) | ((with_reducible refine PWp.condI ?_); refine ⟨_, rfl, fun hg => ?_, fun hg => ?_⟩ <;> first | (exact absurd hg (by decide)) | ((try simp only [Bool.not_true, Bool.not_false] at hg); (try simp only [hg]); (try simp only [push_cast] at hg); (try exact absurd trivial hg); (try (exfalso; omega)))) | ((first | ((with_reducible refine pops_guard0 ?_); refine ⟨_, rfl, fun K hK => ⟨rfl, ?_⟩⟩) | ((with_reducible refine pD_g0 ?_); refine ⟨_, rfl, rfl, ?_⟩)); (try simp (disch := omega) only [push_cast, seval])) | ((with_reducible refine pany_I ?_); refine ⟨_, rfl, fun K hK => ?_⟩) | ((with_reducible refine pops_plain fun K hK => ?_); simp (disch := omega) only [push_cast, seval]) | ((first | ((with_reducible refine pD_y ?_ ?_); exact rfl) | ((with_reducible refine pD_x ?_ ?_); exact rfl)); simp (disch := omega) only [push_cast, seval]) | ((first | ((with_reducible refine pops_guard ?_); refine ⟨_, rfl, fun K hK => ⟨_, rfl, fun hg => ?_, fun hg => ?_⟩⟩) | ((first | ((with_reducible refine pD_gy ?_ ?_); exact rfl) | ((with_reducible refine pD_gx ?_ ?_); exact rfl)); refine ⟨_, rfl, _, rfl, fun hg => ?_, fun hg => ?_⟩)) <;> first | (exact absurd hg (by decide)) | ((try simp only [Bool.not_true, Bool.not_false] at hg); (try simp only [hg]); (try simp only [push_cast] at hg); (try exact absurd trivial hg); (try (exfalso; omega)); (try simp (disch := omega) only [push_cast, seval]))) | ((with_reducible show pcall _ _ _ _ _ _); (first | (refine pcV (cf Tryz.func29) (sBlockOk_p ⟨⟨_, _, _, _, _, _⟩, _, _, ⟨_, _, _, _⟩⟩ (by first | assumption | exact ⟨by (first | assumption | omega | (simp; omega) | (simp_all; done) | (simp_all; omega)), by (first | assumption | omega | (simp; omega) | (simp_all; done) | (simp_all; omega)), by (first | assumption | omega | (simp; omega) | (simp_all; done) | (simp_all; omega))⟩)) ?_) | (refine pcV (cf Tryz.func72) (sHeadId_p ⟨_, _, _, _, _, _⟩) ?_) | (refine pcV (cf Tryz.func89) (sSameVals_p _ _ sd sd) ?_)); (try simp (disch := omega) only [push_cast, seval])) | ((with_reducible refine And.intro ?_ ?_); omega))
  ((with_reducible show PPostR _ _ _ _ _ _); refine finV ?_; (try simp only [push_cast, seval]))
  rw [hend]
end Go.Proofs.YtiboajlnjldalaaGreatDoor
namespace Go.Proofs.YtiboajlnjldalaaGreatDoor
set_option linter.unusedSimpArgs false
set_option linter.unusedVariables false
open Go.RowKit
set_option maxRecDepth 100000
theorem run_clear_oneV {P : Program} (w : World) (t e ty : TypeId) (z : Value) (cs : List Value) (ht : P.underlying t = some (.slice e)) (hv : ∀ w, (zeroValue e).run P w = .ok z w) (hz : z.cells = cs.toArray) (h1 : ∀ u ∈ cs, u.oneCell' = true) (b o c : Nat)
    (hc : ∀ j, j < cs.length → (w.cell? ⟨b, o + j, none⟩).isSome = true) (hf : ∀ j, j < cs.length → w.frozen? ⟨b, o + j, none⟩ = false) :
    (Builtin.clear_ #[t] ty #[.slice (some ⟨b, o, none⟩) 1 c]).run P w = .ok (.tuple #[]) (w.setCells b o cs) := by
  have hzc : (Builtin.zeroCells z.cells 1).toList = cs := by
    rw [hz]
    simp only [Builtin.zeroCells, Nat.one_mul, List.size_toArray]
    apply List.ext_getElem
    · simp
    · intro i h1 h2
      simp only [Array.toList_map, Array.toList_range, List.getElem_map, List.getElem_range]
      rw [Nat.mod_eq_of_lt h2]
      simp [h2]
  have hst := run_storeCells_cells (P := P) b o cs 0 w (by simpa using hc) (by simpa using hf) (by simpa using h1)
  simp only [Nat.add_zero] at hst
  simp [Builtin.clear_, run_underlying ht, hv, hzc, hst]
theorem setCells_heapV {b : Nat} {e : TypeId} : ∀ (vs : List Value) (o : Nat) (w : World) (cur : Array Value), w.heap[b]? = some (.cells cur e (0, 0)) → o + vs.length ≤ cur.size →
    ∃ cur', (w.setCells b o vs).heap[b]? = some (.cells cur' e (0, 0)) ∧ cur'.size = cur.size ∧ ∀ j, cur'[j]? = if o ≤ j ∧ j < o + vs.length then vs[j - o]? else cur[j]?
  | [], o, w, cur, h, _ => ⟨cur, h, rfl, fun j => by rw [if_neg (by simp only [List.length_nil]; omega)]⟩
  | v :: vs, o, w, cur, h, hl => by
    simp only [List.length_cons] at hl
    obtain ⟨cur', g1, g2, g3⟩ := setCells_heapV vs (o + 1) (w.setCell ⟨b, o, none⟩ v) (cur.setIfInBounds o v) (heap_setCell_same w b o cur e v h) (by rw [Array.size_setIfInBounds]; omega)
    refine ⟨cur', g1, by rw [g2, Array.size_setIfInBounds], fun j => ?_⟩
    rw [g3 j]
    simp only [List.length_cons]
    by_cases h1 : o + 1 ≤ j ∧ j < o + 1 + vs.length
    · rw [if_pos h1, if_pos (by omega), show j - o = (j - (o + 1)) + 1 by omega, List.getElem?_cons_succ]
    · rw [if_neg h1]
      by_cases h2 : j = o
      · subst h2
        rw [if_pos (by omega), Nat.sub_self, Array.getElem?_setIfInBounds_self_of_lt (by omega)]
        rfl
      · rw [if_neg (by omega), Array.getElem?_setIfInBounds_ne (fun q => h2 q.symm)]
theorem grown_setCellsV {b : Nat} : ∀ (vs : List Value) (o : Nat) (w : World), w.grownBy (w.setCells b o vs) (some b)
  | [], _, _ => ⟨rfl, rfl, rfl, Nat.le_refl _, fun _ _ _ => rfl⟩
  | v :: vs, o, w => by
    have h := grown_setCellsV (b := b) vs (o + 1) (w.setCell ⟨b, o, none⟩ v)
    refine ⟨h.os, h.tape, h.output, ?_, fun i hi hne => ?_⟩
    · exact Nat.le_trans (show w.heap.size ≤ (w.setCell ⟨b, o, none⟩ v).heap.size by simp [World.setCell]) h.size
    · exact (h.block i (by simpa [World.setCell] using hi) hne).trans (heap_setCell_other w ⟨b, o, none⟩ i v (fun e => hne (by simp [e])))
theorem zeroValD : ∀ w, (zeroValue 141).run Tryz.prog w = .ok (.agg #[.int .i64 0, .int .i64 0]) w := fun w => by simp [go_sem]
theorem infoValD : (Tryz.prog.info? 141).map (fun i => (i.zero, i.size, i.bytes)) = some (some (.agg #[.int .i64 0, .int .i64 0]), 2, 16) := by kernel_rfl
set_option maxHeartbeats 4000000 in
theorem del_val (b cap m k : Nat) (us : List Value) (w : World) (hown : w.ownsRow 0 141 2 (.slice (some ⟨b, 0, none⟩) (m + 1) cap) (m + 1) us) (hk : k ≤ m) (hn : m ≤ 1000) (hone : ∀ u ∈ us, u.oneCell' = true) :
    Calls Tryz.prog 237 #[.slice (some ⟨b, 0, none⟩) (m + 1) cap, .int .i64 k, .int .i64 ((k : Int) + 1)] w fun e w' => e = .returned (.slice (some ⟨b, 0, none⟩) m cap) ∧ w' = (w.drew.setCells b (k * 2) (us.drop ((k + 1) * 2))).setCells b (m * 2) [.int .i64 0, .int .i64 0] := by
  obtain ⟨i0, hi0, hz0, hz1, hz2⟩ := info_parts infoValD
  rcases hown with ⟨hul, ⟨h0, _⟩ | ⟨g, cap', cur, hv, hbase, hb, hncap, hmax, hcur, hcells⟩⟩
  · cases h0
  cases hv
  have cellOf : ∀ o, o < cap * 2 → ∃ u, w.drew.cell? ⟨b, o, none⟩ = some u ∧ cur[o]? = some u := fun o ho => by
    have e : cur[o]? = some cur[o] := Array.getElem?_eq_getElem (by omega)
    exact ⟨_, by show w.cell? _ = _; rw [cell_of_row w b o cur _ (0, 0) hb]; exact e, e⟩
  have frzOf : ∀ o, w.drew.frozen? ⟨b, o, none⟩ = false := fun o => by
    show w.frozen? _ = false
    simp [World.frozen?, hb]
  obtain ⟨news, hnews⟩ : ∃ news, news = us.drop ((k + 1) * 2) := ⟨_, rfl⟩
  have hlen : news.length = (m - k) * 2 := by rw [hnews, List.length_drop, hul]; omega
  have hget : ∀ t u, news[t]? = some u → w.drew.cell? ⟨b, (k + 1) * 2 + t, none⟩ = some u := fun t u hu => by
    have ht := (List.getElem?_eq_some_iff.1 hu).1
    rw [hnews, List.getElem?_drop, ← hcells, List.getElem?_take, if_pos (by omega)] at hu
    show w.cell? _ = _
    rw [cell_of_row w b _ cur _ (0, 0) hb, ← hu]
    simp
  have s1 : Hid (news.length = (m - k) * 2) := Lib.hid hlen
  have s2 : Hid (∀ u ∈ news, u.oneCell' = true) := Lib.hid fun u hu => hone u (by rw [hnews] at hu; exact List.mem_of_mem_drop hu)
  have s3 : Hid (∀ t, t < news.length → (w.drew.cell? ⟨b, 0 + k * 2 + t, none⟩).isSome = true ∧ w.drew.frozen? ⟨b, 0 + k * 2 + t, none⟩ = false) := Lib.hid fun t ht => by
    rw [hlen] at ht
    obtain ⟨u, hu, _⟩ := cellOf (0 + k * 2 + t) (by omega)
    exact ⟨by rw [hu]; rfl, frzOf _⟩
  obtain ⟨W1, hW1⟩ : ∃ W1, W1 = w.drew.setCells b (0 + k * 2) news := ⟨_, rfl⟩
  have hW : Hid (W1 = w.drew.setCells b (0 + k * 2) news) := Lib.hid hW1
  have hcl : ∀ ty, (Builtin.clear_ #[31] ty #[.slice (some ⟨b, m * 2, none⟩) 1 (cap - m)]).run Tryz.prog W1 = .ok (.tuple #[]) (W1.setCells b (m * 2) [.int .i64 0, .int .i64 0]) := fun ty => by
    have hrow : ∃ cur', W1.heap[b]? = some (.cells cur' 141 (0, 0)) ∧ cur'.size = cur.size := by
      obtain ⟨c', g1, g2, _⟩ := setCells_heapV news (0 + k * 2) w.drew cur hb (by omega)
      exact ⟨c', by rw [hW1]; exact g1, g2⟩
    obtain ⟨cur', g1, g2⟩ := hrow
    refine run_clear_oneV W1 31 141 ty (.agg #[.int .i64 0, .int .i64 0]) [.int .i64 0, .int .i64 0] Tryz.underlying31 zeroValD rfl (by decide) b (m * 2) (cap - m) (fun j hj => ?_) (fun j hj => frozen_of_row W1 b _ cur' _ g1)
    rw [cell_of_row W1 b _ cur' _ (0, 0) g1, Array.getElem?_eq_getElem (by simp at hj; omega)]
    rfl
  obtain ⟨A, hA, hsrc⟩ : ∃ A : Addr, (if cap = k + 1 then (some ⟨b, 0, none⟩ : Option Addr) else some ⟨b, (k + 1) * 2, none⟩) = some A ∧ Hid (∀ t u, news[t]? = some u → w.drew.cell? (A.add t) = some u) := by
    by_cases h : cap = k + 1
    · refine ⟨⟨b, 0, none⟩, by simp [h], Lib.hid fun t u hu => ?_⟩
      have h0 : news.length = 0 := by rw [hlen]; omega
      rw [List.length_eq_zero_iff.1 h0] at hu
      simp at hu
    · refine ⟨⟨b, (k + 1) * 2, none⟩, by simp [h], Lib.hid fun t u hu => ?_⟩
      rw [addr_add]
      exact hget t u hu
  have HN := Lib.hid hnews
  clear hget hW1 hlen cellOf frzOf hcells hb hcur hul hone hnews
  have hkc : k ≤ cap := by omega
  have hkm : k + (m - k) = m := by omega
  have hmc : m + 1 ≤ cap := hncap
  have hkc1 : k + 1 ≤ cap := by omega
  have hz1' : (0 : Int) ≤ (k : Int) + 1 := by omega
  have hz2' : (k : Int) + 1 ≤ ((m + 1 : Nat) : Int) := by omega
  go_enter Tryz.func237, Tryz.ntmps237
  go_wp2_with fail
  go_region_law (refine step_append_room rfl (.tmp 22) (.tmp 25) 31 rfl 141 i0 2 Tryz.underlying31 hi0 hz1 b 0 k cap (by simp [Act.eval, Act.put]) A (m - k) (cap - (k + 1)) news (by simp [Act.eval, Act.put]) s1.out hsrc.out s2.out (by omega) s3.out ?_; rw [← hW.out])
  all_goals
    go_wp2
    go_ret
    exact ⟨rfl, by rw [hW.out, HN.out, Nat.zero_add]⟩
def pcsV (x : GVal) : List Value := [.int .i64 x.fId, .int .i64 x.fPower]
theorem pcs_lenV (l : List GVal) : ∀ row ∈ l.map pcsV, row.length = 2 := fun row hr => by obtain ⟨x, _, rfl⟩ := List.mem_map.1 hr; rfl
theorem pcs_flatV (l : List GVal) : (l.map pcsV).flatten.length = l.length * 2 := by rw [flatten_len (pcs_lenV l), List.length_map]
theorem vals_us {M : Mem} {h : Home} {l : List GVal} {us : List Value} (hl : us.length = l.length * 2) (q : ∀ (i j : Nat) (row : List PV) (pv : PV) (u : Value), (l.map pVal)[i]? = some row → row[j]? = some pv → us[i * 2 + j]? = some u → VR M h pv u) : us = (l.map pcsV).flatten := by
  apply List.ext_getElem?
  intro o
  by_cases ho : o < l.length * 2
  · obtain ⟨i, j, rfl, hj⟩ := divide (sz := 2) (o := o) (by omega)
    have hi : i < l.length := by omega
    obtain ⟨x, hx⟩ : ∃ x, l[i]? = some x := ⟨_, List.getElem?_eq_getElem hi⟩
    obtain ⟨u, hu⟩ : ∃ u, us[i * 2 + j]? = some u := ⟨_, List.getElem?_eq_getElem (by omega)⟩
    have hp : (l.map pVal)[i]? = some (pVal x) := by rw [List.getElem?_map, hx]; rfl
    have hc : (l.map pcsV)[i]? = some (pcsV x) := by rw [List.getElem?_map, hx]; rfl
    rw [hu]
    match j, hj with
    | 0, _ => rw [flatten_get (pcs_lenV l) i 0 _ _ hc rfl, vr_val (q i 0 _ _ u hp rfl hu)]
    | 1, _ => rw [flatten_get (pcs_lenV l) i 1 _ _ hc rfl, vr_val (q i 1 _ _ u hp rfl hu)]
    | j + 2, h => omega
  · rw [List.getElem?_eq_none (by omega), List.getElem?_eq_none (by rw [pcs_flatV]; omega)]
theorem pcs_oneV (l : List GVal) : ∀ u ∈ (l.map pcsV).flatten, u.oneCell' = true := fun u hu => by
  obtain ⟨row, hr, hu⟩ := List.mem_flatten.1 hu
  obtain ⟨x, _, rfl⟩ := List.mem_map.1 hr
  simp only [pcsV, List.mem_cons, List.not_mem_nil, or_false] at hu
  rcases hu with rfl | rfl <;> rfl
theorem row_vals {M : Mem} {h : Home} {w : World} {t : TypeId} {v : Value} {l : List GVal} (hv : ∃ o n c, v = .slice o n c) (ho : w.ownsRow 0 t 2 v l.length ((l.map pcsV).flatten)) : BR M h w v (.row t 2 (l.map pVal)) := by
  refine ⟨hv, _, by rw [List.length_map]; exact ho, fun row hr => by obtain ⟨x, _, rfl⟩ := List.mem_map.1 hr; rfl, pcs_oneV l, fun i j row pv u a b d => ?_⟩
  rw [List.getElem?_map, Option.map_eq_some_iff] at a
  obtain ⟨x, a, rfl⟩ := a
  have hc : (l.map pcsV)[i]? = some (pcsV x) := by rw [List.getElem?_map, a]; rfl
  match j, b with
  | 0, b => simp [pVal] at b; subst b; rw [flatten_get (pcs_lenV l) i 0 _ _ hc rfl] at d; cases d; exact .val _
  | 1, b => simp [pVal] at b; subst b; rw [flatten_get (pcs_lenV l) i 1 _ _ hc rfl] at d; cases d; exact .val _
  | j + 2, b => simp [pVal] at b
def zeroVal : GVal := ⟨0, 0⟩
theorem del_rowV {b cap m k : Nat} {us : List Value} {w : World} {e : TypeId} (hown : w.ownsRow 0 e 2 (.slice (some ⟨b, 0, none⟩) (m + 1) cap) (m + 1) us) (hk : k ≤ m) (zs : List Value) (hz : zs.length = 2) :
    ((w.drew.setCells b (k * 2) (us.drop ((k + 1) * 2))).setCells b (m * 2) zs).ownsRow 0 e 2 (.slice (some ⟨b, 0, none⟩) (m + 1) cap) (m + 1) (us.take (k * 2) ++ us.drop ((k + 1) * 2) ++ zs) ∧ w.grownBy ((w.drew.setCells b (k * 2) (us.drop ((k + 1) * 2))).setCells b (m * 2) zs) (some b) := by
  rcases hown with ⟨hul, ⟨h0, _⟩ | ⟨g, cap', cur, hv, hbase, hb, hncap, hmax, hcur, hcells⟩⟩
  · cases h0
  cases hv
  have hdl : (us.drop ((k + 1) * 2)).length = (m - k) * 2 := by rw [List.length_drop, hul]; omega
  obtain ⟨c1, g1, g2, g3⟩ := setCells_heapV (us.drop ((k + 1) * 2)) (k * 2) w.drew cur hb (by omega)
  obtain ⟨c2, f1, f2, f3⟩ := setCells_heapV zs (m * 2) _ c1 g1 (by omega)
  have ul : ∀ j, j < (m + 1) * 2 → us[j]? = cur[j]? := fun j hj => by rw [← hcells, List.getElem?_take, if_pos hj]; simp
  have hlt : b < w.heap.size := (Array.getElem?_eq_some_iff.1 hb).1
  refine ⟨⟨by simp only [List.length_append, List.length_take, hdl, hz, hul]; omega, .inr ⟨b, cap, c2, rfl, Nat.zero_le _, f1, hncap, hmax, by omega, ?_⟩⟩, ?_⟩
  · apply List.ext_getElem?
    intro j
    rw [List.getElem?_take]
    by_cases hj : j < (m + 1) * 2
    · rw [if_pos hj, Array.getElem?_toList, f3 j, hz]
      by_cases h1 : m * 2 ≤ j
      · rw [if_pos (by omega), List.getElem?_append_right (by simp only [List.length_append, List.length_take, hdl, hul]; omega)]
        congr 1
        simp only [List.length_append, List.length_take, hdl, hul]
        omega
      · rw [if_neg (by omega), g3 j, hdl, List.getElem?_append_left (by simp only [List.length_append, List.length_take, hdl, hul]; omega)]
        by_cases h2 : k * 2 ≤ j
        · rw [if_pos (by omega), List.getElem?_append_right (by simp only [List.length_take, hul]; omega)]
          congr 1
          simp only [List.length_take, hul]
          omega
        · rw [if_neg (by omega), List.getElem?_append_left (by simp only [List.length_take, hul]; omega), List.getElem?_take, if_pos (by omega), ul j hj]
    · rw [if_neg hj, List.getElem?_eq_none (by simp only [List.length_append, List.length_take, hdl, hz, hul]; omega)]
  · have h1 := grown_setCellsV (b := b) (us.drop ((k + 1) * 2)) (k * 2) w.drew
    have h2 := grown_setCellsV (b := b) zs (m * 2) (w.drew.setCells b (k * 2) (us.drop ((k + 1) * 2)))
    exact ⟨h2.os.trans h1.os, h2.tape.trans h1.tape, h2.output.trans h1.output, Nat.le_trans h1.size h2.size, fun i hi hne => (h2.block i (Nat.lt_of_lt_of_le hi h1.size) hne).trans (h1.block i hi hne)⟩
theorem iDelete_pV (l : List GVal) (k : Nat) (hk : k < l.length) (hl : l.length ≤ 1000) : PCalls Tryz.prog 237 [.own 0, .val (.int .i64 (k : Int)), .val (.int .i64 ((k : Int) + 1))] [some (.row 141 2 (l.map pVal))] (RH (.own 1) [none, some (.row 141 2 ((l.eraseIdx k).map pVal))]) := by
  intro M h w vs I rv
  obtain ⟨v, u1, u2, rfl⟩ : ∃ v u1 u2, vs = #[v, u1, u2] := by
    have hs : vs.size = 3 := by have := rv.1; simpa using this.symm
    exact ⟨vs[0], vs[1], vs[2], Array.ext (by simp [hs]) fun i h1 h2 => by
      simp at h2
      match i, h2 with
      | 0, _ => rfl
      | 1, _ => rfl
      | 2, _ => rfl⟩
  have r := rv.2 0 _ v rfl rfl
  have e1 := vr_val (rv.2 1 _ u1 rfl rfl)
  have e2 := vr_val (rv.2 2 _ u2 rfl rfl)
  subst e1
  subst e2
  cases r with
  | own _ oo n c hb =>
    obtain ⟨v0, q0, -, us, q1, q2, q3, q4⟩ := I.blk 0 _ rfl
    rw [hb] at q0
    cases q0
    rw [List.length_map] at q1
    have hus := vals_us (by have := q1.1; simpa using this) q4
    subst hus
    obtain ⟨m, hm⟩ : ∃ m, l.length = m + 1 := ⟨l.length - 1, by omega⟩
    rcases id q1.2 with ⟨_, g2⟩ | ⟨g, cap, cur, g1, _, g3, _⟩
    · omega
    cases g1
    rw [hm] at q1 hb ⊢
    refine (del_val g c m k _ w q1 (by omega) (by omega) (pcs_oneV l)).mono fun e w' ⟨f1, f2⟩ => ?_
    obtain ⟨d1, d2⟩ := del_rowV q1 (k := k) (by omega) [.int .i64 0, .int .i64 0] rfl
    rw [← f2] at d1 d2
    have hfl : ((l.map pcsV).flatten.take (k * 2) ++ (l.map pcsV).flatten.drop ((k + 1) * 2) ++ [.int .i64 0, .int .i64 0]) = ((l.eraseIdx k ++ [zeroVal]).map pcsV).flatten := by
      rw [List.eraseIdx_eq_take_drop_succ, List.map_append, List.map_append, List.flatten_append, List.flatten_append]
      have t1 : ∀ n, n ≤ l.length → (l.map pcsV).flatten = ((l.take n).map pcsV).flatten ++ ((l.drop n).map pcsV).flatten := fun n _ => by
        rw [← List.flatten_append, ← List.map_append, List.take_append_drop]
      have a1 : (l.map pcsV).flatten.take (k * 2) = ((l.take k).map pcsV).flatten := by
        rw [t1 k (by omega), List.take_left' (by rw [pcs_flatV, List.length_take]; omega)]
      have a2 : (l.map pcsV).flatten.drop ((k + 1) * 2) = ((l.drop (k + 1)).map pcsV).flatten := by
        rw [t1 (k + 1) (by omega), List.drop_left' (by rw [pcs_flatV, List.length_take]; omega)]
      rw [a1, a2]
      rfl
    rw [hfl] at d1
    have hl2 : (l.eraseIdx k ++ [zeroVal]).length = m + 1 := by rw [List.length_append, List.length_eraseIdx, if_pos hk, List.length_singleton]; omega
    have st : Step M h _ w M h _ w' := Step.turn I (b := 0) rfl hb rfl d2 (row_vals (l := l.eraseIdx k ++ [zeroVal]) ⟨_, _, _, rfl⟩ (by rw [hl2]; exact d1))
    have st2 := Step.cut (k := m) st.inv (b := 0) rfl hb (by rw [List.length_map, hl2]; omega)
    have ht : (List.map pVal (l.eraseIdx k ++ [zeroVal])).take m = (l.eraseIdx k).map pVal := by
      rw [← List.map_take, List.take_left' (by rw [List.length_append] at hl2; simp at hl2; omega)]
    rw [ht] at st2
    exact ⟨_, M, _, .own 1, _, f1, ⟨rfl, rfl⟩, .own _ _ _ _ upd_self, st.trans st2⟩
end Go.Proofs.YtiboajlnjldalaaGreatDoor
namespace Go.Proofs.YtiboajlnjldalaaGreatDoor
set_option linter.unusedSimpArgs false
set_option linter.unusedVariables false
open Go.RowKit
set_option maxRecDepth 100000
theorem chOne_no {p : List GVal} {x : GVal} (h : vRise p) (h0 : x.fPower = 0) (hno : chHas p x = false) : chFit p x = false := by unfold chFit; rw [hno, h0]; rfl
theorem chHas_of {p : List GVal} {x q : GVal} (hq : q ∈ p) (e : q.fId = x.fId) : chHas p x = true := by
  unfold chHas
  rw [List.any_eq_true]
  exact ⟨q, hq, decide_eq_true e⟩
theorem chHas_not {p : List GVal} {x : GVal} (h : ∀ q ∈ p, q.fId ≠ x.fId) : chHas p x = false := by
  unfold chHas
  rw [List.any_eq_false]
  exact fun q hq => by simp [h q hq]
theorem chFit_pow {p : List GVal} {x : GVal} (h : x.fPower ≠ 0) : chFit p x = true := by unfold chFit; simp [h]
theorem chg1_p (p a : GVal) : PCalls Tryz.prog 236 [.agg (pVal p), .eptr (pVal a) 0] [] (RV (.val (.bool (decide (p.fId = a.fId))))) := by
  refine pcalls_ofR okP Tryz.func236 rfl ?_
  simp only [Tryz.f236, List.length_cons, List.length_nil, Nat.reduceAdd, Nat.reduceSub, List.replicate_succ, List.replicate_zero, List.cons_append, List.nil_append, List.length_map]
  repeat' (first | with_reducible (first | refine wA ?_ | refine wB ?_ | refine wC ?_ | refine w1 ?_ | refine w2 ?_ | refine w3 ?_ | refine w4 ?_ | refine w5 ?_ | refine w6 ?_ | refine w7 ?_ | refine w8 ?_ | refine wT ?_ | refine w9 ?_ | refine wE ?_ | refine wS ?_) | ((with_reducible refine hK _ ?_); clear hK K) | ((with_reducible refine pops_plain fun K hK => ?_); simp (disch := omega) only [push_cast, seval]) | ((with_reducible refine And.intro ?_ ?_); omega))
  ((with_reducible show PPostR _ _ _ _ _ _); refine finV ?_; (try simp only [push_cast, seval]))
  rw [Bool.eq_iff_iff]
  simp
theorem idxVal_p (l : List GVal) (a : GVal) (hl : l.length ≤ 1099511627776) : PCalls Tryz.prog 235 [.sl 2 (l.map pVal), .clo 236 [.eptr (pVal a) 0]] [] (RV (.val (.int .i64 (vIdx l a.fId)))) := by
  have cloC : Callable Tryz.prog 236 := callable_of Tryz.func236 rfl rfl
  refine pcalls_ofR okP Tryz.func235 rfl ?_
  simp only [Tryz.f235, List.length_cons, List.length_nil, Nat.reduceAdd, Nat.reduceSub, List.replicate_succ, List.replicate_zero, List.cons_append, List.nil_append, List.length_map]
  repeat' (first | with_reducible (first | refine wA ?_ | refine wB ?_ | refine wC ?_ | refine w1 ?_ | refine w2 ?_ | refine w3 ?_ | refine w4 ?_ | refine w5 ?_ | refine w6 ?_ | refine w7 ?_ | refine w8 ?_ | refine wT ?_ | refine w9 ?_ | refine wE ?_ | refine wS ?_) | ((with_reducible refine hK _ ?_); clear hK K) | ((with_reducible refine PWp.condI ?_); refine ⟨_, rfl, fun hg => ?_, fun hg => ?_⟩ <;> first | (exact absurd hg (by decide)) | ((try simp only [Bool.not_true, Bool.not_false] at hg); (try simp only [hg]); (try simp only [push_cast] at hg); (try exact absurd trivial hg); (try (exfalso; omega)))) | ((with_reducible refine pops_plain fun K hK => ?_); simp (disch := omega) only [push_cast, seval]) | ((with_reducible show pcall _ _ _ _ _ _); (first | (refine pcV (g := 236) cloC (chg1_p ⟨_, _⟩ ⟨_, _⟩) ?_)); (try simp (disch := omega) only [push_cast, seval])) | ((with_reducible refine And.intro ?_ ?_); omega))
  refine PWp.loopK (α := Nat) (fun k => [(8, .val (.int .i64 (k : Int)))]) [2, 3, 4, 5, 6, 9, 10, 11, 12, 13, 14, 15, 16, 17, 18] (fun k => []) (fun k => k ≤ l.length ∧ noneTo (fun p => decide (p.fId = a.fId)) l k) (fun k => l.length - k) (0) (⟨Nat.zero_le _, noneTo_zero⟩) (by (refine ⟨[], ?_, ?_, ?_, ?_⟩; (· ((try simp (disch := omega) only [push_cast, seval]); (repeat' (first | exact trivial | exact rfl | refine And.intro ?_ ?_ | omega)))); (· ((try simp (disch := omega) only [push_cast, seval]); (repeat' (first | exact trivial | exact rfl | refine And.intro ?_ ?_ | omega)))); (· exact rfl); (· (first | exact trivial | exact ⟨rfl, trivial⟩ | exact ⟨rfl, rfl, trivial⟩)))) ?_
  intro k ρ hI
  (try dsimp only at hI)
  refine PWp.at (tm' := ?_) (H' := ?_) ?_ ?_ ?_; rotate_left 2; (· ((try simp only [push_cast, seval]); exact rfl)); (· ((try dsimp only); exact rfl))
  obtain ⟨hk, hA⟩ := hI
  by_cases hlt : k < l.length
  · obtain ⟨x, hx⟩ : ∃ x, l[k]? = some x := ⟨_, List.getElem?_eq_getElem hlt⟩
    by_cases he : x.fId = a.fId
    · have e : vIdx l a.fId = k := idx_some hx (by simpa using he) hA
      have hd : decide (x.fId = a.fId) = true := decide_eq_true he
      repeat' (first | with_reducible (first | refine wA ?_ | refine wB ?_ | refine wC ?_ | refine w1 ?_ | refine w2 ?_ | refine w3 ?_ | refine w4 ?_ | refine w5 ?_ | refine w6 ?_ | refine w7 ?_ | refine w8 ?_ | refine wT ?_ | refine w9 ?_ | refine wE ?_ | refine wS ?_) | ((with_reducible refine hK _ ?_); clear hK K) | ((with_reducible refine PWp.condI ?_); refine ⟨_, rfl, fun hg => ?_, fun hg => ?_⟩ <;> first | (exact absurd hg (by decide)) | ((try simp only [Bool.not_true, Bool.not_false] at hg); (try simp only [hg]); (try simp only [push_cast] at hg); (try exact absurd trivial hg); (try (exfalso; omega)))) | ((with_reducible refine pops_plain fun K hK => ?_); simp (disch := omega) only [push_cast, seval, hx, hd]) | ((with_reducible show pcall _ _ _ _ _ _); (first | (refine pcV (g := 236) cloC (chg1_p ⟨_, _⟩ ⟨_, _⟩) ?_)); (try simp (disch := omega) only [push_cast, seval, hx, hd])) | ((with_reducible refine And.intro ?_ ?_); omega))
      ((with_reducible show PPostR _ _ _ _ _ _); refine finV ?_; (try simp only [push_cast, seval]))
      rw [e]
    ·
      repeat' (first | with_reducible (first | refine wA ?_ | refine wB ?_ | refine wC ?_ | refine w1 ?_ | refine w2 ?_ | refine w3 ?_ | refine w4 ?_ | refine w5 ?_ | refine w6 ?_ | refine w7 ?_ | refine w8 ?_ | refine wT ?_ | refine w9 ?_ | refine wE ?_ | refine wS ?_) | ((with_reducible refine hK _ ?_); clear hK K) | ((with_reducible refine PWp.condI ?_); refine ⟨_, rfl, fun hg => ?_, fun hg => ?_⟩ <;> first | (exact absurd hg (by decide)) | ((try simp only [Bool.not_true, Bool.not_false] at hg); (try simp only [hg]); (try simp only [push_cast] at hg); (try exact absurd trivial hg); (try (exfalso; omega)))) | ((with_reducible refine pops_plain fun K hK => ?_); simp (disch := omega) only [push_cast, seval, hx]) | ((with_reducible show pcall _ _ _ _ _ _); (first | (refine pcV (g := 236) cloC (chg1_p ⟨_, _⟩ ⟨_, _⟩) ?_)); (try simp (disch := omega) only [push_cast, seval, hx])) | ((with_reducible refine And.intro ?_ ?_); omega))
      (refine ⟨k + 1, by ((try dsimp only); omega), ?_, by (refine ⟨[], ?_, ?_, ?_, ?_⟩; (· ((try simp (disch := omega) only [push_cast, seval]); (repeat' (first | exact trivial | exact rfl | refine And.intro ?_ ?_ | omega)))); (· ((try simp (disch := omega) only [push_cast, seval]); (repeat' (first | exact trivial | exact rfl | refine And.intro ?_ ?_ | omega)))); (· exact rfl); (· (first | exact trivial | exact ⟨rfl, trivial⟩ | exact ⟨rfl, rfl, trivial⟩)))⟩)
      exact ⟨hlt, noneTo_succ hA hx (by simpa using he)⟩
  obtain rfl : k = l.length := by omega
  have e : vIdx l a.fId = -1 := noneTo_end hA
  repeat' (first | with_reducible (first | refine wA ?_ | refine wB ?_ | refine wC ?_ | refine w1 ?_ | refine w2 ?_ | refine w3 ?_ | refine w4 ?_ | refine w5 ?_ | refine w6 ?_ | refine w7 ?_ | refine w8 ?_ | refine wT ?_ | refine w9 ?_ | refine wE ?_ | refine wS ?_) | ((with_reducible refine hK _ ?_); clear hK K) | ((with_reducible refine PWp.condI ?_); refine ⟨_, rfl, fun hg => ?_, fun hg => ?_⟩ <;> first | (exact absurd hg (by decide)) | ((try simp only [Bool.not_true, Bool.not_false] at hg); (try simp only [hg]); (try simp only [push_cast] at hg); (try exact absurd trivial hg); (try (exfalso; omega)))) | ((with_reducible refine pops_plain fun K hK => ?_); simp (disch := omega) only [push_cast, seval]) | ((with_reducible show pcall _ _ _ _ _ _); (first | (refine pcV (g := 236) cloC (chg1_p ⟨_, _⟩ ⟨_, _⟩) ?_)); (try simp (disch := omega) only [push_cast, seval])) | ((with_reducible refine And.intro ?_ ?_); omega))
  ((with_reducible show PPostR _ _ _ _ _ _); refine finV ?_; (try simp only [push_cast, seval]))
  rw [e]
theorem iCopyVals_p (l : List GVal) (hl : l.length ≤ 1000000) : PCalls Tryz.prog 120 [.sl 2 (l.map pVal)] [] (RH (.own 0) [some (.row 141 2 (l.map pVal))]) := by
  refine pcalls_ofR okP Tryz.func120 rfl ?_
  simp only [Tryz.f120, List.length_cons, List.length_nil, Nat.reduceAdd, Nat.reduceSub, List.replicate_succ, List.replicate_zero, List.cons_append, List.nil_append, List.length_map]
  repeat' (first | with_reducible (first | refine wA ?_ | refine wB ?_ | refine wC ?_ | refine w1 ?_ | refine w2 ?_ | refine w3 ?_ | refine w4 ?_ | refine w5 ?_ | refine w6 ?_ | refine w7 ?_ | refine w8 ?_ | refine wT ?_ | refine w9 ?_ | refine wE ?_ | refine wS ?_) | ((with_reducible refine hK _ ?_); clear hK K) | ((with_reducible refine pops_plain fun K hK => ?_); simp (disch := omega) only [push_cast, seval]) | ((with_reducible refine And.intro ?_ ?_); omega))
  ((with_reducible show PPostR _ _ _ _ _ _); exact finH [_])
set_option maxHeartbeats 4000000 in
theorem iChangeVals_o (l xs : List GVal) (ok : valsOk l = true) (hx900 : xs.length ≤ 900) : PCalls Tryz.prog 178 [.sl 2 (l.map pVal), .sl 2 (xs.map pVal)] [] (RH (.tup [.own 0, .val (.bool (changeVals l xs).2)]) [some (.row 141 2 ((changeVals l xs).1.map pVal))]) := by
  have hl7 := (valsOk_iff.1 ok).2.2.2
  have e0 : changeVals l xs = match chAll l xs with | some p => if valsOk p then (p, true) else (l, false) | none => (l, false) := by unfold changeVals; rw [ok]; rfl
  have hc := iCopyVals_p l (by omega)
  refine pcalls_ofR okP Tryz.func178 rfl ?_
  simp only [Tryz.f178, List.length_cons, List.length_nil, Nat.reduceAdd, Nat.reduceSub, List.replicate_succ, List.replicate_zero, List.cons_append, List.nil_append, List.length_map]
  repeat' (first | with_reducible (first | refine wA ?_ | refine wB ?_ | refine wC ?_ | refine w1 ?_ | refine w2 ?_ | refine w3 ?_ | refine w4 ?_ | refine w5 ?_ | refine w6 ?_ | refine w7 ?_ | refine w8 ?_ | refine wT ?_ | refine w9 ?_ | refine wE ?_ | refine wS ?_) | ((with_reducible refine hK _ ?_); clear hK K) | ((with_reducible refine PWp.condI ?_); refine ⟨_, rfl, fun hg => ?_, fun hg => ?_⟩ <;> first | (exact absurd hg (by decide)) | ((try simp only [Bool.not_true, Bool.not_false] at hg); (try simp only [hg]); (try simp only [push_cast] at hg); (try exact absurd trivial hg); (try (exfalso; omega)))) | ((with_reducible refine pops_guard0 ?_); refine ⟨_, rfl, fun K hK => ⟨rfl, ?_⟩⟩; (try simp (disch := omega) only [push_cast, seval, ok])) | ((with_reducible refine pops_plain fun K hK => popO_row ?_); refine ⟨_, _, _, _, _, rfl, rfl, rfl, rfl, rfl, ?_⟩; simp (disch := omega) only [push_cast, seval, ok]) | ((with_reducible refine pops_plain fun K hK => ?_); simp (disch := omega) only [push_cast, seval, ok]) | ((with_reducible refine pops_guard ?_); refine ⟨_, rfl, fun K hK => ⟨_, rfl, fun hg => ?_, fun hg => ?_⟩⟩ <;> first | (exact absurd hg (by decide)) | ((try simp only [Bool.not_true, Bool.not_false] at hg); (try simp only [hg]); (try simp only [push_cast] at hg); (try exact absurd trivial hg); (try (exfalso; omega)); (try simp (disch := omega) only [push_cast, seval, ok]))) | ((with_reducible show pcall _ _ _ _ _ _); (first | (refine pcV (cf Tryz.func90) (iValsOk_p _ sd) ?_) | (refine pcV (cf Tryz.func90) (iValsOk_p _ sd) ?_) | (refine pcF (cf Tryz.func120) (hc) ?_) | (refine pcV (cf Tryz.func235) (idxVal_p _ ⟨_, _⟩ sd) ?_) | (refine pcall_RGf (cf Tryz.func237) [?_] ?_ ?_ ?_ (iDelete_pV ?_ ?_ ?_ ?_) ?_; rotate_left 1; (· ((try simp (disch := omega) only [push_cast, seval]); (repeat' (first | exact trivial | exact rfl | refine And.intro ?_ ?_ | omega)))); (· (repeat' (first | exact trivial | refine And.intro ?_ ?_ | exact ⟨_, rfl⟩ | (simp (disch := omega) only [push_cast, seval]; done) | exact rfl))); (· exact rfl); rotate_right 1; rotate_left 1; (all_goals (try (first | omega | exact (show _ = _ by assumption))))) | (refine pcall_RGf (cf Tryz.func237) [?_] ?_ ?_ ?_ (iDelete_pV ?_ ?_ ?_ ?_) ?_; rotate_left 1; (· ((try simp (disch := omega) only [push_cast, seval]); (repeat' (first | exact trivial | exact rfl | refine And.intro ?_ ?_ | omega)))); (· (repeat' (first | exact trivial | refine And.intro ?_ ?_ | exact ⟨_, rfl⟩ | (simp (disch := omega) only [push_cast, seval]; done) | exact rfl))); (· exact rfl); rotate_right 1; rotate_left 1; (all_goals (try (first | omega | exact (show _ = _ by assumption)))))); (try simp (disch := omega) only [push_cast, seval, ok])) | ((with_reducible refine And.intro ?_ ?_); omega))
  refine PWp.loopK (α := Nat × List GVal × List GVal) (fun x => match x with | (k, o, p) => [(6, .own 0), (19, .val (.int .i64 (k : Int)))]) [1, 2, 3, 4, 5, 7, 8, 9, 10, 11, 12, 13, 14, 15, 16, 20, 21, 22, 23, 24, 25, 26, 27, 28, 29, 30, 31, 32, 33, 34, 35, 36, 37, 38, 39, 40, 41, 42, 43, 44, 45, 46, 47, 48, 49, 50, 51, 52, 53, 54, 55, 56, 57, 58, 60] (fun x => match x with | (k, o, p) => [some (.row 141 2 (o.map pVal))]) (fun x => match x with | (k, o, p) => ((k ≤ xs.length ∧ SameV o p) ∧ chAll l xs = chAll p (xs.drop k)) ∧ o.length ≤ 7 + k) (fun x => match x with | (k, o, p) => xs.length - k) ((0, l, l)) (⟨⟨⟨Nat.zero_le _, ⟨List.Perm.refl _, valsOk_rise ok⟩⟩, rfl⟩, by omega⟩) (by (refine ⟨[?_], ?_, ?_, ?_, ?_⟩; rotate_left 1; (· ((try simp (disch := omega) only [push_cast, seval]); (repeat' (first | exact trivial | exact rfl | refine And.intro ?_ ?_ | omega)))); (· ((try simp (disch := omega) only [push_cast, seval]); (repeat' (first | exact trivial | exact rfl | refine And.intro ?_ ?_ | omega)))); (· exact rfl); (· (first | exact trivial | exact ⟨rfl, trivial⟩ | exact ⟨rfl, rfl, trivial⟩)))) ?_
  intro x ρ hI; obtain ⟨k, o, p⟩ := x
  (try dsimp only at hI)
  refine PWp.at (tm' := ?_) (H' := ?_) ?_ ?_ ?_; rotate_left 2; (· ((try simp only [push_cast, seval]); exact rfl)); (· ((try dsimp only); exact rfl))
  obtain ⟨⟨⟨hk, hS⟩, hch⟩, hol⟩ := hI
  by_cases hlt : k < xs.length
  case' pos =>
    obtain ⟨x, hx⟩ : ∃ x, xs[k]? = some x := ⟨_, List.getElem?_eq_getElem hlt⟩
    have hdr : xs.drop k = x :: xs.drop (k + 1) := by rw [List.drop_eq_getElem_cons hlt]; congr 1; exact (List.getElem?_eq_some_iff.1 hx).2
    rw [hdr] at hch
    by_cases h0 : x.fPower = 0
    · by_cases hi : vIdx o x.fId < 0
      · have hno : chFit p x = false := chOne_no hS.rise h0 (chHas_not fun q hq e => absurd e (of_decide_eq_false (vidx_neg (p := fun p : GVal => decide (p.fId = x.fId)) (xs := o) hi q (hS.perm.mem_iff.2 hq))))
        have er : chAll l xs = none := by rw [hch, chAll_cons, hno]; rfl
        have hz : decide (x.fPower = 0) = true := decide_eq_true h0
        rw [e0, er]
        repeat' (first | with_reducible (first | refine wA ?_ | refine wB ?_ | refine wC ?_ | refine w1 ?_ | refine w2 ?_ | refine w3 ?_ | refine w4 ?_ | refine w5 ?_ | refine w6 ?_ | refine w7 ?_ | refine w8 ?_ | refine wT ?_ | refine w9 ?_ | refine wE ?_ | refine wS ?_) | ((with_reducible refine hK _ ?_); clear hK K) | ((with_reducible refine PWp.condI ?_); refine ⟨_, rfl, fun hg => ?_, fun hg => ?_⟩ <;> first | (exact absurd hg (by decide)) | ((try simp only [Bool.not_true, Bool.not_false] at hg); (try simp only [hg]); (try simp only [push_cast] at hg); (try exact absurd trivial hg); (try (exfalso; omega)))) | ((with_reducible refine pops_guard0 ?_); refine ⟨_, rfl, fun K hK => ⟨rfl, ?_⟩⟩; (try simp (disch := omega) only [push_cast, seval, hx, hz])) | ((with_reducible refine pops_plain fun K hK => popO_row ?_); refine ⟨_, _, _, _, _, rfl, rfl, rfl, rfl, rfl, ?_⟩; simp (disch := omega) only [push_cast, seval, hx, hz]) | ((with_reducible refine pops_plain fun K hK => ?_); simp (disch := omega) only [push_cast, seval, hx, hz]) | ((with_reducible refine pops_guard ?_); refine ⟨_, rfl, fun K hK => ⟨_, rfl, fun hg => ?_, fun hg => ?_⟩⟩ <;> first | (exact absurd hg (by decide)) | ((try simp only [Bool.not_true, Bool.not_false] at hg); (try simp only [hg]); (try simp only [push_cast] at hg); (try exact absurd trivial hg); (try (exfalso; omega)); (try simp (disch := omega) only [push_cast, seval, hx, hz]))) | ((with_reducible show pcall _ _ _ _ _ _); (first | (refine pcV (cf Tryz.func90) (iValsOk_p _ sd) ?_) | (refine pcV (cf Tryz.func90) (iValsOk_p _ sd) ?_) | (refine pcF (cf Tryz.func120) (hc) ?_) | (refine pcV (cf Tryz.func235) (idxVal_p _ ⟨_, _⟩ sd) ?_) | (refine pcall_RGf (cf Tryz.func237) [?_] ?_ ?_ ?_ (iDelete_pV ?_ ?_ ?_ ?_) ?_; rotate_left 1; (· ((try simp (disch := omega) only [push_cast, seval]); (repeat' (first | exact trivial | exact rfl | refine And.intro ?_ ?_ | omega)))); (· (repeat' (first | exact trivial | refine And.intro ?_ ?_ | exact ⟨_, rfl⟩ | (simp (disch := omega) only [push_cast, seval]; done) | exact rfl))); (· exact rfl); rotate_right 1; rotate_left 1; (all_goals (try (first | omega | exact (show _ = _ by assumption))))) | (refine pcall_RGf (cf Tryz.func237) [?_] ?_ ?_ ?_ (iDelete_pV ?_ ?_ ?_ ?_) ?_; rotate_left 1; (· ((try simp (disch := omega) only [push_cast, seval]); (repeat' (first | exact trivial | exact rfl | refine And.intro ?_ ?_ | omega)))); (· (repeat' (first | exact trivial | refine And.intro ?_ ?_ | exact ⟨_, rfl⟩ | (simp (disch := omega) only [push_cast, seval]; done) | exact rfl))); (· exact rfl); rotate_right 1; rotate_left 1; (all_goals (try (first | omega | exact (show _ = _ by assumption)))))); (try simp (disch := omega) only [push_cast, seval, hx, hz])) | ((with_reducible refine And.intro ?_ ?_); omega))
        ((with_reducible show PPostR _ _ _ _ _ _); exact finH [_])
      · obtain ⟨q, hq, hqe, -⟩ := idx_get (p := fun p : GVal => decide (p.fId = x.fId)) (xs := o) (show 0 ≤ idx (fun p : GVal => decide (p.fId = x.fId)) o by unfold vIdx at hi; omega)
        have hqe := of_decide_eq_true hqe
        obtain ⟨j, hj⟩ : ∃ j : Nat, vIdx o x.fId = j := ⟨(vIdx o x.fId).toNat, by omega⟩
        rw [show (idx (fun p : GVal => decide (p.fId = x.fId)) o).toNat = j by unfold vIdx at hj; omega] at hq
        have hjl := (List.getElem?_eq_some_iff.1 hq).1
        have hS2 := same_erase hS hq hqe h0
        have hf : chFit p x = true := by unfold chFit; rw [chHas_of (hS.perm.mem_iff.1 (List.mem_of_getElem? hq)) hqe]; rfl
        have er : chAll l xs = chAll (chOne p x) (xs.drop (k + 1)) := by rw [hch, chAll_cons, if_pos hf]
        have hD := iDelete_pV o j hjl (by omega)
        have hel : (o.eraseIdx j).length ≤ o.length := List.length_eraseIdx_le o j
        generalize o.eraseIdx j = o2 at hS2 hD hel
        have hz : decide (x.fPower = 0) = true := decide_eq_true h0
        repeat' (first | with_reducible (first | refine wA ?_ | refine wB ?_ | refine wC ?_ | refine w1 ?_ | refine w2 ?_ | refine w3 ?_ | refine w4 ?_ | refine w5 ?_ | refine w6 ?_ | refine w7 ?_ | refine w8 ?_ | refine wT ?_ | refine w9 ?_ | refine wE ?_ | refine wS ?_) | ((with_reducible refine hK _ ?_); clear hK K) | ((with_reducible refine PWp.condI ?_); refine ⟨_, rfl, fun hg => ?_, fun hg => ?_⟩ <;> first | (exact absurd hg (by decide)) | ((try simp only [Bool.not_true, Bool.not_false] at hg); (try simp only [hg]); (try simp only [push_cast] at hg); (try exact absurd trivial hg); (try (exfalso; omega)))) | ((with_reducible refine pops_guard0 ?_); refine ⟨_, rfl, fun K hK => ⟨rfl, ?_⟩⟩; (try simp (disch := omega) only [push_cast, seval, hx, hz, hj])) | ((with_reducible refine pops_plain fun K hK => popO_row ?_); refine ⟨_, _, _, _, _, rfl, rfl, rfl, rfl, rfl, ?_⟩; simp (disch := omega) only [push_cast, seval, hx, hz, hj]) | ((with_reducible refine pops_plain fun K hK => ?_); simp (disch := omega) only [push_cast, seval, hx, hz, hj]) | ((with_reducible refine pops_guard ?_); refine ⟨_, rfl, fun K hK => ⟨_, rfl, fun hg => ?_, fun hg => ?_⟩⟩ <;> first | (exact absurd hg (by decide)) | ((try simp only [Bool.not_true, Bool.not_false] at hg); (try simp only [hg]); (try simp only [push_cast] at hg); (try exact absurd trivial hg); (try (exfalso; omega)); (try simp (disch := omega) only [push_cast, seval, hx, hz, hj]))) | ((with_reducible show pcall _ _ _ _ _ _); (first | (refine pcV (cf Tryz.func90) (iValsOk_p _ sd) ?_) | (refine pcV (cf Tryz.func90) (iValsOk_p _ sd) ?_) | (refine pcF (cf Tryz.func120) (hc) ?_) | (refine pcV (cf Tryz.func235) (idxVal_p _ ⟨_, _⟩ sd) ?_) | (refine pcall_RGf (cf Tryz.func237) [?_] ?_ ?_ ?_ (hD) ?_; rotate_left 1; (· ((try simp (disch := omega) only [push_cast, seval]); (repeat' (first | exact trivial | exact rfl | refine And.intro ?_ ?_ | omega)))); (· (repeat' (first | exact trivial | refine And.intro ?_ ?_ | exact ⟨_, rfl⟩ | (simp (disch := omega) only [push_cast, seval]; done) | exact rfl))); (· exact rfl); rotate_right 1; rotate_left 1; (all_goals (try (first | omega | exact (show _ = _ by assumption)))))); (try simp (disch := omega) only [push_cast, seval, hx, hz, hj])) | ((with_reducible refine And.intro ?_ ?_); omega))
        (refine ⟨(k + 1, o2, chOne p x), by ((try dsimp only); omega), ?_, by (refine ⟨[?_], ?_, ?_, ?_, ?_⟩; rotate_left 1; (· ((try simp (disch := omega) only [push_cast, seval]); (repeat' (first | exact trivial | exact rfl | refine And.intro ?_ ?_ | omega)))); (· ((try simp (disch := omega) only [push_cast, seval]); (repeat' (first | exact trivial | exact rfl | refine And.intro ?_ ?_ | omega)))); (· exact rfl); (· (first | exact trivial | exact ⟨rfl, trivial⟩ | exact ⟨rfl, rfl, trivial⟩)))⟩)
        exact ⟨⟨⟨hlt, hS2⟩, er⟩, by dsimp only; omega⟩
    · have hz : decide (x.fPower = 0) = false := decide_eq_false h0
      have hf := chFit_pow (p := p) h0
      have er : chAll l xs = chAll (chOne p x) (xs.drop (k + 1)) := by rw [hch, chAll_cons, if_pos hf]
      by_cases hi : vIdx o x.fId < 0
      · have hS2 := same_push hS (x := x) (fun q hq e => absurd e (of_decide_eq_false (vidx_neg (p := fun p : GVal => decide (p.fId = x.fId)) (xs := o) hi q hq))) h0
        repeat' (first | with_reducible (first | refine wA ?_ | refine wB ?_ | refine wC ?_ | refine w1 ?_ | refine w2 ?_ | refine w3 ?_ | refine w4 ?_ | refine w5 ?_ | refine w6 ?_ | refine w7 ?_ | refine w8 ?_ | refine wT ?_ | refine w9 ?_ | refine wE ?_ | refine wS ?_) | ((with_reducible refine hK _ ?_); clear hK K) | ((with_reducible refine PWp.condI ?_); refine ⟨_, rfl, fun hg => ?_, fun hg => ?_⟩ <;> first | (exact absurd hg (by decide)) | ((try simp only [Bool.not_true, Bool.not_false] at hg); (try simp only [hg]); (try simp only [push_cast] at hg); (try exact absurd trivial hg); (try (exfalso; omega)))) | ((with_reducible refine pops_guard0 ?_); refine ⟨_, rfl, fun K hK => ⟨rfl, ?_⟩⟩; (try simp (disch := omega) only [push_cast, seval, hx, hz])) | ((with_reducible refine pops_plain fun K hK => popO_row ?_); refine ⟨_, _, _, _, _, rfl, rfl, rfl, rfl, rfl, ?_⟩; simp (disch := omega) only [push_cast, seval, hx, hz]) | ((with_reducible refine pops_plain fun K hK => ?_); simp (disch := omega) only [push_cast, seval, hx, hz]) | ((with_reducible refine pops_guard ?_); refine ⟨_, rfl, fun K hK => ⟨_, rfl, fun hg => ?_, fun hg => ?_⟩⟩ <;> first | (exact absurd hg (by decide)) | ((try simp only [Bool.not_true, Bool.not_false] at hg); (try simp only [hg]); (try simp only [push_cast] at hg); (try exact absurd trivial hg); (try (exfalso; omega)); (try simp (disch := omega) only [push_cast, seval, hx, hz]))) | ((with_reducible show pcall _ _ _ _ _ _); (first | (refine pcV (cf Tryz.func90) (iValsOk_p _ sd) ?_) | (refine pcV (cf Tryz.func90) (iValsOk_p _ sd) ?_) | (refine pcF (cf Tryz.func120) (hc) ?_) | (refine pcV (cf Tryz.func235) (idxVal_p _ ⟨_, _⟩ sd) ?_) | (refine pcall_RGf (cf Tryz.func237) [?_] ?_ ?_ ?_ (hD) ?_; rotate_left 1; (· ((try simp (disch := omega) only [push_cast, seval]); (repeat' (first | exact trivial | exact rfl | refine And.intro ?_ ?_ | omega)))); (· (repeat' (first | exact trivial | refine And.intro ?_ ?_ | exact ⟨_, rfl⟩ | (simp (disch := omega) only [push_cast, seval]; done) | exact rfl))); (· exact rfl); rotate_right 1; rotate_left 1; (all_goals (try (first | omega | exact (show _ = _ by assumption)))))); (try simp (disch := omega) only [push_cast, seval, hx, hz])) | ((with_reducible refine And.intro ?_ ?_); omega))
        (refine ⟨(k + 1, o ++ [x], chOne p x), by ((try dsimp only); omega), ?_, by (refine ⟨[?_], ?_, ?_, ?_, ?_⟩; rotate_left 1; (· ((first | simp (disch := omega) only [push_cast, seval, List.map_append, List.map_cons, List.map_nil, pVal] | simp (disch := omega) only [push_cast, seval] | skip); (repeat' (first | exact trivial | exact rfl | refine And.intro ?_ ?_ | omega)))); (· ((first | simp (disch := omega) only [push_cast, seval, List.map_append, List.map_cons, List.map_nil, pVal] | simp (disch := omega) only [push_cast, seval] | skip); (repeat' (first | exact trivial | exact rfl | refine And.intro ?_ ?_ | omega)))); (· exact rfl); (· (first | exact trivial | exact ⟨rfl, trivial⟩ | exact ⟨rfl, rfl, trivial⟩)))⟩)
        exact ⟨⟨⟨hlt, hS2⟩, er⟩, by dsimp only; rw [List.length_append, List.length_singleton]; omega⟩
      · obtain ⟨q, hq, hqe, -⟩ := idx_get (p := fun p : GVal => decide (p.fId = x.fId)) (xs := o) (show 0 ≤ idx (fun p : GVal => decide (p.fId = x.fId)) o by unfold vIdx at hi; omega)
        have hqe := of_decide_eq_true hqe
        obtain ⟨j, hj⟩ : ∃ j : Nat, vIdx o x.fId = j := ⟨(vIdx o x.fId).toNat, by omega⟩
        rw [show (idx (fun p : GVal => decide (p.fId = x.fId)) o).toNat = j by unfold vIdx at hj; omega] at hq
        have hjl := (List.getElem?_eq_some_iff.1 hq).1
        have hS2 := same_set hS hq hqe h0
        repeat' (first | with_reducible (first | refine wA ?_ | refine wB ?_ | refine wC ?_ | refine w1 ?_ | refine w2 ?_ | refine w3 ?_ | refine w4 ?_ | refine w5 ?_ | refine w6 ?_ | refine w7 ?_ | refine w8 ?_ | refine wT ?_ | refine w9 ?_ | refine wE ?_ | refine wS ?_) | ((with_reducible refine hK _ ?_); clear hK K) | ((with_reducible refine PWp.condI ?_); refine ⟨_, rfl, fun hg => ?_, fun hg => ?_⟩ <;> first | (exact absurd hg (by decide)) | ((try simp only [Bool.not_true, Bool.not_false] at hg); (try simp only [hg]); (try simp only [push_cast] at hg); (try exact absurd trivial hg); (try (exfalso; omega)))) | ((with_reducible refine pops_guard0 ?_); refine ⟨_, rfl, fun K hK => ⟨rfl, ?_⟩⟩; (try simp (disch := omega) only [push_cast, seval, hx, hz, hj, hq])) | ((with_reducible refine pops_plain fun K hK => popO_row ?_); refine ⟨_, _, _, _, _, rfl, rfl, rfl, rfl, rfl, ?_⟩; simp (disch := omega) only [push_cast, seval, hx, hz, hj, hq]) | ((with_reducible refine pops_plain fun K hK => ?_); simp (disch := omega) only [push_cast, seval, hx, hz, hj, hq]) | ((with_reducible refine pops_guard ?_); refine ⟨_, rfl, fun K hK => ⟨_, rfl, fun hg => ?_, fun hg => ?_⟩⟩ <;> first | (exact absurd hg (by decide)) | ((try simp only [Bool.not_true, Bool.not_false] at hg); (try simp only [hg]); (try simp only [push_cast] at hg); (try exact absurd trivial hg); (try (exfalso; omega)); (try simp (disch := omega) only [push_cast, seval, hx, hz, hj, hq]))) | ((with_reducible show pcall _ _ _ _ _ _); (first | (refine pcV (cf Tryz.func90) (iValsOk_p _ sd) ?_) | (refine pcV (cf Tryz.func90) (iValsOk_p _ sd) ?_) | (refine pcF (cf Tryz.func120) (hc) ?_) | (refine pcV (cf Tryz.func235) (idxVal_p _ ⟨_, _⟩ sd) ?_) | (refine pcall_RGf (cf Tryz.func237) [?_] ?_ ?_ ?_ (hD) ?_; rotate_left 1; (· ((try simp (disch := omega) only [push_cast, seval]); (repeat' (first | exact trivial | exact rfl | refine And.intro ?_ ?_ | omega)))); (· (repeat' (first | exact trivial | refine And.intro ?_ ?_ | exact ⟨_, rfl⟩ | (simp (disch := omega) only [push_cast, seval]; done) | exact rfl))); (· exact rfl); rotate_right 1; rotate_left 1; (all_goals (try (first | omega | exact (show _ = _ by assumption)))))); (try simp (disch := omega) only [push_cast, seval, hx, hz, hj, hq])) | ((with_reducible refine And.intro ?_ ?_); omega))
        (refine ⟨(k + 1, o.set j ⟨q.fId, x.fPower⟩, chOne p x), by ((try dsimp only); omega), ?_, by (refine ⟨[?_], ?_, ?_, ?_, ?_⟩; rotate_left 1; (· ((first | simp (disch := omega) only [push_cast, seval, List.map_set, pVal] | simp (disch := omega) only [push_cast, seval] | skip); (repeat' (first | exact trivial | exact rfl | refine And.intro ?_ ?_ | omega)))); (· ((first | simp (disch := omega) only [push_cast, seval, List.map_set, pVal] | simp (disch := omega) only [push_cast, seval] | skip); (repeat' (first | exact trivial | exact rfl | refine And.intro ?_ ?_ | omega)))); (· exact rfl); (· (first | exact trivial | exact ⟨rfl, trivial⟩ | exact ⟨rfl, rfl, trivial⟩)))⟩)
        exact ⟨⟨⟨hlt, hS2⟩, er⟩, by dsimp only; rw [List.length_set]; omega⟩
  case' neg =>
    obtain rfl : k = xs.length := by omega
    rw [List.drop_length] at hch
    have er : chAll l xs = some p := hch
    have hs1 := vsort_p o ⟨by omega, hS.ids⟩
    have hpl : p.length = o.length := hS.perm.length_eq.symm
    rw [hS.sort] at hs1
    have e1 : changeVals l xs = if valsOk p = true then (p, true) else (l, false) := by rw [e0, er]
    rw [e1]
    cases okp : valsOk p with
    | true =>
      rw [if_pos rfl]
      repeat' (first | with_reducible (first | refine wA ?_ | refine wB ?_ | refine wC ?_ | refine w1 ?_ | refine w2 ?_ | refine w3 ?_ | refine w4 ?_ | refine w5 ?_ | refine w6 ?_ | refine w7 ?_ | refine w8 ?_ | refine wT ?_ | refine w9 ?_ | refine wE ?_ | refine wS ?_) | ((with_reducible refine hK _ ?_); clear hK K) | ((with_reducible refine PWp.condI ?_); refine ⟨_, rfl, fun hg => ?_, fun hg => ?_⟩ <;> first | (exact absurd hg (by decide)) | ((try simp only [Bool.not_true, Bool.not_false] at hg); (try simp only [hg]); (try simp only [push_cast] at hg); (try exact absurd trivial hg); (try (exfalso; omega)))) | ((with_reducible refine pops_guard0 ?_); refine ⟨_, rfl, fun K hK => ⟨rfl, ?_⟩⟩; (try simp (disch := omega) only [push_cast, seval, okp])) | ((with_reducible refine pops_plain fun K hK => popO_row ?_); refine ⟨_, _, _, _, _, rfl, rfl, rfl, rfl, rfl, ?_⟩; simp (disch := omega) only [push_cast, seval, okp]) | ((with_reducible refine pops_plain fun K hK => ?_); simp (disch := omega) only [push_cast, seval, okp]) | ((with_reducible refine pops_guard ?_); refine ⟨_, rfl, fun K hK => ⟨_, rfl, fun hg => ?_, fun hg => ?_⟩⟩ <;> first | (exact absurd hg (by decide)) | ((try simp only [Bool.not_true, Bool.not_false] at hg); (try simp only [hg]); (try simp only [push_cast] at hg); (try exact absurd trivial hg); (try (exfalso; omega)); (try simp (disch := omega) only [push_cast, seval, okp]))) | ((with_reducible show pcall _ _ _ _ _ _); (first | (refine pcV (cf Tryz.func90) (iValsOk_p _ sd) ?_) | (refine pcV (cf Tryz.func90) (iValsOk_p _ sd) ?_) | (refine pcF (cf Tryz.func120) (hc) ?_) | (refine pcV (cf Tryz.func235) (idxVal_p _ ⟨_, _⟩ sd) ?_) | (refine pcall_RGf (cf Tryz.func237) [?_] ?_ ?_ ?_ (hD) ?_; rotate_left 1; (· ((try simp (disch := omega) only [push_cast, seval]); (repeat' (first | exact trivial | exact rfl | refine And.intro ?_ ?_ | omega)))); (· (repeat' (first | exact trivial | refine And.intro ?_ ?_ | exact ⟨_, rfl⟩ | (simp (disch := omega) only [push_cast, seval]; done) | exact rfl))); (· exact rfl); rotate_right 1; rotate_left 1; (all_goals (try (first | omega | exact (show _ = _ by assumption))))) | (refine pcall_RGf (cf Tryz.func238) [?_] ?_ ?_ ?_ (hs1) ?_; rotate_left 1; (· ((try simp (disch := omega) only [push_cast, seval]); (repeat' (first | exact trivial | exact rfl | refine And.intro ?_ ?_ | omega)))); (· (repeat' (first | exact trivial | refine And.intro ?_ ?_ | exact ⟨_, rfl⟩ | (simp (disch := omega) only [push_cast, seval]; done) | exact rfl))); (· exact rfl); rotate_right 1; rotate_left 1; (all_goals (try (first | omega | exact (show _ = _ by assumption)))))); (try simp (disch := omega) only [push_cast, seval, okp])) | ((with_reducible refine And.intro ?_ ?_); omega))
      ((with_reducible show PPostR _ _ _ _ _ _); exact finH [_])
    | false =>
      rw [if_neg (by simp)]
      repeat' (first | with_reducible (first | refine wA ?_ | refine wB ?_ | refine wC ?_ | refine w1 ?_ | refine w2 ?_ | refine w3 ?_ | refine w4 ?_ | refine w5 ?_ | refine w6 ?_ | refine w7 ?_ | refine w8 ?_ | refine wT ?_ | refine w9 ?_ | refine wE ?_ | refine wS ?_) | ((with_reducible refine hK _ ?_); clear hK K) | ((with_reducible refine PWp.condI ?_); refine ⟨_, rfl, fun hg => ?_, fun hg => ?_⟩ <;> first | (exact absurd hg (by decide)) | ((try simp only [Bool.not_true, Bool.not_false] at hg); (try simp only [hg]); (try simp only [push_cast] at hg); (try exact absurd trivial hg); (try (exfalso; omega)))) | ((with_reducible refine pops_guard0 ?_); refine ⟨_, rfl, fun K hK => ⟨rfl, ?_⟩⟩; (try simp (disch := omega) only [push_cast, seval, okp])) | ((with_reducible refine pops_plain fun K hK => popO_row ?_); refine ⟨_, _, _, _, _, rfl, rfl, rfl, rfl, rfl, ?_⟩; simp (disch := omega) only [push_cast, seval, okp]) | ((with_reducible refine pops_plain fun K hK => ?_); simp (disch := omega) only [push_cast, seval, okp]) | ((with_reducible refine pops_guard ?_); refine ⟨_, rfl, fun K hK => ⟨_, rfl, fun hg => ?_, fun hg => ?_⟩⟩ <;> first | (exact absurd hg (by decide)) | ((try simp only [Bool.not_true, Bool.not_false] at hg); (try simp only [hg]); (try simp only [push_cast] at hg); (try exact absurd trivial hg); (try (exfalso; omega)); (try simp (disch := omega) only [push_cast, seval, okp]))) | ((with_reducible show pcall _ _ _ _ _ _); (first | (refine pcV (cf Tryz.func90) (iValsOk_p _ sd) ?_) | (refine pcV (cf Tryz.func90) (iValsOk_p _ sd) ?_) | (refine pcF (cf Tryz.func120) (hc) ?_) | (refine pcV (cf Tryz.func235) (idxVal_p _ ⟨_, _⟩ sd) ?_) | (refine pcall_RGf (cf Tryz.func237) [?_] ?_ ?_ ?_ (hD) ?_; rotate_left 1; (· ((try simp (disch := omega) only [push_cast, seval]); (repeat' (first | exact trivial | exact rfl | refine And.intro ?_ ?_ | omega)))); (· (repeat' (first | exact trivial | refine And.intro ?_ ?_ | exact ⟨_, rfl⟩ | (simp (disch := omega) only [push_cast, seval]; done) | exact rfl))); (· exact rfl); rotate_right 1; rotate_left 1; (all_goals (try (first | omega | exact (show _ = _ by assumption))))) | (refine pcall_RGf (cf Tryz.func238) [?_] ?_ ?_ ?_ (hs1) ?_; rotate_left 1; (· ((try simp (disch := omega) only [push_cast, seval]); (repeat' (first | exact trivial | exact rfl | refine And.intro ?_ ?_ | omega)))); (· (repeat' (first | exact trivial | refine And.intro ?_ ?_ | exact ⟨_, rfl⟩ | (simp (disch := omega) only [push_cast, seval]; done) | exact rfl))); (· exact rfl); rotate_right 1; rotate_left 1; (all_goals (try (first | omega | exact (show _ = _ by assumption)))))); (try simp (disch := omega) only [push_cast, seval, okp])) | ((with_reducible refine And.intro ?_ ?_); omega))
      ((with_reducible show PPostR _ _ _ _ _ _); exact finH [_])
end Go.Proofs.YtiboajlnjldalaaGreatDoor
namespace Go.Proofs.YtiboajlnjldalaaGreatDoor
set_option linter.unusedSimpArgs false
set_option linter.unusedVariables false
open Go.RowKit
def kindC (ops : Array Oper) (tn : List Nat) (i : Nat) : Nat := if tn.contains i then 3 else kindAt ops i
theorem kindC_le {ops : Array Oper} {tn : List Nat} {i : Nat} (h : kindC ops tn i ≤ 2) : tn.contains i = false ∧ kindC ops tn i = kindAt ops i := by
  unfold kindC at h ⊢
  cases hc : tn.contains i with
  | true => rw [hc] at h; simp at h
  | false => exact ⟨rfl, by simp⟩
def ordC (ops : Array Oper) (tn : List Nat) : List Nat → Array Bool → Bool
  | [], listed => Region.ready .any ops listed == []
  | i :: rest, listed =>
    (Region.ready .any ops listed).contains i &&
    (if kindC ops tn i ≤ 1 then Region.free .any ops listed i && (kindC ops tn i == 0 || (List.range ops.size).all fun j => listed.getD j true || j == i || kindC ops tn j ≤ 2 || waits ops i 6 j)
     else Region.ready .any ops listed == [i]) && ordC ops tn rest (listed.setIfInBounds i true)
def panyC (P : Program) (T : Tys) (md : Bool) (ops : Array Oper) (tn : List Nat) (K : St → Prop) : List Nat → St → Prop
  | [], σ => K σ
  | i :: rest, σ => match ops[i]? with
    | none => False
    | some o => if pwanted ops σ.tm o.guard then
        (if kindC ops tn i ≤ 1 then py P T σ.tm σ.H o.op o.type fun pv => panyC P T md ops tn K rest (σ.put o.dst pv) else pop P T md (tn.contains i) o σ fun pv σ' => panyC P T md ops tn K rest (σ'.put o.dst pv))
      else panyC P T md ops tn K rest (σ.put o.dst (.val undef))
section
variable {P : Program} {ops : Array Oper} {tn : List Nat} {Q : Exit → Act → World → Prop}
def wpC (P : Program) (ops : Array Oper) (tn : List Nat) (Q : Exit → Act → World → Prop) : Nat → Array Bool → Act → World → Prop
  | 0, listed, a, w => Region.ready .any ops listed = [] ∧ Q .normal a w
  | fuel + 1, listed, a, w =>
    (Region.ready .any ops listed = [] → Q .normal a w) ∧
    ∀ i ∈ Region.ready .any ops listed, wpOp P ops Q i (fun a' w' => (kindC ops tn i ≤ 2 → Ext w w') ∧ wpC P ops tn Q fuel (listed.setIfInBounds i true) a' w') a w
theorem wpAny_of_C : ∀ (fuel : Nat) (listed : Array Bool) (a : Act) (w : World), wpC P ops tn Q fuel listed a w → wpAny P .any ops Q fuel listed a w
  | 0, _, _, _, h => h
  | fuel + 1, _, _, _, h => ⟨h.1, fun i hi => wpOp_mono (fun a' w' h' => wpAny_of_C fuel _ a' w' h'.2) (h.2 i hi)⟩
theorem wpC_first {i : Nat} {oi : Oper} {v : Value} (hi : ops[i]? = some oi) (hsel : ∀ (j : Nat) (o : Oper) cs b, ops[j]? = some o → o.op ≠ .select cs b) (hpan : ∀ c a w, Q (.panic c) a w → False) (b : Bool)
    : ∀ (fuel : Nat) (listed : Array Bool) (a : Act) (w : World),
      (∀ j oj, ops[j]? = some oj → j ≠ i → listed.getD j true = false → ((∀ e ∈ oj.after, Region.binds .any e = true → e.on ≠ i) → oi.apart ops oj = true) ∧ (b = true → waits ops i 6 j = false → kindC ops tn j ≤ 2)) →
      ClosedL ops listed → kindC ops tn i ≤ 2 → i ∈ Region.ready .any ops listed → YieldsIf P ops (fun w' => b = true → Ext w w') oi v a →
      wpC P ops tn Q fuel (listed.setIfInBounds i true) (a.put oi.dst v) w → wpC P ops tn Q (fuel + 1) listed a w := by
  intro fuel
  induction fuel with
  | zero =>
    intro listed a w _ _ _ hr hy H
    refine ⟨fun h => (by rw [h] at hr; cases hr), fun j hj => ?_⟩
    by_cases hji : j = i
    · subst hji; exact hy.wpOp hi (fun _ => Ext.refl w) ⟨fun _ => Ext.refl w, H⟩
    · have := ready_mono hj hji
      rw [H.1] at this
      cases this
  | succ fuel ih =>
    intro listed a w hfree hcl hki hr hy H
    refine ⟨fun h => (by rw [h] at hr; cases hr), fun j hj => ?_⟩
    by_cases hji : j = i
    · subst hji; exact hy.wpOp hi (fun _ => Ext.refl w) ⟨fun _ => Ext.refl w, H⟩
    · have h1 := H.2 j (ready_mono hj hji)
      obtain ⟨hjun, oj, hoj, hall⟩ := mem_ready.1 hj
      have hnot : ∀ e ∈ oj.after, Region.binds .any e = true → e.on ≠ i := fun e he hb heq => by
        have h1 := hall e he hb
        have h0 := (mem_ready.1 hr).1
        rw [heq] at h1
        rcases Nat.lt_or_ge i listed.size with h' | h'
        · simp [h'] at h0 h1; rw [h0] at h1; cases h1
        · simp [Array.getElem?_eq_none h'] at h1
      have hap := hfree j oj hoj hji hjun
      have hnw : waits ops i 6 j = false := by
        cases hq : waits ops i 6 j with
        | false => rfl
        | true => exact (waits_no hcl (mem_ready.1 hr).1 _ _ hq ⟨oj, hoj, hall⟩).elim
      have h2 := wpOp_putIf hoj (hap.1 hnot) (fun cs b => hsel i oi cs b hi) (fun cs b => hsel j oj cs b hoj) (fun c a w q => (hpan _ _ _ q).elim) hy h1
      have hfree' : ∀ k ok, ops[k]? = some ok → k ≠ i → (listed.setIfInBounds j true).getD k true = false →
          ((∀ e ∈ ok.after, Region.binds .any e = true → e.on ≠ i) → oi.apart ops ok = true) ∧ (b = true → waits ops i 6 k = false → kindC ops tn k ≤ 2) := fun k ok hk hki hun => by
        refine hfree k ok hk hki ?_
        by_cases hjk : j = k
        · subst hjk; exact hjun
        · rw [getD_set_ne true hjk] at hun; exact hun
      refine wpOp_mono (fun a' w' h3 => ⟨h3.2.1, ih (listed.setIfInBounds j true) a' w' hfree' (hcl.set hj) hki (ready_mono hr (Ne.symm hji)) (YieldsIf.mono' (P := P) (ops := ops) (o := oi) (a := a') h3.1 fun w'' q hb => (h3.2.1 (hap.2 hb hnw)).trans (q hb)) ?_⟩) h2
      rw [Array.setIfInBounds_comm _ _ hji]
      exact h3.2.2
end
section
variable {P : Program} {T : Tys} {E : Env}
theorem panyC_ok (hT : TysOk P T) (hE : elemsOk P T) {md : Bool} (ops : Array Oper) (tn : List Nat) (hs : Region.noSelect ops = true) {K : St → Prop} {Q : Exit → Act → World → Prop} (hpan : ∀ c a w, Q (.panic c) a w → False) (hq : ∀ σ' a' w', K σ' → Rel E σ' a' w' → Q .normal a' w') :
    ∀ (ord : List Nat) (fuel : Nat) (listed : Array Bool) (σ : St) (a : Act) (w : World), ord.length ≤ fuel → ordC ops tn ord listed = true → ClosedL ops listed → panyC P T md ops tn K ord σ → Rel E σ a w → wpC P ops tn Q fuel listed a w
  | [], fuel, listed, σ, a, w, _, ho, _, hk, r => by
    have hr : Region.ready .any ops listed = [] := by simpa [ordC] using ho
    cases fuel with
    | zero => exact ⟨hr, hq σ a w hk r⟩
    | succ fuel => exact ⟨fun _ => hq σ a w hk r, by rw [hr]; simp⟩
  | i :: rest, 0, _, _, _, _, hl, _, _, _, _ => by simp at hl
  | i :: rest, fuel + 1, listed, σ, a, w, hl, ho, hcl, hk, r => by
    simp only [ordC, Bool.and_eq_true] at ho
    obtain ⟨⟨h1, h2⟩, h3⟩ := ho
    have hi : i ∈ Region.ready .any ops listed := by simpa using h1
    obtain ⟨o, hio⟩ := ready_lt hi
    have hw := r.elim fun M q => q.elim fun h q => wanted_eq q.2.1 ops o
    have hka : kindAt ops i = kindOp o.op := by simp [kindAt, hio]
    simp only [panyC, hio] at hk
    have next := panyC_ok hT hE (md := md) ops tn hs hpan hq rest fuel (listed.setIfInBounds i true)
    have hl' : rest.length ≤ fuel := by simpa using hl
    by_cases hkC : kindC ops tn i ≤ 1
    · obtain ⟨_, hkk⟩ := kindC_le (ops := ops) (tn := tn) (i := i) (by omega)
      have hko : kindC ops tn i = kindOp o.op := hkk.trans hka
      have hkd : kindOp o.op ≤ 1 := by omega
      rw [if_pos hkC, Bool.and_eq_true, hko] at h2
      have hfree := Region.free_spec hio h2.1
      have hside : ∀ j oj, ops[j]? = some oj → j ≠ i → listed.getD j true = false → ((∀ e ∈ oj.after, Region.binds .any e = true → e.on ≠ i) → o.apart ops oj = true) ∧ ((kindOp o.op == 1) = true → waits ops i 6 j = false → kindC ops tn j ≤ 2) := fun j oj hj hji hun => by
        refine ⟨fun hno => hfree j oj hj hji hun hno, fun hk1 hnw => ?_⟩
        have hk1' : kindOp o.op = 1 := by simpa using hk1
        have h22 := h2.2
        simp only [hk1', Bool.or_eq_true, beq_iff_eq, List.all_eq_true, List.mem_range] at h22
        rcases h22 with q | q
        · cases q
        · have hjl : j < ops.size := (Array.getElem?_eq_some_iff.1 hj).1
          rcases q j hjl with ((q | q) | q) | q
          · rw [hun] at q; cases q
          · exact absurd q hji
          · simpa using q
          · rw [hnw] at q; cases q
      have hk2 : kindC ops tn i ≤ 2 := by omega
      by_cases hp : pwanted ops σ.tm o.guard = true
      · rw [if_pos hp, if_pos hkC] at hk
        obtain ⟨M, h, s, t, d⟩ := r
        obtain ⟨pv, v, g1, g2, g3⟩ := py_ok hT hE s.inv t o hk
        refine wpC_first (v := v) hio (noSelect_all hs) hpan (kindOp o.op == 1) fuel listed a w hside hcl hk2 hi (.inl ⟨by rw [hw]; exact hp, fun w' hx => g3 w' fun q => hx (by simpa using q)⟩) ?_
        exact next _ _ w hl' h3 (hcl.set hi) g1 ⟨M, h, by rw [St.put_H]; exact s, t.put g2 o.dst, by rw [Act.put_defers']; exact d⟩
      · rw [if_neg hp] at hk
        refine wpC_first (v := undef) hio (noSelect_all hs) hpan (kindOp o.op == 1) fuel listed a w hside hcl hk2 hi (.inr ⟨by rw [hw]; simpa using hp, rfl⟩) ?_
        exact next _ _ w hl' h3 (hcl.set hi) hk (r.skip o.dst)
    · rw [if_neg hkC] at h2
      have hrd : Region.ready .any ops listed = [i] := by simpa using h2
      refine ⟨(fun h0 => by rw [hrd] at h0; cases h0), fun j hj => ?_⟩
      rw [hrd, List.mem_singleton] at hj
      subst hj
      unfold wpOp
      simp only [hio, hw]
      by_cases hp : pwanted ops σ.tm o.guard = true
      · rw [if_pos hp, if_neg hkC] at hk
        rw [if_pos hp]
        refine .inl (pop_rel hT hE r hk fun pv σ' v w' g1 g2 g3 => ⟨fun hle => ?_, next _ _ w' hl' h3 (hcl.set hi) g1 g3⟩)
        obtain ⟨hnt, hkk⟩ := kindC_le hle
        rw [hkk, hka] at hle
        rw [hkk, hka] at hkC
        refine g2 hnt ?_
        cases hx : extOp o.op with
        | true => rfl
        | false =>
          exfalso
          have : kindOp o.op ≤ 1 ∨ kindOp o.op = 3 := by
            unfold kindOp
            split <;> first | (left; omega) | (rw [hx]; right; rfl)
          omega
      · rw [if_neg hp] at hk
        rw [if_neg hp]
        exact ⟨fun _ => Ext.refl w, next _ _ w hl' h3 (hcl.set hi) hk (r.skip o.dst)⟩
end
section
variable {P : Program} {T : Tys} {md : Bool} {ops : Array Oper} {tn : List Nat} {K : St → Prop} {σ : St}
theorem panyC_nil (h : K σ) : panyC P T md ops tn K [] σ := h
theorem panyC_I {i : Nat} {rest : List Nat} (h : ∃ o, ops.toList[i]? = some o ∧ ∀ K' : St → Prop, (∀ σ, panyC P T md ops tn K rest σ → K' σ) →
    (if kindC ops tn i ≤ 1 then pstepD P T md ops o σ K' else if pwanted ops σ.tm o.guard then pop P T md (tn.contains i) o σ fun pv σ' => K' (σ'.put o.dst pv) else K' (σ.put o.dst (.val undef)))) : panyC P T md ops tn K (i :: rest) σ := by
  obtain ⟨o, hi, h⟩ := h
  rw [Array.getElem?_toList] at hi
  have h := h _ fun _ h => h
  simp only [panyC, hi]
  split
  · rename_i hw
    split
    · rename_i hk
      rw [if_pos hk] at h
      unfold pstepD at h
      rw [if_pos hw] at h
      have hk1 : kindOp o.op ≤ 1 := by
        have := (kindC_le (ops := ops) (tn := tn) (i := i) (by omega)).2
        have h2 : kindAt ops i = kindOp o.op := by simp [kindAt, hi]
        omega
      rw [if_pos hk1] at h
      exact h
    · rename_i hk
      rw [if_neg hk, if_pos hw] at h
      exact h
  · rename_i hw
    split at h
    · unfold pstepD at h
      rw [if_neg hw] at h
      exact h
    · first | exact h | (rw [if_neg hw] at h; exact h)
theorem panyC_w {i : Nat} {o : Oper} {K' : St → Prop} (hk : (decide (kindC ops tn i ≤ 1)) = true) (h : pstepD P T md ops o σ K') : (if kindC ops tn i ≤ 1 then pstepD P T md ops o σ K' else if pwanted ops σ.tm o.guard then pop P T md (tn.contains i) o σ fun pv σ' => K' (σ'.put o.dst pv) else K' (σ.put o.dst (.val undef))) := by
  rw [if_pos (of_decide_eq_true hk)]
  exact h
theorem panyC_s {i : Nat} {dst : Option Tmp} {op : Op} {ty : TypeId} {pos : String} {after : Array Edge} {K' : St → Prop} {cm : Bool} (hk : (decide (kindC ops tn i ≤ 1)) = false) (hc : tn.contains i = cm) (h : popO P T md cm op ty σ fun pv σ' => K' (σ'.put dst pv)) :
    (if kindC ops tn i ≤ 1 then pstepD P T md ops ⟨dst, op, ty, pos, after, none⟩ σ K' else if pwanted ops σ.tm (⟨dst, op, ty, pos, after, none⟩ : Oper).guard then pop P T md (tn.contains i) ⟨dst, op, ty, pos, after, none⟩ σ fun pv σ' => K' (σ'.put (⟨dst, op, ty, pos, after, none⟩ : Oper).dst pv) else K' (σ.put (⟨dst, op, ty, pos, after, none⟩ : Oper).dst (.val undef))) := by
  rw [if_neg (of_decide_eq_false hk)]
  simp only [pwanted, if_true]
  subst hc
  exact h
end
end Go.Proofs.YtiboajlnjldalaaGreatDoor
namespace Go.Proofs.YtiboajlnjldalaaGreatDoor
set_option linter.unusedSimpArgs false
set_option linter.unusedVariables false
open Go.RowKit
def OrdT.okC (ops : Array Oper) (tn : List Nat) : OrdT → Array Bool → Bool
  | .done, listed => Region.ready .any ops listed == []
  | .step i t, listed =>
    (Region.ready .any ops listed).contains i &&
    (if kindC ops tn i ≤ 1 then Region.free .any ops listed i && (kindC ops tn i == 0 || (List.range ops.size).all fun j => listed.getD j true || j == i || kindC ops tn j ≤ 2 || waits ops i 6 j)
     else Region.ready .any ops listed == [i]) && t.isTree && t.okC ops tn (listed.setIfInBounds i true)
  | .fork u, listed => (Region.ready .any ops listed).all (fun j => u.heads.contains j) && !(Region.ready .any ops listed).isEmpty && u.okC ops tn listed
  | .alt i t u, listed => t.isTree && t.okC ops tn (listed.setIfInBounds i true) && u.okC ops tn listed
  | .stop, _ => true
def ptreeC (P : Program) (T : Tys) (md : Bool) (ops : Array Oper) (tn : List Nat) (K : St → Prop) : OrdT → St → Prop
  | .done, σ => K σ
  | .step i t, σ => match ops[i]? with
    | none => False
    | some o => if pwanted ops σ.tm o.guard then
        (if kindC ops tn i ≤ 1 then py P T σ.tm σ.H o.op o.type fun pv => ptreeC P T md ops tn K t (σ.put o.dst pv) else pop P T md (tn.contains i) o σ fun pv σ' => ptreeC P T md ops tn K t (σ'.put o.dst pv))
      else ptreeC P T md ops tn K t (σ.put o.dst (.val undef))
  | .fork u, σ => ptreeC P T md ops tn K u σ
  | .alt i t u, σ => (match ops[i]? with
    | none => False
    | some o => if pwanted ops σ.tm o.guard then
        (if kindC ops tn i ≤ 1 then py P T σ.tm σ.H o.op o.type fun pv => ptreeC P T md ops tn K t (σ.put o.dst pv) else pop P T md (tn.contains i) o σ fun pv σ' => ptreeC P T md ops tn K t (σ'.put o.dst pv))
      else ptreeC P T md ops tn K t (σ.put o.dst (.val undef))) ∧ ptreeC P T md ops tn K u σ
  | .stop, _ => True
section
variable {P : Program} {T : Tys} {E : Env}
theorem stepC_ok (hT : TysOk P T) (hE : elemsOk P T) {md : Bool} {ops : Array Oper} {tn : List Nat} {i : Nat} {o : Oper} (hio : ops[i]? = some o) {K' : St → Prop} {Q : Exit → Act → World → Prop} {σ : St} {a : Act} {w : World} (r : Rel E σ a w)
    (hk : if pwanted ops σ.tm o.guard then (if kindC ops tn i ≤ 1 then py P T σ.tm σ.H o.op o.type fun pv => K' (σ.put o.dst pv) else pop P T md (tn.contains i) o σ fun pv σ' => K' (σ'.put o.dst pv)) else K' (σ.put o.dst (.val undef)))
    {R : Act → World → Prop} (hR : ∀ σ' a' w', K' σ' → Rel E σ' a' w' → R a' w') : wpOp P ops Q i (fun a' w' => (kindC ops tn i ≤ 2 → Ext w w') ∧ R a' w') a w := by
  have hw := r.elim fun M q => q.elim fun h q => wanted_eq q.2.1 ops o
  have hka : kindAt ops i = kindOp o.op := by simp [kindAt, hio]
  unfold wpOp
  simp only [hio, hw]
  by_cases hp : pwanted ops σ.tm o.guard = true
  · rw [if_pos hp] at hk
    rw [if_pos hp]
    by_cases hkd : kindC ops tn i ≤ 1
    · rw [if_pos hkd] at hk
      obtain ⟨M, h, s, t, d⟩ := r
      obtain ⟨pv, v, g1, g2, g3⟩ := py_ok hT hE s.inv t o hk
      exact .inl (wp_value (g3 w fun _ => Ext.refl w) ⟨fun _ => Ext.refl w, hR _ _ w g1 ⟨M, h, by rw [St.put_H]; exact s, t.put g2 o.dst, by rw [Act.put_defers']; exact d⟩⟩)
    · rw [if_neg hkd] at hk
      refine .inl (pop_rel hT hE r hk fun pv σ' v w' g1 g2 g3 => ⟨fun hle => ?_, hR _ _ w' g1 g3⟩)
      obtain ⟨hnt, hkk⟩ := kindC_le hle
      rw [hkk, hka] at hle
      rw [hkk, hka] at hkd
      exact g2 hnt (kind_ext hle hkd)
  · rw [if_neg hp] at hk
    rw [if_neg hp]
    exact ⟨fun _ => Ext.refl w, hR _ _ w hk (r.skip o.dst)⟩
theorem ptreeC_ok (hT : TysOk P T) (hE : elemsOk P T) {md : Bool} (ops : Array Oper) (tn : List Nat) (hs : Region.noSelect ops = true) {K : St → Prop} {Q : Exit → Act → World → Prop} (hpan : ∀ c a w, Q (.panic c) a w → False) (hq : ∀ σ' a' w', K σ' → Rel E σ' a' w' → Q .normal a' w') :
    ∀ (t : OrdT) (listed : Array Bool) (σ : St) (a : Act) (w : World), t.okC ops tn listed = true → ClosedL ops listed → ptreeC P T md ops tn K t σ → Rel E σ a w →
      ((t.heads = [] → t ≠ .stop → ∀ fuel, t.depth ≤ fuel → wpC P ops tn Q fuel listed a w) ∧ ∀ j ∈ t.heads, j ∈ Region.ready .any ops listed → ∀ fuel, t.depth ≤ fuel + 1 → wpOp P ops Q j (fun a' w' => (kindC ops tn j ≤ 2 → Ext w w') ∧ wpC P ops tn Q fuel (listed.setIfInBounds j true) a' w') a w)
  | .done, listed, σ, a, w, ho, _, hk, r => by
    refine ⟨fun _ _ fuel _ => ?_, fun j hj => by simp [OrdT.heads] at hj⟩
    have hr : Region.ready .any ops listed = [] := by simpa [OrdT.okC] using ho
    cases fuel with
    | zero => exact ⟨hr, hq σ a w hk r⟩
    | succ fuel => exact ⟨fun _ => hq σ a w hk r, by rw [hr]; simp⟩
  | .stop, _, _, _, _, _, _, _, _ => ⟨fun _ h => absurd rfl h, fun j hj => by simp [OrdT.heads] at hj⟩
  | .alt i t u, listed, σ, a, w, ho, hcl, hk, r => by
    simp only [OrdT.okC, Bool.and_eq_true] at ho
    refine ⟨fun h => by simp [OrdT.heads] at h, fun j hj hjr fuel hf => ?_⟩
    have hf1 : t.depth ≤ fuel := by simp only [OrdT.depth] at hf; omega
    have hf2 : u.depth ≤ fuel + 1 := by simp only [OrdT.depth] at hf; omega
    by_cases hji : j = i
    · subst hji
      obtain ⟨o, hio⟩ := ready_lt hjr
      have hk1 := hk.1
      simp only [hio] at hk1
      refine stepC_ok hT hE hio (K' := ptreeC P T md ops tn K t) r hk1 fun σ' a' w' g1 g2 => ?_
      have next := ptreeC_ok hT hE (md := md) ops tn hs hpan hq t (listed.setIfInBounds j true) σ' a' w' ho.1.2 (hcl.set hjr) g1 g2
      exact next.1 (tree_heads ho.1.1) (tree_stop ho.1.1) fuel hf1
    · have hj' : j ∈ u.heads := by
        simp only [OrdT.heads, List.mem_cons] at hj
        exact hj.resolve_left hji
      exact (ptreeC_ok hT hE (md := md) ops tn hs hpan hq u listed σ a w ho.2 hcl hk.2 r).2 j hj' hjr fuel hf2
  | .fork u, listed, σ, a, w, ho, hcl, hk, r => by
    simp only [OrdT.okC, Bool.and_eq_true, List.all_eq_true, List.contains_eq_mem, decide_eq_true_eq, Bool.not_eq_true', List.isEmpty_eq_false_iff] at ho
    obtain ⟨⟨h1, h2⟩, h3⟩ := ho
    refine ⟨fun _ _ fuel hf => ?_, fun j hj => by simp [OrdT.heads] at hj⟩
    have sub := (ptreeC_ok hT hE (md := md) ops tn hs hpan hq u listed σ a w h3 hcl hk r).2
    cases fuel with
    | zero =>
      exfalso
      obtain ⟨j, hj⟩ := List.exists_mem_of_ne_nil _ h2
      have := h1 j hj
      cases u with
      | alt i t u => simp only [OrdT.depth] at hf; omega
      | _ => simp [OrdT.heads] at this
    | succ fuel => exact ⟨fun h0 => absurd h0 h2, fun j hj => sub j (h1 j hj) hj fuel hf⟩
  | .step i t, listed, σ, a, w, ho, hcl, hk, r => by
    refine ⟨fun _ _ fuel hf => ?_, fun j hj => by simp [OrdT.heads] at hj⟩
    cases fuel with
    | zero => simp [OrdT.depth] at hf
    | succ fuel =>
    have hl' : t.depth ≤ fuel := by simp only [OrdT.depth] at hf; omega
    simp only [OrdT.okC, Bool.and_eq_true] at ho
    obtain ⟨⟨⟨h1, h2⟩, ht⟩, h3⟩ := ho
    have hi : i ∈ Region.ready .any ops listed := by simpa using h1
    obtain ⟨o, hio⟩ := ready_lt hi
    have hw := r.elim fun M q => q.elim fun h q => wanted_eq q.2.1 ops o
    have hka : kindAt ops i = kindOp o.op := by simp [kindAt, hio]
    simp only [ptreeC, hio] at hk
    have next := fun (σ' : St) (a' : Act) (w' : World) (g1 : ptreeC P T md ops tn K t σ') (g2 : Rel E σ' a' w') => (ptreeC_ok hT hE (md := md) ops tn hs hpan hq t (listed.setIfInBounds i true) σ' a' w' h3 (hcl.set hi) g1 g2).1 (tree_heads ht) (tree_stop ht) fuel hl'
    by_cases hkC : kindC ops tn i ≤ 1
    · obtain ⟨_, hkk⟩ := kindC_le (ops := ops) (tn := tn) (i := i) (by omega)
      have hko : kindC ops tn i = kindOp o.op := hkk.trans hka
      have hkd : kindOp o.op ≤ 1 := by omega
      rw [if_pos hkC, Bool.and_eq_true, hko] at h2
      have hfree := Region.free_spec hio h2.1
      have hside : ∀ j oj, ops[j]? = some oj → j ≠ i → listed.getD j true = false → ((∀ e ∈ oj.after, Region.binds .any e = true → e.on ≠ i) → o.apart ops oj = true) ∧ ((kindOp o.op == 1) = true → waits ops i 6 j = false → kindC ops tn j ≤ 2) := fun j oj hj hji hun => by
        refine ⟨fun hno => hfree j oj hj hji hun hno, fun hk1 hnw => ?_⟩
        have hk1' : kindOp o.op = 1 := by simpa using hk1
        have h22 := h2.2
        simp only [hk1', Bool.or_eq_true, beq_iff_eq, List.all_eq_true, List.mem_range] at h22
        rcases h22 with q | q
        · cases q
        · have hjl : j < ops.size := (Array.getElem?_eq_some_iff.1 hj).1
          rcases q j hjl with ((q | q) | q) | q
          · rw [hun] at q; cases q
          · exact absurd q hji
          · simpa using q
          · rw [hnw] at q; cases q
      have hk2 : kindC ops tn i ≤ 2 := by omega
      by_cases hp : pwanted ops σ.tm o.guard = true
      · rw [if_pos hp, if_pos hkC] at hk
        obtain ⟨M, h, s, t', d⟩ := r
        obtain ⟨pv, v, g1, g2, g3⟩ := py_ok hT hE s.inv t' o hk
        refine wpC_first (v := v) hio (noSelect_all hs) hpan (kindOp o.op == 1) fuel listed a w hside hcl hk2 hi (.inl ⟨by rw [hw]; exact hp, fun w' hx => g3 w' fun q => hx (by simpa using q)⟩) ?_
        exact next _ _ w g1 ⟨M, h, by rw [St.put_H]; exact s, t'.put g2 o.dst, by rw [Act.put_defers']; exact d⟩
      · rw [if_neg hp] at hk
        refine wpC_first (v := undef) hio (noSelect_all hs) hpan (kindOp o.op == 1) fuel listed a w hside hcl hk2 hi (.inr ⟨by rw [hw]; simpa using hp, rfl⟩) ?_
        exact next _ _ w hk (r.skip o.dst)
    · rw [if_neg hkC] at h2
      have hrd : Region.ready .any ops listed = [i] := by simpa using h2
      refine ⟨(fun h0 => by rw [hrd] at h0; cases h0), fun j hj => ?_⟩
      rw [hrd, List.mem_singleton] at hj
      subst hj
      exact stepC_ok hT hE hio (K' := ptreeC P T md ops tn K t) r hk fun σ' a' w' g1 g2 => next σ' a' w' g1 g2
end
theorem PWp.drawCT {P : Program} {T : Tys} {Q : Exit → St → Prop} {σ : St} {N : Nat} (ok : Ok P T) (md : Bool) {id : Nat} {ops : Array Oper} (tn : List Nat) (t : OrdT) (ho : (Region.noSelect ops && decide (t.depth ≤ ops.size) && t.isTree && t.okC ops tn (Array.replicate ops.size false)) = true) (h : ptreeC P T md ops tn (Q .normal) t σ) : PWp P N (.region id ops true) Q σ := fun E a w _ r => by
  simp only [Bool.and_eq_true, decide_eq_true_eq] at ho
  refine wp_region_any ok.mix (wpAny_of_C (tn := tn) _ _ _ _ ?_)
  refine (ptreeC_ok ok.ty ok.el (md := md) ops tn ho.1.1.1 (fun _ _ _ q => q) (fun σ' _ _ h1 h2 => ⟨σ', h1, h2⟩) t _ σ a _ ho.2 (ClosedL.start _ _) h ?_).1 (tree_heads ho.1.2) (tree_stop ho.1.2) ops.size ho.1.1.2
  obtain ⟨M, hh, s, t, d⟩ := r
  refine ⟨M, hh, s.trans (Step.ext s.inv ?_), t, d⟩
  exact (Ext.refl w).drew
section
variable {P : Program} {T : Tys} {md : Bool} {ops : Array Oper} {tn : List Nat} {K : St → Prop} {σ : St}
theorem ptreeC_done (h : K σ) : ptreeC P T md ops tn K .done σ := h
theorem ptreeC_stop : ptreeC P T md ops tn K .stop σ := trivial
theorem ptreeC_fork {u : OrdT} (h : ptreeC P T md ops tn K u σ) : ptreeC P T md ops tn K (.fork u) σ := h
def stepC (P : Program) (T : Tys) (md : Bool) (ops : Array Oper) (tn : List Nat) (i : Nat) (o : Oper) (σ : St) (K' : St → Prop) : Prop :=
  if kindC ops tn i ≤ 1 then pstepD P T md ops o σ K' else if pwanted ops σ.tm o.guard then pop P T md (tn.contains i) o σ fun pv σ' => K' (σ'.put o.dst pv) else K' (σ.put o.dst (.val undef))
theorem stepC_of {i : Nat} {o : Oper} {K' : St → Prop} (hi : ops[i]? = some o) (h : stepC P T md ops tn i o σ K') :
    if pwanted ops σ.tm o.guard then (if kindC ops tn i ≤ 1 then py P T σ.tm σ.H o.op o.type fun pv => K' (σ.put o.dst pv) else pop P T md (tn.contains i) o σ fun pv σ' => K' (σ'.put o.dst pv)) else K' (σ.put o.dst (.val undef)) := by
  unfold stepC at h
  split
  · rename_i hw
    split
    · rename_i hk
      rw [if_pos hk] at h
      unfold pstepD at h
      rw [if_pos hw] at h
      have hk1 : kindOp o.op ≤ 1 := by
        have := (kindC_le (ops := ops) (tn := tn) (i := i) (by omega)).2
        have h2 : kindAt ops i = kindOp o.op := by simp [kindAt, hi]
        omega
      rw [if_pos hk1] at h
      exact h
    · rename_i hk
      rw [if_neg hk, if_pos hw] at h
      exact h
  · rename_i hw
    split at h
    · unfold pstepD at h
      rw [if_neg hw] at h
      exact h
    · first | exact h | (rw [if_neg hw] at h; exact h)
theorem ptreeC_I {i : Nat} {t : OrdT} (h : ∃ o, ops.toList[i]? = some o ∧ ∀ K' : St → Prop, (∀ σ, ptreeC P T md ops tn K t σ → K' σ) → stepC P T md ops tn i o σ K') : ptreeC P T md ops tn K (.step i t) σ := by
  obtain ⟨o, hi, h⟩ := h
  rw [Array.getElem?_toList] at hi
  simp only [ptreeC, hi]
  exact stepC_of hi (h _ fun _ h => h)
theorem ptreeC_A {i : Nat} {t u : OrdT} (h : ∃ o, ops.toList[i]? = some o ∧ ∀ K' : St → Prop, (∀ σ, ptreeC P T md ops tn K t σ → K' σ) → stepC P T md ops tn i o σ K') (h2 : ptreeC P T md ops tn K u σ) : ptreeC P T md ops tn K (.alt i t u) σ := by
  obtain ⟨o, hi, h⟩ := h
  rw [Array.getElem?_toList] at hi
  simp only [ptreeC, hi]
  exact ⟨stepC_of hi (h _ fun _ h => h), h2⟩
theorem stepC_w {i : Nat} {o : Oper} {K' : St → Prop} (hk : (decide (kindC ops tn i ≤ 1)) = true) (h : pstepD P T md ops o σ K') : stepC P T md ops tn i o σ K' := by
  unfold stepC
  rw [if_pos (of_decide_eq_true hk)]
  exact h
theorem stepC_s {i : Nat} {dst : Option Tmp} {op : Op} {ty : TypeId} {pos : String} {after : Array Edge} {K' : St → Prop} {cm : Bool} (hk : (decide (kindC ops tn i ≤ 1)) = false) (hc : tn.contains i = cm) (h : popO P T md cm op ty σ fun pv σ' => K' (σ'.put dst pv)) :
    stepC P T md ops tn i ⟨dst, op, ty, pos, after, none⟩ σ K' := by
  unfold stepC
  rw [if_neg (of_decide_eq_false hk)]
  simp only [pwanted, if_true]
  subst hc
  exact h
end
end Go.Proofs.YtiboajlnjldalaaGreatDoor
namespace Go.Proofs.YtiboajlnjldalaaGreatDoor
set_option linter.unusedSimpArgs false
set_option linter.unusedVariables false
open Go.RowKit
set_option maxRecDepth 100000
theorem l6Put_nil (x : GVal) : l6Put x [] = (x.fPower == 0) := by
  unfold l6Put
  rw [List.any_nil, Bool.or_false]
  rfl
theorem rise_take {p : List GVal} (h : vRise p) {i : Nat} {q : GVal} (hq : p[i]? = some q) : ∀ a ∈ p.take i, a.fId < q.fId := fun a ha => by
  unfold vRise at h
  rw [List.pairwise_iff_getElem] at h
  obtain ⟨j, hj, e⟩ := List.getElem_of_mem ha
  have hil := (List.getElem?_eq_some_iff.1 hq).1
  have hji : j < i := by rw [List.length_take] at hj; omega
  rw [List.getElem_take] at e
  have := h j i (by omega) hil hji
  rw [e, (List.getElem?_eq_some_iff.1 hq).2] at this
  exact this
set_option maxHeartbeats 4000000 in
theorem sL6_p (p : List GVal) (x : GVal) (h : vRise p ∧ p.length ≤ 100000) : PCalls Tryz.prog 183 [.sl 2 (p.map pVal), .agg (pVal x)] [] (RH (.tup [.own 0, .val (.bool (chFit p x))]) [some (.row 141 2 ((chOne p x).map pVal))]) := by
  obtain ⟨hr, hp5⟩ := h
  refine pcalls_ofR okP Tryz.func183 rfl ?_
  simp only [Tryz.f183, List.length_cons, List.length_nil, Nat.reduceAdd, Nat.reduceSub, List.replicate_succ, List.replicate_zero, List.cons_append, List.nil_append, List.length_map]
  repeat' (first | with_reducible (first | refine wA ?_ | refine wB ?_ | refine wC ?_) | with_reducible refine PWp.draw (id := 7) okP true [0, 1, 2, 3, 4, 5, 6, 7, 8, 9, 10, 11] (by kernel_rfl) ?_ | with_reducible refine PWp.draw (id := 10) okP true [0, 1, 2, 3, 4, 5, 6, 7] (by kernel_rfl) ?_ | with_reducible refine PWp.draw (id := 15) okP true [0, 1, 2, 3, 4, 5, 6, 7, 8] (by kernel_rfl) ?_ | with_reducible (first | refine w1 ?_ | refine w2 ?_ | refine w3 ?_ | refine w4 ?_ | refine w5 ?_ | refine w6 ?_ | refine w7 ?_ | refine w8 ?_ | refine wT ?_ | refine w9 ?_ | refine wE ?_ | refine wS ?_) | ((with_reducible refine hK _ ?_); clear hK K) | ((with_reducible refine PWp.condI ?_); refine ⟨_, rfl, fun hg => ?_, fun hg => ?_⟩ <;> first | (exact absurd hg (by decide)) | ((try simp only [Bool.not_true, Bool.not_false] at hg); (try simp only [hg]); (try simp only [push_cast] at hg); (try exact absurd trivial hg); (try (exfalso; omega)))) | ((first | ((with_reducible refine pops_guard0 ?_); refine ⟨_, rfl, fun K hK => ⟨rfl, ?_⟩⟩) | ((with_reducible refine pD_g0 ?_); refine ⟨_, rfl, rfl, ?_⟩)); (try simp (disch := omega) only [push_cast, seval])) | ((with_reducible refine pany_I ?_); refine ⟨_, rfl, fun K hK => ?_⟩) | ((with_reducible refine pops_plain fun K hK => popO_row ?_); refine ⟨_, _, _, _, _, rfl, rfl, rfl, rfl, rfl, ?_⟩; simp (disch := omega) only [push_cast, seval]) | ((with_reducible refine pD_x ?_ (popO_row ?_)); exact rfl; refine ⟨_, _, _, _, _, rfl, rfl, rfl, rfl, rfl, ?_⟩; simp (disch := omega) only [push_cast, seval]) | ((with_reducible refine pops_plain fun K hK => ?_); simp (disch := omega) only [push_cast, seval]) | ((first | ((with_reducible refine pD_y ?_ ?_); exact rfl) | ((with_reducible refine pD_x ?_ ?_); exact rfl)); simp (disch := omega) only [push_cast, seval]) | ((first | ((with_reducible refine pops_guard ?_); refine ⟨_, rfl, fun K hK => ⟨_, rfl, fun hg => ?_, fun hg => ?_⟩⟩) | ((first | ((with_reducible refine pD_gy ?_ ?_); exact rfl) | ((with_reducible refine pD_gx ?_ ?_); exact rfl)); refine ⟨_, rfl, _, rfl, fun hg => ?_, fun hg => ?_⟩)) <;> first | (exact absurd hg (by decide)) | ((try simp only [Bool.not_true, Bool.not_false] at hg); (try simp only [hg]); (try simp only [push_cast] at hg); (try exact absurd trivial hg); (try (exfalso; omega)); (try simp (disch := omega) only [push_cast, seval]))) | ((with_reducible refine And.intro ?_ ?_); omega))
  refine PWp.loopK (α := Nat) (fun i => [(3, .ptr 0 0), (6, .own 1), (7, .val (.bool (l6Put x (p.take i)))), (8, .val (.bool (chHas (p.take i) x))), (9, .val (.int .i64 (i : Int)))]) [1, 2, 10, 11, 12, 13, 14, 15, 16, 17, 18, 19, 20, 21, 22, 23, 24, 25, 26, 27, 28, 29, 30, 31, 32, 33, 34, 35, 36, 37, 38, 39, 40, 41, 42, 43, 44, 45, 46, 47, 48, 49, 50] (fun i => [some (.box (pVal x)), some (.row 141 2 ((l6Out x (p.take i)).map pVal))]) (fun i => i ≤ p.length) (fun i => p.length - i) (0) (Nat.zero_le _) (by (refine ⟨[?_, ?_], ?_, ?_, ?_, ?_⟩; rotate_left 2; (· ((first | simp (disch := omega) only [push_cast, seval, List.take_zero, l6_nil, l6Put_nil, List.map_nil] | simp (disch := omega) only [push_cast, seval] | skip); (repeat' (first | exact trivial | exact rfl | refine And.intro ?_ ?_ | omega)))); (· ((first | simp (disch := omega) only [push_cast, seval, List.take_zero, l6_nil, l6Put_nil, List.map_nil] | simp (disch := omega) only [push_cast, seval] | skip); (repeat' (first | exact trivial | exact rfl | refine And.intro ?_ ?_ | omega)))); (· exact rfl); (· (first | exact trivial | exact ⟨rfl, trivial⟩ | exact ⟨rfl, rfl, trivial⟩)))) ?_
  intro i ρ hI
  (try dsimp only at hI)
  refine PWp.at (tm' := ?_) (H' := ?_) ?_ ?_ ?_; rotate_left 2; (· ((try simp only [push_cast, seval]); exact rfl)); (· ((try dsimp only); exact rfl))
  by_cases hlt : i < p.length
  case' pos =>
    obtain ⟨q, hq⟩ : ∃ q, p[i]? = some q := ⟨_, List.getElem?_eq_getElem hlt⟩
    have hst : p.take (i + 1) = p.take i ++ [q] := by rw [List.take_add_one, hq]; rfl
    have hra := rise_take hr hq
    have hlen := l6_len (p.take i) x
    rw [List.length_take, Nat.min_eq_left (by omega)] at hlen
    have hha := chHas_app (p.take i) q x
    generalize p.take i = t at hst hra hlen hha ⊢
    rcases Int.lt_trichotomy q.fId x.fId with c | c | c
    · obtain ⟨e1, e2, e3⟩ := l6_low hra c
      have d1 : decide (q.fId = x.fId) = false := decide_eq_false (by omega)
      have d2 : decide (x.fId ≤ q.fId) = false := decide_eq_false (by omega)
      rw [d1, Bool.or_false] at hha
      cases hpt : l6Put x t
      all_goals
        repeat' (first | with_reducible (first | refine wA ?_ | refine wB ?_ | refine wC ?_) | with_reducible refine PWp.draw (id := 7) okP true [0, 1, 2, 3, 4, 5, 6, 7, 8, 9, 10, 11] (by kernel_rfl) ?_ | with_reducible refine PWp.draw (id := 10) okP true [0, 1, 2, 3, 4, 5, 6, 7] (by kernel_rfl) ?_ | with_reducible refine PWp.draw (id := 15) okP true [0, 1, 2, 3, 4, 5, 6, 7, 8] (by kernel_rfl) ?_ | with_reducible (first | refine w1 ?_ | refine w2 ?_ | refine w3 ?_ | refine w4 ?_ | refine w5 ?_ | refine w6 ?_ | refine w7 ?_ | refine w8 ?_ | refine wT ?_ | refine w9 ?_ | refine wE ?_ | refine wS ?_) | ((with_reducible refine hK _ ?_); clear hK K) | ((with_reducible refine PWp.condI ?_); refine ⟨_, rfl, fun hg => ?_, fun hg => ?_⟩ <;> first | (exact absurd hg (by decide)) | ((try simp only [Bool.not_true, Bool.not_false] at hg); (try simp only [hg]); (try simp only [push_cast] at hg); (try exact absurd trivial hg); (try (exfalso; omega)))) | ((first | ((with_reducible refine pops_guard0 ?_); refine ⟨_, rfl, fun K hK => ⟨rfl, ?_⟩⟩) | ((with_reducible refine pD_g0 ?_); refine ⟨_, rfl, rfl, ?_⟩)); (try simp (disch := omega) only [push_cast, seval, hq, hpt, d1, d2])) | ((with_reducible refine pany_I ?_); refine ⟨_, rfl, fun K hK => ?_⟩) | ((with_reducible refine pops_plain fun K hK => popO_row ?_); refine ⟨_, _, _, _, _, rfl, rfl, rfl, rfl, rfl, ?_⟩; simp (disch := omega) only [push_cast, seval, hq, hpt, d1, d2]) | ((with_reducible refine pD_x ?_ (popO_row ?_)); exact rfl; refine ⟨_, _, _, _, _, rfl, rfl, rfl, rfl, rfl, ?_⟩; simp (disch := omega) only [push_cast, seval, hq, hpt, d1, d2]) | ((with_reducible refine pops_plain fun K hK => ?_); simp (disch := omega) only [push_cast, seval, hq, hpt, d1, d2]) | ((first | ((with_reducible refine pD_y ?_ ?_); exact rfl) | ((with_reducible refine pD_x ?_ ?_); exact rfl)); simp (disch := omega) only [push_cast, seval, hq, hpt, d1, d2]) | ((first | ((with_reducible refine pops_guard ?_); refine ⟨_, rfl, fun K hK => ⟨_, rfl, fun hg => ?_, fun hg => ?_⟩⟩) | ((first | ((with_reducible refine pD_gy ?_ ?_); exact rfl) | ((with_reducible refine pD_gx ?_ ?_); exact rfl)); refine ⟨_, rfl, _, rfl, fun hg => ?_, fun hg => ?_⟩)) <;> first | (exact absurd hg (by decide)) | ((try simp only [Bool.not_true, Bool.not_false] at hg); (try simp only [hg]); (try simp only [push_cast] at hg); (try exact absurd trivial hg); (try (exfalso; omega)); (try simp (disch := omega) only [push_cast, seval, hq, hpt, d1, d2]))) | ((with_reducible refine And.intro ?_ ?_); omega))
        (refine ⟨i + 1, by ((try dsimp only); omega), ?_, by (refine ⟨[?_, ?_], ?_, ?_, ?_, ?_⟩; rotate_left 2; (· ((first | simp (disch := omega) only [push_cast, seval, hst, e1, e2, hha, hpt, List.map_append, List.map_cons, List.map_nil, pVal] | simp (disch := omega) only [push_cast, seval] | skip); (repeat' (first | exact trivial | exact rfl | refine And.intro ?_ ?_ | omega)))); (· ((first | simp (disch := omega) only [push_cast, seval, hst, e1, e2, hha, hpt, List.map_append, List.map_cons, List.map_nil, pVal] | simp (disch := omega) only [push_cast, seval] | skip); (repeat' (first | exact trivial | exact rfl | refine And.intro ?_ ?_ | omega)))); (· exact rfl); (· (first | exact trivial | exact ⟨rfl, trivial⟩ | exact ⟨rfl, rfl, trivial⟩)))⟩)
        exact hlt
    · obtain ⟨e1, e2⟩ := l6_same hra c
      have d1 : decide (q.fId = x.fId) = true := decide_eq_true c
      have d2 : decide (x.fId ≤ q.fId) = true := decide_eq_true (by omega)
      rw [d1, Bool.or_true] at hha
      cases hpt : l6Put x t
      all_goals
        rw [hpt] at e1
        repeat' (first | with_reducible (first | refine wA ?_ | refine wB ?_ | refine wC ?_) | with_reducible refine PWp.draw (id := 7) okP true [0, 1, 2, 3, 4, 5, 6, 7, 8, 9, 10, 11] (by kernel_rfl) ?_ | with_reducible refine PWp.draw (id := 10) okP true [0, 1, 2, 3, 4, 5, 6, 7] (by kernel_rfl) ?_ | with_reducible refine PWp.draw (id := 15) okP true [0, 1, 2, 3, 4, 5, 6, 7, 8] (by kernel_rfl) ?_ | with_reducible (first | refine w1 ?_ | refine w2 ?_ | refine w3 ?_ | refine w4 ?_ | refine w5 ?_ | refine w6 ?_ | refine w7 ?_ | refine w8 ?_ | refine wT ?_ | refine w9 ?_ | refine wE ?_ | refine wS ?_) | ((with_reducible refine hK _ ?_); clear hK K) | ((with_reducible refine PWp.condI ?_); refine ⟨_, rfl, fun hg => ?_, fun hg => ?_⟩ <;> first | (exact absurd hg (by decide)) | ((try simp only [Bool.not_true, Bool.not_false] at hg); (try simp only [hg]); (try simp only [push_cast] at hg); (try exact absurd trivial hg); (try (exfalso; omega)))) | ((first | ((with_reducible refine pops_guard0 ?_); refine ⟨_, rfl, fun K hK => ⟨rfl, ?_⟩⟩) | ((with_reducible refine pD_g0 ?_); refine ⟨_, rfl, rfl, ?_⟩)); (try simp (disch := omega) only [push_cast, seval, hq, hpt, d1, d2])) | ((with_reducible refine pany_I ?_); refine ⟨_, rfl, fun K hK => ?_⟩) | ((with_reducible refine pops_plain fun K hK => popO_row ?_); refine ⟨_, _, _, _, _, rfl, rfl, rfl, rfl, rfl, ?_⟩; simp (disch := omega) only [push_cast, seval, hq, hpt, d1, d2]) | ((with_reducible refine pD_x ?_ (popO_row ?_)); exact rfl; refine ⟨_, _, _, _, _, rfl, rfl, rfl, rfl, rfl, ?_⟩; simp (disch := omega) only [push_cast, seval, hq, hpt, d1, d2]) | ((with_reducible refine pops_plain fun K hK => ?_); simp (disch := omega) only [push_cast, seval, hq, hpt, d1, d2]) | ((first | ((with_reducible refine pD_y ?_ ?_); exact rfl) | ((with_reducible refine pD_x ?_ ?_); exact rfl)); simp (disch := omega) only [push_cast, seval, hq, hpt, d1, d2]) | ((first | ((with_reducible refine pops_guard ?_); refine ⟨_, rfl, fun K hK => ⟨_, rfl, fun hg => ?_, fun hg => ?_⟩⟩) | ((first | ((with_reducible refine pD_gy ?_ ?_); exact rfl) | ((with_reducible refine pD_gx ?_ ?_); exact rfl)); refine ⟨_, rfl, _, rfl, fun hg => ?_, fun hg => ?_⟩)) <;> first | (exact absurd hg (by decide)) | ((try simp only [Bool.not_true, Bool.not_false] at hg); (try simp only [hg]); (try simp only [push_cast] at hg); (try exact absurd trivial hg); (try (exfalso; omega)); (try simp (disch := omega) only [push_cast, seval, hq, hpt, d1, d2]))) | ((with_reducible refine And.intro ?_ ?_); omega))
        (refine ⟨i + 1, by ((try dsimp only); omega), ?_, by (refine ⟨[?_, ?_], ?_, ?_, ?_, ?_⟩; rotate_left 2; (· ((first | simp (disch := omega) only [push_cast, seval, hst, e1, e2, hha, hpt, if_true, Bool.false_eq_true, if_false, List.map_append, List.map_cons, List.map_nil, pVal] | simp (disch := omega) only [push_cast, seval] | skip); (repeat' (first | exact trivial | exact rfl | refine And.intro ?_ ?_ | omega)))); (· ((first | simp (disch := omega) only [push_cast, seval, hst, e1, e2, hha, hpt, if_true, Bool.false_eq_true, if_false, List.map_append, List.map_cons, List.map_nil, pVal] | simp (disch := omega) only [push_cast, seval] | skip); (repeat' (first | exact trivial | exact rfl | refine And.intro ?_ ?_ | omega)))); (· exact rfl); (· (first | exact trivial | exact ⟨rfl, trivial⟩ | exact ⟨rfl, rfl, trivial⟩)))⟩)
        exact hlt
    · obtain ⟨e1, e2⟩ := l6_high (t := t) (q := q) c
      have d1 : decide (q.fId = x.fId) = false := decide_eq_false (by omega)
      have d2 : decide (x.fId ≤ q.fId) = true := decide_eq_true (by omega)
      rw [d1, Bool.or_false] at hha
      cases hpt : l6Put x t
      all_goals
        rw [hpt] at e1
        repeat' (first | with_reducible (first | refine wA ?_ | refine wB ?_ | refine wC ?_) | with_reducible refine PWp.draw (id := 7) okP true [0, 1, 2, 3, 4, 5, 6, 7, 8, 9, 10, 11] (by kernel_rfl) ?_ | with_reducible refine PWp.draw (id := 10) okP true [0, 1, 2, 3, 4, 5, 6, 7] (by kernel_rfl) ?_ | with_reducible refine PWp.draw (id := 15) okP true [0, 1, 2, 3, 4, 5, 6, 7, 8] (by kernel_rfl) ?_ | with_reducible (first | refine w1 ?_ | refine w2 ?_ | refine w3 ?_ | refine w4 ?_ | refine w5 ?_ | refine w6 ?_ | refine w7 ?_ | refine w8 ?_ | refine wT ?_ | refine w9 ?_ | refine wE ?_ | refine wS ?_) | ((with_reducible refine hK _ ?_); clear hK K) | ((with_reducible refine PWp.condI ?_); refine ⟨_, rfl, fun hg => ?_, fun hg => ?_⟩ <;> first | (exact absurd hg (by decide)) | ((try simp only [Bool.not_true, Bool.not_false] at hg); (try simp only [hg]); (try simp only [push_cast] at hg); (try exact absurd trivial hg); (try (exfalso; omega)))) | ((first | ((with_reducible refine pops_guard0 ?_); refine ⟨_, rfl, fun K hK => ⟨rfl, ?_⟩⟩) | ((with_reducible refine pD_g0 ?_); refine ⟨_, rfl, rfl, ?_⟩)); (try simp (disch := omega) only [push_cast, seval, hq, hpt, d1, d2])) | ((with_reducible refine pany_I ?_); refine ⟨_, rfl, fun K hK => ?_⟩) | ((with_reducible refine pops_plain fun K hK => popO_row ?_); refine ⟨_, _, _, _, _, rfl, rfl, rfl, rfl, rfl, ?_⟩; simp (disch := omega) only [push_cast, seval, hq, hpt, d1, d2]) | ((with_reducible refine pD_x ?_ (popO_row ?_)); exact rfl; refine ⟨_, _, _, _, _, rfl, rfl, rfl, rfl, rfl, ?_⟩; simp (disch := omega) only [push_cast, seval, hq, hpt, d1, d2]) | ((with_reducible refine pops_plain fun K hK => ?_); simp (disch := omega) only [push_cast, seval, hq, hpt, d1, d2]) | ((first | ((with_reducible refine pD_y ?_ ?_); exact rfl) | ((with_reducible refine pD_x ?_ ?_); exact rfl)); simp (disch := omega) only [push_cast, seval, hq, hpt, d1, d2]) | ((first | ((with_reducible refine pops_guard ?_); refine ⟨_, rfl, fun K hK => ⟨_, rfl, fun hg => ?_, fun hg => ?_⟩⟩) | ((first | ((with_reducible refine pD_gy ?_ ?_); exact rfl) | ((with_reducible refine pD_gx ?_ ?_); exact rfl)); refine ⟨_, rfl, _, rfl, fun hg => ?_, fun hg => ?_⟩)) <;> first | (exact absurd hg (by decide)) | ((try simp only [Bool.not_true, Bool.not_false] at hg); (try simp only [hg]); (try simp only [push_cast] at hg); (try exact absurd trivial hg); (try (exfalso; omega)); (try simp (disch := omega) only [push_cast, seval, hq, hpt, d1, d2]))) | ((with_reducible refine And.intro ?_ ?_); omega))
        (refine ⟨i + 1, by ((try dsimp only); omega), ?_, by (refine ⟨[?_, ?_], ?_, ?_, ?_, ?_⟩; rotate_left 2; (· ((first | simp (disch := omega) only [push_cast, seval, hst, e1, e2, hha, hpt, if_true, Bool.false_eq_true, if_false, List.map_append, List.map_cons, List.map_nil, pVal] | simp (disch := omega) only [push_cast, seval] | skip); (repeat' (first | exact trivial | exact rfl | refine And.intro ?_ ?_ | omega)))); (· ((first | simp (disch := omega) only [push_cast, seval, hst, e1, e2, hha, hpt, if_true, Bool.false_eq_true, if_false, List.map_append, List.map_cons, List.map_nil, pVal] | simp (disch := omega) only [push_cast, seval] | skip); (repeat' (first | exact trivial | exact rfl | refine And.intro ?_ ?_ | omega)))); (· exact rfl); (· (first | exact trivial | exact ⟨rfl, trivial⟩ | exact ⟨rfl, rfl, trivial⟩)))⟩)
        exact hlt
  case' neg =>
    obtain rfl : i = p.length := by omega
    rw [List.take_length]
    have hend := l6_end p x
    have hlen := l6_len p x
    have hfit : chFit p x = (chHas p x || (x.fPower != 0)) := rfl
    have hmapx : List.map pVal (l6Out x p) ++ [[.val (.int .i64 x.fId), .val (.int .i64 x.fPower)]] = List.map pVal (l6Out x p ++ [x]) := by rw [List.map_append]; rfl
    rw [hfit, ← hend]
    cases hpt : l6Put x p
    all_goals
      cases hhs : chHas p x
      all_goals
        simp only [Bool.false_or, Bool.true_or, Bool.false_eq_true, if_false, if_true]
        repeat' (first | with_reducible (first | refine wA ?_ | refine wB ?_ | refine wC ?_) | with_reducible refine PWp.draw (id := 7) okP true [0, 1, 2, 3, 4, 5, 6, 7, 8, 9, 10, 11] (by kernel_rfl) ?_ | with_reducible refine PWp.draw (id := 10) okP true [0, 1, 2, 3, 4, 5, 6, 7] (by kernel_rfl) ?_ | with_reducible refine PWp.draw (id := 15) okP true [0, 1, 2, 3, 4, 5, 6, 7, 8] (by kernel_rfl) ?_ | with_reducible (first | refine w1 ?_ | refine w2 ?_ | refine w3 ?_ | refine w4 ?_ | refine w5 ?_ | refine w6 ?_ | refine w7 ?_ | refine w8 ?_ | refine wT ?_ | refine w9 ?_ | refine wE ?_ | refine wS ?_) | ((with_reducible refine hK _ ?_); clear hK K) | ((with_reducible refine PWp.condI ?_); refine ⟨_, rfl, fun hg => ?_, fun hg => ?_⟩ <;> first | (exact absurd hg (by decide)) | ((try simp only [Bool.not_true, Bool.not_false] at hg); (try simp only [hg]); (try simp only [push_cast] at hg); (try exact absurd trivial hg); (try (exfalso; omega)))) | ((first | ((with_reducible refine pops_guard0 ?_); refine ⟨_, rfl, fun K hK => ⟨rfl, ?_⟩⟩) | ((with_reducible refine pD_g0 ?_); refine ⟨_, rfl, rfl, ?_⟩)); (try simp (disch := omega) only [push_cast, seval, hpt, hhs])) | ((with_reducible refine pany_I ?_); refine ⟨_, rfl, fun K hK => ?_⟩) | ((with_reducible refine pops_plain fun K hK => popO_row ?_); refine ⟨_, _, _, _, _, rfl, rfl, rfl, rfl, rfl, ?_⟩; simp (disch := omega) only [push_cast, seval, hpt, hhs]) | ((with_reducible refine pD_x ?_ (popO_row ?_)); exact rfl; refine ⟨_, _, _, _, _, rfl, rfl, rfl, rfl, rfl, ?_⟩; simp (disch := omega) only [push_cast, seval, hpt, hhs]) | ((with_reducible refine pops_plain fun K hK => ?_); simp (disch := omega) only [push_cast, seval, hpt, hhs]) | ((first | ((with_reducible refine pD_y ?_ ?_); exact rfl) | ((with_reducible refine pD_x ?_ ?_); exact rfl)); simp (disch := omega) only [push_cast, seval, hpt, hhs]) | ((first | ((with_reducible refine pops_guard ?_); refine ⟨_, rfl, fun K hK => ⟨_, rfl, fun hg => ?_, fun hg => ?_⟩⟩) | ((first | ((with_reducible refine pD_gy ?_ ?_); exact rfl) | ((with_reducible refine pD_gx ?_ ?_); exact rfl)); refine ⟨_, rfl, _, rfl, fun hg => ?_, fun hg => ?_⟩)) <;> first | (exact absurd hg (by decide)) | ((try simp only [Bool.not_true, Bool.not_false] at hg); (try simp only [hg]); (try simp only [push_cast] at hg); (try exact absurd trivial hg); (try (exfalso; omega)); (try simp (disch := omega) only [push_cast, seval, hpt, hhs]))) | ((with_reducible refine And.intro ?_ ?_); omega))
        (try rw [hmapx])
        ((with_reducible show PPostR _ _ _ _ _ _); exact finH [_])
set_option maxHeartbeats 4000000 in
theorem sChangeVals_o (l xs : List GVal) (ok : valsOk l = true) (hx900 : xs.length ≤ 900) : PCalls Tryz.prog 82 [.sl 2 (l.map pVal), .sl 2 (xs.map pVal)] [] (RH (.tup [.own 0, .val (.bool (changeVals l xs).2)]) [some (.row 141 2 ((changeVals l xs).1.map pVal))]) := by
  have hl7 := (valsOk_iff.1 ok).2.2.2
  have e0 : changeVals l xs = match chAll l xs with | some p => if valsOk p then (p, true) else (l, false) | none => (l, false) := by unfold changeVals; rw [ok]; rfl
  refine pcalls_ofR okP Tryz.func82 rfl ?_
  simp only [Tryz.f82, List.length_cons, List.length_nil, Nat.reduceAdd, Nat.reduceSub, List.replicate_succ, List.replicate_zero, List.cons_append, List.nil_append, List.length_map]
  repeat' (first | with_reducible (first | refine wA ?_ | refine wB ?_ | refine wC ?_ | refine w1 ?_ | refine w2 ?_ | refine w3 ?_ | refine w4 ?_ | refine w5 ?_ | refine w6 ?_ | refine w7 ?_ | refine w8 ?_ | refine wT ?_ | refine w9 ?_ | refine wE ?_ | refine wS ?_) | ((with_reducible refine hK _ ?_); clear hK K) | ((with_reducible refine PWp.condI ?_); refine ⟨_, rfl, fun hg => ?_, fun hg => ?_⟩ <;> first | (exact absurd hg (by decide)) | ((try simp only [Bool.not_true, Bool.not_false] at hg); (try simp only [hg]); (try simp only [push_cast] at hg); (try exact absurd trivial hg); (try (exfalso; omega)))) | ((with_reducible refine pops_plain fun K hK => popO_row ?_); refine ⟨_, _, _, _, _, rfl, rfl, rfl, rfl, rfl, ?_⟩; simp (disch := omega) only [push_cast, seval, ok]) | ((with_reducible refine pops_plain fun K hK => ?_); simp (disch := omega) only [push_cast, seval, ok]) | ((with_reducible show pcall _ _ _ _ _ _); (first | (refine pcV (cf Tryz.func105) (sValsOk_p _ sd) ?_)); (try simp (disch := omega) only [push_cast, seval, ok])) | ((with_reducible refine And.intro ?_ ?_); omega))
  refine PWp.loopK (α := Nat × List GVal) (fun x => match x with | (k, p) => [(7, .own 0), (8, .val (.int .i64 (k : Int)))]) [2, 3, 4, 5, 6, 9, 10, 11, 12, 13, 14, 15, 16, 17, 18, 19, 20, 21, 22, 23, 24, 25, 26, 27, 28, 29, 30, 31, 32, 33, 34, 35, 36, 37, 38, 39] (fun x => match x with | (k, p) => [some (.row 141 2 (p.map pVal))]) (fun x => match x with | (k, p) => ((k ≤ xs.length ∧ vRise p) ∧ chAll l xs = chAll p (xs.drop k)) ∧ p.length ≤ 7 + k) (fun x => match x with | (k, p) => xs.length - k) ((0, l)) (⟨⟨⟨Nat.zero_le _, valsOk_rise ok⟩, rfl⟩, by omega⟩) (by (refine ⟨[?_], ?_, ?_, ?_, ?_⟩; rotate_left 1; (· ((try simp (disch := omega) only [push_cast, seval]); (repeat' (first | exact trivial | exact rfl | refine And.intro ?_ ?_ | omega)))); (· ((try simp (disch := omega) only [push_cast, seval]); (repeat' (first | exact trivial | exact rfl | refine And.intro ?_ ?_ | omega)))); (· exact rfl); (· (first | exact trivial | exact ⟨rfl, trivial⟩ | exact ⟨rfl, rfl, trivial⟩)))) ?_
  intro x ρ hI; obtain ⟨k, p⟩ := x
  (try dsimp only at hI)
  refine PWp.at (tm' := ?_) (H' := ?_) ?_ ?_ ?_; rotate_left 2; (· ((try simp only [push_cast, seval]); exact rfl)); (· ((try dsimp only); exact rfl))
  obtain ⟨⟨⟨hk, hS⟩, hch⟩, hol⟩ := hI
  by_cases hlt : k < xs.length
  case' pos =>
    obtain ⟨x, hx⟩ : ∃ x, xs[k]? = some x := ⟨_, List.getElem?_eq_getElem hlt⟩
    have hdr : xs.drop k = x :: xs.drop (k + 1) := by rw [List.drop_eq_getElem_cons hlt]; congr 1; exact (List.getElem?_eq_some_iff.1 hx).2
    rw [hdr, chAll_cons] at hch
    have h6 := sL6_p p x ⟨hS, by omega⟩
    have hS2 := chOne_rise hS x
    have hl2 := chOne_len p x hS
    generalize chOne p x = p2 at h6 hS2 hl2 hch
    cases hf : chFit p x
    case' false =>
      rw [hf] at hch h6
      have er : chAll l xs = none := hch
      rw [e0, er]
      repeat' (first | with_reducible (first | refine wA ?_ | refine wB ?_ | refine wC ?_ | refine w1 ?_ | refine w2 ?_ | refine w3 ?_ | refine w4 ?_ | refine w5 ?_ | refine w6 ?_ | refine w7 ?_ | refine w8 ?_ | refine wT ?_ | refine w9 ?_ | refine wE ?_ | refine wS ?_) | ((with_reducible refine hK _ ?_); clear hK K) | ((with_reducible refine PWp.condI ?_); refine ⟨_, rfl, fun hg => ?_, fun hg => ?_⟩ <;> first | (exact absurd hg (by decide)) | ((try simp only [Bool.not_true, Bool.not_false] at hg); (try simp only [hg]); (try simp only [push_cast] at hg); (try exact absurd trivial hg); (try (exfalso; omega)))) | ((with_reducible refine pops_plain fun K hK => popO_row ?_); refine ⟨_, _, _, _, _, rfl, rfl, rfl, rfl, rfl, ?_⟩; simp (disch := omega) only [push_cast, seval, hx]) | ((with_reducible refine pops_plain fun K hK => ?_); simp (disch := omega) only [push_cast, seval, hx]) | ((with_reducible show pcall _ _ _ _ _ _); (first | (refine pcV (cf Tryz.func105) (sValsOk_p _ sd) ?_) | (refine pcH (cf Tryz.func183) (h6) ?_)); (try simp (disch := omega) only [push_cast, seval, hx])) | ((with_reducible refine And.intro ?_ ?_); omega))
      ((with_reducible show PPostR _ _ _ _ _ _); exact finH [_])
    case' true =>
      rw [hf, if_pos rfl] at hch
      rw [hf] at h6
      repeat' (first | with_reducible (first | refine wA ?_ | refine wB ?_ | refine wC ?_ | refine w1 ?_ | refine w2 ?_ | refine w3 ?_ | refine w4 ?_ | refine w5 ?_ | refine w6 ?_ | refine w7 ?_ | refine w8 ?_ | refine wT ?_ | refine w9 ?_ | refine wE ?_ | refine wS ?_) | ((with_reducible refine hK _ ?_); clear hK K) | ((with_reducible refine PWp.condI ?_); refine ⟨_, rfl, fun hg => ?_, fun hg => ?_⟩ <;> first | (exact absurd hg (by decide)) | ((try simp only [Bool.not_true, Bool.not_false] at hg); (try simp only [hg]); (try simp only [push_cast] at hg); (try exact absurd trivial hg); (try (exfalso; omega)))) | ((with_reducible refine pops_plain fun K hK => popO_row ?_); refine ⟨_, _, _, _, _, rfl, rfl, rfl, rfl, rfl, ?_⟩; simp (disch := omega) only [push_cast, seval, hx]) | ((with_reducible refine pops_plain fun K hK => ?_); simp (disch := omega) only [push_cast, seval, hx]) | ((with_reducible show pcall _ _ _ _ _ _); (first | (refine pcV (cf Tryz.func105) (sValsOk_p _ sd) ?_) | (refine pcH (cf Tryz.func183) (h6) ?_)); (try simp (disch := omega) only [push_cast, seval, hx])) | ((with_reducible refine And.intro ?_ ?_); omega))
      (refine ⟨(k + 1, p2), by ((try dsimp only); omega), ?_, by (refine ⟨[?_], ?_, ?_, ?_, ?_⟩; rotate_left 1; (· ((try simp (disch := omega) only [push_cast, seval]); (repeat' (first | exact trivial | exact rfl | refine And.intro ?_ ?_ | omega)))); (· ((try simp (disch := omega) only [push_cast, seval]); (repeat' (first | exact trivial | exact rfl | refine And.intro ?_ ?_ | omega)))); (· exact rfl); (· (first | exact trivial | exact ⟨rfl, trivial⟩ | exact ⟨rfl, rfl, trivial⟩)))⟩)
      exact ⟨⟨⟨hlt, hS2⟩, hch⟩, by dsimp only; omega⟩
  case' neg =>
    obtain rfl : k = xs.length := by omega
    rw [List.drop_length] at hch
    have er : chAll l xs = some p := hch
    have e1 : changeVals l xs = if valsOk p = true then (p, true) else (l, false) := by rw [e0, er]
    rw [e1]
    cases okp : valsOk p with
    | true =>
      rw [if_pos rfl]
      repeat' (first | with_reducible (first | refine wA ?_ | refine wB ?_ | refine wC ?_ | refine w1 ?_ | refine w2 ?_ | refine w3 ?_ | refine w4 ?_ | refine w5 ?_ | refine w6 ?_ | refine w7 ?_ | refine w8 ?_ | refine wT ?_ | refine w9 ?_ | refine wE ?_ | refine wS ?_) | ((with_reducible refine hK _ ?_); clear hK K) | ((with_reducible refine PWp.condI ?_); refine ⟨_, rfl, fun hg => ?_, fun hg => ?_⟩ <;> first | (exact absurd hg (by decide)) | ((try simp only [Bool.not_true, Bool.not_false] at hg); (try simp only [hg]); (try simp only [push_cast] at hg); (try exact absurd trivial hg); (try (exfalso; omega)))) | ((with_reducible refine pops_plain fun K hK => popO_row ?_); refine ⟨_, _, _, _, _, rfl, rfl, rfl, rfl, rfl, ?_⟩; simp (disch := omega) only [push_cast, seval, okp]) | ((with_reducible refine pops_plain fun K hK => ?_); simp (disch := omega) only [push_cast, seval, okp]) | ((with_reducible show pcall _ _ _ _ _ _); (first | (refine pcV (cf Tryz.func105) (sValsOk_p _ sd) ?_) | (refine pcH (cf Tryz.func183) (h6) ?_)); (try simp (disch := omega) only [push_cast, seval, okp])) | ((with_reducible refine And.intro ?_ ?_); omega))
      ((with_reducible show PPostR _ _ _ _ _ _); exact finH [_])
    | false =>
      rw [if_neg (by simp)]
      repeat' (first | with_reducible (first | refine wA ?_ | refine wB ?_ | refine wC ?_ | refine w1 ?_ | refine w2 ?_ | refine w3 ?_ | refine w4 ?_ | refine w5 ?_ | refine w6 ?_ | refine w7 ?_ | refine w8 ?_ | refine wT ?_ | refine w9 ?_ | refine wE ?_ | refine wS ?_) | ((with_reducible refine hK _ ?_); clear hK K) | ((with_reducible refine PWp.condI ?_); refine ⟨_, rfl, fun hg => ?_, fun hg => ?_⟩ <;> first | (exact absurd hg (by decide)) | ((try simp only [Bool.not_true, Bool.not_false] at hg); (try simp only [hg]); (try simp only [push_cast] at hg); (try exact absurd trivial hg); (try (exfalso; omega)))) | ((with_reducible refine pops_plain fun K hK => popO_row ?_); refine ⟨_, _, _, _, _, rfl, rfl, rfl, rfl, rfl, ?_⟩; simp (disch := omega) only [push_cast, seval, okp]) | ((with_reducible refine pops_plain fun K hK => ?_); simp (disch := omega) only [push_cast, seval, okp]) | ((with_reducible show pcall _ _ _ _ _ _); (first | (refine pcV (cf Tryz.func105) (sValsOk_p _ sd) ?_) | (refine pcH (cf Tryz.func183) (h6) ?_)); (try simp (disch := omega) only [push_cast, seval, okp])) | ((with_reducible refine And.intro ?_ ?_); omega))
      ((with_reducible show PPostR _ _ _ _ _ _); exact finH [_])
end Go.Proofs.YtiboajlnjldalaaGreatDoor
namespace Go.Proofs.YtiboajlnjldalaaGreatDoor
set_option linter.unusedSimpArgs false
set_option linter.unusedVariables false
open Go.RowKit
theorem nil_push {M : Mem} {h : Home} {H : Hp} {w : World} (I : Inv M h H w) (e : TypeId) (sz : Nat) : Step M h H w M (upd h H.length (.slice none 0 0)) (H ++ [some (.row e sz [])]) w :=
  Step.push I (Ext.refl w) (B := .row e sz []) (v := .slice none 0 0) ⟨⟨none, 0, 0, rfl⟩, [], ⟨by simp, .inl ⟨rfl, rfl⟩⟩, by simp, by simp, by simp⟩ fun k hk => by cases hk
theorem PWp.nilB {P : Program} {N : Nat} {c : Code} {Q : Exit → St → Prop} {tm : List PV} {H : Hp} (b j : Nat) (e : TypeId) (sz : Nat) {cs : List PV} (hH : H[b]? = some (some (.box cs))) (hj : cs[j]? = some (.val (.slice none 0 0))) (h : PWp P N c Q ⟨tm, (H ++ [some (Blk.row e sz [])]).set b (some (Blk.box (cs.set j (.own H.length))))⟩) : PWp P N c Q ⟨tm, H⟩ := fun E a w hN r => by
  obtain ⟨M, hh, s, t, d⟩ := r
  have st := nil_push s.inv e sz
  have hb : (H ++ [some (Blk.row e sz [])])[b]? = some (some (.box cs)) := by rw [List.getElem?_append_left (List.getElem?_eq_some_iff.1 hH).1]; exact hH
  have I := st.inv
  have old : ∀ {c : Nat} {B : Blk}, ((H ++ [some (Blk.row e sz [])]).set b (some (Blk.box (cs.set j (.own H.length)))))[c]? = some (some B) → ∃ B0, (H ++ [some (Blk.row e sz [])])[c]? = some (some B0) ∧ (B0 = B ∨ c = b ∧ B = .box (cs.set j (.own H.length))) := fun {c B} q => by
    by_cases e1 : b = c
    · subst e1
      rw [List.getElem?_set_self (List.getElem?_eq_some_iff.1 hb).1] at q
      exact ⟨_, hb, .inr ⟨rfl, by injection q with q; injection q with q; exact q.symm⟩⟩
    · rw [List.getElem?_set_ne e1] at q
      exact ⟨B, q, .inl rfl⟩
  have hom : ∀ x, Homes (upd hh H.length (.slice none 0 0)) ((H ++ [some (Blk.row e sz [])]).set b (some (Blk.box (cs.set j (.own H.length))))) x → Homes (upd hh H.length (.slice none 0 0)) (H ++ [some (Blk.row e sz [])]) x := fun x ⟨c, B, v, q1, q2⟩ => by
    obtain ⟨B0, h1, _⟩ := old q1
    exact ⟨c, B0, v, h1, q2⟩
  have I2 : Inv M (upd hh H.length (.slice none 0 0)) ((H ++ [some (Blk.row e sz [])]).set b (some (Blk.box (cs.set j (.own H.length))))) w := by
    refine ⟨I.mem, I.one, fun c B q => ?_, fun x hx o => I.sep x (hom x hx) o, fun c c' B B' v v' x g1 g2 => ?_, fun c v q => by simpa using I.len c v q, I.glob⟩
    · obtain ⟨B0, h1, h2⟩ := old q
      obtain ⟨v, h3, h4⟩ := I.blk c B0 h1
      rcases h2 with rfl | ⟨rfl, rfl⟩
      · exact ⟨v, h3, h4⟩
      · rw [hb] at h1
        cases h1
        obtain ⟨g, us, ty, p1, p2, p3, p4, p5⟩ := h4
        refine ⟨v, h3, g, us, ty, p1, p2, by simpa using p3, p4, fun i pv u a d => ?_⟩
        by_cases q : j = i
        · subst q
          rw [List.getElem?_set_self (List.getElem?_eq_some_iff.1 hj).1] at a
          cases a
          have := vr_val (p5 j _ u hj d)
          subst this
          exact .own _ none 0 0 upd_self
        · rw [List.getElem?_set_ne q] at a
          exact p5 i pv u a d
    · obtain ⟨B0, h1, _⟩ := old g1
      obtain ⟨B1, h2, _⟩ := old g2
      exact I.inj c c' B0 B1 v v' x h1 h2
  exact h E a w hN ⟨M, _, s.trans (st.trans ⟨.refl _, .refl _, I2, .refl, fun x hx => .inl (hom x hx), fun _ _ _ q => .inl q⟩), ⟨t.size, fun i x u h1 h2 => (t.vr i x u h1 h2).mono (.refl _) st.hle⟩, d⟩
def frz (H : Hp) : Nat → PV → PV
  | 0, p => p
  | d + 1, .own b => match H[b]? with
    | some (some (.row _ sz es)) => .sl sz (es.map fun row => row.map (frz H d))
    | _ => .own b
  | d + 1, .agg fs => .agg (fs.map (frz H d))
  | d + 1, .tup fs => .tup (fs.map (frz H d))
  | _ + 1, p => p
def frzOk (H : Hp) : Nat → PV → Prop
  | 0, p => cloC p = true
  | d + 1, .own b => match H[b]? with
    | some (some (.row _ _ es)) => ∀ row ∈ es, ∀ p ∈ row, frzOk H d p
    | _ => False
  | d + 1, .agg fs => ∀ p ∈ fs, frzOk H d p
  | d + 1, .tup fs => ∀ p ∈ fs, frzOk H d p
  | _ + 1, p => cloC p = true
theorem frz_ok {M M2 : Mem} {h : Home} {H : Hp} {w : World} (I : Inv M h H w) (hM : MLe M M2) (hC : ∀ k o v, Homes h H k → w.cell? ⟨k, o, none⟩ = some v → v.oneCell' = true → M2 k o = some v) :
    ∀ (d : Nat) (pv : PV) (v : Value), VR M h pv v → frzOk H d pv → ∀ hm : Home, VR M2 hm (frz H d pv) v
  | 0, pv, v, r, hk, hm => cloC_ok (r.mono hM (.refl _)) hk
  | d + 1, .own b, v, r, hk, hm => by
    simp only [frzOk] at hk
    split at hk
    · rename_i e sz es hH
      simp only [frz, hH]
      cases r with
      | own _ o n c hb =>
        obtain ⟨v0, q0, -, us, q1, q2, q3, q4⟩ := I.blk b _ hH
        rw [hb] at q0
        cases q0
        rcases q1.2 with ⟨e1, e2⟩ | ⟨g, cap, cur, e1, e2, e3, e4, e5, e6, e7⟩
        · cases e1
          have : es = [] := List.eq_nil_of_length_eq_zero e2
          subst this
          exact .sl0 _ _ _
        · cases e1
          by_cases hn : es = []
          · subst hn; exact .sl0 _ _ _
          · have hl : 0 < es.length := by cases es with | nil => exact absurd rfl hn | cons => simp
            have hhome : Homes h H g := ⟨b, _, _, hH, hb, rfl⟩
            have len' : (es.map fun row => row.map (frz H d)).length = es.length := by simp
            have := VR.sl (M := M2) (h := hm) sz (es.map fun row => row.map (frz H d)) g 0 c (fun i j => (us[i * sz + j]?).getD undef) (by rw [len']; exact hl) (by rw [len']; exact e4) e5 (fun row hr => by
                obtain ⟨r0, hr0, rfl⟩ := List.mem_map.1 hr
                simpa using q2 r0 hr0) (fun i j row pv a d' => ?_) (fun i j row pv a d' => ?_)
            · rw [len'] at this; exact this
            all_goals
              rw [List.getElem?_map, Option.map_eq_some_iff] at a
              obtain ⟨row0, a, rfl⟩ := a
              rw [List.getElem?_map, Option.map_eq_some_iff] at d'
              obtain ⟨p0, d', rfl⟩ := d'
              have hi : i < es.length := (List.getElem?_eq_some_iff.1 a).1
              have hj : j < sz := by have := (List.getElem?_eq_some_iff.1 d').1; rw [q2 row0 (List.mem_of_getElem? a)] at this; exact this
              have hm : (i + 1) * sz ≤ es.length * sz := Nat.mul_le_mul_right _ hi
              rw [Nat.add_mul] at hm
              have hu : i * sz + j < us.length := by rw [q1.1]; omega
              have hu' : us[i * sz + j]? = some us[i * sz + j] := List.getElem?_eq_getElem hu
              rw [hu']
            · have := q1.cells (g := g) rfl (i * sz + j) _ hu'
              rw [addr_add] at this
              rw [Nat.add_assoc]
              exact hC _ _ _ hhome this (q3 _ (List.mem_of_getElem? hu'))
            · exact frz_ok I hM hC d p0 _ (q4 i j row0 p0 _ a d' hu') (hk row0 (List.mem_of_getElem? a) p0 (List.mem_of_getElem? d')) _
    · exact hk.elim
  | d + 1, .agg fs, v, r, hk, hm => by
    cases r with
    | agg _ vs h1 h2 =>
      simp only [frz]
      refine .agg _ _ (by simpa using h1) fun i pv u a b => ?_
      rw [List.getElem?_map, Option.map_eq_some_iff] at a
      obtain ⟨q, a1, rfl⟩ := a
      exact frz_ok I hM hC d q u (h2 i q u a1 b) (hk q (List.mem_of_getElem? a1)) hm
  | d + 1, .tup fs, v, r, hk, hm => by
    cases r with
    | tup _ vs h1 h2 =>
      simp only [frz]
      refine .tup _ _ (by simpa using h1) fun i pv u a b => ?_
      rw [List.getElem?_map, Option.map_eq_some_iff] at a
      obtain ⟨q, a1, rfl⟩ := a
      exact frz_ok I hM hC d q u (h2 i q u a1 b) (hk q (List.mem_of_getElem? a1)) hm
  | d + 1, .val x, v, r, hk, hm => cloC_ok (r.mono hM (.refl _)) hk
  | d + 1, .sl sz es, v, r, hk, hm => cloC_ok (r.mono hM (.refl _)) hk
  | d + 1, .ptr b o, v, r, hk, hm => cloC_ok (r.mono hM (.refl _)) hk
  | d + 1, .eptr cs o, v, r, hk, hm => cloC_ok (r.mono hM (.refl _)) hk
  | d + 1, .optr b sz i o, v, r, hk, hm => cloC_ok (r.mono hM (.refl _)) hk
  | d + 1, .clo f caps, v, r, hk, hm => cloC_ok (r.mono hM (.refl _)) hk
theorem PCalls.freeze {P : Program} {f : FuncId} {args : List PV} {R R' : PV → Hp → Prop} (c : PCalls P f args [] R) (d : Nat) (hR : ∀ r H, R r H → frzOk H d r ∧ R' (frz H d r) []) : PCalls P f args [] R' := by
  intro M hh w vs I rv
  refine (c M hh w vs I rv).mono fun e w' ⟨v, M', h', pv, H', a, b, r, s⟩ => ?_
  obtain ⟨g1, g2⟩ := hR pv H' b
  have none : ∀ k, ¬ Homes hh [] k := fun k ⟨b, B, v, q, _⟩ => by simp at q
  have hb : Ext w w' := ChgS.ext ⟨s.chg.os, s.chg.tape, s.chg.output, s.chg.size, fun k hk hn => s.chg.block k hk (none k)⟩
  let M2 : Mem := fun k o => if w.heap.size ≤ k then memW w' k o else M k o
  have lo : ∀ {k o : Nat}, k < w.heap.size → M2 k o = M k o := fun {k o} q => by show (if w.heap.size ≤ k then _ else _) = _; rw [if_neg (by omega)]
  have up : ∀ {k o : Nat}, w.heap.size ≤ k → M2 k o = memW w' k o := fun {k o} q => by show (if w.heap.size ≤ k then _ else _) = _; rw [if_pos q]
  have m1 : MLe M M2 := fun k o v q => by rw [lo (I.mem_lt q)]; exact q
  have m2 : MLe M' M2 := fun k o u q => by
    rcases s.new k o u q with x | x | x
    · exact m1 k o u x
    · exact absurd x (none k)
    · rw [up x]; exact memW_of (s.inv.mem k o u q) (s.inv.one k o u q)
  have i2 : Inv M2 hh [] w' := by
    refine ⟨fun k o u q => ?_, fun k o u q => ?_, fun b B q => by simp at q, fun k q => absurd q (none k), fun b b' B B' v v' k q => by simp at q, I.len, I.glob.mono m1⟩
    · by_cases hk : w.heap.size ≤ k
      · rw [up hk] at q; exact (memW_cell q).1
      · rw [lo (by omega)] at q; exact ext_cell hb (I.mem k o u q)
    · by_cases hk : w.heap.size ≤ k
      · rw [up hk] at q; exact (memW_cell q).2
      · rw [lo (by omega)] at q; exact I.one k o u q
  refine ⟨v, M2, hh, frz H' d pv, [], a, g2, ?_, ⟨m1, .refl _, i2, s.chg, fun k q => absurd q (none k), fun k o u q => ?_⟩⟩
  · refine frz_ok s.inv m2 (fun k o u q1 q2 q3 => ?_) d pv v r g1 hh
    rw [up ((s.sub k q1).resolve_left (none k))]
    exact memW_of q2 q3
  · by_cases hk : w.heap.size ≤ k
    · exact .inr (.inr hk)
    · rw [lo (by omega)] at q; exact .inl q
end Go.Proofs.YtiboajlnjldalaaGreatDoor
namespace Go.Proofs.YtiboajlnjldalaaGreatDoor
set_option linter.unusedSimpArgs false
set_option linter.unusedVariables false
open Go.RowKit
set_option maxRecDepth 100000
theorem sL22Ids_p (l : List GVal) (hl : l.length ≤ 1000000) : PCalls Tryz.prog 85 [.sl 2 (l.map pVal)] [] (RH (.own 0) [some (.row 3 1 ((l.map (·.fId)).map pInt))]) := by
  refine pcalls_ofR okP Tryz.func85 rfl ?_
  simp only [Tryz.f85, List.length_cons, List.length_nil, Nat.reduceAdd, Nat.reduceSub, List.replicate_succ, List.replicate_zero, List.cons_append, List.nil_append, List.length_map]
  repeat' (first | with_reducible (first | refine wA ?_ | refine wB ?_ | refine wC ?_ | refine w1 ?_ | refine w2 ?_ | refine w3 ?_ | refine w4 ?_ | refine w5 ?_ | refine w6 ?_ | refine w7 ?_ | refine w8 ?_ | refine wT ?_ | refine w9 ?_ | refine wE ?_ | refine wS ?_) | ((with_reducible refine hK _ ?_); clear hK K) | ((with_reducible refine PWp.condI ?_); refine ⟨_, rfl, fun hg => ?_, fun hg => ?_⟩ <;> first | (exact absurd hg (by decide)) | ((try simp only [Bool.not_true, Bool.not_false] at hg); (try simp only [hg]); (try simp only [push_cast] at hg); (try exact absurd trivial hg); (try (exfalso; omega)))) | ((with_reducible refine pops_plain fun K hK => popO_row ?_); refine ⟨_, _, _, _, _, rfl, rfl, rfl, rfl, rfl, ?_⟩; simp (disch := omega) only [push_cast, seval]) | ((with_reducible refine pops_plain fun K hK => ?_); simp (disch := omega) only [push_cast, seval]) | ((with_reducible refine And.intro ?_ ?_); omega))
  refine PWp.loopK (α := Nat) (fun k => [(3, .own 0), (4, .val (.int .i64 (k : Int)))]) [1, 5, 6, 7, 8, 9, 10, 11, 12, 13, 14, 15, 16, 17, 18, 19] (fun k => [some (.row 3 1 (((l.take k).map (·.fId)).map pInt))]) (fun k => k ≤ l.length) (fun k => l.length - k) (0) (Nat.zero_le _) (by (refine ⟨[?_], ?_, ?_, ?_, ?_⟩; rotate_left 1; (· ((try simp (disch := omega) only [push_cast, seval]); (repeat' (first | exact trivial | exact rfl | refine And.intro ?_ ?_ | omega)))); (· ((try simp (disch := omega) only [push_cast, seval]); (repeat' (first | exact trivial | exact rfl | refine And.intro ?_ ?_ | omega)))); (· exact rfl); (· (first | exact trivial | exact ⟨rfl, trivial⟩ | exact ⟨rfl, rfl, trivial⟩)))) ?_
  intro k ρ hI
  (try dsimp only at hI)
  refine PWp.at (tm' := ?_) (H' := ?_) ?_ ?_ ?_; rotate_left 2; (· ((try simp only [push_cast, seval]); exact rfl)); (· ((try dsimp only); exact rfl))
  by_cases hlt : k < l.length
  · obtain ⟨x, hx⟩ : ∃ x, l[k]? = some x := ⟨_, List.getElem?_eq_getElem hlt⟩
    have e : l.take (k + 1) = l.take k ++ [x] := by rw [List.take_add_one, hx]; rfl
    have hln : (l.take k).length ≤ 1000000 := by rw [List.length_take]; omega
    repeat' (first | with_reducible (first | refine wA ?_ | refine wB ?_ | refine wC ?_ | refine w1 ?_ | refine w2 ?_ | refine w3 ?_ | refine w4 ?_ | refine w5 ?_ | refine w6 ?_ | refine w7 ?_ | refine w8 ?_ | refine wT ?_ | refine w9 ?_ | refine wE ?_ | refine wS ?_) | ((with_reducible refine hK _ ?_); clear hK K) | ((with_reducible refine PWp.condI ?_); refine ⟨_, rfl, fun hg => ?_, fun hg => ?_⟩ <;> first | (exact absurd hg (by decide)) | ((try simp only [Bool.not_true, Bool.not_false] at hg); (try simp only [hg]); (try simp only [push_cast] at hg); (try exact absurd trivial hg); (try (exfalso; omega)))) | ((with_reducible refine pops_plain fun K hK => popO_row ?_); refine ⟨_, _, _, _, _, rfl, rfl, rfl, rfl, rfl, ?_⟩; simp (disch := omega) only [push_cast, seval, hx]) | ((with_reducible refine pops_plain fun K hK => ?_); simp (disch := omega) only [push_cast, seval, hx]) | ((with_reducible refine And.intro ?_ ?_); omega))
    (refine ⟨k + 1, by ((try dsimp only); omega), ?_, by (refine ⟨[?_], ?_, ?_, ?_, ?_⟩; rotate_left 1; (· ((first | simp (disch := omega) only [push_cast, seval, e, List.map_append, List.map_cons, List.map_nil, pInt] | simp (disch := omega) only [push_cast, seval] | skip); (repeat' (first | exact trivial | exact rfl | refine And.intro ?_ ?_ | omega)))); (· ((first | simp (disch := omega) only [push_cast, seval, e, List.map_append, List.map_cons, List.map_nil, pInt] | simp (disch := omega) only [push_cast, seval] | skip); (repeat' (first | exact trivial | exact rfl | refine And.intro ?_ ?_ | omega)))); (· exact rfl); (· (first | exact trivial | exact ⟨rfl, trivial⟩ | exact ⟨rfl, rfl, trivial⟩)))⟩)
    exact hlt
  obtain rfl : k = l.length := by omega
  rw [List.take_length]
  repeat' (first | with_reducible (first | refine wA ?_ | refine wB ?_ | refine wC ?_ | refine w1 ?_ | refine w2 ?_ | refine w3 ?_ | refine w4 ?_ | refine w5 ?_ | refine w6 ?_ | refine w7 ?_ | refine w8 ?_ | refine wT ?_ | refine w9 ?_ | refine wE ?_ | refine wS ?_) | ((with_reducible refine hK _ ?_); clear hK K) | ((with_reducible refine PWp.condI ?_); refine ⟨_, rfl, fun hg => ?_, fun hg => ?_⟩ <;> first | (exact absurd hg (by decide)) | ((try simp only [Bool.not_true, Bool.not_false] at hg); (try simp only [hg]); (try simp only [push_cast] at hg); (try exact absurd trivial hg); (try (exfalso; omega)))) | ((with_reducible refine pops_plain fun K hK => popO_row ?_); refine ⟨_, _, _, _, _, rfl, rfl, rfl, rfl, rfl, ?_⟩; simp (disch := omega) only [push_cast, seval]) | ((with_reducible refine pops_plain fun K hK => ?_); simp (disch := omega) only [push_cast, seval]) | ((with_reducible refine And.intro ?_ ?_); omega))
  ((with_reducible show PPostR _ _ _ _ _ _); exact finH [_])
def pBkO (b : GBlock) : List PV := [.val (.int .i64 b.fHead.fHeight), .val (.int .i64 b.fHead.fTime), .val (.string b.fHead.fLast), .val (.string b.fHead.fVals), .val (.string b.fHead.fNext), .val (.string b.fHead.fData), .own 0, .own 1, .val (.int .i64 b.fCommit.fHeight), .val (.int .i64 b.fCommit.fRound), .val (.string b.fCommit.fId), .own 2]
def bBk (b : GBlock) : Hp := [some (.row 141 2 (b.fVals.map pVal)), some (.row 141 2 (b.fNext.map pVal)), some (.row 227 2 (b.fCommit.fSigs.map pCSig))]
attribute [push_cast] pBkO bBk
theorem frzOk_rows {α : Type} {H : Hp} {f : α → List PV} (h : ∀ x, (f x).all cloC = true) (l : List α) : ∀ row ∈ l.map f, ∀ p ∈ row, frzOk H 0 p := fun row hr p hp => by
  obtain ⟨x, _, rfl⟩ := List.mem_map.1 hr
  exact List.all_eq_true.1 (h x) p hp
theorem blk_frz {P : Program} {f : FuncId} {args : List PV} {b : GBlock} (c : PCalls P f args [] (RH (.agg (pBkO b)) (bBk b))) : PCalls P f args [] (RH (.agg (pBlock b)) []) :=
  c.freeze 2 fun r H ⟨e1, e2⟩ => by
    subst e1; subst e2
    refine ⟨fun p hp => ?_, ?_, rfl⟩
    · simp only [pBkO, List.mem_cons, List.not_mem_nil, or_false] at hp
      rcases hp with rfl | rfl | rfl | rfl | rfl | rfl | rfl | rfl | rfl | rfl | rfl | rfl
      all_goals first
        | exact rfl
        | exact frzOk_rows (fun _ => rfl) _
    · simp only [frz, pBkO, bBk, List.map_cons, List.map_nil, List.getElem?_cons_zero, List.getElem?_cons_succ, List.map_id']
      rfl
theorem iCopyBlock_o (b : GBlock) (hs : SmB b) : PCalls Tryz.prog 97 [.agg (pBlock b)] [] (RH (.agg (pBkO b)) (bBk b)) := by
  obtain ⟨h1, h2, h3⟩ := hs
  obtain ⟨⟨a1, a2, a3, a4, a5, a6⟩, vs, nx, ⟨ch, cr, ci, cs⟩⟩ := b
  dsimp only at h1 h2 h3
  refine pcalls_ofR okP Tryz.func97 rfl ?_
  simp only [Tryz.f97, List.length_cons, List.length_nil, Nat.reduceAdd, Nat.reduceSub, List.replicate_succ, List.replicate_zero, List.cons_append, List.nil_append, List.length_map]
  repeat' (first | with_reducible (first | refine wA ?_ | refine wB ?_ | refine wC ?_ | refine w1 ?_ | refine w2 ?_ | refine w3 ?_ | refine w4 ?_ | refine w5 ?_ | refine w6 ?_ | refine w7 ?_ | refine w8 ?_ | refine wT ?_ | refine w9 ?_ | refine wE ?_ | refine wS ?_) | ((with_reducible refine hK _ ?_); clear hK K) | ((with_reducible refine pops_plain fun K hK => ?_); simp (disch := omega) only [push_cast, seval]) | ((with_reducible show pcall _ _ _ _ _ _); (first | (refine pcF (cf Tryz.func120) (copyVals_p _ sd) ?_) | (refine pcF (cf Tryz.func120) (iCopyVals_p _ sd) ?_)); (try simp (disch := omega) only [push_cast, seval])) | ((with_reducible refine And.intro ?_ ?_); omega))
  all_goals ((with_reducible show PPostR _ _ _ _ _ _); exact finH [_, _, _])
theorem sL22Copy_o (b : GBlock) (hs : SmB b) : PCalls Tryz.prog 86 [.agg (pBlock b)] [] (RH (.agg (pBkO b)) (bBk b)) := by
  obtain ⟨h1, h2, h3⟩ := hs
  obtain ⟨⟨a1, a2, a3, a4, a5, a6⟩, vs, nx, ⟨ch, cr, ci, cs⟩⟩ := b
  dsimp only at h1 h2 h3
  refine pcalls_ofR okP Tryz.func86 rfl ?_
  simp only [Tryz.f86, List.length_cons, List.length_nil, Nat.reduceAdd, Nat.reduceSub, List.replicate_succ, List.replicate_zero, List.cons_append, List.nil_append, List.length_map]
  repeat' (first | with_reducible (first | refine wA ?_ | refine wB ?_ | refine wC ?_ | refine w1 ?_ | refine w2 ?_ | refine w3 ?_ | refine w4 ?_ | refine w5 ?_ | refine w6 ?_ | refine w7 ?_ | refine w8 ?_ | refine wT ?_ | refine w9 ?_ | refine wE ?_ | refine wS ?_) | ((with_reducible refine hK _ ?_); clear hK K) | ((with_reducible refine pops_plain fun K hK => popO_row ?_); refine ⟨_, _, _, _, _, rfl, rfl, rfl, rfl, rfl, ?_⟩; simp (disch := omega) only [push_cast, seval]) | ((with_reducible refine pops_plain fun K hK => ?_); simp (disch := omega) only [push_cast, seval]) | ((with_reducible refine And.intro ?_ ?_); omega))
  all_goals ((with_reducible show PPostR _ _ _ _ _ _); exact finH [_, _, _])
theorem sL22Copy_p (b : GBlock) (hs : SmB b) : PCalls Tryz.prog 86 [.agg (pBlock b)] [] (RH (.agg (pBlock b)) []) := blk_frz (sL22Copy_o b hs)
theorem cm_frz {P : Program} {f : FuncId} {args : List PV} {c : GCommit} {t : TypeId} (h : PCalls P f args [] (RH (.agg [.val (.int .i64 c.fHeight), .val (.int .i64 c.fRound), .val (.string c.fId), .own 0]) [some (.row t 2 (c.fSigs.map pCSig))])) : PCalls P f args [] (RH (.agg (pCommit c)) []) :=
  h.freeze 2 fun r H ⟨e1, e2⟩ => by
    subst e1; subst e2
    refine ⟨fun p hp => ?_, ?_, rfl⟩
    · simp only [List.mem_cons, List.not_mem_nil, or_false] at hp
      rcases hp with rfl | rfl | rfl | rfl
      all_goals first
        | exact rfl
        | exact frzOk_rows (fun _ => rfl) _
    · simp only [frz, List.map_cons, List.map_nil, List.getElem?_cons_zero, List.map_id']
      rfl
set_option maxHeartbeats 4000000 in
theorem sL9For_o (hd : GHeader) (round : Int) (ids : List Int) (hl : ids.length ≤ 1000) : PCalls Tryz.prog 84 [.agg (pHeader hd), .val (.int .i64 round), .sl 1 (ids.map pInt)] [] (RH (.agg [.val (.int .i64 hd.fHeight), .val (.int .i64 round), .val (.string (headId hd)), .own 0]) [some (.row 227 2 ((cFor hd round ids).fSigs.map pCSig))]) := by
  have hid := headId_le hd
  obtain ⟨h1, h2, h3, h4, h5, h6⟩ := hd
  unfold cFor
  dsimp only at *
  generalize hid' : headId ⟨h1, h2, h3, h4, h5, h6⟩ = id at *
  refine pcalls_ofR okP Tryz.func84 rfl ?_
  simp only [Tryz.f84, List.length_cons, List.length_nil, Nat.reduceAdd, Nat.reduceSub, List.replicate_succ, List.replicate_zero, List.cons_append, List.nil_append, List.length_map]
  repeat' (first | with_reducible refine mkRegion (id := 2) ?_ | with_reducible (first | refine wA ?_ | refine wB ?_ | refine wC ?_) | with_reducible refine PWp.draw (id := 5) okP true [0, 1, 2, 3, 4, 5, 6, 7, 8, 9, 10, 11, 12, 13, 14, 15, 16, 17, 18, 19, 20, 21, 22] (by kernel_rfl) ?_ | with_reducible refine PWp.drawT (id := 1) okP true (.step 0 (.step 1 (.step 2 (.step 3 (.fork (.alt 4 (.step 5 (.step 6 (.step 7 .done))) (.alt 6 (.step 4 (.step 5 (.step 7 .done))) .stop))))))) (by kernel_rfl) ?_ | with_reducible (first | refine w1 ?_ | refine w2 ?_ | refine w3 ?_ | refine w4 ?_ | refine w5 ?_ | refine w6 ?_ | refine w7 ?_ | refine w8 ?_ | refine wT ?_ | refine w9 ?_ | refine wE ?_ | refine wS ?_) | ((with_reducible refine hK _ ?_); clear hK K) | ((with_reducible refine PWp.condI ?_); refine ⟨_, rfl, fun hg => ?_, fun hg => ?_⟩ <;> first | (exact absurd hg (by decide)) | ((try simp only [Bool.not_true, Bool.not_false] at hg); (try simp only [hg]); (try simp only [push_cast] at hg); (try exact absurd trivial hg); (try (exfalso; omega)))) | with_reducible (first | refine ptree_done ?_ | exact ptree_stop | refine ptree_fork ?_) | ((with_reducible refine ptree_I ?_); refine ⟨_, rfl, fun K hK => ?_⟩) | ((with_reducible refine ptree_A ?_ ?_); (refine ⟨_, rfl, fun K hK => ?_⟩)) | ((with_reducible refine pany_I ?_); refine ⟨_, rfl, fun K hK => ?_⟩) | ((with_reducible refine pops_plain fun K hK => popO_row ?_); refine ⟨_, _, _, _, _, rfl, rfl, rfl, rfl, rfl, ?_⟩; simp (disch := omega) only [push_cast, seval, hid']) | ((with_reducible refine pD_x ?_ (popO_row ?_)); exact rfl; refine ⟨_, _, _, _, _, rfl, rfl, rfl, rfl, rfl, ?_⟩; simp (disch := omega) only [push_cast, seval, hid']) | ((with_reducible refine pops_plain fun K hK => popO_build ?_); refine ⟨_, rfl, _, rfl, ?_⟩; simp (disch := omega) only [push_cast, seval, hid']) | ((with_reducible refine pD_y ?_ (py_build ?_)); exact rfl; refine ⟨_, rfl, _, rfl, ?_⟩; simp (disch := omega) only [push_cast, seval, hid']) | ((with_reducible refine pbuild_cs ?_); refine ⟨_, rfl, _, rfl, ?_⟩; simp (disch := omega) only [push_cast, seval, hid']) | ((with_reducible refine pops_plain fun K hK => ?_); simp (disch := omega) only [push_cast, seval, hid']) | ((first | ((with_reducible refine pD_y ?_ ?_); exact rfl) | ((with_reducible refine pD_x ?_ ?_); exact rfl)); simp (disch := omega) only [push_cast, seval, hid']) | ((with_reducible show pcall _ _ _ _ _ _); (first | (refine pcV (cf Tryz.func72) (sHeadId_p ⟨_, _, _, _, _, _⟩) ?_) | (refine pcV (cf Tryz.func185) (sSignAs_p _ _ sd) ?_) | (refine pcV (cf Tryz.func186) (sDigest_p ⟨_, _, _, _, _⟩) ?_) | (refine pcH (cf Tryz.func187) (sL9Vote_p ⟨_, _, _, _⟩ _) ?_)); (try simp (disch := omega) only [push_cast, seval, hid'])) | ((with_reducible refine And.intro ?_ ?_); omega))
  all_goals
    refine Mk.of ?_
    refine PWp.nilB 2 3 227 2 rfl rfl ?_
    repeat' (first | with_reducible (first | refine wA ?_ | refine wB ?_ | refine wC ?_) | with_reducible refine PWp.draw (id := 5) okP true [0, 1, 2, 3, 4, 5, 6, 7, 8, 9, 10, 11, 12, 13, 14, 15, 16, 17, 18, 19, 20, 21, 22] (by kernel_rfl) ?_ | with_reducible refine PWp.drawT (id := 1) okP true (.step 0 (.step 1 (.step 2 (.step 3 (.fork (.alt 4 (.step 5 (.step 6 (.step 7 .done))) (.alt 6 (.step 4 (.step 5 (.step 7 .done))) .stop))))))) (by kernel_rfl) ?_ | with_reducible (first | refine w1 ?_ | refine w2 ?_ | refine w3 ?_ | refine w4 ?_ | refine w5 ?_ | refine w6 ?_ | refine w7 ?_ | refine w8 ?_ | refine wT ?_ | refine w9 ?_ | refine wE ?_ | refine wS ?_) | ((with_reducible refine hK _ ?_); clear hK K) | ((with_reducible refine PWp.condI ?_); refine ⟨_, rfl, fun hg => ?_, fun hg => ?_⟩ <;> first | (exact absurd hg (by decide)) | ((try simp only [Bool.not_true, Bool.not_false] at hg); (try simp only [hg]); (try simp only [push_cast] at hg); (try exact absurd trivial hg); (try (exfalso; omega)))) | with_reducible (first | refine ptree_done ?_ | exact ptree_stop | refine ptree_fork ?_) | ((with_reducible refine ptree_I ?_); refine ⟨_, rfl, fun K hK => ?_⟩) | ((with_reducible refine ptree_A ?_ ?_); (refine ⟨_, rfl, fun K hK => ?_⟩)) | ((with_reducible refine pany_I ?_); refine ⟨_, rfl, fun K hK => ?_⟩) | ((with_reducible refine pops_plain fun K hK => popO_row ?_); refine ⟨_, _, _, _, _, rfl, rfl, rfl, rfl, rfl, ?_⟩; simp (disch := omega) only [push_cast, seval]) | ((with_reducible refine pD_x ?_ (popO_row ?_)); exact rfl; refine ⟨_, _, _, _, _, rfl, rfl, rfl, rfl, rfl, ?_⟩; simp (disch := omega) only [push_cast, seval]) | ((with_reducible refine pops_plain fun K hK => popO_build ?_); refine ⟨_, rfl, _, rfl, ?_⟩; simp (disch := omega) only [push_cast, seval]) | ((with_reducible refine pD_y ?_ (py_build ?_)); exact rfl; refine ⟨_, rfl, _, rfl, ?_⟩; simp (disch := omega) only [push_cast, seval]) | ((with_reducible refine pbuild_cs ?_); refine ⟨_, rfl, _, rfl, ?_⟩; simp (disch := omega) only [push_cast, seval]) | ((with_reducible refine pops_plain fun K hK => ?_); simp (disch := omega) only [push_cast, seval]) | ((first | ((with_reducible refine pD_y ?_ ?_); exact rfl) | ((with_reducible refine pD_x ?_ ?_); exact rfl)); simp (disch := omega) only [push_cast, seval]) | ((with_reducible show pcall _ _ _ _ _ _); (first | (refine pcV (cf Tryz.func72) (sHeadId_p ⟨_, _, _, _, _, _⟩) ?_) | (refine pcV (cf Tryz.func185) (sSignAs_p _ _ sd) ?_) | (refine pcV (cf Tryz.func186) (sDigest_p ⟨_, _, _, _, _⟩) ?_) | (refine pcH (cf Tryz.func187) (sL9Vote_p ⟨_, _, _, _⟩ _) ?_)); (try simp (disch := omega) only [push_cast, seval])) | ((with_reducible refine And.intro ?_ ?_); omega))
    refine PWp.loopK (α := Nat) (fun k => [(6, .ptr 1 0), (7, .ptr 0 0), (8, .val (.int .i64 (k : Int)))]) [0, 1, 3, 4, 5, 9, 10, 11, 12, 13, 14, 15, 16, 17, 18, 19, 20, 21, 22, 23, 24, 25, 26, 27, 28, 29, 30, 31, 32, 33, 34, 35, 36, 37, 38, 39, 40, 41, 42] (fun k => [some (.box [.val (.int .i64 h1), .val (.int .i64 round), .val (.string id), .own 2]), some (.box [.val (.int .i64 0), .val (.int .i64 0), .val (.string ⟨#[]⟩), .val (.slice none 0 0)]), some (.row 227 2 (((ids.take k).map (sigOf h1 round id)).map pCSig))]) (fun k => k ≤ ids.length) (fun k => ids.length - k) (0) (Nat.zero_le _) (by (refine ⟨[?_, ?_, ?_], ?_, ?_, ?_, ?_⟩; rotate_left 3; (· ((try simp (disch := omega) only [push_cast, seval]); (repeat' (first | exact trivial | exact rfl | refine And.intro ?_ ?_ | omega)))); (· ((try simp (disch := omega) only [push_cast, seval]); (repeat' (first | exact trivial | exact rfl | refine And.intro ?_ ?_ | omega)))); (· exact rfl); (· (first | exact trivial | exact ⟨rfl, trivial⟩ | exact ⟨rfl, rfl, trivial⟩)))) ?_
    intro k ρ hI
    (try dsimp only at hI)
    refine PWp.at (tm' := ?_) (H' := ?_) ?_ ?_ ?_; rotate_left 2; (· ((try simp only [push_cast, seval]); exact rfl)); (· ((try dsimp only); exact rfl))
    by_cases hlt : k < ids.length
    case' pos =>
      obtain ⟨x, hx⟩ : ∃ x, ids[k]? = some x := ⟨_, List.getElem?_eq_getElem hlt⟩
      have e : ids.take (k + 1) = ids.take k ++ [x] := by rw [List.take_add_one, hx]; rfl
      have hln : (ids.take k).length ≤ 1000 := by rw [List.length_take]; omega
      have hdz := digest_size ⟨h1, round, 2, id, x⟩
      repeat' (first | with_reducible (first | refine wA ?_ | refine wB ?_ | refine wC ?_) | with_reducible refine PWp.draw (id := 5) okP true [0, 1, 2, 3, 4, 5, 6, 7, 8, 9, 10, 11, 12, 13, 14, 15, 16, 17, 18, 19, 20, 21, 22] (by kernel_rfl) ?_ | with_reducible refine PWp.drawT (id := 1) okP true (.step 0 (.step 1 (.step 2 (.step 3 (.fork (.alt 4 (.step 5 (.step 6 (.step 7 .done))) (.alt 6 (.step 4 (.step 5 (.step 7 .done))) .stop))))))) (by kernel_rfl) ?_ | with_reducible (first | refine w1 ?_ | refine w2 ?_ | refine w3 ?_ | refine w4 ?_ | refine w5 ?_ | refine w6 ?_ | refine w7 ?_ | refine w8 ?_ | refine wT ?_ | refine w9 ?_ | refine wE ?_ | refine wS ?_) | ((with_reducible refine hK _ ?_); clear hK K) | ((with_reducible refine PWp.condI ?_); refine ⟨_, rfl, fun hg => ?_, fun hg => ?_⟩ <;> first | (exact absurd hg (by decide)) | ((try simp only [Bool.not_true, Bool.not_false] at hg); (try simp only [hg]); (try simp only [push_cast] at hg); (try exact absurd trivial hg); (try (exfalso; omega)))) | with_reducible (first | refine ptree_done ?_ | exact ptree_stop | refine ptree_fork ?_) | ((with_reducible refine ptree_I ?_); refine ⟨_, rfl, fun K hK => ?_⟩) | ((with_reducible refine ptree_A ?_ ?_); (refine ⟨_, rfl, fun K hK => ?_⟩)) | ((with_reducible refine pany_I ?_); refine ⟨_, rfl, fun K hK => ?_⟩) | ((with_reducible refine pops_plain fun K hK => popO_row ?_); refine ⟨_, _, _, _, _, rfl, rfl, rfl, rfl, rfl, ?_⟩; simp (disch := omega) only [push_cast, seval, hx, pInt]) | ((with_reducible refine pD_x ?_ (popO_row ?_)); exact rfl; refine ⟨_, _, _, _, _, rfl, rfl, rfl, rfl, rfl, ?_⟩; simp (disch := omega) only [push_cast, seval, hx, pInt]) | ((with_reducible refine pops_plain fun K hK => popO_build ?_); refine ⟨_, rfl, _, rfl, ?_⟩; simp (disch := omega) only [push_cast, seval, hx, pInt]) | ((with_reducible refine pD_y ?_ (py_build ?_)); exact rfl; refine ⟨_, rfl, _, rfl, ?_⟩; simp (disch := omega) only [push_cast, seval, hx, pInt]) | ((with_reducible refine pbuild_cs ?_); refine ⟨_, rfl, _, rfl, ?_⟩; simp (disch := omega) only [push_cast, seval, hx, pInt]) | ((with_reducible refine pops_plain fun K hK => ?_); simp (disch := omega) only [push_cast, seval, hx, pInt]) | ((first | ((with_reducible refine pD_y ?_ ?_); exact rfl) | ((with_reducible refine pD_x ?_ ?_); exact rfl)); simp (disch := omega) only [push_cast, seval, hx, pInt]) | ((with_reducible show pcall _ _ _ _ _ _); (first | (refine pcV (cf Tryz.func72) (sHeadId_p ⟨_, _, _, _, _, _⟩) ?_) | (refine pcV (cf Tryz.func185) (sSignAs_p _ _ sd) ?_) | (refine pcV (cf Tryz.func186) (sDigest_p ⟨_, _, _, _, _⟩) ?_) | (refine pcH (cf Tryz.func187) (sL9Vote_p ⟨_, _, _, _⟩ _) ?_)); (try simp (disch := omega) only [push_cast, seval, hx, pInt])) | ((with_reducible refine And.intro ?_ ?_); omega))
      all_goals
        (refine ⟨k + 1, by ((try dsimp only); omega), ?_, by (refine ⟨[?_, ?_, ?_], ?_, ?_, ?_, ?_⟩; rotate_left 3; (· ((first | simp (disch := omega) only [push_cast, seval, e, List.map_append, List.map_cons, List.map_nil, pCSig, sigOf] | simp (disch := omega) only [push_cast, seval] | skip); (repeat' (first | exact trivial | exact rfl | refine And.intro ?_ ?_ | omega)))); (· ((first | simp (disch := omega) only [push_cast, seval, e, List.map_append, List.map_cons, List.map_nil, pCSig, sigOf] | simp (disch := omega) only [push_cast, seval] | skip); (repeat' (first | exact trivial | exact rfl | refine And.intro ?_ ?_ | omega)))); (· exact rfl); (· (first | exact trivial | exact ⟨rfl, trivial⟩ | exact ⟨rfl, rfl, trivial⟩)))⟩)
        exact hlt
    case' neg =>
      obtain rfl : k = ids.length := by omega
      rw [List.take_length]
      repeat' (first | with_reducible (first | refine wA ?_ | refine wB ?_ | refine wC ?_) | with_reducible refine PWp.draw (id := 5) okP true [0, 1, 2, 3, 4, 5, 6, 7, 8, 9, 10, 11, 12, 13, 14, 15, 16, 17, 18, 19, 20, 21, 22] (by kernel_rfl) ?_ | with_reducible refine PWp.drawT (id := 1) okP true (.step 0 (.step 1 (.step 2 (.step 3 (.fork (.alt 4 (.step 5 (.step 6 (.step 7 .done))) (.alt 6 (.step 4 (.step 5 (.step 7 .done))) .stop))))))) (by kernel_rfl) ?_ | with_reducible (first | refine w1 ?_ | refine w2 ?_ | refine w3 ?_ | refine w4 ?_ | refine w5 ?_ | refine w6 ?_ | refine w7 ?_ | refine w8 ?_ | refine wT ?_ | refine w9 ?_ | refine wE ?_ | refine wS ?_) | ((with_reducible refine hK _ ?_); clear hK K) | ((with_reducible refine PWp.condI ?_); refine ⟨_, rfl, fun hg => ?_, fun hg => ?_⟩ <;> first | (exact absurd hg (by decide)) | ((try simp only [Bool.not_true, Bool.not_false] at hg); (try simp only [hg]); (try simp only [push_cast] at hg); (try exact absurd trivial hg); (try (exfalso; omega)))) | with_reducible (first | refine ptree_done ?_ | exact ptree_stop | refine ptree_fork ?_) | ((with_reducible refine ptree_I ?_); refine ⟨_, rfl, fun K hK => ?_⟩) | ((with_reducible refine ptree_A ?_ ?_); (refine ⟨_, rfl, fun K hK => ?_⟩)) | ((with_reducible refine pany_I ?_); refine ⟨_, rfl, fun K hK => ?_⟩) | ((with_reducible refine pops_plain fun K hK => popO_row ?_); refine ⟨_, _, _, _, _, rfl, rfl, rfl, rfl, rfl, ?_⟩; simp (disch := omega) only [push_cast, seval]) | ((with_reducible refine pD_x ?_ (popO_row ?_)); exact rfl; refine ⟨_, _, _, _, _, rfl, rfl, rfl, rfl, rfl, ?_⟩; simp (disch := omega) only [push_cast, seval]) | ((with_reducible refine pops_plain fun K hK => popO_build ?_); refine ⟨_, rfl, _, rfl, ?_⟩; simp (disch := omega) only [push_cast, seval]) | ((with_reducible refine pD_y ?_ (py_build ?_)); exact rfl; refine ⟨_, rfl, _, rfl, ?_⟩; simp (disch := omega) only [push_cast, seval]) | ((with_reducible refine pbuild_cs ?_); refine ⟨_, rfl, _, rfl, ?_⟩; simp (disch := omega) only [push_cast, seval]) | ((with_reducible refine pops_plain fun K hK => ?_); simp (disch := omega) only [push_cast, seval]) | ((first | ((with_reducible refine pD_y ?_ ?_); exact rfl) | ((with_reducible refine pD_x ?_ ?_); exact rfl)); simp (disch := omega) only [push_cast, seval]) | ((with_reducible show pcall _ _ _ _ _ _); (first | (refine pcV (cf Tryz.func72) (sHeadId_p ⟨_, _, _, _, _, _⟩) ?_) | (refine pcV (cf Tryz.func185) (sSignAs_p _ _ sd) ?_) | (refine pcV (cf Tryz.func186) (sDigest_p ⟨_, _, _, _, _⟩) ?_) | (refine pcH (cf Tryz.func187) (sL9Vote_p ⟨_, _, _, _⟩ _) ?_)); (try simp (disch := omega) only [push_cast, seval])) | ((with_reducible refine And.intro ?_ ?_); omega))
      ((with_reducible show PPostR _ _ _ _ _ _); exact finH [_])
theorem sL9For_p (hd : GHeader) (round : Int) (ids : List Int) (hl : ids.length ≤ 1000) : PCalls Tryz.prog 84 [.agg (pHeader hd), .val (.int .i64 round), .sl 1 (ids.map pInt)] [] (RH (.agg (pCommit (cFor hd round ids))) []) :=
  cm_frz (c := cFor hd round ids) (sL9For_o hd round ids hl)
end Go.Proofs.YtiboajlnjldalaaGreatDoor
