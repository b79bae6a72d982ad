/- What the proof leans on, part 5. -/
import Derived.Test.YtiboajlnjldalaaGreatDoorQC4
namespace Go.Proofs.YtiboajlnjldalaaGreatDoor
set_option linter.unusedSimpArgs false
set_option linter.unusedVariables false
open Go.RowKit
set_option maxRecDepth 100000
set_option maxHeartbeats 1000000 in
theorem iValsOk_p (l : List GVal) (hl : l.length ≤ 1099511627776) : PCalls Tryz.prog 90 [.sl 2 (l.map pVal)] [] (RV (.val (.bool (valsOk l)))) := by
  refine pcalls_ofR okP Tryz.func90 rfl ?_
  simp only [Tryz.f90, List.length_cons, List.length_nil, Nat.reduceAdd, Nat.reduceSub, List.replicate_succ, List.replicate_zero, List.cons_append, List.nil_append, List.length_map]
  repeat' (first | with_reducible (first | refine wA ?_ | refine wB ?_ | refine wC ?_) | with_reducible refine PWp.draw (id := 4) okP true [0, 1, 2, 3, 4, 5, 6, 7, 8, 9, 10, 11, 12, 13, 14, 15, 16, 17, 18, 19, 20, 21, 22, 23, 24] (by kernel_rfl) ?_ | with_reducible (first | refine w1 ?_ | refine w2 ?_ | refine w3 ?_ | refine w4 ?_ | refine w5 ?_ | refine w6 ?_ | refine w7 ?_ | refine w8 ?_ | refine wT ?_ | refine w9 ?_ | refine wE ?_ | refine wS ?_) | ((with_reducible refine hK _ ?_); clear hK K) | ((with_reducible refine PWp.condI ?_); refine ⟨_, rfl, fun hg => ?_, fun hg => ?_⟩ <;> first | (exact absurd hg (by decide)) | ((try simp only [Bool.not_true, Bool.not_false] at hg); (try simp only [hg]); (try simp only [push_cast] at hg); (try exact absurd trivial hg); (try (exfalso; omega)))) | ((first | ((with_reducible refine pops_guard0 ?_); refine ⟨_, rfl, fun K hK => ⟨rfl, ?_⟩⟩) | ((with_reducible refine pD_g0 ?_); refine ⟨_, rfl, rfl, ?_⟩)); (try simp (disch := omega) only [push_cast, seval])) | ((with_reducible refine pany_I ?_); refine ⟨_, rfl, fun K hK => ?_⟩) | ((with_reducible refine pops_plain fun K hK => ?_); simp (disch := omega) only [push_cast, seval]) | ((first | ((with_reducible refine pD_y ?_ ?_); exact rfl) | ((with_reducible refine pD_x ?_ ?_); exact rfl)); simp (disch := omega) only [push_cast, seval]) | ((first | ((with_reducible refine pops_guard ?_); refine ⟨_, rfl, fun K hK => ⟨_, rfl, fun hg => ?_, fun hg => ?_⟩⟩) | ((first | ((with_reducible refine pD_gy ?_ ?_); exact rfl) | ((with_reducible refine pD_gx ?_ ?_); exact rfl)); refine ⟨_, rfl, _, rfl, fun hg => ?_, fun hg => ?_⟩)) <;> first | (exact absurd hg (by decide)) | ((try simp only [Bool.not_true, Bool.not_false] at hg); (try simp only [hg]); (try simp only [push_cast] at hg); (try exact absurd trivial hg); (try (exfalso; omega)); (try simp (disch := omega) only [push_cast, seval]))) | ((with_reducible show pcall _ _ _ _ _ _); (first | (refine pcV (cf Tryz.func77) (within_p _ _ _) ?_)); (try simp (disch := omega) only [push_cast, seval])) | ((with_reducible refine And.intro ?_ ?_); omega))
  refine PWp.loopK (α := Nat) (fun k => [(7, .val (.int .i64 (k : Int)))]) [1, 2, 3, 4, 8, 9, 10, 11, 12, 13, 14, 15, 16, 17, 18, 19, 20, 21, 22, 23, 24, 25, 26, 27, 28, 29, 30, 31, 32, 33, 34, 35, 36, 37] (fun k => []) (fun k => k ≤ l.length ∧ allTo (adjAt vOk vLt l) k) (fun k => l.length - k) (0) (⟨Nat.zero_le _, allTo_zero⟩) (by (refine ⟨[], ?_, ?_, ?_, ?_⟩; (· ((try simp (disch := omega) only [push_cast, seval]); (repeat' (first | exact trivial | exact rfl | refine And.intro ?_ ?_ | omega)))); (· ((try simp (disch := omega) only [push_cast, seval]); (repeat' (first | exact trivial | exact rfl | refine And.intro ?_ ?_ | omega)))); (· exact rfl); (· (first | exact trivial | exact ⟨rfl, trivial⟩ | exact ⟨rfl, rfl, trivial⟩)))) ?_
  intro k ρ hI
  (try dsimp only at hI)
  refine PWp.at (tm' := ?_) (H' := ?_) ?_ ?_ ?_; rotate_left 2; (· ((try simp only [push_cast, seval]); exact rfl)); (· ((try dsimp only); exact rfl))
  obtain ⟨hk, hA⟩ := hI
  by_cases hlt : k < l.length
  · obtain ⟨x, hx⟩ : ∃ x, l[k]? = some x := ⟨_, List.getElem?_eq_getElem hlt⟩
    have bad : adjAt vOk vLt l k = false → valsOk l = false := fun h => by rw [valsOk_def, adjOk_no hlt h]; rfl
    cases k with
    | zero =>
      have e := adjAt_zero (f := vOk) (g := vLt) hx
      repeat' (first | with_reducible (first | refine wA ?_ | refine wB ?_ | refine wC ?_) | with_reducible refine PWp.draw (id := 4) okP true [0, 1, 2, 3, 4, 5, 6, 7, 8, 9, 10, 11, 12, 13, 14, 15, 16, 17, 18, 19, 20, 21, 22, 23, 24] (by kernel_rfl) ?_ | with_reducible (first | refine w1 ?_ | refine w2 ?_ | refine w3 ?_ | refine w4 ?_ | refine w5 ?_ | refine w6 ?_ | refine w7 ?_ | refine w8 ?_ | refine wT ?_ | refine w9 ?_ | refine wE ?_ | refine wS ?_) | ((with_reducible refine hK _ ?_); clear hK K) | ((with_reducible refine PWp.condI ?_); refine ⟨_, rfl, fun hg => ?_, fun hg => ?_⟩ <;> first | (exact absurd hg (by decide)) | ((try simp only [Bool.not_true, Bool.not_false] at hg); (try simp only [hg]); (try simp only [push_cast] at hg); (try exact absurd trivial hg); (try (exfalso; omega)))) | ((first | ((with_reducible refine pops_guard0 ?_); refine ⟨_, rfl, fun K hK => ⟨rfl, ?_⟩⟩) | ((with_reducible refine pD_g0 ?_); refine ⟨_, rfl, rfl, ?_⟩)); (try simp (disch := omega) only [push_cast, seval, hx])) | ((with_reducible refine pany_I ?_); refine ⟨_, rfl, fun K hK => ?_⟩) | ((with_reducible refine pops_plain fun K hK => ?_); simp (disch := omega) only [push_cast, seval, hx]) | ((first | ((with_reducible refine pD_y ?_ ?_); exact rfl) | ((with_reducible refine pD_x ?_ ?_); exact rfl)); simp (disch := omega) only [push_cast, seval, hx]) | ((first | ((with_reducible refine pops_guard ?_); refine ⟨_, rfl, fun K hK => ⟨_, rfl, fun hg => ?_, fun hg => ?_⟩⟩) | ((first | ((with_reducible refine pD_gy ?_ ?_); exact rfl) | ((with_reducible refine pD_gx ?_ ?_); exact rfl)); refine ⟨_, rfl, _, rfl, fun hg => ?_, fun hg => ?_⟩)) <;> first | (exact absurd hg (by decide)) | ((try simp only [Bool.not_true, Bool.not_false] at hg); (try simp only [hg]); (try simp only [push_cast] at hg); (try exact absurd trivial hg); (try (exfalso; omega)); (try simp (disch := omega) only [push_cast, seval, hx]))) | ((with_reducible show pcall _ _ _ _ _ _); (first | (refine pcV (cf Tryz.func77) (within_p _ _ _) ?_)); (try simp (disch := omega) only [push_cast, seval, hx])) | ((with_reducible refine And.intro ?_ ?_); omega))
      all_goals first
        | (((with_reducible show PPostR _ _ _ _ _ _); refine finV ?_; (try simp only [push_cast, seval])); rw [bad (by rw [e]; simp_all [vOk])])
        | ((refine ⟨1, by ((try dsimp only); omega), ?_, by (refine ⟨[], ?_, ?_, ?_, ?_⟩; (· ((try simp (disch := omega) only [push_cast, seval]); (repeat' (first | exact trivial | exact rfl | refine And.intro ?_ ?_ | omega)))); (· ((try simp (disch := omega) only [push_cast, seval]); (repeat' (first | exact trivial | exact rfl | refine And.intro ?_ ?_ | omega)))); (· exact rfl); (· (first | exact trivial | exact ⟨rfl, trivial⟩ | exact ⟨rfl, rfl, trivial⟩)))⟩); exact ⟨by omega, allTo_succ hA (by rw [e]; simp_all [vOk])⟩)
    | succ j =>
      obtain ⟨y, hy⟩ : ∃ y, l[j]? = some y := ⟨_, List.getElem?_eq_getElem (by omega)⟩
      have e := adjAt_succ (f := vOk) (g := vLt) hx hy
      repeat' (first | with_reducible (first | refine wA ?_ | refine wB ?_ | refine wC ?_) | with_reducible refine PWp.draw (id := 4) okP true [0, 1, 2, 3, 4, 5, 6, 7, 8, 9, 10, 11, 12, 13, 14, 15, 16, 17, 18, 19, 20, 21, 22, 23, 24] (by kernel_rfl) ?_ | with_reducible (first | refine w1 ?_ | refine w2 ?_ | refine w3 ?_ | refine w4 ?_ | refine w5 ?_ | refine w6 ?_ | refine w7 ?_ | refine w8 ?_ | refine wT ?_ | refine w9 ?_ | refine wE ?_ | refine wS ?_) | ((with_reducible refine hK _ ?_); clear hK K) | ((with_reducible refine PWp.condI ?_); refine ⟨_, rfl, fun hg => ?_, fun hg => ?_⟩ <;> first | (exact absurd hg (by decide)) | ((try simp only [Bool.not_true, Bool.not_false] at hg); (try simp only [hg]); (try simp only [push_cast] at hg); (try exact absurd trivial hg); (try (exfalso; omega)))) | ((first | ((with_reducible refine pops_guard0 ?_); refine ⟨_, rfl, fun K hK => ⟨rfl, ?_⟩⟩) | ((with_reducible refine pD_g0 ?_); refine ⟨_, rfl, rfl, ?_⟩)); (try simp (disch := omega) only [push_cast, seval, hx, hy])) | ((with_reducible refine pany_I ?_); refine ⟨_, rfl, fun K hK => ?_⟩) | ((with_reducible refine pops_plain fun K hK => ?_); simp (disch := omega) only [push_cast, seval, hx, hy]) | ((first | ((with_reducible refine pD_y ?_ ?_); exact rfl) | ((with_reducible refine pD_x ?_ ?_); exact rfl)); simp (disch := omega) only [push_cast, seval, hx, hy]) | ((first | ((with_reducible refine pops_guard ?_); refine ⟨_, rfl, fun K hK => ⟨_, rfl, fun hg => ?_, fun hg => ?_⟩⟩) | ((first | ((with_reducible refine pD_gy ?_ ?_); exact rfl) | ((with_reducible refine pD_gx ?_ ?_); exact rfl)); refine ⟨_, rfl, _, rfl, fun hg => ?_, fun hg => ?_⟩)) <;> first | (exact absurd hg (by decide)) | ((try simp only [Bool.not_true, Bool.not_false] at hg); (try simp only [hg]); (try simp only [push_cast] at hg); (try exact absurd trivial hg); (try (exfalso; omega)); (try simp (disch := omega) only [push_cast, seval, hx, hy]))) | ((with_reducible show pcall _ _ _ _ _ _); (first | (refine pcV (cf Tryz.func77) (within_p _ _ _) ?_)); (try simp (disch := omega) only [push_cast, seval, hx, hy])) | ((with_reducible refine And.intro ?_ ?_); omega))
      all_goals first
        | (((with_reducible show PPostR _ _ _ _ _ _); refine finV ?_; (try simp only [push_cast, seval])); rw [bad (by rw [e]; simp_all [vOk, vLt])])
        | ((refine ⟨j + 2, by ((try dsimp only); omega), ?_, by (refine ⟨[], ?_, ?_, ?_, ?_⟩; (· ((try simp (disch := omega) only [push_cast, seval]); (repeat' (first | exact trivial | exact rfl | refine And.intro ?_ ?_ | omega)))); (· ((try simp (disch := omega) only [push_cast, seval]); (repeat' (first | exact trivial | exact rfl | refine And.intro ?_ ?_ | omega)))); (· exact rfl); (· (first | exact trivial | exact ⟨rfl, trivial⟩ | exact ⟨rfl, rfl, trivial⟩)))⟩); exact ⟨by omega, allTo_succ hA (by rw [e]; simp_all [vOk, vLt])⟩)
  obtain rfl : k = l.length := by omega
  repeat' (first | with_reducible (first | refine wA ?_ | refine wB ?_ | refine wC ?_) | with_reducible refine PWp.draw (id := 4) okP true [0, 1, 2, 3, 4, 5, 6, 7, 8, 9, 10, 11, 12, 13, 14, 15, 16, 17, 18, 19, 20, 21, 22, 23, 24] (by kernel_rfl) ?_ | with_reducible (first | refine w1 ?_ | refine w2 ?_ | refine w3 ?_ | refine w4 ?_ | refine w5 ?_ | refine w6 ?_ | refine w7 ?_ | refine w8 ?_ | refine wT ?_ | refine w9 ?_ | refine wE ?_ | refine wS ?_) | ((with_reducible refine hK _ ?_); clear hK K) | ((with_reducible refine PWp.condI ?_); refine ⟨_, rfl, fun hg => ?_, fun hg => ?_⟩ <;> first | (exact absurd hg (by decide)) | ((try simp only [Bool.not_true, Bool.not_false] at hg); (try simp only [hg]); (try simp only [push_cast] at hg); (try exact absurd trivial hg); (try (exfalso; omega)))) | ((first | ((with_reducible refine pops_guard0 ?_); refine ⟨_, rfl, fun K hK => ⟨rfl, ?_⟩⟩) | ((with_reducible refine pD_g0 ?_); refine ⟨_, rfl, rfl, ?_⟩)); (try simp (disch := omega) only [push_cast, seval])) | ((with_reducible refine pany_I ?_); refine ⟨_, rfl, fun K hK => ?_⟩) | ((with_reducible refine pops_plain fun K hK => ?_); simp (disch := omega) only [push_cast, seval]) | ((first | ((with_reducible refine pD_y ?_ ?_); exact rfl) | ((with_reducible refine pD_x ?_ ?_); exact rfl)); simp (disch := omega) only [push_cast, seval]) | ((first | ((with_reducible refine pops_guard ?_); refine ⟨_, rfl, fun K hK => ⟨_, rfl, fun hg => ?_, fun hg => ?_⟩⟩) | ((first | ((with_reducible refine pD_gy ?_ ?_); exact rfl) | ((with_reducible refine pD_gx ?_ ?_); exact rfl)); refine ⟨_, rfl, _, rfl, fun hg => ?_, fun hg => ?_⟩)) <;> first | (exact absurd hg (by decide)) | ((try simp only [Bool.not_true, Bool.not_false] at hg); (try simp only [hg]); (try simp only [push_cast] at hg); (try exact absurd trivial hg); (try (exfalso; omega)); (try simp (disch := omega) only [push_cast, seval]))) | ((with_reducible show pcall _ _ _ _ _ _); (first | (refine pcV (cf Tryz.func77) (within_p _ _ _) ?_)); (try simp (disch := omega) only [push_cast, seval])) | ((with_reducible refine And.intro ?_ ?_); omega))
  ((with_reducible show PPostR _ _ _ _ _ _); refine finV ?_; (try simp only [push_cast, seval]))
  rw [valsOk_def, adjOk_end hA]
  rfl
set_option maxHeartbeats 1000000 in
theorem sValsOk_p (l : List GVal) (hl : l.length ≤ 1099511627776) : PCalls Tryz.prog 105 [.sl 2 (l.map pVal)] [] (RV (.val (.bool (valsOk l)))) := by
  cases hn : inB l.length 1 7 with
  | false =>
    have e : valsOk l = false := by rw [valsOk_def, hn, Bool.and_false]
    rw [e]
    refine pcalls_ofR okP Tryz.func105 rfl ?_
    simp only [Tryz.f105, List.length_cons, List.length_nil, Nat.reduceAdd, Nat.reduceSub, List.replicate_succ, List.replicate_zero, List.cons_append, List.nil_append, List.length_map]
    repeat' (first | with_reducible (first | refine wA ?_ | refine wB ?_ | refine wC ?_) | with_reducible refine PWp.draw (id := 6) okP true [0, 1, 2, 3, 4, 5, 6, 7, 8, 9, 10, 11, 12, 13, 14, 15, 16, 17, 18, 19, 20, 21, 22, 23, 24, 25, 26, 27, 28, 29, 30, 31, 32, 33] (by kernel_rfl) ?_ | with_reducible (first | refine w1 ?_ | refine w2 ?_ | refine w3 ?_ | refine w4 ?_ | refine w5 ?_ | refine w6 ?_ | refine w7 ?_ | refine w8 ?_ | refine wT ?_ | refine w9 ?_ | refine wE ?_ | refine wS ?_) | ((with_reducible refine hK _ ?_); clear hK K) | ((with_reducible refine PWp.condI ?_); refine ⟨_, rfl, fun hg => ?_, fun hg => ?_⟩ <;> first | (exact absurd hg (by decide)) | ((try simp only [Bool.not_true, Bool.not_false] at hg); (try simp only [hg]); (try simp only [push_cast] at hg); (try exact absurd trivial hg); (try (exfalso; omega)))) | ((first | ((with_reducible refine pops_guard0 ?_); refine ⟨_, rfl, fun K hK => ⟨rfl, ?_⟩⟩) | ((with_reducible refine pD_g0 ?_); refine ⟨_, rfl, rfl, ?_⟩)); (try simp (disch := omega) only [push_cast, seval, hn])) | ((with_reducible refine pany_I ?_); refine ⟨_, rfl, fun K hK => ?_⟩) | ((with_reducible refine pops_plain fun K hK => ?_); simp (disch := omega) only [push_cast, seval, hn]) | ((first | ((with_reducible refine pD_y ?_ ?_); exact rfl) | ((with_reducible refine pD_x ?_ ?_); exact rfl)); simp (disch := omega) only [push_cast, seval, hn]) | ((first | ((with_reducible refine pops_guard ?_); refine ⟨_, rfl, fun K hK => ⟨_, rfl, fun hg => ?_, fun hg => ?_⟩⟩) | ((first | ((with_reducible refine pD_gy ?_ ?_); exact rfl) | ((with_reducible refine pD_gx ?_ ?_); exact rfl)); refine ⟨_, rfl, _, rfl, fun hg => ?_, fun hg => ?_⟩)) <;> first | (exact absurd hg (by decide)) | ((try simp only [Bool.not_true, Bool.not_false] at hg); (try simp only [hg]); (try simp only [push_cast] at hg); (try exact absurd trivial hg); (try (exfalso; omega)); (try simp (disch := omega) only [push_cast, seval, hn]))) | ((with_reducible show pcall _ _ _ _ _ _); (first | (refine pcV (cf Tryz.func79) (l1In_p _ _ _) ?_)); (try simp (disch := omega) only [push_cast, seval, hn])) | ((with_reducible refine And.intro ?_ ?_); omega))
    ((with_reducible show PPostR _ _ _ _ _ _); refine finV ?_; (try simp only [push_cast, seval]))
  | true =>
  refine pcalls_ofR okP Tryz.func105 rfl ?_
  simp only [Tryz.f105, List.length_cons, List.length_nil, Nat.reduceAdd, Nat.reduceSub, List.replicate_succ, List.replicate_zero, List.cons_append, List.nil_append, List.length_map]
  repeat' (first | with_reducible (first | refine wA ?_ | refine wB ?_ | refine wC ?_) | with_reducible refine PWp.draw (id := 6) okP true [0, 1, 2, 3, 4, 5, 6, 7, 8, 9, 10, 11, 12, 13, 14, 15, 16, 17, 18, 19, 20, 21, 22, 23, 24, 25, 26, 27, 28, 29, 30, 31, 32, 33] (by kernel_rfl) ?_ | with_reducible (first | refine w1 ?_ | refine w2 ?_ | refine w3 ?_ | refine w4 ?_ | refine w5 ?_ | refine w6 ?_ | refine w7 ?_ | refine w8 ?_ | refine wT ?_ | refine w9 ?_ | refine wE ?_ | refine wS ?_) | ((with_reducible refine hK _ ?_); clear hK K) | ((with_reducible refine PWp.condI ?_); refine ⟨_, rfl, fun hg => ?_, fun hg => ?_⟩ <;> first | (exact absurd hg (by decide)) | ((try simp only [Bool.not_true, Bool.not_false] at hg); (try simp only [hg]); (try simp only [push_cast] at hg); (try exact absurd trivial hg); (try (exfalso; omega)))) | ((first | ((with_reducible refine pops_guard0 ?_); refine ⟨_, rfl, fun K hK => ⟨rfl, ?_⟩⟩) | ((with_reducible refine pD_g0 ?_); refine ⟨_, rfl, rfl, ?_⟩)); (try simp (disch := omega) only [push_cast, seval, hn])) | ((with_reducible refine pany_I ?_); refine ⟨_, rfl, fun K hK => ?_⟩) | ((with_reducible refine pops_plain fun K hK => ?_); simp (disch := omega) only [push_cast, seval, hn]) | ((first | ((with_reducible refine pD_y ?_ ?_); exact rfl) | ((with_reducible refine pD_x ?_ ?_); exact rfl)); simp (disch := omega) only [push_cast, seval, hn]) | ((first | ((with_reducible refine pops_guard ?_); refine ⟨_, rfl, fun K hK => ⟨_, rfl, fun hg => ?_, fun hg => ?_⟩⟩) | ((first | ((with_reducible refine pD_gy ?_ ?_); exact rfl) | ((with_reducible refine pD_gx ?_ ?_); exact rfl)); refine ⟨_, rfl, _, rfl, fun hg => ?_, fun hg => ?_⟩)) <;> first | (exact absurd hg (by decide)) | ((try simp only [Bool.not_true, Bool.not_false] at hg); (try simp only [hg]); (try simp only [push_cast] at hg); (try exact absurd trivial hg); (try (exfalso; omega)); (try simp (disch := omega) only [push_cast, seval, hn]))) | ((with_reducible show pcall _ _ _ _ _ _); (first | (refine pcV (cf Tryz.func79) (l1In_p _ _ _) ?_)); (try simp (disch := omega) only [push_cast, seval, hn])) | ((with_reducible refine And.intro ?_ ?_); omega))
  refine PWp.loopK (α := Nat) (fun k => [(3, .val (.int .i64 (k : Int)))]) [1, 2, 4, 5, 6, 7, 8, 9, 10, 11, 12, 13, 14, 15, 16, 17, 18, 19, 20, 21, 22, 23, 24, 25, 26, 27, 28, 29, 30, 31, 32, 33, 34, 35, 36, 37, 38, 39, 40, 41, 42, 43, 44, 45, 46, 47] (fun k => []) (fun k => k ≤ l.length ∧ allTo (adjAt vOk vLt l) k) (fun k => l.length - k) (0) (⟨Nat.zero_le _, allTo_zero⟩) (by (refine ⟨[], ?_, ?_, ?_, ?_⟩; (· ((try simp (disch := omega) only [push_cast, seval]); (repeat' (first | exact trivial | exact rfl | refine And.intro ?_ ?_ | omega)))); (· ((try simp (disch := omega) only [push_cast, seval]); (repeat' (first | exact trivial | exact rfl | refine And.intro ?_ ?_ | omega)))); (· exact rfl); (· (first | exact trivial | exact ⟨rfl, trivial⟩ | exact ⟨rfl, rfl, trivial⟩)))) ?_
  intro k ρ hI
  (try dsimp only at hI)
  refine PWp.at (tm' := ?_) (H' := ?_) ?_ ?_ ?_; rotate_left 2; (· ((try simp only [push_cast, seval]); exact rfl)); (· ((try dsimp only); exact rfl))
  obtain ⟨hk, hA⟩ := hI
  by_cases hlt : k < l.length
  · obtain ⟨x, hx⟩ : ∃ x, l[k]? = some x := ⟨_, List.getElem?_eq_getElem hlt⟩
    have bad : adjAt vOk vLt l k = false → valsOk l = false := fun h => by rw [valsOk_def, adjOk_no hlt h]; rfl
    cases k with
    | zero =>
      have e := adjAt_zero (f := vOk) (g := vLt) hx
      repeat' (first | with_reducible (first | refine wA ?_ | refine wB ?_ | refine wC ?_) | with_reducible refine PWp.draw (id := 6) okP true [0, 1, 2, 3, 4, 5, 6, 7, 8, 9, 10, 11, 12, 13, 14, 15, 16, 17, 18, 19, 20, 21, 22, 23, 24, 25, 26, 27, 28, 29, 30, 31, 32, 33] (by kernel_rfl) ?_ | with_reducible (first | refine w1 ?_ | refine w2 ?_ | refine w3 ?_ | refine w4 ?_ | refine w5 ?_ | refine w6 ?_ | refine w7 ?_ | refine w8 ?_ | refine wT ?_ | refine w9 ?_ | refine wE ?_ | refine wS ?_) | ((with_reducible refine hK _ ?_); clear hK K) | ((with_reducible refine PWp.condI ?_); refine ⟨_, rfl, fun hg => ?_, fun hg => ?_⟩ <;> first | (exact absurd hg (by decide)) | ((try simp only [Bool.not_true, Bool.not_false] at hg); (try simp only [hg]); (try simp only [push_cast] at hg); (try exact absurd trivial hg); (try (exfalso; omega)))) | ((first | ((with_reducible refine pops_guard0 ?_); refine ⟨_, rfl, fun K hK => ⟨rfl, ?_⟩⟩) | ((with_reducible refine pD_g0 ?_); refine ⟨_, rfl, rfl, ?_⟩)); (try simp (disch := omega) only [push_cast, seval, hx])) | ((with_reducible refine pany_I ?_); refine ⟨_, rfl, fun K hK => ?_⟩) | ((with_reducible refine pops_plain fun K hK => ?_); simp (disch := omega) only [push_cast, seval, hx]) | ((first | ((with_reducible refine pD_y ?_ ?_); exact rfl) | ((with_reducible refine pD_x ?_ ?_); exact rfl)); simp (disch := omega) only [push_cast, seval, hx]) | ((first | ((with_reducible refine pops_guard ?_); refine ⟨_, rfl, fun K hK => ⟨_, rfl, fun hg => ?_, fun hg => ?_⟩⟩) | ((first | ((with_reducible refine pD_gy ?_ ?_); exact rfl) | ((with_reducible refine pD_gx ?_ ?_); exact rfl)); refine ⟨_, rfl, _, rfl, fun hg => ?_, fun hg => ?_⟩)) <;> first | (exact absurd hg (by decide)) | ((try simp only [Bool.not_true, Bool.not_false] at hg); (try simp only [hg]); (try simp only [push_cast] at hg); (try exact absurd trivial hg); (try (exfalso; omega)); (try simp (disch := omega) only [push_cast, seval, hx]))) | ((with_reducible show pcall _ _ _ _ _ _); (first | (refine pcV (cf Tryz.func79) (l1In_p _ _ _) ?_)); (try simp (disch := omega) only [push_cast, seval, hx])) | ((with_reducible refine And.intro ?_ ?_); omega))
      all_goals first
        | (((with_reducible show PPostR _ _ _ _ _ _); refine finV ?_; (try simp only [push_cast, seval])); rw [bad (by rw [e]; simp_all [vOk])])
        | ((refine ⟨1, by ((try dsimp only); omega), ?_, by (refine ⟨[], ?_, ?_, ?_, ?_⟩; (· ((try simp (disch := omega) only [push_cast, seval]); (repeat' (first | exact trivial | exact rfl | refine And.intro ?_ ?_ | omega)))); (· ((try simp (disch := omega) only [push_cast, seval]); (repeat' (first | exact trivial | exact rfl | refine And.intro ?_ ?_ | omega)))); (· exact rfl); (· (first | exact trivial | exact ⟨rfl, trivial⟩ | exact ⟨rfl, rfl, trivial⟩)))⟩); exact ⟨by omega, allTo_succ hA (by rw [e]; simp_all [vOk])⟩)
    | succ j =>
      obtain ⟨y, hy⟩ : ∃ y, l[j]? = some y := ⟨_, List.getElem?_eq_getElem (by omega)⟩
      have e := adjAt_succ (f := vOk) (g := vLt) hx hy
      repeat' (first | with_reducible (first | refine wA ?_ | refine wB ?_ | refine wC ?_) | with_reducible refine PWp.draw (id := 6) okP true [0, 1, 2, 3, 4, 5, 6, 7, 8, 9, 10, 11, 12, 13, 14, 15, 16, 17, 18, 19, 20, 21, 22, 23, 24, 25, 26, 27, 28, 29, 30, 31, 32, 33] (by kernel_rfl) ?_ | with_reducible (first | refine w1 ?_ | refine w2 ?_ | refine w3 ?_ | refine w4 ?_ | refine w5 ?_ | refine w6 ?_ | refine w7 ?_ | refine w8 ?_ | refine wT ?_ | refine w9 ?_ | refine wE ?_ | refine wS ?_) | ((with_reducible refine hK _ ?_); clear hK K) | ((with_reducible refine PWp.condI ?_); refine ⟨_, rfl, fun hg => ?_, fun hg => ?_⟩ <;> first | (exact absurd hg (by decide)) | ((try simp only [Bool.not_true, Bool.not_false] at hg); (try simp only [hg]); (try simp only [push_cast] at hg); (try exact absurd trivial hg); (try (exfalso; omega)))) | ((first | ((with_reducible refine pops_guard0 ?_); refine ⟨_, rfl, fun K hK => ⟨rfl, ?_⟩⟩) | ((with_reducible refine pD_g0 ?_); refine ⟨_, rfl, rfl, ?_⟩)); (try simp (disch := omega) only [push_cast, seval, hx, hy])) | ((with_reducible refine pany_I ?_); refine ⟨_, rfl, fun K hK => ?_⟩) | ((with_reducible refine pops_plain fun K hK => ?_); simp (disch := omega) only [push_cast, seval, hx, hy]) | ((first | ((with_reducible refine pD_y ?_ ?_); exact rfl) | ((with_reducible refine pD_x ?_ ?_); exact rfl)); simp (disch := omega) only [push_cast, seval, hx, hy]) | ((first | ((with_reducible refine pops_guard ?_); refine ⟨_, rfl, fun K hK => ⟨_, rfl, fun hg => ?_, fun hg => ?_⟩⟩) | ((first | ((with_reducible refine pD_gy ?_ ?_); exact rfl) | ((with_reducible refine pD_gx ?_ ?_); exact rfl)); refine ⟨_, rfl, _, rfl, fun hg => ?_, fun hg => ?_⟩)) <;> first | (exact absurd hg (by decide)) | ((try simp only [Bool.not_true, Bool.not_false] at hg); (try simp only [hg]); (try simp only [push_cast] at hg); (try exact absurd trivial hg); (try (exfalso; omega)); (try simp (disch := omega) only [push_cast, seval, hx, hy]))) | ((with_reducible show pcall _ _ _ _ _ _); (first | (refine pcV (cf Tryz.func79) (l1In_p _ _ _) ?_)); (try simp (disch := omega) only [push_cast, seval, hx, hy])) | ((with_reducible refine And.intro ?_ ?_); omega))
      all_goals first
        | (((with_reducible show PPostR _ _ _ _ _ _); refine finV ?_; (try simp only [push_cast, seval])); rw [bad (by rw [e]; simp_all [vOk, vLt])])
        | ((refine ⟨j + 2, by ((try dsimp only); omega), ?_, by (refine ⟨[], ?_, ?_, ?_, ?_⟩; (· ((try simp (disch := omega) only [push_cast, seval]); (repeat' (first | exact trivial | exact rfl | refine And.intro ?_ ?_ | omega)))); (· ((try simp (disch := omega) only [push_cast, seval]); (repeat' (first | exact trivial | exact rfl | refine And.intro ?_ ?_ | omega)))); (· exact rfl); (· (first | exact trivial | exact ⟨rfl, trivial⟩ | exact ⟨rfl, rfl, trivial⟩)))⟩); exact ⟨by omega, allTo_succ hA (by rw [e]; simp_all [vOk, vLt])⟩)
  obtain rfl : k = l.length := by omega
  repeat' (first | with_reducible (first | refine wA ?_ | refine wB ?_ | refine wC ?_) | with_reducible refine PWp.draw (id := 6) okP true [0, 1, 2, 3, 4, 5, 6, 7, 8, 9, 10, 11, 12, 13, 14, 15, 16, 17, 18, 19, 20, 21, 22, 23, 24, 25, 26, 27, 28, 29, 30, 31, 32, 33] (by kernel_rfl) ?_ | with_reducible (first | refine w1 ?_ | refine w2 ?_ | refine w3 ?_ | refine w4 ?_ | refine w5 ?_ | refine w6 ?_ | refine w7 ?_ | refine w8 ?_ | refine wT ?_ | refine w9 ?_ | refine wE ?_ | refine wS ?_) | ((with_reducible refine hK _ ?_); clear hK K) | ((with_reducible refine PWp.condI ?_); refine ⟨_, rfl, fun hg => ?_, fun hg => ?_⟩ <;> first | (exact absurd hg (by decide)) | ((try simp only [Bool.not_true, Bool.not_false] at hg); (try simp only [hg]); (try simp only [push_cast] at hg); (try exact absurd trivial hg); (try (exfalso; omega)))) | ((first | ((with_reducible refine pops_guard0 ?_); refine ⟨_, rfl, fun K hK => ⟨rfl, ?_⟩⟩) | ((with_reducible refine pD_g0 ?_); refine ⟨_, rfl, rfl, ?_⟩)); (try simp (disch := omega) only [push_cast, seval])) | ((with_reducible refine pany_I ?_); refine ⟨_, rfl, fun K hK => ?_⟩) | ((with_reducible refine pops_plain fun K hK => ?_); simp (disch := omega) only [push_cast, seval]) | ((first | ((with_reducible refine pD_y ?_ ?_); exact rfl) | ((with_reducible refine pD_x ?_ ?_); exact rfl)); simp (disch := omega) only [push_cast, seval]) | ((first | ((with_reducible refine pops_guard ?_); refine ⟨_, rfl, fun K hK => ⟨_, rfl, fun hg => ?_, fun hg => ?_⟩⟩) | ((first | ((with_reducible refine pD_gy ?_ ?_); exact rfl) | ((with_reducible refine pD_gx ?_ ?_); exact rfl)); refine ⟨_, rfl, _, rfl, fun hg => ?_, fun hg => ?_⟩)) <;> first | (exact absurd hg (by decide)) | ((try simp only [Bool.not_true, Bool.not_false] at hg); (try simp only [hg]); (try simp only [push_cast] at hg); (try exact absurd trivial hg); (try (exfalso; omega)); (try simp (disch := omega) only [push_cast, seval]))) | ((with_reducible show pcall _ _ _ _ _ _); (first | (refine pcV (cf Tryz.func79) (l1In_p _ _ _) ?_)); (try simp (disch := omega) only [push_cast, seval])) | ((with_reducible refine And.intro ?_ ?_); omega))
  ((with_reducible show PPostR _ _ _ _ _ _); refine finV ?_; (try simp only [push_cast, seval]))
  rw [valsOk_def, adjOk_end hA, hn]
  rfl
theorem hasI_idx {l : List Int} {x : Int} : hasI l x = decide (0 ≤ idx (fun y => decide (y = x)) l) := by
  unfold hasI
  induction l with
  | nil => simp [idx]
  | cons y r ih =>
    rw [List.any_cons, ih, idx]
    by_cases h : y = x
    · simp [h]
    · simp only [h, decide_false, Bool.false_or, Bool.false_eq_true, if_false]
      split
      · rename_i h0; simp; omega
      · rename_i h0; simp; omega
def hasNo (l : List Int) (x : Int) (i : Nat) : Bool := match l[i]? with | some y => !(decide (y = x)) | none => true
theorem hasI_end {l : List Int} {x : Int} (h : allTo (hasNo l x) l.length) : hasI l x = false := by
  unfold hasI
  rw [List.any_eq_false]
  intro y hy
  obtain ⟨k, hk, rfl⟩ := List.getElem_of_mem hy
  have := h k hk
  unfold hasNo at this
  rw [List.getElem?_eq_getElem hk] at this
  simpa using this
theorem hasI_hit {l : List Int} {x : Int} {k : Nat} {y : Int} (h : l[k]? = some y) (e : y = x) : hasI l x = true := by
  unfold hasI
  rw [List.any_eq_true]
  exact ⟨y, List.mem_of_getElem? h, by simpa using e⟩
theorem index_p (l : List Int) (x : Int) (hl : l.length ≤ 1099511627776) : PCalls Tryz.prog 229 [.sl 1 (l.map pInt), .val (.int .i64 x)] [] (RV (.val (.int .i64 (idx (fun y => decide (y = x)) l)))) := by
  refine pcalls_ofR okP Tryz.func229 rfl ?_
  simp only [Tryz.f229, List.length_cons, List.length_nil, Nat.reduceAdd, Nat.reduceSub, List.replicate_succ, List.replicate_zero, List.cons_append, List.nil_append, List.length_map]
  repeat' (first | with_reducible (first | refine wA ?_ | refine wB ?_ | refine wC ?_ | refine w1 ?_ | refine w2 ?_ | refine w3 ?_ | refine w4 ?_ | refine w5 ?_ | refine w6 ?_ | refine w7 ?_ | refine w8 ?_ | refine wT ?_ | refine w9 ?_ | refine wE ?_ | refine wS ?_) | ((with_reducible refine hK _ ?_); clear hK K) | ((with_reducible refine PWp.condI ?_); refine ⟨_, rfl, fun hg => ?_, fun hg => ?_⟩ <;> first | (exact absurd hg (by decide)) | ((try simp only [Bool.not_true, Bool.not_false] at hg); (try simp only [hg]); (try simp only [push_cast] at hg); (try exact absurd trivial hg); (try (exfalso; omega)))) | ((with_reducible refine pops_plain fun K hK => ?_); simp (disch := omega) only [push_cast, seval]) | ((with_reducible refine And.intro ?_ ?_); omega))
  refine PWp.loopK (α := Nat) (fun k => [(8, .val (.int .i64 (k : Int)))]) [2, 3, 4, 5, 6, 9, 10, 11, 12, 13, 14, 15, 16, 17, 18] (fun k => []) (fun k => k ≤ l.length ∧ noneTo (fun y => decide (y = x)) l k) (fun k => l.length - k) (0) (⟨Nat.zero_le _, noneTo_zero⟩) (by (refine ⟨[], ?_, ?_, ?_, ?_⟩; (· ((try simp (disch := omega) only [push_cast, seval]); (repeat' (first | exact trivial | exact rfl | refine And.intro ?_ ?_ | omega)))); (· ((try simp (disch := omega) only [push_cast, seval]); (repeat' (first | exact trivial | exact rfl | refine And.intro ?_ ?_ | omega)))); (· exact rfl); (· (first | exact trivial | exact ⟨rfl, trivial⟩ | exact ⟨rfl, rfl, trivial⟩)))) ?_
  intro k ρ hI
  (try dsimp only at hI)
  refine PWp.at (tm' := ?_) (H' := ?_) ?_ ?_ ?_; rotate_left 2; (· ((try simp only [push_cast, seval]); exact rfl)); (· ((try dsimp only); exact rfl))
  obtain ⟨hk, hA⟩ := hI
  by_cases hlt : k < l.length
  · obtain ⟨y, hy⟩ : ∃ y, l[k]? = some y := ⟨_, List.getElem?_eq_getElem hlt⟩
    by_cases he : x = y
    · have hx : idx (fun y => decide (y = x)) l = k := idx_some hy (by simpa using he.symm) hA
      repeat' (first | with_reducible (first | refine wA ?_ | refine wB ?_ | refine wC ?_ | refine w1 ?_ | refine w2 ?_ | refine w3 ?_ | refine w4 ?_ | refine w5 ?_ | refine w6 ?_ | refine w7 ?_ | refine w8 ?_ | refine wT ?_ | refine w9 ?_ | refine wE ?_ | refine wS ?_) | ((with_reducible refine hK _ ?_); clear hK K) | ((with_reducible refine PWp.condI ?_); refine ⟨_, rfl, fun hg => ?_, fun hg => ?_⟩ <;> first | (exact absurd hg (by decide)) | ((try simp only [Bool.not_true, Bool.not_false] at hg); (try simp only [hg]); (try simp only [push_cast] at hg); (try exact absurd trivial hg); (try (exfalso; omega)))) | ((with_reducible refine pops_plain fun K hK => ?_); simp (disch := omega) only [push_cast, seval, hy, pInt]) | ((with_reducible refine And.intro ?_ ?_); omega))
      ((with_reducible show PPostR _ _ _ _ _ _); refine finV ?_; (try simp only [push_cast, seval]))
      rw [hx]
    ·
      repeat' (first | with_reducible (first | refine wA ?_ | refine wB ?_ | refine wC ?_ | refine w1 ?_ | refine w2 ?_ | refine w3 ?_ | refine w4 ?_ | refine w5 ?_ | refine w6 ?_ | refine w7 ?_ | refine w8 ?_ | refine wT ?_ | refine w9 ?_ | refine wE ?_ | refine wS ?_) | ((with_reducible refine hK _ ?_); clear hK K) | ((with_reducible refine PWp.condI ?_); refine ⟨_, rfl, fun hg => ?_, fun hg => ?_⟩ <;> first | (exact absurd hg (by decide)) | ((try simp only [Bool.not_true, Bool.not_false] at hg); (try simp only [hg]); (try simp only [push_cast] at hg); (try exact absurd trivial hg); (try (exfalso; omega)))) | ((with_reducible refine pops_plain fun K hK => ?_); simp (disch := omega) only [push_cast, seval, hy, pInt]) | ((with_reducible refine And.intro ?_ ?_); omega))
      (refine ⟨k + 1, by ((try dsimp only); omega), ?_, by (refine ⟨[], ?_, ?_, ?_, ?_⟩; (· ((try simp (disch := omega) only [push_cast, seval]); (repeat' (first | exact trivial | exact rfl | refine And.intro ?_ ?_ | omega)))); (· ((try simp (disch := omega) only [push_cast, seval]); (repeat' (first | exact trivial | exact rfl | refine And.intro ?_ ?_ | omega)))); (· exact rfl); (· (first | exact trivial | exact ⟨rfl, trivial⟩ | exact ⟨rfl, rfl, trivial⟩)))⟩)
      exact ⟨hlt, noneTo_succ hA hy (by simpa using fun e => he e.symm)⟩
  obtain rfl : k = l.length := by omega
  repeat' (first | with_reducible (first | refine wA ?_ | refine wB ?_ | refine wC ?_ | refine w1 ?_ | refine w2 ?_ | refine w3 ?_ | refine w4 ?_ | refine w5 ?_ | refine w6 ?_ | refine w7 ?_ | refine w8 ?_ | refine wT ?_ | refine w9 ?_ | refine wE ?_ | refine wS ?_) | ((with_reducible refine hK _ ?_); clear hK K) | ((with_reducible refine PWp.condI ?_); refine ⟨_, rfl, fun hg => ?_, fun hg => ?_⟩ <;> first | (exact absurd hg (by decide)) | ((try simp only [Bool.not_true, Bool.not_false] at hg); (try simp only [hg]); (try simp only [push_cast] at hg); (try exact absurd trivial hg); (try (exfalso; omega)))) | ((with_reducible refine pops_plain fun K hK => ?_); simp (disch := omega) only [push_cast, seval]) | ((with_reducible refine And.intro ?_ ?_); omega))
  ((with_reducible show PPostR _ _ _ _ _ _); refine finV ?_; (try simp only [push_cast, seval]))
  rw [noneTo_end hA]
theorem contains_p (l : List Int) (x : Int) (hl : l.length ≤ 1099511627776) : PCalls Tryz.prog 147 [.sl 1 (l.map pInt), .val (.int .i64 x)] [] (RV (.val (.bool (hasI l x)))) := by
  rw [hasI_idx]
  refine pcalls_ofR okP Tryz.func147 rfl ?_
  simp only [Tryz.f147, List.length_cons, List.length_nil, Nat.reduceAdd, Nat.reduceSub, List.replicate_succ, List.replicate_zero, List.cons_append, List.nil_append, List.length_map]
  repeat' (first | with_reducible (first | refine wA ?_ | refine wB ?_ | refine wC ?_ | refine w1 ?_ | refine w2 ?_ | refine w3 ?_ | refine w4 ?_ | refine w5 ?_ | refine w6 ?_ | refine w7 ?_ | refine w8 ?_ | refine wT ?_ | refine w9 ?_ | refine wE ?_ | refine wS ?_) | ((with_reducible refine hK _ ?_); clear hK K) | ((with_reducible refine pops_plain fun K hK => ?_); simp (disch := omega) only [push_cast, seval]) | ((with_reducible show pcall _ _ _ _ _ _); (first | (refine pcV (cf Tryz.func229) (index_p _ _ sd) ?_)); (try simp (disch := omega) only [push_cast, seval])) | ((with_reducible refine And.intro ?_ ?_); omega))
  ((with_reducible show PPostR _ _ _ _ _ _); refine finV ?_; (try simp only [push_cast, seval]))
theorem sL6Has_p (l : List Int) (x : Int) (hl : l.length ≤ 1099511627776) : PCalls Tryz.prog 252 [.sl 1 (l.map pInt), .val (.int .i64 x)] [] (RV (.val (.bool (hasI l x)))) := by
  refine pcalls_ofR okP Tryz.func252 rfl ?_
  simp only [Tryz.f252, List.length_cons, List.length_nil, Nat.reduceAdd, Nat.reduceSub, List.replicate_succ, List.replicate_zero, List.cons_append, List.nil_append, List.length_map]
  repeat' (first | with_reducible (first | refine wA ?_ | refine wB ?_ | refine wC ?_ | refine w1 ?_ | refine w2 ?_ | refine w3 ?_ | refine w4 ?_ | refine w5 ?_ | refine w6 ?_ | refine w7 ?_ | refine w8 ?_ | refine wT ?_ | refine w9 ?_ | refine wE ?_ | refine wS ?_) | ((with_reducible refine hK _ ?_); clear hK K) | ((with_reducible refine PWp.condI ?_); refine ⟨_, rfl, fun hg => ?_, fun hg => ?_⟩ <;> first | (exact absurd hg (by decide)) | ((try simp only [Bool.not_true, Bool.not_false] at hg); (try simp only [hg]); (try simp only [push_cast] at hg); (try exact absurd trivial hg); (try (exfalso; omega)))) | ((with_reducible refine pops_plain fun K hK => ?_); simp (disch := omega) only [push_cast, seval]) | ((with_reducible refine And.intro ?_ ?_); omega))
  refine PWp.loopK (α := Nat) (fun k => [(5, .val (.int .i64 (k : Int)))]) [2, 3, 4, 6, 7, 8, 9, 10, 11, 12, 13, 14, 15, 16, 17] (fun k => []) (fun k => k ≤ l.length ∧ allTo (hasNo l x) k) (fun k => l.length - k) (0) (⟨Nat.zero_le _, allTo_zero⟩) (by (refine ⟨[], ?_, ?_, ?_, ?_⟩; (· ((try simp (disch := omega) only [push_cast, seval]); (repeat' (first | exact trivial | exact rfl | refine And.intro ?_ ?_ | omega)))); (· ((try simp (disch := omega) only [push_cast, seval]); (repeat' (first | exact trivial | exact rfl | refine And.intro ?_ ?_ | omega)))); (· exact rfl); (· (first | exact trivial | exact ⟨rfl, trivial⟩ | exact ⟨rfl, rfl, trivial⟩)))) ?_
  intro k ρ hI
  (try dsimp only at hI)
  refine PWp.at (tm' := ?_) (H' := ?_) ?_ ?_ ?_; rotate_left 2; (· ((try simp only [push_cast, seval]); exact rfl)); (· ((try dsimp only); exact rfl))
  obtain ⟨hk, hA⟩ := hI
  by_cases hlt : k < l.length
  · obtain ⟨y, hy⟩ : ∃ y, l[k]? = some y := ⟨_, List.getElem?_eq_getElem hlt⟩
    by_cases he : y = x
    · have hx := hasI_hit hy he
      repeat' (first | with_reducible (first | refine wA ?_ | refine wB ?_ | refine wC ?_ | refine w1 ?_ | refine w2 ?_ | refine w3 ?_ | refine w4 ?_ | refine w5 ?_ | refine w6 ?_ | refine w7 ?_ | refine w8 ?_ | refine wT ?_ | refine w9 ?_ | refine wE ?_ | refine wS ?_) | ((with_reducible refine hK _ ?_); clear hK K) | ((with_reducible refine PWp.condI ?_); refine ⟨_, rfl, fun hg => ?_, fun hg => ?_⟩ <;> first | (exact absurd hg (by decide)) | ((try simp only [Bool.not_true, Bool.not_false] at hg); (try simp only [hg]); (try simp only [push_cast] at hg); (try exact absurd trivial hg); (try (exfalso; omega)))) | ((with_reducible refine pops_plain fun K hK => ?_); simp (disch := omega) only [push_cast, seval, hy, pInt]) | ((with_reducible refine And.intro ?_ ?_); omega))
      ((with_reducible show PPostR _ _ _ _ _ _); refine finV ?_; (try simp only [push_cast, seval]))
      rw [hx]
    ·
      repeat' (first | with_reducible (first | refine wA ?_ | refine wB ?_ | refine wC ?_ | refine w1 ?_ | refine w2 ?_ | refine w3 ?_ | refine w4 ?_ | refine w5 ?_ | refine w6 ?_ | refine w7 ?_ | refine w8 ?_ | refine wT ?_ | refine w9 ?_ | refine wE ?_ | refine wS ?_) | ((with_reducible refine hK _ ?_); clear hK K) | ((with_reducible refine PWp.condI ?_); refine ⟨_, rfl, fun hg => ?_, fun hg => ?_⟩ <;> first | (exact absurd hg (by decide)) | ((try simp only [Bool.not_true, Bool.not_false] at hg); (try simp only [hg]); (try simp only [push_cast] at hg); (try exact absurd trivial hg); (try (exfalso; omega)))) | ((with_reducible refine pops_plain fun K hK => ?_); simp (disch := omega) only [push_cast, seval, hy, pInt]) | ((with_reducible refine And.intro ?_ ?_); omega))
      (refine ⟨k + 1, by ((try dsimp only); omega), ?_, by (refine ⟨[], ?_, ?_, ?_, ?_⟩; (· ((try simp (disch := omega) only [push_cast, seval]); (repeat' (first | exact trivial | exact rfl | refine And.intro ?_ ?_ | omega)))); (· ((try simp (disch := omega) only [push_cast, seval]); (repeat' (first | exact trivial | exact rfl | refine And.intro ?_ ?_ | omega)))); (· exact rfl); (· (first | exact trivial | exact ⟨rfl, trivial⟩ | exact ⟨rfl, rfl, trivial⟩)))⟩)
      exact ⟨hlt, allTo_succ hA (by unfold hasNo; rw [hy]; simpa using he)⟩
  obtain rfl : k = l.length := by omega
  repeat' (first | with_reducible (first | refine wA ?_ | refine wB ?_ | refine wC ?_ | refine w1 ?_ | refine w2 ?_ | refine w3 ?_ | refine w4 ?_ | refine w5 ?_ | refine w6 ?_ | refine w7 ?_ | refine w8 ?_ | refine wT ?_ | refine w9 ?_ | refine wE ?_ | refine wS ?_) | ((with_reducible refine hK _ ?_); clear hK K) | ((with_reducible refine PWp.condI ?_); refine ⟨_, rfl, fun hg => ?_, fun hg => ?_⟩ <;> first | (exact absurd hg (by decide)) | ((try simp only [Bool.not_true, Bool.not_false] at hg); (try simp only [hg]); (try simp only [push_cast] at hg); (try exact absurd trivial hg); (try (exfalso; omega)))) | ((with_reducible refine pops_plain fun K hK => ?_); simp (disch := omega) only [push_cast, seval]) | ((with_reducible refine And.intro ?_ ?_); omega))
  ((with_reducible show PPostR _ _ _ _ _ _); refine finV ?_; (try simp only [push_cast, seval]))
  rw [hasI_end hA]
theorem enough1_p (ids : List Int) (id : Int) (hl : ids.length ≤ 1099511627776) : PCalls Tryz.prog 248 [.val (.int .i64 id), .eptr [.sl 1 (ids.map pInt)] 0] [] (RV (.val (.bool (hasI ids id)))) := by
  refine pcalls_ofR okP Tryz.func248 rfl ?_
  simp only [Tryz.f248, List.length_cons, List.length_nil, Nat.reduceAdd, Nat.reduceSub, List.replicate_succ, List.replicate_zero, List.cons_append, List.nil_append, List.length_map]
  repeat' (first | with_reducible (first | refine wA ?_ | refine wB ?_ | refine wC ?_ | refine w1 ?_ | refine w2 ?_ | refine w3 ?_ | refine w4 ?_ | refine w5 ?_ | refine w6 ?_ | refine w7 ?_ | refine w8 ?_ | refine wT ?_ | refine w9 ?_ | refine wE ?_ | refine wS ?_) | ((with_reducible refine hK _ ?_); clear hK K) | ((with_reducible refine pops_plain fun K hK => ?_); simp (disch := omega) only [push_cast, seval]) | ((with_reducible show pcall _ _ _ _ _ _); (first | (refine pcV (cf Tryz.func147) (contains_p _ _ sd) ?_)); (try simp (disch := omega) only [push_cast, seval])) | ((with_reducible refine And.intro ?_ ?_); omega))
  ((with_reducible show PPostR _ _ _ _ _ _); refine finV ?_; (try simp only [push_cast, seval]))
theorem power1_p (id : Int) : PCalls Tryz.prog 267 [.val (.int .i64 id)] [] (RV (.val (.bool true))) := by
  refine pcalls_ofR okP Tryz.func267 rfl ?_
  simp only [Tryz.f267, List.length_cons, List.length_nil, Nat.reduceAdd, Nat.reduceSub, List.replicate_succ, List.replicate_zero, List.cons_append, List.nil_append, List.length_map]
  repeat' (first | with_reducible (first | refine wA ?_ | refine wB ?_ | refine wC ?_ | refine w1 ?_ | refine w2 ?_ | refine w3 ?_ | refine w4 ?_ | refine w5 ?_ | refine w6 ?_ | refine w7 ?_ | refine w8 ?_ | refine wT ?_ | refine w9 ?_ | refine wE ?_ | refine wS ?_) | ((with_reducible refine hK _ ?_); clear hK K) | ((with_reducible refine pops_plain fun K hK => ?_); simp (disch := omega) only [push_cast, seval]) | ((with_reducible refine And.intro ?_ ?_); omega))
  ((with_reducible show PPostR _ _ _ _ _ _); refine finV ?_; (try simp only [push_cast, seval]))
theorem iPowerOf_e (l : List GVal) (ids : List Int) (hl : valsOk l = true ∧ ids.length ≤ 1099511627776) : PCalls Tryz.prog 247 [.sl 2 (l.map pVal), .clo 248 [.eptr [.sl 1 (ids.map pInt)] 0]] [] (RV (.val (.int .i64 (powSum (fun v => hasI ids v.fId) l)))) := by
  obtain ⟨ok, hi⟩ := hl
  have h7 := (valsOk_iff.1 ok).2.2.2
  have cloC : Callable Tryz.prog 248 := callable_of Tryz.func248 rfl rfl
  refine pcalls_ofR okP Tryz.func247 rfl ?_
  simp only [Tryz.f247, List.length_cons, List.length_nil, Nat.reduceAdd, Nat.reduceSub, List.replicate_succ, List.replicate_zero, List.cons_append, List.nil_append, List.length_map]
  repeat' (first | with_reducible (first | refine wA ?_ | refine wB ?_ | refine wC ?_ | refine w1 ?_ | refine w2 ?_ | refine w3 ?_ | refine w4 ?_ | refine w5 ?_ | refine w6 ?_ | refine w7 ?_ | refine w8 ?_ | refine wT ?_ | refine w9 ?_ | refine wE ?_ | refine wS ?_) | ((with_reducible refine hK _ ?_); clear hK K) | ((with_reducible refine PWp.condI ?_); refine ⟨_, rfl, fun hg => ?_, fun hg => ?_⟩ <;> first | (exact absurd hg (by decide)) | ((try simp only [Bool.not_true, Bool.not_false] at hg); (try simp only [hg]); (try simp only [push_cast] at hg); (try exact absurd trivial hg); (try (exfalso; omega)))) | ((with_reducible refine pops_plain fun K hK => ?_); simp (disch := omega) only [push_cast, seval]) | ((with_reducible show pcall _ _ _ _ _ _); (first | (refine pcV (g := 248) cloC (enough1_p _ _ hi) ?_)); (try simp (disch := omega) only [push_cast, seval])) | ((with_reducible refine And.intro ?_ ?_); omega))
  refine PWp.loopK (α := Nat) (fun k => [(5, .val (.int .i64 (powSum (fun v => hasI ids v.fId) (l.take k)))), (10, .val (.int .i64 (k : Int)))]) [0, 2, 3, 6, 7, 11, 12, 13, 14, 15, 16, 17, 18, 19, 20, 21, 22] (fun k => []) (fun k => k ≤ l.length) (fun k => l.length - k) (0) (Nat.zero_le _) (by (refine ⟨[], ?_, ?_, ?_, ?_⟩; (· ((try simp (disch := omega) only [push_cast, seval]); (repeat' (first | exact trivial | exact rfl | refine And.intro ?_ ?_ | omega)))); (· ((try simp (disch := omega) only [push_cast, seval]); (repeat' (first | exact trivial | exact rfl | refine And.intro ?_ ?_ | omega)))); (· exact rfl); (· (first | exact trivial | exact ⟨rfl, trivial⟩ | exact ⟨rfl, rfl, trivial⟩)))) ?_
  intro k ρ hI
  (try dsimp only at hI)
  refine PWp.at (tm' := ?_) (H' := ?_) ?_ ?_ ?_; rotate_left 2; (· ((try simp only [push_cast, seval]); exact rfl)); (· ((try dsimp only); exact rfl))
  have hb := powSum_k (p := fun v => hasI ids v.fId) ok k
  by_cases hlt : k < l.length
  · obtain ⟨x, hx⟩ : ∃ x, l[k]? = some x := ⟨_, List.getElem?_eq_getElem hlt⟩
    have hv := vOk_facts ((valsOk_iff.1 ok).1 k x hx)
    have e := powSum_take (p := fun v => hasI ids v.fId) hx
    cases hh : hasI ids x.fId with
    | true =>
      repeat' (first | with_reducible (first | refine wA ?_ | refine wB ?_ | refine wC ?_ | refine w1 ?_ | refine w2 ?_ | refine w3 ?_ | refine w4 ?_ | refine w5 ?_ | refine w6 ?_ | refine w7 ?_ | refine w8 ?_ | refine wT ?_ | refine w9 ?_ | refine wE ?_ | refine wS ?_) | ((with_reducible refine hK _ ?_); clear hK K) | ((with_reducible refine PWp.condI ?_); refine ⟨_, rfl, fun hg => ?_, fun hg => ?_⟩ <;> first | (exact absurd hg (by decide)) | ((try simp only [Bool.not_true, Bool.not_false] at hg); (try simp only [hg]); (try simp only [push_cast] at hg); (try exact absurd trivial hg); (try (exfalso; omega)))) | ((with_reducible refine pops_plain fun K hK => ?_); simp (disch := omega) only [push_cast, seval, hx, hh]) | ((with_reducible show pcall _ _ _ _ _ _); (first | (refine pcV (g := 248) cloC (enough1_p _ _ hi) ?_)); (try simp (disch := omega) only [push_cast, seval, hx, hh])) | ((with_reducible refine And.intro ?_ ?_); omega))
      (refine ⟨k + 1, by ((try dsimp only); omega), ?_, by (refine ⟨[], ?_, ?_, ?_, ?_⟩; (· ((first | simp (disch := omega) only [push_cast, seval, e, hh] | simp (disch := omega) only [push_cast, seval] | skip); (repeat' (first | exact trivial | exact rfl | refine And.intro ?_ ?_ | omega)))); (· ((first | simp (disch := omega) only [push_cast, seval, e, hh] | simp (disch := omega) only [push_cast, seval] | skip); (repeat' (first | exact trivial | exact rfl | refine And.intro ?_ ?_ | omega)))); (· exact rfl); (· (first | exact trivial | exact ⟨rfl, trivial⟩ | exact ⟨rfl, rfl, trivial⟩)))⟩)
      exact hlt
    | false =>
      repeat' (first | with_reducible (first | refine wA ?_ | refine wB ?_ | refine wC ?_ | refine w1 ?_ | refine w2 ?_ | refine w3 ?_ | refine w4 ?_ | refine w5 ?_ | refine w6 ?_ | refine w7 ?_ | refine w8 ?_ | refine wT ?_ | refine w9 ?_ | refine wE ?_ | refine wS ?_) | ((with_reducible refine hK _ ?_); clear hK K) | ((with_reducible refine PWp.condI ?_); refine ⟨_, rfl, fun hg => ?_, fun hg => ?_⟩ <;> first | (exact absurd hg (by decide)) | ((try simp only [Bool.not_true, Bool.not_false] at hg); (try simp only [hg]); (try simp only [push_cast] at hg); (try exact absurd trivial hg); (try (exfalso; omega)))) | ((with_reducible refine pops_plain fun K hK => ?_); simp (disch := omega) only [push_cast, seval, hx, hh]) | ((with_reducible show pcall _ _ _ _ _ _); (first | (refine pcV (g := 248) cloC (enough1_p _ _ hi) ?_)); (try simp (disch := omega) only [push_cast, seval, hx, hh])) | ((with_reducible refine And.intro ?_ ?_); omega))
      (refine ⟨k + 1, by ((try dsimp only); omega), ?_, by (refine ⟨[], ?_, ?_, ?_, ?_⟩; (· ((first | simp (disch := omega) only [push_cast, seval, e, hh, Int.add_zero, Bool.false_eq_true] | simp (disch := omega) only [push_cast, seval] | skip); (repeat' (first | exact trivial | exact rfl | refine And.intro ?_ ?_ | omega)))); (· ((first | simp (disch := omega) only [push_cast, seval, e, hh, Int.add_zero, Bool.false_eq_true] | simp (disch := omega) only [push_cast, seval] | skip); (repeat' (first | exact trivial | exact rfl | refine And.intro ?_ ?_ | omega)))); (· exact rfl); (· (first | exact trivial | exact ⟨rfl, trivial⟩ | exact ⟨rfl, rfl, trivial⟩)))⟩)
      exact hlt
  obtain rfl : k = l.length := by omega
  repeat' (first | with_reducible (first | refine wA ?_ | refine wB ?_ | refine wC ?_ | refine w1 ?_ | refine w2 ?_ | refine w3 ?_ | refine w4 ?_ | refine w5 ?_ | refine w6 ?_ | refine w7 ?_ | refine w8 ?_ | refine wT ?_ | refine w9 ?_ | refine wE ?_ | refine wS ?_) | ((with_reducible refine hK _ ?_); clear hK K) | ((with_reducible refine PWp.condI ?_); refine ⟨_, rfl, fun hg => ?_, fun hg => ?_⟩ <;> first | (exact absurd hg (by decide)) | ((try simp only [Bool.not_true, Bool.not_false] at hg); (try simp only [hg]); (try simp only [push_cast] at hg); (try exact absurd trivial hg); (try (exfalso; omega)))) | ((with_reducible refine pops_plain fun K hK => ?_); simp (disch := omega) only [push_cast, seval]) | ((with_reducible show pcall _ _ _ _ _ _); (first | (refine pcV (g := 248) cloC (enough1_p _ _ hi) ?_)); (try simp (disch := omega) only [push_cast, seval])) | ((with_reducible refine And.intro ?_ ?_); omega))
  ((with_reducible show PPostR _ _ _ _ _ _); refine finV ?_; (try simp only [push_cast, seval]))
  rw [List.take_length]
theorem iPowerOf_a (l : List GVal) (hl : valsOk l = true) : PCalls Tryz.prog 247 [.sl 2 (l.map pVal), .val (.func (.func 267) #[] #[])] [] (RV (.val (.int .i64 (powSum (fun _ => true) l)))) := by
  have ok := hl
  have h7 := (valsOk_iff.1 ok).2.2.2
  have cloC : Callable Tryz.prog 267 := callable_of Tryz.func267 rfl rfl
  refine pcalls_ofR okP Tryz.func247 rfl ?_
  simp only [Tryz.f247, List.length_cons, List.length_nil, Nat.reduceAdd, Nat.reduceSub, List.replicate_succ, List.replicate_zero, List.cons_append, List.nil_append, List.length_map]
  repeat' (first | with_reducible (first | refine wA ?_ | refine wB ?_ | refine wC ?_ | refine w1 ?_ | refine w2 ?_ | refine w3 ?_ | refine w4 ?_ | refine w5 ?_ | refine w6 ?_ | refine w7 ?_ | refine w8 ?_ | refine wT ?_ | refine w9 ?_ | refine wE ?_ | refine wS ?_) | ((with_reducible refine hK _ ?_); clear hK K) | ((with_reducible refine PWp.condI ?_); refine ⟨_, rfl, fun hg => ?_, fun hg => ?_⟩ <;> first | (exact absurd hg (by decide)) | ((try simp only [Bool.not_true, Bool.not_false] at hg); (try simp only [hg]); (try simp only [push_cast] at hg); (try exact absurd trivial hg); (try (exfalso; omega)))) | ((with_reducible refine pops_plain fun K hK => ?_); simp (disch := omega) only [push_cast, seval]) | ((with_reducible show pcall _ _ _ _ _ _); (first | (refine pcV (g := 267) cloC (power1_p _) ?_)); (try simp (disch := omega) only [push_cast, seval])) | ((with_reducible refine And.intro ?_ ?_); omega))
  refine PWp.loopK (α := Nat) (fun k => [(5, .val (.int .i64 (powSum (fun _ => true) (l.take k)))), (10, .val (.int .i64 (k : Int)))]) [0, 2, 3, 6, 7, 11, 12, 13, 14, 15, 16, 17, 18, 19, 20, 21, 22] (fun k => []) (fun k => k ≤ l.length) (fun k => l.length - k) (0) (Nat.zero_le _) (by (refine ⟨[], ?_, ?_, ?_, ?_⟩; (· ((try simp (disch := omega) only [push_cast, seval]); (repeat' (first | exact trivial | exact rfl | refine And.intro ?_ ?_ | omega)))); (· ((try simp (disch := omega) only [push_cast, seval]); (repeat' (first | exact trivial | exact rfl | refine And.intro ?_ ?_ | omega)))); (· exact rfl); (· (first | exact trivial | exact ⟨rfl, trivial⟩ | exact ⟨rfl, rfl, trivial⟩)))) ?_
  intro k ρ hI
  (try dsimp only at hI)
  refine PWp.at (tm' := ?_) (H' := ?_) ?_ ?_ ?_; rotate_left 2; (· ((try simp only [push_cast, seval]); exact rfl)); (· ((try dsimp only); exact rfl))
  have hb := powSum_k (p := fun _ => true) ok k
  by_cases hlt : k < l.length
  · obtain ⟨x, hx⟩ : ∃ x, l[k]? = some x := ⟨_, List.getElem?_eq_getElem hlt⟩
    have hv := vOk_facts ((valsOk_iff.1 ok).1 k x hx)
    have e := powSum_take (p := fun _ => true) hx
    repeat' (first | with_reducible (first | refine wA ?_ | refine wB ?_ | refine wC ?_ | refine w1 ?_ | refine w2 ?_ | refine w3 ?_ | refine w4 ?_ | refine w5 ?_ | refine w6 ?_ | refine w7 ?_ | refine w8 ?_ | refine wT ?_ | refine w9 ?_ | refine wE ?_ | refine wS ?_) | ((with_reducible refine hK _ ?_); clear hK K) | ((with_reducible refine PWp.condI ?_); refine ⟨_, rfl, fun hg => ?_, fun hg => ?_⟩ <;> first | (exact absurd hg (by decide)) | ((try simp only [Bool.not_true, Bool.not_false] at hg); (try simp only [hg]); (try simp only [push_cast] at hg); (try exact absurd trivial hg); (try (exfalso; omega)))) | ((with_reducible refine pops_plain fun K hK => ?_); simp (disch := omega) only [push_cast, seval, hx]) | ((with_reducible show pcall _ _ _ _ _ _); (first | (refine pcV (g := 267) cloC (power1_p _) ?_)); (try simp (disch := omega) only [push_cast, seval, hx])) | ((with_reducible refine And.intro ?_ ?_); omega))
    (refine ⟨k + 1, by ((try dsimp only); omega), ?_, by (refine ⟨[], ?_, ?_, ?_, ?_⟩; (· ((first | simp (disch := omega) only [push_cast, seval, e] | simp (disch := omega) only [push_cast, seval] | skip); (repeat' (first | exact trivial | exact rfl | refine And.intro ?_ ?_ | omega)))); (· ((first | simp (disch := omega) only [push_cast, seval, e] | simp (disch := omega) only [push_cast, seval] | skip); (repeat' (first | exact trivial | exact rfl | refine And.intro ?_ ?_ | omega)))); (· exact rfl); (· (first | exact trivial | exact ⟨rfl, trivial⟩ | exact ⟨rfl, rfl, trivial⟩)))⟩)
    exact hlt
  obtain rfl : k = l.length := by omega
  repeat' (first | with_reducible (first | refine wA ?_ | refine wB ?_ | refine wC ?_ | refine w1 ?_ | refine w2 ?_ | refine w3 ?_ | refine w4 ?_ | refine w5 ?_ | refine w6 ?_ | refine w7 ?_ | refine w8 ?_ | refine wT ?_ | refine w9 ?_ | refine wE ?_ | refine wS ?_) | ((with_reducible refine hK _ ?_); clear hK K) | ((with_reducible refine PWp.condI ?_); refine ⟨_, rfl, fun hg => ?_, fun hg => ?_⟩ <;> first | (exact absurd hg (by decide)) | ((try simp only [Bool.not_true, Bool.not_false] at hg); (try simp only [hg]); (try simp only [push_cast] at hg); (try exact absurd trivial hg); (try (exfalso; omega)))) | ((with_reducible refine pops_plain fun K hK => ?_); simp (disch := omega) only [push_cast, seval]) | ((with_reducible show pcall _ _ _ _ _ _); (first | (refine pcV (g := 267) cloC (power1_p _) ?_)); (try simp (disch := omega) only [push_cast, seval])) | ((with_reducible refine And.intro ?_ ?_); omega))
  ((with_reducible show PPostR _ _ _ _ _ _); refine finV ?_; (try simp only [push_cast, seval]))
  rw [List.take_length]
theorem iPowerOfV_p (l : List GVal) (hl : l.length ≤ 1099511627776) : PCalls Tryz.prog 249 [.sl 2 (l.map pVal)] [] (RV (.val (.int .i64 (powerOf l)))) := by
  cases ok : valsOk l with
  | false =>
    have e : powerOf l = 0 := by unfold powerOf; rw [ok]; rfl
    rw [e]
    refine pcalls_ofR okP Tryz.func249 rfl ?_
    simp only [Tryz.f249, List.length_cons, List.length_nil, Nat.reduceAdd, Nat.reduceSub, List.replicate_succ, List.replicate_zero, List.cons_append, List.nil_append, List.length_map]
    repeat' (first | with_reducible (first | refine wA ?_ | refine wB ?_ | refine wC ?_ | refine w1 ?_ | refine w2 ?_ | refine w3 ?_ | refine w4 ?_ | refine w5 ?_ | refine w6 ?_ | refine w7 ?_ | refine w8 ?_ | refine wT ?_ | refine w9 ?_ | refine wE ?_ | refine wS ?_) | ((with_reducible refine hK _ ?_); clear hK K) | ((with_reducible refine PWp.condI ?_); refine ⟨_, rfl, fun hg => ?_, fun hg => ?_⟩ <;> first | (exact absurd hg (by decide)) | ((try simp only [Bool.not_true, Bool.not_false] at hg); (try simp only [hg]); (try simp only [push_cast] at hg); (try exact absurd trivial hg); (try (exfalso; omega)))) | ((with_reducible refine pops_plain fun K hK => ?_); simp (disch := omega) only [push_cast, seval, ok]) | ((with_reducible show pcall _ _ _ _ _ _); (first | (refine pcV (cf Tryz.func90) (iValsOk_p _ sd) ?_) | (refine pcV (cf Tryz.func90) (iValsOk_p _ sd) ?_) | (refine pcV (cf Tryz.func247) (iPowerOf_e _ _ sd) ?_) | (refine pcV (cf Tryz.func247) (iPowerOf_a _ sd) ?_)); (try simp (disch := omega) only [push_cast, seval, ok])) | ((with_reducible refine And.intro ?_ ?_); omega))
    ((with_reducible show PPostR _ _ _ _ _ _); refine finV ?_; (try simp only [push_cast, seval]))
  | true =>
    have e : powerOf l = powSum (fun _ => true) l := by unfold powerOf; rw [if_pos ok]
    rw [e]
    refine pcalls_ofR okP Tryz.func249 rfl ?_
    simp only [Tryz.f249, List.length_cons, List.length_nil, Nat.reduceAdd, Nat.reduceSub, List.replicate_succ, List.replicate_zero, List.cons_append, List.nil_append, List.length_map]
    repeat' (first | with_reducible (first | refine wA ?_ | refine wB ?_ | refine wC ?_ | refine w1 ?_ | refine w2 ?_ | refine w3 ?_ | refine w4 ?_ | refine w5 ?_ | refine w6 ?_ | refine w7 ?_ | refine w8 ?_ | refine wT ?_ | refine w9 ?_ | refine wE ?_ | refine wS ?_) | ((with_reducible refine hK _ ?_); clear hK K) | ((with_reducible refine PWp.condI ?_); refine ⟨_, rfl, fun hg => ?_, fun hg => ?_⟩ <;> first | (exact absurd hg (by decide)) | ((try simp only [Bool.not_true, Bool.not_false] at hg); (try simp only [hg]); (try simp only [push_cast] at hg); (try exact absurd trivial hg); (try (exfalso; omega)))) | ((with_reducible refine pops_plain fun K hK => ?_); simp (disch := omega) only [push_cast, seval, ok]) | ((with_reducible show pcall _ _ _ _ _ _); (first | (refine pcV (cf Tryz.func90) (iValsOk_p _ sd) ?_) | (refine pcV (cf Tryz.func90) (iValsOk_p _ sd) ?_) | (refine pcV (cf Tryz.func247) (iPowerOf_e _ _ sd) ?_) | (refine pcV (cf Tryz.func247) (iPowerOf_a _ sd) ?_)); (try simp (disch := omega) only [push_cast, seval, ok])) | ((with_reducible refine And.intro ?_ ?_); omega))
    ((with_reducible show PPostR _ _ _ _ _ _); refine finV ?_; (try simp only [push_cast, seval]))
theorem iEnough_p (l : List GVal) (ids : List Int) (hl : l.length ≤ 1099511627776) (hi : ids.length ≤ 1099511627776) : PCalls Tryz.prog 192 [.sl 2 (l.map pVal), .sl 1 (ids.map pInt)] [] (RV (.val (.bool (enough l ids)))) := by
  cases ok : valsOk l with
  | false =>
    have e : enough l ids = false := by unfold enough; rw [ok]; rfl
    rw [e]
    refine pcalls_ofR okP Tryz.func192 rfl ?_
    simp only [Tryz.f192, List.length_cons, List.length_nil, Nat.reduceAdd, Nat.reduceSub, List.replicate_succ, List.replicate_zero, List.cons_append, List.nil_append, List.length_map]
    repeat' (first | with_reducible (first | refine wA ?_ | refine wB ?_ | refine wC ?_ | refine w1 ?_ | refine w2 ?_ | refine w3 ?_ | refine w4 ?_ | refine w5 ?_ | refine w6 ?_ | refine w7 ?_ | refine w8 ?_ | refine wT ?_ | refine w9 ?_ | refine wE ?_ | refine wS ?_) | ((with_reducible refine hK _ ?_); clear hK K) | ((with_reducible refine pops_guard0 ?_); refine ⟨_, rfl, fun K hK => ⟨rfl, ?_⟩⟩; (try simp (disch := omega) only [push_cast, seval, ok])) | ((with_reducible refine pops_plain fun K hK => ?_); simp (disch := omega) only [push_cast, seval, ok]) | ((with_reducible refine pops_guard ?_); refine ⟨_, rfl, fun K hK => ⟨_, rfl, fun hg => ?_, fun hg => ?_⟩⟩ <;> first | (exact absurd hg (by decide)) | ((try simp only [Bool.not_true, Bool.not_false] at hg); (try simp only [hg]); (try simp only [push_cast] at hg); (try exact absurd trivial hg); (try (exfalso; omega)); (try simp (disch := omega) only [push_cast, seval, ok]))) | ((with_reducible show pcall _ _ _ _ _ _); (first | (refine pcV (cf Tryz.func90) (iValsOk_p _ sd) ?_) | (refine pcV (cf Tryz.func90) (iValsOk_p _ sd) ?_) | (refine pcV (cf Tryz.func247) (iPowerOf_e _ _ sd) ?_) | (refine pcV (cf Tryz.func247) (iPowerOf_a _ sd) ?_) | (refine pcV (cf Tryz.func249) (iPowerOfV_p _ sd) ?_)); (try simp (disch := omega) only [push_cast, seval, ok])) | ((with_reducible refine And.intro ?_ ?_); omega))
    ((with_reducible show PPostR _ _ _ _ _ _); refine finV ?_; (try simp only [push_cast, seval]))
  | true =>
    have e : enough l ids = decide (2 * powSum (fun _ => true) l < 3 * powSum (fun v => hasI ids v.fId) l) := by unfold enough; rw [ok, Bool.true_and]
    have e2 : powerOf l = powSum (fun _ => true) l := by unfold powerOf; rw [if_pos ok]
    have b1 := powSum_bd (p := fun _ => true) (vals_all ok)
    have b2 := powSum_bd (p := fun v => hasI ids v.fId) (vals_all ok)
    have h7 := (valsOk_iff.1 ok).2.2.2
    rw [e]
    refine pcalls_ofR okP Tryz.func192 rfl ?_
    simp only [Tryz.f192, List.length_cons, List.length_nil, Nat.reduceAdd, Nat.reduceSub, List.replicate_succ, List.replicate_zero, List.cons_append, List.nil_append, List.length_map]
    repeat' (first | with_reducible (first | refine wA ?_ | refine wB ?_ | refine wC ?_ | refine w1 ?_ | refine w2 ?_ | refine w3 ?_ | refine w4 ?_ | refine w5 ?_ | refine w6 ?_ | refine w7 ?_ | refine w8 ?_ | refine wT ?_ | refine w9 ?_ | refine wE ?_ | refine wS ?_) | ((with_reducible refine hK _ ?_); clear hK K) | ((with_reducible refine pops_guard0 ?_); refine ⟨_, rfl, fun K hK => ⟨rfl, ?_⟩⟩; (try simp (disch := omega) only [push_cast, seval, ok, e2])) | ((with_reducible refine pops_plain fun K hK => ?_); simp (disch := omega) only [push_cast, seval, ok, e2]) | ((with_reducible refine pops_guard ?_); refine ⟨_, rfl, fun K hK => ⟨_, rfl, fun hg => ?_, fun hg => ?_⟩⟩ <;> first | (exact absurd hg (by decide)) | ((try simp only [Bool.not_true, Bool.not_false] at hg); (try simp only [hg]); (try simp only [push_cast] at hg); (try exact absurd trivial hg); (try (exfalso; omega)); (try simp (disch := omega) only [push_cast, seval, ok, e2]))) | ((with_reducible show pcall _ _ _ _ _ _); (first | (refine pcV (cf Tryz.func90) (iValsOk_p _ sd) ?_) | (refine pcV (cf Tryz.func90) (iValsOk_p _ sd) ?_) | (refine pcV (cf Tryz.func247) (iPowerOf_e _ _ sd) ?_) | (refine pcV (cf Tryz.func247) (iPowerOf_a _ sd) ?_) | (refine pcV (cf Tryz.func249) (iPowerOfV_p _ sd) ?_)); (try simp (disch := omega) only [push_cast, seval, ok, e2])) | ((with_reducible refine And.intro ?_ ?_); omega))
    ((with_reducible show PPostR _ _ _ _ _ _); refine finV ?_; (try simp only [push_cast, seval]))
theorem sPowerOf_p (l : List GVal) (hl : l.length ≤ 1099511627776) : PCalls Tryz.prog 253 [.sl 2 (l.map pVal)] [] (RV (.val (.int .i64 (powerOf l)))) := by
  cases ok : valsOk l with
  | false =>
    have e : powerOf l = 0 := by unfold powerOf; rw [ok]; rfl
    rw [e]
    refine pcalls_ofR okP Tryz.func253 rfl ?_
    simp only [Tryz.f253, List.length_cons, List.length_nil, Nat.reduceAdd, Nat.reduceSub, List.replicate_succ, List.replicate_zero, List.cons_append, List.nil_append, List.length_map]
    repeat' (first | with_reducible (first | refine wA ?_ | refine wB ?_ | refine wC ?_ | refine w1 ?_ | refine w2 ?_ | refine w3 ?_ | refine w4 ?_ | refine w5 ?_ | refine w6 ?_ | refine w7 ?_ | refine w8 ?_ | refine wT ?_ | refine w9 ?_ | refine wE ?_ | refine wS ?_) | ((with_reducible refine hK _ ?_); clear hK K) | ((with_reducible refine PWp.condI ?_); refine ⟨_, rfl, fun hg => ?_, fun hg => ?_⟩ <;> first | (exact absurd hg (by decide)) | ((try simp only [Bool.not_true, Bool.not_false] at hg); (try simp only [hg]); (try simp only [push_cast] at hg); (try exact absurd trivial hg); (try (exfalso; omega)))) | ((with_reducible refine pops_guard0 ?_); refine ⟨_, rfl, fun K hK => ⟨rfl, ?_⟩⟩; (try simp (disch := omega) only [push_cast, seval])) | ((with_reducible refine pops_plain fun K hK => ?_); simp (disch := omega) only [push_cast, seval]) | ((with_reducible refine pops_guard ?_); refine ⟨_, rfl, fun K hK => ⟨_, rfl, fun hg => ?_, fun hg => ?_⟩⟩ <;> first | (exact absurd hg (by decide)) | ((try simp only [Bool.not_true, Bool.not_false] at hg); (try simp only [hg]); (try simp only [push_cast] at hg); (try exact absurd trivial hg); (try (exfalso; omega)); (try simp (disch := omega) only [push_cast, seval]))) | ((with_reducible show pcall _ _ _ _ _ _); (first | (refine pcV (cf Tryz.func105) (sValsOk_p _ sd) ?_)); (try simp (disch := omega) only [push_cast, seval])) | ((with_reducible refine And.intro ?_ ?_); omega))
    refine PWp.loopK (α := Nat) (fun k => [(3, .val (.int .i64 0)), (4, .val (.int .i64 (k : Int)))]) [1, 5, 6, 7, 8, 9, 10, 11, 12, 13, 14, 15, 16, 17, 18, 19, 20, 21] (fun k => []) (fun k => k ≤ l.length) (fun k => l.length - k) (0) (Nat.zero_le _) (by (refine ⟨[], ?_, ?_, ?_, ?_⟩; (· ((try simp (disch := omega) only [push_cast, seval]); (repeat' (first | exact trivial | exact rfl | refine And.intro ?_ ?_ | omega)))); (· ((try simp (disch := omega) only [push_cast, seval]); (repeat' (first | exact trivial | exact rfl | refine And.intro ?_ ?_ | omega)))); (· exact rfl); (· (first | exact trivial | exact ⟨rfl, trivial⟩ | exact ⟨rfl, rfl, trivial⟩)))) ?_
    intro k ρ hI
    (try dsimp only at hI)
    refine PWp.at (tm' := ?_) (H' := ?_) ?_ ?_ ?_; rotate_left 2; (· ((try simp only [push_cast, seval]); exact rfl)); (· ((try dsimp only); exact rfl))
    by_cases hlt : k < l.length
    all_goals
      repeat' (first | with_reducible (first | refine wA ?_ | refine wB ?_ | refine wC ?_ | refine w1 ?_ | refine w2 ?_ | refine w3 ?_ | refine w4 ?_ | refine w5 ?_ | refine w6 ?_ | refine w7 ?_ | refine w8 ?_ | refine wT ?_ | refine w9 ?_ | refine wE ?_ | refine wS ?_) | ((with_reducible refine hK _ ?_); clear hK K) | ((with_reducible refine PWp.condI ?_); refine ⟨_, rfl, fun hg => ?_, fun hg => ?_⟩ <;> first | (exact absurd hg (by decide)) | ((try simp only [Bool.not_true, Bool.not_false] at hg); (try simp only [hg]); (try simp only [push_cast] at hg); (try exact absurd trivial hg); (try (exfalso; omega)))) | ((with_reducible refine pops_guard0 ?_); refine ⟨_, rfl, fun K hK => ⟨rfl, ?_⟩⟩; (try simp (disch := omega) only [push_cast, seval, ok])) | ((with_reducible refine pops_plain fun K hK => ?_); simp (disch := omega) only [push_cast, seval, ok]) | ((with_reducible refine pops_guard ?_); refine ⟨_, rfl, fun K hK => ⟨_, rfl, fun hg => ?_, fun hg => ?_⟩⟩ <;> first | (exact absurd hg (by decide)) | ((try simp only [Bool.not_true, Bool.not_false] at hg); (try simp only [hg]); (try simp only [push_cast] at hg); (try exact absurd trivial hg); (try (exfalso; omega)); (try simp (disch := omega) only [push_cast, seval, ok]))) | ((with_reducible show pcall _ _ _ _ _ _); (first | (refine pcV (cf Tryz.func105) (sValsOk_p _ sd) ?_)); (try simp (disch := omega) only [push_cast, seval, ok])) | ((with_reducible refine And.intro ?_ ?_); omega))
      ((with_reducible show PPostR _ _ _ _ _ _); refine finV ?_; (try simp only [push_cast, seval]))
  | true =>
    have h7 := (valsOk_iff.1 ok).2.2.2
    have e : powerOf l = powSum (fun _ => true) l := by unfold powerOf; rw [if_pos ok]
    rw [e]
    refine pcalls_ofR okP Tryz.func253 rfl ?_
    simp only [Tryz.f253, List.length_cons, List.length_nil, Nat.reduceAdd, Nat.reduceSub, List.replicate_succ, List.replicate_zero, List.cons_append, List.nil_append, List.length_map]
    repeat' (first | with_reducible (first | refine wA ?_ | refine wB ?_ | refine wC ?_ | refine w1 ?_ | refine w2 ?_ | refine w3 ?_ | refine w4 ?_ | refine w5 ?_ | refine w6 ?_ | refine w7 ?_ | refine w8 ?_ | refine wT ?_ | refine w9 ?_ | refine wE ?_ | refine wS ?_) | ((with_reducible refine hK _ ?_); clear hK K) | ((with_reducible refine PWp.condI ?_); refine ⟨_, rfl, fun hg => ?_, fun hg => ?_⟩ <;> first | (exact absurd hg (by decide)) | ((try simp only [Bool.not_true, Bool.not_false] at hg); (try simp only [hg]); (try simp only [push_cast] at hg); (try exact absurd trivial hg); (try (exfalso; omega)))) | ((with_reducible refine pops_guard0 ?_); refine ⟨_, rfl, fun K hK => ⟨rfl, ?_⟩⟩; (try simp (disch := omega) only [push_cast, seval])) | ((with_reducible refine pops_plain fun K hK => ?_); simp (disch := omega) only [push_cast, seval]) | ((with_reducible refine pops_guard ?_); refine ⟨_, rfl, fun K hK => ⟨_, rfl, fun hg => ?_, fun hg => ?_⟩⟩ <;> first | (exact absurd hg (by decide)) | ((try simp only [Bool.not_true, Bool.not_false] at hg); (try simp only [hg]); (try simp only [push_cast] at hg); (try exact absurd trivial hg); (try (exfalso; omega)); (try simp (disch := omega) only [push_cast, seval]))) | ((with_reducible show pcall _ _ _ _ _ _); (first | (refine pcV (cf Tryz.func105) (sValsOk_p _ sd) ?_)); (try simp (disch := omega) only [push_cast, seval])) | ((with_reducible refine And.intro ?_ ?_); omega))
    refine PWp.loopK (α := Nat) (fun k => [(3, .val (.int .i64 (powSum (fun _ => true) (l.take k)))), (4, .val (.int .i64 (k : Int)))]) [1, 5, 6, 7, 8, 9, 10, 11, 12, 13, 14, 15, 16, 17, 18, 19, 20, 21] (fun k => []) (fun k => k ≤ l.length) (fun k => l.length - k) (0) (Nat.zero_le _) (by (refine ⟨[], ?_, ?_, ?_, ?_⟩; (· ((try simp (disch := omega) only [push_cast, seval]); (repeat' (first | exact trivial | exact rfl | refine And.intro ?_ ?_ | omega)))); (· ((try simp (disch := omega) only [push_cast, seval]); (repeat' (first | exact trivial | exact rfl | refine And.intro ?_ ?_ | omega)))); (· exact rfl); (· (first | exact trivial | exact ⟨rfl, trivial⟩ | exact ⟨rfl, rfl, trivial⟩)))) ?_
    intro k ρ hI
    (try dsimp only at hI)
    refine PWp.at (tm' := ?_) (H' := ?_) ?_ ?_ ?_; rotate_left 2; (· ((try simp only [push_cast, seval]); exact rfl)); (· ((try dsimp only); exact rfl))
    have hb := powSum_k (p := fun _ => true) ok k
    by_cases hlt : k < l.length
    · obtain ⟨x, hx⟩ : ∃ x, l[k]? = some x := ⟨_, List.getElem?_eq_getElem hlt⟩
      have hv := vOk_facts ((valsOk_iff.1 ok).1 k x hx)
      have e := powSum_take (p := fun _ => true) hx
      repeat' (first | with_reducible (first | refine wA ?_ | refine wB ?_ | refine wC ?_ | refine w1 ?_ | refine w2 ?_ | refine w3 ?_ | refine w4 ?_ | refine w5 ?_ | refine w6 ?_ | refine w7 ?_ | refine w8 ?_ | refine wT ?_ | refine w9 ?_ | refine wE ?_ | refine wS ?_) | ((with_reducible refine hK _ ?_); clear hK K) | ((with_reducible refine PWp.condI ?_); refine ⟨_, rfl, fun hg => ?_, fun hg => ?_⟩ <;> first | (exact absurd hg (by decide)) | ((try simp only [Bool.not_true, Bool.not_false] at hg); (try simp only [hg]); (try simp only [push_cast] at hg); (try exact absurd trivial hg); (try (exfalso; omega)))) | ((with_reducible refine pops_guard0 ?_); refine ⟨_, rfl, fun K hK => ⟨rfl, ?_⟩⟩; (try simp (disch := omega) only [push_cast, seval, hx, ok])) | ((with_reducible refine pops_plain fun K hK => ?_); simp (disch := omega) only [push_cast, seval, hx, ok]) | ((with_reducible refine pops_guard ?_); refine ⟨_, rfl, fun K hK => ⟨_, rfl, fun hg => ?_, fun hg => ?_⟩⟩ <;> first | (exact absurd hg (by decide)) | ((try simp only [Bool.not_true, Bool.not_false] at hg); (try simp only [hg]); (try simp only [push_cast] at hg); (try exact absurd trivial hg); (try (exfalso; omega)); (try simp (disch := omega) only [push_cast, seval, hx, ok]))) | ((with_reducible show pcall _ _ _ _ _ _); (first | (refine pcV (cf Tryz.func105) (sValsOk_p _ sd) ?_)); (try simp (disch := omega) only [push_cast, seval, hx, ok])) | ((with_reducible refine And.intro ?_ ?_); omega))
      (refine ⟨k + 1, by ((try dsimp only); omega), ?_, by (refine ⟨[], ?_, ?_, ?_, ?_⟩; (· ((first | simp (disch := omega) only [push_cast, seval, e] | simp (disch := omega) only [push_cast, seval] | skip); (repeat' (first | exact trivial | exact rfl | refine And.intro ?_ ?_ | omega)))); (· ((first | simp (disch := omega) only [push_cast, seval, e] | simp (disch := omega) only [push_cast, seval] | skip); (repeat' (first | exact trivial | exact rfl | refine And.intro ?_ ?_ | omega)))); (· exact rfl); (· (first | exact trivial | exact ⟨rfl, trivial⟩ | exact ⟨rfl, rfl, trivial⟩)))⟩)
      exact hlt
    obtain rfl : k = l.length := by omega
    repeat' (first | with_reducible (first | refine wA ?_ | refine wB ?_ | refine wC ?_ | refine w1 ?_ | refine w2 ?_ | refine w3 ?_ | refine w4 ?_ | refine w5 ?_ | refine w6 ?_ | refine w7 ?_ | refine w8 ?_ | refine wT ?_ | refine w9 ?_ | refine wE ?_ | refine wS ?_) | ((with_reducible refine hK _ ?_); clear hK K) | ((with_reducible refine PWp.condI ?_); refine ⟨_, rfl, fun hg => ?_, fun hg => ?_⟩ <;> first | (exact absurd hg (by decide)) | ((try simp only [Bool.not_true, Bool.not_false] at hg); (try simp only [hg]); (try simp only [push_cast] at hg); (try exact absurd trivial hg); (try (exfalso; omega)))) | ((with_reducible refine pops_guard0 ?_); refine ⟨_, rfl, fun K hK => ⟨rfl, ?_⟩⟩; (try simp (disch := omega) only [push_cast, seval])) | ((with_reducible refine pops_plain fun K hK => ?_); simp (disch := omega) only [push_cast, seval]) | ((with_reducible refine pops_guard ?_); refine ⟨_, rfl, fun K hK => ⟨_, rfl, fun hg => ?_, fun hg => ?_⟩⟩ <;> first | (exact absurd hg (by decide)) | ((try simp only [Bool.not_true, Bool.not_false] at hg); (try simp only [hg]); (try simp only [push_cast] at hg); (try exact absurd trivial hg); (try (exfalso; omega)); (try simp (disch := omega) only [push_cast, seval]))) | ((with_reducible show pcall _ _ _ _ _ _); (first | (refine pcV (cf Tryz.func105) (sValsOk_p _ sd) ?_)); (try simp (disch := omega) only [push_cast, seval])) | ((with_reducible refine And.intro ?_ ?_); omega))
    ((with_reducible show PPostR _ _ _ _ _ _); refine finV ?_; (try simp only [push_cast, seval]))
    rw [List.take_length]
theorem sEnough_p (l : List GVal) (ids : List Int) (hl : l.length ≤ 1099511627776) (hi : ids.length ≤ 1099511627776) : PCalls Tryz.prog 196 [.sl 2 (l.map pVal), .sl 1 (ids.map pInt)] [] (RV (.val (.bool (enough l ids)))) := by
  cases ok : valsOk l with
  | false =>
    have e : enough l ids = false := by unfold enough; rw [ok]; rfl
    rw [e]
    refine pcalls_ofR okP Tryz.func196 rfl ?_
    simp only [Tryz.f196, List.length_cons, List.length_nil, Nat.reduceAdd, Nat.reduceSub, List.replicate_succ, List.replicate_zero, List.cons_append, List.nil_append, List.length_map]
    repeat' (first | with_reducible (first | refine wA ?_ | refine wB ?_ | refine wC ?_ | refine w1 ?_ | refine w2 ?_ | refine w3 ?_ | refine w4 ?_ | refine w5 ?_ | refine w6 ?_ | refine w7 ?_ | refine w8 ?_ | refine wT ?_ | refine w9 ?_ | refine wE ?_ | refine wS ?_) | ((with_reducible refine hK _ ?_); clear hK K) | ((with_reducible refine PWp.condI ?_); refine ⟨_, rfl, fun hg => ?_, fun hg => ?_⟩ <;> first | (exact absurd hg (by decide)) | ((try simp only [Bool.not_true, Bool.not_false] at hg); (try simp only [hg]); (try simp only [push_cast] at hg); (try exact absurd trivial hg); (try (exfalso; omega)))) | ((with_reducible refine pops_guard0 ?_); refine ⟨_, rfl, fun K hK => ⟨rfl, ?_⟩⟩; (try simp (disch := omega) only [push_cast, seval])) | ((with_reducible refine pops_plain fun K hK => ?_); simp (disch := omega) only [push_cast, seval]) | ((with_reducible refine pops_guard ?_); refine ⟨_, rfl, fun K hK => ⟨_, rfl, fun hg => ?_, fun hg => ?_⟩⟩ <;> first | (exact absurd hg (by decide)) | ((try simp only [Bool.not_true, Bool.not_false] at hg); (try simp only [hg]); (try simp only [push_cast] at hg); (try exact absurd trivial hg); (try (exfalso; omega)); (try simp (disch := omega) only [push_cast, seval]))) | ((with_reducible show pcall _ _ _ _ _ _); (first | (refine pcV (cf Tryz.func105) (sValsOk_p _ sd) ?_) | (refine pcV (cf Tryz.func252) (sL6Has_p _ _ sd) ?_) | (refine pcV (cf Tryz.func253) (sPowerOf_p _ sd) ?_)); (try simp (disch := omega) only [push_cast, seval])) | ((with_reducible refine And.intro ?_ ?_); omega))
    refine PWp.loopK (α := Nat) (fun k => [(5, .val (.int .i64 0)), (6, .val (.int .i64 (k : Int)))]) [2, 3, 7, 8, 9, 10, 11, 12, 13, 14, 15, 16, 17, 18, 19, 20, 21, 22, 23, 24, 25, 26, 27, 28, 29, 30] (fun k => []) (fun k => k ≤ l.length) (fun k => l.length - k) (0) (Nat.zero_le _) (by (refine ⟨[], ?_, ?_, ?_, ?_⟩; (· ((try simp (disch := omega) only [push_cast, seval]); (repeat' (first | exact trivial | exact rfl | refine And.intro ?_ ?_ | omega)))); (· ((try simp (disch := omega) only [push_cast, seval]); (repeat' (first | exact trivial | exact rfl | refine And.intro ?_ ?_ | omega)))); (· exact rfl); (· (first | exact trivial | exact ⟨rfl, trivial⟩ | exact ⟨rfl, rfl, trivial⟩)))) ?_
    intro k ρ hI
    (try dsimp only at hI)
    refine PWp.at (tm' := ?_) (H' := ?_) ?_ ?_ ?_; rotate_left 2; (· ((try simp only [push_cast, seval]); exact rfl)); (· ((try dsimp only); exact rfl))
    by_cases hlt : k < l.length
    all_goals
      repeat' (first | with_reducible (first | refine wA ?_ | refine wB ?_ | refine wC ?_ | refine w1 ?_ | refine w2 ?_ | refine w3 ?_ | refine w4 ?_ | refine w5 ?_ | refine w6 ?_ | refine w7 ?_ | refine w8 ?_ | refine wT ?_ | refine w9 ?_ | refine wE ?_ | refine wS ?_) | ((with_reducible refine hK _ ?_); clear hK K) | ((with_reducible refine PWp.condI ?_); refine ⟨_, rfl, fun hg => ?_, fun hg => ?_⟩ <;> first | (exact absurd hg (by decide)) | ((try simp only [Bool.not_true, Bool.not_false] at hg); (try simp only [hg]); (try simp only [push_cast] at hg); (try exact absurd trivial hg); (try (exfalso; omega)))) | ((with_reducible refine pops_guard0 ?_); refine ⟨_, rfl, fun K hK => ⟨rfl, ?_⟩⟩; (try simp (disch := omega) only [push_cast, seval, ok])) | ((with_reducible refine pops_plain fun K hK => ?_); simp (disch := omega) only [push_cast, seval, ok]) | ((with_reducible refine pops_guard ?_); refine ⟨_, rfl, fun K hK => ⟨_, rfl, fun hg => ?_, fun hg => ?_⟩⟩ <;> first | (exact absurd hg (by decide)) | ((try simp only [Bool.not_true, Bool.not_false] at hg); (try simp only [hg]); (try simp only [push_cast] at hg); (try exact absurd trivial hg); (try (exfalso; omega)); (try simp (disch := omega) only [push_cast, seval, ok]))) | ((with_reducible show pcall _ _ _ _ _ _); (first | (refine pcV (cf Tryz.func105) (sValsOk_p _ sd) ?_) | (refine pcV (cf Tryz.func252) (sL6Has_p _ _ sd) ?_) | (refine pcV (cf Tryz.func253) (sPowerOf_p _ sd) ?_)); (try simp (disch := omega) only [push_cast, seval, ok])) | ((with_reducible refine And.intro ?_ ?_); omega))
      ((with_reducible show PPostR _ _ _ _ _ _); refine finV ?_; (try simp only [push_cast, seval]))
  | true =>
    have h7 := (valsOk_iff.1 ok).2.2.2
    have e : enough l ids = decide (2 * powSum (fun _ => true) l < 3 * powSum (fun v => hasI ids v.fId) l) := by unfold enough; rw [ok, Bool.true_and]
    have e2 : powerOf l = powSum (fun _ => true) l := by unfold powerOf; rw [if_pos ok]
    have b1 := powSum_bd (p := fun _ => true) (vals_all ok)
    rw [e]
    refine pcalls_ofR okP Tryz.func196 rfl ?_
    simp only [Tryz.f196, List.length_cons, List.length_nil, Nat.reduceAdd, Nat.reduceSub, List.replicate_succ, List.replicate_zero, List.cons_append, List.nil_append, List.length_map]
    repeat' (first | with_reducible (first | refine wA ?_ | refine wB ?_ | refine wC ?_ | refine w1 ?_ | refine w2 ?_ | refine w3 ?_ | refine w4 ?_ | refine w5 ?_ | refine w6 ?_ | refine w7 ?_ | refine w8 ?_ | refine wT ?_ | refine w9 ?_ | refine wE ?_ | refine wS ?_) | ((with_reducible refine hK _ ?_); clear hK K) | ((with_reducible refine PWp.condI ?_); refine ⟨_, rfl, fun hg => ?_, fun hg => ?_⟩ <;> first | (exact absurd hg (by decide)) | ((try simp only [Bool.not_true, Bool.not_false] at hg); (try simp only [hg]); (try simp only [push_cast] at hg); (try exact absurd trivial hg); (try (exfalso; omega)))) | ((with_reducible refine pops_guard0 ?_); refine ⟨_, rfl, fun K hK => ⟨rfl, ?_⟩⟩; (try simp (disch := omega) only [push_cast, seval])) | ((with_reducible refine pops_plain fun K hK => ?_); simp (disch := omega) only [push_cast, seval]) | ((with_reducible refine pops_guard ?_); refine ⟨_, rfl, fun K hK => ⟨_, rfl, fun hg => ?_, fun hg => ?_⟩⟩ <;> first | (exact absurd hg (by decide)) | ((try simp only [Bool.not_true, Bool.not_false] at hg); (try simp only [hg]); (try simp only [push_cast] at hg); (try exact absurd trivial hg); (try (exfalso; omega)); (try simp (disch := omega) only [push_cast, seval]))) | ((with_reducible show pcall _ _ _ _ _ _); (first | (refine pcV (cf Tryz.func105) (sValsOk_p _ sd) ?_) | (refine pcV (cf Tryz.func252) (sL6Has_p _ _ sd) ?_) | (refine pcV (cf Tryz.func253) (sPowerOf_p _ sd) ?_)); (try simp (disch := omega) only [push_cast, seval])) | ((with_reducible refine And.intro ?_ ?_); omega))
    refine PWp.loopK (α := Nat) (fun k => [(5, .val (.int .i64 (powSum (fun v => hasI ids v.fId) (l.take k)))), (6, .val (.int .i64 (k : Int)))]) [2, 3, 7, 8, 9, 10, 11, 12, 13, 14, 15, 16, 17, 18, 19, 20, 21, 22, 23, 24, 25, 26, 27, 28, 29, 30] (fun k => []) (fun k => k ≤ l.length) (fun k => l.length - k) (0) (Nat.zero_le _) (by (refine ⟨[], ?_, ?_, ?_, ?_⟩; (· ((try simp (disch := omega) only [push_cast, seval]); (repeat' (first | exact trivial | exact rfl | refine And.intro ?_ ?_ | omega)))); (· ((try simp (disch := omega) only [push_cast, seval]); (repeat' (first | exact trivial | exact rfl | refine And.intro ?_ ?_ | omega)))); (· exact rfl); (· (first | exact trivial | exact ⟨rfl, trivial⟩ | exact ⟨rfl, rfl, trivial⟩)))) ?_
    intro k ρ hI
    (try dsimp only at hI)
    refine PWp.at (tm' := ?_) (H' := ?_) ?_ ?_ ?_; rotate_left 2; (· ((try simp only [push_cast, seval]); exact rfl)); (· ((try dsimp only); exact rfl))
    have hb := powSum_k (p := fun v => hasI ids v.fId) ok k
    by_cases hlt : k < l.length
    · obtain ⟨x, hx⟩ : ∃ x, l[k]? = some x := ⟨_, List.getElem?_eq_getElem hlt⟩
      have hv := vOk_facts ((valsOk_iff.1 ok).1 k x hx)
      have e := powSum_take (p := fun v => hasI ids v.fId) hx
      cases hh : hasI ids x.fId with
      | true =>
        repeat' (first | with_reducible (first | refine wA ?_ | refine wB ?_ | refine wC ?_ | refine w1 ?_ | refine w2 ?_ | refine w3 ?_ | refine w4 ?_ | refine w5 ?_ | refine w6 ?_ | refine w7 ?_ | refine w8 ?_ | refine wT ?_ | refine w9 ?_ | refine wE ?_ | refine wS ?_) | ((with_reducible refine hK _ ?_); clear hK K) | ((with_reducible refine PWp.condI ?_); refine ⟨_, rfl, fun hg => ?_, fun hg => ?_⟩ <;> first | (exact absurd hg (by decide)) | ((try simp only [Bool.not_true, Bool.not_false] at hg); (try simp only [hg]); (try simp only [push_cast] at hg); (try exact absurd trivial hg); (try (exfalso; omega)))) | ((with_reducible refine pops_guard0 ?_); refine ⟨_, rfl, fun K hK => ⟨rfl, ?_⟩⟩; (try simp (disch := omega) only [push_cast, seval, hx, ok, hh])) | ((with_reducible refine pops_plain fun K hK => ?_); simp (disch := omega) only [push_cast, seval, hx, ok, hh]) | ((with_reducible refine pops_guard ?_); refine ⟨_, rfl, fun K hK => ⟨_, rfl, fun hg => ?_, fun hg => ?_⟩⟩ <;> first | (exact absurd hg (by decide)) | ((try simp only [Bool.not_true, Bool.not_false] at hg); (try simp only [hg]); (try simp only [push_cast] at hg); (try exact absurd trivial hg); (try (exfalso; omega)); (try simp (disch := omega) only [push_cast, seval, hx, ok, hh]))) | ((with_reducible show pcall _ _ _ _ _ _); (first | (refine pcV (cf Tryz.func105) (sValsOk_p _ sd) ?_) | (refine pcV (cf Tryz.func252) (sL6Has_p _ _ sd) ?_) | (refine pcV (cf Tryz.func253) (sPowerOf_p _ sd) ?_)); (try simp (disch := omega) only [push_cast, seval, hx, ok, hh])) | ((with_reducible refine And.intro ?_ ?_); omega))
        (refine ⟨k + 1, by ((try dsimp only); omega), ?_, by (refine ⟨[], ?_, ?_, ?_, ?_⟩; (· ((first | simp (disch := omega) only [push_cast, seval, e, hh] | simp (disch := omega) only [push_cast, seval] | skip); (repeat' (first | exact trivial | exact rfl | refine And.intro ?_ ?_ | omega)))); (· ((first | simp (disch := omega) only [push_cast, seval, e, hh] | simp (disch := omega) only [push_cast, seval] | skip); (repeat' (first | exact trivial | exact rfl | refine And.intro ?_ ?_ | omega)))); (· exact rfl); (· (first | exact trivial | exact ⟨rfl, trivial⟩ | exact ⟨rfl, rfl, trivial⟩)))⟩)
        exact hlt
      | false =>
        repeat' (first | with_reducible (first | refine wA ?_ | refine wB ?_ | refine wC ?_ | refine w1 ?_ | refine w2 ?_ | refine w3 ?_ | refine w4 ?_ | refine w5 ?_ | refine w6 ?_ | refine w7 ?_ | refine w8 ?_ | refine wT ?_ | refine w9 ?_ | refine wE ?_ | refine wS ?_) | ((with_reducible refine hK _ ?_); clear hK K) | ((with_reducible refine PWp.condI ?_); refine ⟨_, rfl, fun hg => ?_, fun hg => ?_⟩ <;> first | (exact absurd hg (by decide)) | ((try simp only [Bool.not_true, Bool.not_false] at hg); (try simp only [hg]); (try simp only [push_cast] at hg); (try exact absurd trivial hg); (try (exfalso; omega)))) | ((with_reducible refine pops_guard0 ?_); refine ⟨_, rfl, fun K hK => ⟨rfl, ?_⟩⟩; (try simp (disch := omega) only [push_cast, seval, hx, ok, hh])) | ((with_reducible refine pops_plain fun K hK => ?_); simp (disch := omega) only [push_cast, seval, hx, ok, hh]) | ((with_reducible refine pops_guard ?_); refine ⟨_, rfl, fun K hK => ⟨_, rfl, fun hg => ?_, fun hg => ?_⟩⟩ <;> first | (exact absurd hg (by decide)) | ((try simp only [Bool.not_true, Bool.not_false] at hg); (try simp only [hg]); (try simp only [push_cast] at hg); (try exact absurd trivial hg); (try (exfalso; omega)); (try simp (disch := omega) only [push_cast, seval, hx, ok, hh]))) | ((with_reducible show pcall _ _ _ _ _ _); (first | (refine pcV (cf Tryz.func105) (sValsOk_p _ sd) ?_) | (refine pcV (cf Tryz.func252) (sL6Has_p _ _ sd) ?_) | (refine pcV (cf Tryz.func253) (sPowerOf_p _ sd) ?_)); (try simp (disch := omega) only [push_cast, seval, hx, ok, hh])) | ((with_reducible refine And.intro ?_ ?_); omega))
        (refine ⟨k + 1, by ((try dsimp only); omega), ?_, by (refine ⟨[], ?_, ?_, ?_, ?_⟩; (· ((first | simp (disch := omega) only [push_cast, seval, e, hh, Int.add_zero, Bool.false_eq_true] | simp (disch := omega) only [push_cast, seval] | skip); (repeat' (first | exact trivial | exact rfl | refine And.intro ?_ ?_ | omega)))); (· ((first | simp (disch := omega) only [push_cast, seval, e, hh, Int.add_zero, Bool.false_eq_true] | simp (disch := omega) only [push_cast, seval] | skip); (repeat' (first | exact trivial | exact rfl | refine And.intro ?_ ?_ | omega)))); (· exact rfl); (· (first | exact trivial | exact ⟨rfl, trivial⟩ | exact ⟨rfl, rfl, trivial⟩)))⟩)
        exact hlt
    obtain rfl : k = l.length := by omega
    repeat' (first | with_reducible (first | refine wA ?_ | refine wB ?_ | refine wC ?_ | refine w1 ?_ | refine w2 ?_ | refine w3 ?_ | refine w4 ?_ | refine w5 ?_ | refine w6 ?_ | refine w7 ?_ | refine w8 ?_ | refine wT ?_ | refine w9 ?_ | refine wE ?_ | refine wS ?_) | ((with_reducible refine hK _ ?_); clear hK K) | ((with_reducible refine PWp.condI ?_); refine ⟨_, rfl, fun hg => ?_, fun hg => ?_⟩ <;> first | (exact absurd hg (by decide)) | ((try simp only [Bool.not_true, Bool.not_false] at hg); (try simp only [hg]); (try simp only [push_cast] at hg); (try exact absurd trivial hg); (try (exfalso; omega)))) | ((with_reducible refine pops_guard0 ?_); refine ⟨_, rfl, fun K hK => ⟨rfl, ?_⟩⟩; (try simp (disch := omega) only [push_cast, seval, ok, e2])) | ((with_reducible refine pops_plain fun K hK => ?_); simp (disch := omega) only [push_cast, seval, ok, e2]) | ((with_reducible refine pops_guard ?_); refine ⟨_, rfl, fun K hK => ⟨_, rfl, fun hg => ?_, fun hg => ?_⟩⟩ <;> first | (exact absurd hg (by decide)) | ((try simp only [Bool.not_true, Bool.not_false] at hg); (try simp only [hg]); (try simp only [push_cast] at hg); (try exact absurd trivial hg); (try (exfalso; omega)); (try simp (disch := omega) only [push_cast, seval, ok, e2]))) | ((with_reducible show pcall _ _ _ _ _ _); (first | (refine pcV (cf Tryz.func105) (sValsOk_p _ sd) ?_) | (refine pcV (cf Tryz.func252) (sL6Has_p _ _ sd) ?_) | (refine pcV (cf Tryz.func253) (sPowerOf_p _ sd) ?_)); (try simp (disch := omega) only [push_cast, seval, ok, e2])) | ((with_reducible refine And.intro ?_ ?_); omega))
    ((with_reducible show PPostR _ _ _ _ _ _); refine finV ?_; (try simp only [push_cast, seval]))
    rw [List.take_length]
theorem iShowVals_p (l : List GVal) (hl : l.length ≤ 1099511627776) : PCalls Tryz.prog 191 [.sl 2 (l.map pVal)] [] (RV (.val (.string (showVals l)))) := by
  cases ok : valsOk l with
  | false =>
    have e : showVals l = ⟨#[]⟩ := by unfold showVals; rw [ok]; rfl
    rw [e]
    refine pcalls_ofR okP Tryz.func191 rfl ?_
    simp only [Tryz.f191, List.length_cons, List.length_nil, Nat.reduceAdd, Nat.reduceSub, List.replicate_succ, List.replicate_zero, List.cons_append, List.nil_append, List.length_map]
    repeat' (first | with_reducible (first | refine wA ?_ | refine wB ?_ | refine wC ?_) | with_reducible refine PWp.draw (id := 7) okP true [0, 1, 2, 5, 6, 3, 4, 7, 8, 9] (by kernel_rfl) ?_ | with_reducible (first | refine w1 ?_ | refine w2 ?_ | refine w3 ?_ | refine w4 ?_ | refine w5 ?_ | refine w6 ?_ | refine w7 ?_ | refine w8 ?_ | refine wT ?_ | refine w9 ?_ | refine wE ?_ | refine wS ?_) | ((with_reducible refine hK _ ?_); clear hK K) | ((with_reducible refine PWp.condI ?_); refine ⟨_, rfl, fun hg => ?_, fun hg => ?_⟩ <;> first | (exact absurd hg (by decide)) | ((try simp only [Bool.not_true, Bool.not_false] at hg); (try simp only [hg]); (try simp only [push_cast] at hg); (try exact absurd trivial hg); (try (exfalso; omega)))) | ((with_reducible refine pany_I ?_); refine ⟨_, rfl, fun K hK => ?_⟩) | ((with_reducible refine pops_plain fun K hK => ?_); simp (disch := omega) only [push_cast, seval, ok]) | ((first | ((with_reducible refine pD_y ?_ ?_); exact rfl) | ((with_reducible refine pD_x ?_ ?_); exact rfl)); simp (disch := omega) only [push_cast, seval, ok]) | ((with_reducible show pcall _ _ _ _ _ _); (first | (refine pcV (cf Tryz.func90) (iValsOk_p _ sd) ?_) | (refine pcV (cf Tryz.func90) (iValsOk_p _ sd) ?_) | (refine pcV (cf Tryz.func107) (iVar_p _) ?_)); (try simp (disch := omega) only [push_cast, seval, ok])) | ((with_reducible refine And.intro ?_ ?_); omega))
    ((with_reducible show PPostR _ _ _ _ _ _); refine finV ?_; (try simp only [push_cast, seval]))
  | true =>
    have h7 := (valsOk_iff.1 ok).2.2.2
    have e : showVals l = catF showVal (varS l.length) l := by unfold showVals; rw [if_pos ok]
    have h0 := varS_size l.length
    rw [e]
    refine pcalls_ofR okP Tryz.func191 rfl ?_
    simp only [Tryz.f191, List.length_cons, List.length_nil, Nat.reduceAdd, Nat.reduceSub, List.replicate_succ, List.replicate_zero, List.cons_append, List.nil_append, List.length_map]
    repeat' (first | with_reducible (first | refine wA ?_ | refine wB ?_ | refine wC ?_) | with_reducible refine PWp.draw (id := 7) okP true [0, 1, 2, 5, 6, 3, 4, 7, 8, 9] (by kernel_rfl) ?_ | with_reducible (first | refine w1 ?_ | refine w2 ?_ | refine w3 ?_ | refine w4 ?_ | refine w5 ?_ | refine w6 ?_ | refine w7 ?_ | refine w8 ?_ | refine wT ?_ | refine w9 ?_ | refine wE ?_ | refine wS ?_) | ((with_reducible refine hK _ ?_); clear hK K) | ((with_reducible refine PWp.condI ?_); refine ⟨_, rfl, fun hg => ?_, fun hg => ?_⟩ <;> first | (exact absurd hg (by decide)) | ((try simp only [Bool.not_true, Bool.not_false] at hg); (try simp only [hg]); (try simp only [push_cast] at hg); (try exact absurd trivial hg); (try (exfalso; omega)))) | ((with_reducible refine pany_I ?_); refine ⟨_, rfl, fun K hK => ?_⟩) | ((with_reducible refine pops_plain fun K hK => ?_); simp (disch := omega) only [push_cast, seval, ok]) | ((first | ((with_reducible refine pD_y ?_ ?_); exact rfl) | ((with_reducible refine pD_x ?_ ?_); exact rfl)); simp (disch := omega) only [push_cast, seval, ok]) | ((with_reducible show pcall _ _ _ _ _ _); (first | (refine pcV (cf Tryz.func90) (iValsOk_p _ sd) ?_) | (refine pcV (cf Tryz.func90) (iValsOk_p _ sd) ?_) | (refine pcV (cf Tryz.func107) (iVar_p _) ?_)); (try simp (disch := omega) only [push_cast, seval, ok])) | ((with_reducible refine And.intro ?_ ?_); omega))
    refine PWp.loopK (α := Nat) (fun k => [(3, .val (.string (catF showVal (varS l.length) (l.take k)))), (14, .val (.int .i64 (k : Int)))]) [0, 1, 4, 5, 6, 7, 8, 9, 10, 11, 15, 16, 17, 18, 19, 20, 21, 22, 23, 24, 25, 26, 27] (fun k => []) (fun k => k ≤ l.length) (fun k => l.length - k) (0) (Nat.zero_le _) (by (refine ⟨[], ?_, ?_, ?_, ?_⟩; (· ((try simp (disch := omega) only [push_cast, seval]); (repeat' (first | exact trivial | exact rfl | refine And.intro ?_ ?_ | omega)))); (· ((try simp (disch := omega) only [push_cast, seval]); (repeat' (first | exact trivial | exact rfl | refine And.intro ?_ ?_ | omega)))); (· exact rfl); (· (first | exact trivial | exact ⟨rfl, trivial⟩ | exact ⟨rfl, rfl, trivial⟩)))) ?_
    intro k ρ hI
    (try dsimp only at hI)
    refine PWp.at (tm' := ?_) (H' := ?_) ?_ ?_ ?_; rotate_left 2; (· ((try simp only [push_cast, seval]); exact rfl)); (· ((try dsimp only); exact rfl))
    by_cases hlt : k < l.length
    · obtain ⟨x, hx⟩ : ∃ x, l[k]? = some x := ⟨_, List.getElem?_eq_getElem hlt⟩
      have e := catF_take (f := showVal) (s := varS l.length) hx
      have e2 : showVal x = varS x.fId ++ varS x.fPower := rfl
      have hz := catF_size showVal_size (varS l.length) (l.take k)
      have hz2 : (l.take k).length ≤ 7 := by rw [List.length_take]; omega
      have g1 := varS_size x.fId; have g2 := varS_size x.fPower
      rw [e2, ← ByteArray.append_assoc] at e
      have z1 := ByteArray.size_append (a := catF showVal (varS l.length) (l.take k)) (b := varS x.fId)
      repeat' (first | with_reducible (first | refine wA ?_ | refine wB ?_ | refine wC ?_) | with_reducible refine PWp.draw (id := 7) okP true [0, 1, 2, 5, 6, 3, 4, 7, 8, 9] (by kernel_rfl) ?_ | with_reducible (first | refine w1 ?_ | refine w2 ?_ | refine w3 ?_ | refine w4 ?_ | refine w5 ?_ | refine w6 ?_ | refine w7 ?_ | refine w8 ?_ | refine wT ?_ | refine w9 ?_ | refine wE ?_ | refine wS ?_) | ((with_reducible refine hK _ ?_); clear hK K) | ((with_reducible refine PWp.condI ?_); refine ⟨_, rfl, fun hg => ?_, fun hg => ?_⟩ <;> first | (exact absurd hg (by decide)) | ((try simp only [Bool.not_true, Bool.not_false] at hg); (try simp only [hg]); (try simp only [push_cast] at hg); (try exact absurd trivial hg); (try (exfalso; omega)))) | ((with_reducible refine pany_I ?_); refine ⟨_, rfl, fun K hK => ?_⟩) | ((with_reducible refine pops_plain fun K hK => ?_); simp (disch := omega) only [push_cast, seval, hx]) | ((first | ((with_reducible refine pD_y ?_ ?_); exact rfl) | ((with_reducible refine pD_x ?_ ?_); exact rfl)); simp (disch := omega) only [push_cast, seval, hx]) | ((with_reducible show pcall _ _ _ _ _ _); (first | (refine pcV (cf Tryz.func90) (iValsOk_p _ sd) ?_) | (refine pcV (cf Tryz.func90) (iValsOk_p _ sd) ?_) | (refine pcV (cf Tryz.func107) (iVar_p _) ?_)); (try simp (disch := omega) only [push_cast, seval, hx])) | ((with_reducible refine And.intro ?_ ?_); omega))
      (refine ⟨k + 1, by ((try dsimp only); omega), ?_, by (refine ⟨[], ?_, ?_, ?_, ?_⟩; (· ((first | simp (disch := omega) only [push_cast, seval, e] | simp (disch := omega) only [push_cast, seval] | skip); (repeat' (first | exact trivial | exact rfl | refine And.intro ?_ ?_ | omega)))); (· ((first | simp (disch := omega) only [push_cast, seval, e] | simp (disch := omega) only [push_cast, seval] | skip); (repeat' (first | exact trivial | exact rfl | refine And.intro ?_ ?_ | omega)))); (· exact rfl); (· (first | exact trivial | exact ⟨rfl, trivial⟩ | exact ⟨rfl, rfl, trivial⟩)))⟩)
      exact hlt
    obtain rfl : k = l.length := by omega
    repeat' (first | with_reducible (first | refine wA ?_ | refine wB ?_ | refine wC ?_) | with_reducible refine PWp.draw (id := 7) okP true [0, 1, 2, 5, 6, 3, 4, 7, 8, 9] (by kernel_rfl) ?_ | with_reducible (first | refine w1 ?_ | refine w2 ?_ | refine w3 ?_ | refine w4 ?_ | refine w5 ?_ | refine w6 ?_ | refine w7 ?_ | refine w8 ?_ | refine wT ?_ | refine w9 ?_ | refine wE ?_ | refine wS ?_) | ((with_reducible refine hK _ ?_); clear hK K) | ((with_reducible refine PWp.condI ?_); refine ⟨_, rfl, fun hg => ?_, fun hg => ?_⟩ <;> first | (exact absurd hg (by decide)) | ((try simp only [Bool.not_true, Bool.not_false] at hg); (try simp only [hg]); (try simp only [push_cast] at hg); (try exact absurd trivial hg); (try (exfalso; omega)))) | ((with_reducible refine pany_I ?_); refine ⟨_, rfl, fun K hK => ?_⟩) | ((with_reducible refine pops_plain fun K hK => ?_); simp (disch := omega) only [push_cast, seval]) | ((first | ((with_reducible refine pD_y ?_ ?_); exact rfl) | ((with_reducible refine pD_x ?_ ?_); exact rfl)); simp (disch := omega) only [push_cast, seval]) | ((with_reducible show pcall _ _ _ _ _ _); (first | (refine pcV (cf Tryz.func90) (iValsOk_p _ sd) ?_) | (refine pcV (cf Tryz.func90) (iValsOk_p _ sd) ?_) | (refine pcV (cf Tryz.func107) (iVar_p _) ?_)); (try simp (disch := omega) only [push_cast, seval])) | ((with_reducible refine And.intro ?_ ?_); omega))
    ((with_reducible show PPostR _ _ _ _ _ _); refine finV ?_; (try simp only [push_cast, seval]))
    rw [List.take_length]
theorem sShowVals_p (l : List GVal) (hl : l.length ≤ 1099511627776) : PCalls Tryz.prog 184 [.sl 2 (l.map pVal)] [] (RV (.val (.string (showVals l)))) := by
  cases ok : valsOk l with
  | false =>
    have e : showVals l = ⟨#[]⟩ := by unfold showVals; rw [ok]; rfl
    rw [e]
    refine pcalls_ofR okP Tryz.func184 rfl ?_
    simp only [Tryz.f184, List.length_cons, List.length_nil, Nat.reduceAdd, Nat.reduceSub, List.replicate_succ, List.replicate_zero, List.cons_append, List.nil_append, List.length_map]
    repeat' (first | with_reducible (first | refine wA ?_ | refine wB ?_ | refine wC ?_) | with_reducible refine PWp.draw (id := 7) okP true [0, 1, 2, 3, 4, 5, 8, 9, 10, 11, 12, 6, 7, 13, 14, 15] (by kernel_rfl) ?_ | with_reducible (first | refine w1 ?_ | refine w2 ?_ | refine w3 ?_ | refine w4 ?_ | refine w5 ?_ | refine w6 ?_ | refine w7 ?_ | refine w8 ?_ | refine wT ?_ | refine w9 ?_ | refine wE ?_ | refine wS ?_) | ((with_reducible refine hK _ ?_); clear hK K) | ((with_reducible refine PWp.condI ?_); refine ⟨_, rfl, fun hg => ?_, fun hg => ?_⟩ <;> first | (exact absurd hg (by decide)) | ((try simp only [Bool.not_true, Bool.not_false] at hg); (try simp only [hg]); (try simp only [push_cast] at hg); (try exact absurd trivial hg); (try (exfalso; omega)))) | ((with_reducible refine pany_I ?_); refine ⟨_, rfl, fun K hK => ?_⟩) | ((with_reducible refine pops_plain fun K hK => ?_); simp (disch := omega) only [push_cast, seval, ok]) | ((first | ((with_reducible refine pD_y ?_ ?_); exact rfl) | ((with_reducible refine pD_x ?_ ?_); exact rfl)); simp (disch := omega) only [push_cast, seval, ok]) | ((with_reducible show pcall _ _ _ _ _ _); (first | (refine pcV (cf Tryz.func105) (sValsOk_p _ sd) ?_) | (refine pcV (cf Tryz.func112) (sVar_p _) ?_)); (try simp (disch := omega) only [push_cast, seval, ok])) | ((with_reducible refine And.intro ?_ ?_); omega))
    ((with_reducible show PPostR _ _ _ _ _ _); refine finV ?_; (try simp only [push_cast, seval]))
  | true =>
    have h7 := (valsOk_iff.1 ok).2.2.2
    have e : showVals l = catF showVal (varS l.length) l := by unfold showVals; rw [if_pos ok]
    have h0 := varS_size l.length
    rw [e]
    refine pcalls_ofR okP Tryz.func184 rfl ?_
    simp only [Tryz.f184, List.length_cons, List.length_nil, Nat.reduceAdd, Nat.reduceSub, List.replicate_succ, List.replicate_zero, List.cons_append, List.nil_append, List.length_map]
    repeat' (first | with_reducible (first | refine wA ?_ | refine wB ?_ | refine wC ?_) | with_reducible refine PWp.draw (id := 7) okP true [0, 1, 2, 3, 4, 5, 8, 9, 10, 11, 12, 6, 7, 13, 14, 15] (by kernel_rfl) ?_ | with_reducible (first | refine w1 ?_ | refine w2 ?_ | refine w3 ?_ | refine w4 ?_ | refine w5 ?_ | refine w6 ?_ | refine w7 ?_ | refine w8 ?_ | refine wT ?_ | refine w9 ?_ | refine wE ?_ | refine wS ?_) | ((with_reducible refine hK _ ?_); clear hK K) | ((with_reducible refine PWp.condI ?_); refine ⟨_, rfl, fun hg => ?_, fun hg => ?_⟩ <;> first | (exact absurd hg (by decide)) | ((try simp only [Bool.not_true, Bool.not_false] at hg); (try simp only [hg]); (try simp only [push_cast] at hg); (try exact absurd trivial hg); (try (exfalso; omega)))) | ((with_reducible refine pany_I ?_); refine ⟨_, rfl, fun K hK => ?_⟩) | ((with_reducible refine pops_plain fun K hK => ?_); simp (disch := omega) only [push_cast, seval, ok]) | ((first | ((with_reducible refine pD_y ?_ ?_); exact rfl) | ((with_reducible refine pD_x ?_ ?_); exact rfl)); simp (disch := omega) only [push_cast, seval, ok]) | ((with_reducible show pcall _ _ _ _ _ _); (first | (refine pcV (cf Tryz.func105) (sValsOk_p _ sd) ?_) | (refine pcV (cf Tryz.func112) (sVar_p _) ?_)); (try simp (disch := omega) only [push_cast, seval, ok])) | ((with_reducible refine And.intro ?_ ?_); omega))
    refine PWp.loopK (α := Nat) (fun k => [(3, .val (.string (catF showVal (varS l.length) (l.take k)))), (4, .val (.int .i64 (k : Int)))]) [1, 5, 6, 7, 8, 9, 10, 11, 12, 13, 14, 15, 16, 17, 18, 19, 20, 21, 22, 23, 24, 25, 26, 27, 28, 29, 30, 31] (fun k => []) (fun k => k ≤ l.length) (fun k => l.length - k) (0) (Nat.zero_le _) (by (refine ⟨[], ?_, ?_, ?_, ?_⟩; (· ((try simp (disch := omega) only [push_cast, seval]); (repeat' (first | exact trivial | exact rfl | refine And.intro ?_ ?_ | omega)))); (· ((try simp (disch := omega) only [push_cast, seval]); (repeat' (first | exact trivial | exact rfl | refine And.intro ?_ ?_ | omega)))); (· exact rfl); (· (first | exact trivial | exact ⟨rfl, trivial⟩ | exact ⟨rfl, rfl, trivial⟩)))) ?_
    intro k ρ hI
    (try dsimp only at hI)
    refine PWp.at (tm' := ?_) (H' := ?_) ?_ ?_ ?_; rotate_left 2; (· ((try simp only [push_cast, seval]); exact rfl)); (· ((try dsimp only); exact rfl))
    by_cases hlt : k < l.length
    · obtain ⟨x, hx⟩ : ∃ x, l[k]? = some x := ⟨_, List.getElem?_eq_getElem hlt⟩
      have e := catF_take (f := showVal) (s := varS l.length) hx
      have e2 : showVal x = varS x.fId ++ varS x.fPower := rfl
      have hz := catF_size showVal_size (varS l.length) (l.take k)
      have hz2 : (l.take k).length ≤ 7 := by rw [List.length_take]; omega
      have g1 := varS_size x.fId; have g2 := varS_size x.fPower
      rw [e2, ← ByteArray.append_assoc] at e
      have z1 := ByteArray.size_append (a := catF showVal (varS l.length) (l.take k)) (b := varS x.fId)
      repeat' (first | with_reducible (first | refine wA ?_ | refine wB ?_ | refine wC ?_) | with_reducible refine PWp.draw (id := 7) okP true [0, 1, 2, 3, 4, 5, 8, 9, 10, 11, 12, 6, 7, 13, 14, 15] (by kernel_rfl) ?_ | with_reducible (first | refine w1 ?_ | refine w2 ?_ | refine w3 ?_ | refine w4 ?_ | refine w5 ?_ | refine w6 ?_ | refine w7 ?_ | refine w8 ?_ | refine wT ?_ | refine w9 ?_ | refine wE ?_ | refine wS ?_) | ((with_reducible refine hK _ ?_); clear hK K) | ((with_reducible refine PWp.condI ?_); refine ⟨_, rfl, fun hg => ?_, fun hg => ?_⟩ <;> first | (exact absurd hg (by decide)) | ((try simp only [Bool.not_true, Bool.not_false] at hg); (try simp only [hg]); (try simp only [push_cast] at hg); (try exact absurd trivial hg); (try (exfalso; omega)))) | ((with_reducible refine pany_I ?_); refine ⟨_, rfl, fun K hK => ?_⟩) | ((with_reducible refine pops_plain fun K hK => ?_); simp (disch := omega) only [push_cast, seval, hx]) | ((first | ((with_reducible refine pD_y ?_ ?_); exact rfl) | ((with_reducible refine pD_x ?_ ?_); exact rfl)); simp (disch := omega) only [push_cast, seval, hx]) | ((with_reducible show pcall _ _ _ _ _ _); (first | (refine pcV (cf Tryz.func105) (sValsOk_p _ sd) ?_) | (refine pcV (cf Tryz.func112) (sVar_p _) ?_)); (try simp (disch := omega) only [push_cast, seval, hx])) | ((with_reducible refine And.intro ?_ ?_); omega))
      (refine ⟨k + 1, by ((try dsimp only); omega), ?_, by (refine ⟨[], ?_, ?_, ?_, ?_⟩; (· ((first | simp (disch := omega) only [push_cast, seval, e] | simp (disch := omega) only [push_cast, seval] | skip); (repeat' (first | exact trivial | exact rfl | refine And.intro ?_ ?_ | omega)))); (· ((first | simp (disch := omega) only [push_cast, seval, e] | simp (disch := omega) only [push_cast, seval] | skip); (repeat' (first | exact trivial | exact rfl | refine And.intro ?_ ?_ | omega)))); (· exact rfl); (· (first | exact trivial | exact ⟨rfl, trivial⟩ | exact ⟨rfl, rfl, trivial⟩)))⟩)
      exact hlt
    obtain rfl : k = l.length := by omega
    repeat' (first | with_reducible (first | refine wA ?_ | refine wB ?_ | refine wC ?_) | with_reducible refine PWp.draw (id := 7) okP true [0, 1, 2, 3, 4, 5, 8, 9, 10, 11, 12, 6, 7, 13, 14, 15] (by kernel_rfl) ?_ | with_reducible (first | refine w1 ?_ | refine w2 ?_ | refine w3 ?_ | refine w4 ?_ | refine w5 ?_ | refine w6 ?_ | refine w7 ?_ | refine w8 ?_ | refine wT ?_ | refine w9 ?_ | refine wE ?_ | refine wS ?_) | ((with_reducible refine hK _ ?_); clear hK K) | ((with_reducible refine PWp.condI ?_); refine ⟨_, rfl, fun hg => ?_, fun hg => ?_⟩ <;> first | (exact absurd hg (by decide)) | ((try simp only [Bool.not_true, Bool.not_false] at hg); (try simp only [hg]); (try simp only [push_cast] at hg); (try exact absurd trivial hg); (try (exfalso; omega)))) | ((with_reducible refine pany_I ?_); refine ⟨_, rfl, fun K hK => ?_⟩) | ((with_reducible refine pops_plain fun K hK => ?_); simp (disch := omega) only [push_cast, seval]) | ((first | ((with_reducible refine pD_y ?_ ?_); exact rfl) | ((with_reducible refine pD_x ?_ ?_); exact rfl)); simp (disch := omega) only [push_cast, seval]) | ((with_reducible show pcall _ _ _ _ _ _); (first | (refine pcV (cf Tryz.func105) (sValsOk_p _ sd) ?_) | (refine pcV (cf Tryz.func112) (sVar_p _) ?_)); (try simp (disch := omega) only [push_cast, seval])) | ((with_reducible refine And.intro ?_ ?_); omega))
    ((with_reducible show PPostR _ _ _ _ _ _); refine finV ?_; (try simp only [push_cast, seval]))
    rw [List.take_length]
theorem iValsHash_p (l : List GVal) (hl : l.length ≤ 1099511627776) : PCalls Tryz.prog 92 [.sl 2 (l.map pVal)] [] (RV (.val (.string (valsHash l)))) := by
  have hz := showVals_size l
  cases ok : valsOk l with
  | false =>
    rw [valsHash_no ok]
    refine pcalls_ofR okP Tryz.func92 rfl ?_
    simp only [Tryz.f92, List.length_cons, List.length_nil, Nat.reduceAdd, Nat.reduceSub, List.replicate_succ, List.replicate_zero, List.cons_append, List.nil_append, List.length_map]
    repeat' (first | with_reducible (first | refine wA ?_ | refine wB ?_ | refine wC ?_ | refine w1 ?_ | refine w2 ?_ | refine w3 ?_ | refine w4 ?_ | refine w5 ?_ | refine w6 ?_ | refine w7 ?_ | refine w8 ?_ | refine wT ?_ | refine w9 ?_ | refine wE ?_ | refine wS ?_) | ((with_reducible refine hK _ ?_); clear hK K) | ((with_reducible refine PWp.condI ?_); refine ⟨_, rfl, fun hg => ?_, fun hg => ?_⟩ <;> first | (exact absurd hg (by decide)) | ((try simp only [Bool.not_true, Bool.not_false] at hg); (try simp only [hg]); (try simp only [push_cast] at hg); (try exact absurd trivial hg); (try (exfalso; omega)))) | ((with_reducible refine pops_plain fun K hK => ?_); simp (disch := omega) only [push_cast, seval, ok]) | ((with_reducible show pcall _ _ _ _ _ _); (first | (refine pcV (cf Tryz.func90) (iValsOk_p _ sd) ?_) | (refine pcV (cf Tryz.func90) (iValsOk_p _ sd) ?_) | (refine pcV (cf Tryz.func188) (iShort_p _ sd) ?_) | (refine pcV (cf Tryz.func191) (iShowVals_p _ sd) ?_)); (try simp (disch := omega) only [push_cast, seval, ok])) | ((with_reducible refine And.intro ?_ ?_); omega))
    ((with_reducible show PPostR _ _ _ _ _ _); refine finV ?_; (try simp only [push_cast, seval]))
  | true =>
    have e : valsHash l = short (showVals l) := by unfold valsHash; rw [if_pos ok]
    rw [e]
    refine pcalls_ofR okP Tryz.func92 rfl ?_
    simp only [Tryz.f92, List.length_cons, List.length_nil, Nat.reduceAdd, Nat.reduceSub, List.replicate_succ, List.replicate_zero, List.cons_append, List.nil_append, List.length_map]
    repeat' (first | with_reducible (first | refine wA ?_ | refine wB ?_ | refine wC ?_ | refine w1 ?_ | refine w2 ?_ | refine w3 ?_ | refine w4 ?_ | refine w5 ?_ | refine w6 ?_ | refine w7 ?_ | refine w8 ?_ | refine wT ?_ | refine w9 ?_ | refine wE ?_ | refine wS ?_) | ((with_reducible refine hK _ ?_); clear hK K) | ((with_reducible refine PWp.condI ?_); refine ⟨_, rfl, fun hg => ?_, fun hg => ?_⟩ <;> first | (exact absurd hg (by decide)) | ((try simp only [Bool.not_true, Bool.not_false] at hg); (try simp only [hg]); (try simp only [push_cast] at hg); (try exact absurd trivial hg); (try (exfalso; omega)))) | ((with_reducible refine pops_plain fun K hK => ?_); simp (disch := omega) only [push_cast, seval, ok]) | ((with_reducible show pcall _ _ _ _ _ _); (first | (refine pcV (cf Tryz.func90) (iValsOk_p _ sd) ?_) | (refine pcV (cf Tryz.func90) (iValsOk_p _ sd) ?_) | (refine pcV (cf Tryz.func188) (iShort_p _ sd) ?_) | (refine pcV (cf Tryz.func191) (iShowVals_p _ sd) ?_)); (try simp (disch := omega) only [push_cast, seval, ok])) | ((with_reducible refine And.intro ?_ ?_); omega))
    ((with_reducible show PPostR _ _ _ _ _ _); refine finV ?_; (try simp only [push_cast, seval]))
theorem sValsHash_p (l : List GVal) (hl : l.length ≤ 1099511627776) : PCalls Tryz.prog 83 [.sl 2 (l.map pVal)] [] (RV (.val (.string (valsHash l)))) := by
  have hz := showVals_size l
  cases ok : valsOk l with
  | false =>
    rw [valsHash_no ok]
    refine pcalls_ofR okP Tryz.func83 rfl ?_
    simp only [Tryz.f83, List.length_cons, List.length_nil, Nat.reduceAdd, Nat.reduceSub, List.replicate_succ, List.replicate_zero, List.cons_append, List.nil_append, List.length_map]
    repeat' (first | with_reducible (first | refine wA ?_ | refine wB ?_ | refine wC ?_ | refine w1 ?_ | refine w2 ?_ | refine w3 ?_ | refine w4 ?_ | refine w5 ?_ | refine w6 ?_ | refine w7 ?_ | refine w8 ?_ | refine wT ?_ | refine w9 ?_ | refine wE ?_ | refine wS ?_) | ((with_reducible refine hK _ ?_); clear hK K) | ((with_reducible refine PWp.condI ?_); refine ⟨_, rfl, fun hg => ?_, fun hg => ?_⟩ <;> first | (exact absurd hg (by decide)) | ((try simp only [Bool.not_true, Bool.not_false] at hg); (try simp only [hg]); (try simp only [push_cast] at hg); (try exact absurd trivial hg); (try (exfalso; omega)))) | ((with_reducible refine pops_plain fun K hK => ?_); simp (disch := omega) only [push_cast, seval, ok]) | ((with_reducible show pcall _ _ _ _ _ _); (first | (refine pcV (cf Tryz.func105) (sValsOk_p _ sd) ?_) | (refine pcV (cf Tryz.func173) (sShort_p _ sd) ?_) | (refine pcV (cf Tryz.func184) (sShowVals_p _ sd) ?_)); (try simp (disch := omega) only [push_cast, seval, ok])) | ((with_reducible refine And.intro ?_ ?_); omega))
    ((with_reducible show PPostR _ _ _ _ _ _); refine finV ?_; (try simp only [push_cast, seval]))
  | true =>
    have e : valsHash l = short (showVals l) := by unfold valsHash; rw [if_pos ok]
    rw [e]
    refine pcalls_ofR okP Tryz.func83 rfl ?_
    simp only [Tryz.f83, List.length_cons, List.length_nil, Nat.reduceAdd, Nat.reduceSub, List.replicate_succ, List.replicate_zero, List.cons_append, List.nil_append, List.length_map]
    repeat' (first | with_reducible (first | refine wA ?_ | refine wB ?_ | refine wC ?_ | refine w1 ?_ | refine w2 ?_ | refine w3 ?_ | refine w4 ?_ | refine w5 ?_ | refine w6 ?_ | refine w7 ?_ | refine w8 ?_ | refine wT ?_ | refine w9 ?_ | refine wE ?_ | refine wS ?_) | ((with_reducible refine hK _ ?_); clear hK K) | ((with_reducible refine PWp.condI ?_); refine ⟨_, rfl, fun hg => ?_, fun hg => ?_⟩ <;> first | (exact absurd hg (by decide)) | ((try simp only [Bool.not_true, Bool.not_false] at hg); (try simp only [hg]); (try simp only [push_cast] at hg); (try exact absurd trivial hg); (try (exfalso; omega)))) | ((with_reducible refine pops_plain fun K hK => ?_); simp (disch := omega) only [push_cast, seval, ok]) | ((with_reducible show pcall _ _ _ _ _ _); (first | (refine pcV (cf Tryz.func105) (sValsOk_p _ sd) ?_) | (refine pcV (cf Tryz.func173) (sShort_p _ sd) ?_) | (refine pcV (cf Tryz.func184) (sShowVals_p _ sd) ?_)); (try simp (disch := omega) only [push_cast, seval, ok])) | ((with_reducible refine And.intro ?_ ?_); omega))
    ((with_reducible show PPostR _ _ _ _ _ _); refine finV ?_; (try simp only [push_cast, seval]))
end Go.Proofs.YtiboajlnjldalaaGreatDoor
namespace Go.Proofs.YtiboajlnjldalaaGreatDoor
set_option linter.unusedSimpArgs false
set_option linter.unusedVariables false
open Go.RowKit Go.Sort
theorem Step.cut {M : Mem} {h : Home} {H : Hp} {w : World} (I : Inv M h H w) {b sz : Nat} {e : TypeId} {es : List (List PV)} {oo : Option Addr} {n c k : Nat} (hH : H[b]? = some (some (.row e sz es))) (hb : h b = some (.slice oo n c)) (h2 : k ≤ es.length) :
    Step M h H w M (upd h H.length (.slice oo k c)) (H.set b none ++ [some (.row e sz (es.take k))]) w := by
  obtain ⟨v0, q0, -, us, q1, q2, q3, q4⟩ := I.blk b _ hH
  rw [hb] at q0
  cases q0
  have I0 := I.kill b
  have hkb : ∀ j, hblk (.slice oo k c) = some j → ¬ Homes h (H.set b none) j ∧ ∀ q, M j q = none := fun j hj => by
    have hj' : hblk (.slice oo n c) = some j := by cases oo with | none => cases hj | some ad => exact hj
    refine ⟨fun ⟨d, B, u, g1, g2, g3⟩ => ?_, I.sep j ⟨b, _, _, hH, hb, hj'⟩⟩
    by_cases q : b = d
    · subst q
      rw [List.getElem?_set] at g1
      simp at g1
    · rw [List.getElem?_set_ne q] at g1
      exact q (I.inj b d _ B _ u j hH g1 hb g2 hj' g3)
  have hlen : (H.set b none).length = H.length := by simp
  have hus : us.length = es.length * sz := q1.1
  have hks : k * sz ≤ es.length * sz := Nat.mul_le_mul_right _ h2
  have hown : w.ownsRow 0 e sz (.slice oo k c) (es.take k).length (us.take (k * sz)) := by
    have hkl : (es.take k).length = k := by simp; omega
    rw [hkl]
    refine ⟨by simp; omega, ?_⟩
    rcases q1.2 with ⟨g1, g2⟩ | ⟨g, cap, cur, g1, g2, g3, g4, g5, g6, g7⟩
    · left
      injection g1 with a1 a2 a3
      subst a1
      subst a3
      have : k = 0 := by omega
      subst this
      exact ⟨rfl, rfl⟩
    · right
      cases g1
      exact ⟨g, _, cur, rfl, g2, g3, by omega, g5, g6, by rw [← g7, List.take_take, Nat.min_eq_left hks]⟩
  have hin := I0.push (B := .row e sz (es.take k)) (v := .slice oo k c) ⟨⟨_, _, _, rfl⟩, _, hown, fun row hr => q2 row (List.mem_of_mem_take hr), fun u hu => q3 u (List.mem_of_mem_take hu), fun i j row pv u g1 g2 g3 => by
    rw [List.getElem?_take] at g1 g3
    split at g1
    · split at g3
      · exact (q4 i j row pv u g1 g2 g3).mono (.refl _) (upd_le I0.len)
      · cases g3
    · cases g1⟩ hkb
  rw [hlen] at hin
  refine ⟨.refl _, upd_le I.len, hin, .refl, fun j q => ?_, fun _ _ _ q => .inl q⟩
  rw [← hlen] at q
  rcases Homes.push q with q | q
  · exact .inl q.kill
  · exact .inl ⟨b, _, _, hH, hb, by cases oo with | none => cases q | some ad => exact q⟩
theorem ints_us {M : Mem} {h : Home} {xs : List Int} {us : List Value} (hl : us.length = xs.length) (q : ∀ (i j : Nat) (row : List PV) (pv : PV) (u : Value), (xs.map pInt)[i]? = some row → row[j]? = some pv → us[i * 1 + j]? = some u → VR M h pv u) : us = xs.map (Value.int .i64) := by
  apply List.ext_getElem?
  intro i
  by_cases hi : i < xs.length
  · obtain ⟨x, hx⟩ : ∃ x, xs[i]? = some x := ⟨_, List.getElem?_eq_getElem hi⟩
    obtain ⟨u, hu⟩ : ∃ u, us[i]? = some u := ⟨_, List.getElem?_eq_getElem (by omega)⟩
    have := q i 0 (pInt x) (.val (.int .i64 x)) u (by rw [List.getElem?_map, hx]; rfl) rfl (by simpa using hu)
    rw [hu, vr_val this, List.getElem?_map, hx]
    rfl
  · rw [List.getElem?_eq_none (by omega), List.getElem?_eq_none (by simp; omega)]
theorem row_ints {M : Mem} {h : Home} {w : World} {t : TypeId} {v : Value} {ys : List Int} (hv : ∃ o n c, v = .slice o n c) (ho : w.ownsRow 0 t 1 v ys.length (ys.map (Value.int .i64))) : BR M h w v (.row t 1 (ys.map pInt)) := by
  refine ⟨hv, ys.map (Value.int .i64), by rw [List.length_map]; exact ho, fun row hr => by obtain ⟨x, _, rfl⟩ := List.mem_map.1 hr; rfl, fun u hu => by obtain ⟨x, _, rfl⟩ := List.mem_map.1 hu; rfl, fun i j row pv u a b d => ?_⟩
  rw [List.getElem?_map, Option.map_eq_some_iff] at a
  obtain ⟨x, a, rfl⟩ := a
  cases j with
  | succ j => simp [pInt] at b
  | zero =>
    simp [pInt] at b
    subst b
    rw [Nat.mul_one, Nat.add_zero, List.getElem?_map, a] at d
    cases d
    exact .val _
section
variable {P : Program} {f : FuncId}
def sortI (xs : List Int) : List Int := xs.mergeSort fun x y => decide (x ≤ y)
theorem pcalls_sort (hs : ∀ (blk cap : Nat) (zs : List Int) (w : World), Holds (Value.int .i64) w blk 0 zs.toArray → blk < w.heap.size → zs.length < 4611686018427387904 → Calls P f #[.slice (some ⟨blk, 0, none⟩) zs.length cap] w fun e w' => e = .returned (.tuple #[]) ∧ ∃ n os, w' = grow (putRow (Value.int .i64) (Sort.ahead w n) blk 0 (sortI zs).toArray) os)
    (hn : ∀ w : World, Calls P f #[.slice none 0 0] w fun e w' => e = .returned (.tuple #[]) ∧ w' = w) (t : TypeId) (xs : List Int) (hl : xs.length ≤ 1099511627776) :
    PCalls P f [.own 0] [some (.row t 1 (xs.map pInt))] (RH (.tup []) [some (.row t 1 ((sortI xs).map pInt))]) := by
  intro M h w vs I rv
  obtain ⟨v, rfl⟩ : ∃ v, vs = #[v] := ⟨vs[0]'(by have := rv.1; simp at this; omega), by have := rv.1; simp at this; exact Array.ext (by simp; omega) fun i h1 h2 => by simp at h2; subst h2; rfl⟩
  have r := rv.2 0 _ v rfl rfl
  cases r with
  | own _ oo n c hb =>
    obtain ⟨v0, q0, -, us, q1, q2, q3, q4⟩ := I.blk 0 _ rfl
    rw [hb] at q0
    cases q0
    rw [List.length_map] at q1
    have hus := ints_us (by have := q1.1; simpa using this) q4
    subst hus
    have hsl : (sortI xs).length = xs.length := List.length_mergeSort xs
    by_cases hv : (Value.slice oo n c) = .slice none 0 0
    · rw [hv] at q1 hb ⊢
      have hx : xs = [] := by
        rcases q1.2 with ⟨_, g2⟩ | ⟨g, cap, cur, g1, _⟩
        · exact List.length_eq_zero_iff.1 (by simpa using g2)
        · cases g1
      subst hx
      exact (hn w).mono fun e w' ⟨e1, e2⟩ => by subst e2; exact ⟨_, M, h, .tup [], _, e1, ⟨rfl, by simp [sortI]⟩, .tup [] #[] rfl (fun i pv v a => by simp at a), .refl I⟩
    · obtain ⟨g, cap, e1, g1, g2, g3, g4, g5, g6⟩ := Lib.holds_of_ownsRow q1 hv
      rw [e1] at q1 hb ⊢
      have hc := hs g cap xs w g6 g2 (by omega)
      refine hc.mono fun e w' ⟨e2, nn, os, e3⟩ => ?_
      rcases q1.2 with ⟨g1', _⟩ | ⟨g', cap', cur, hv', hbase, hbk, k1, k2, k3, k4⟩
      · cases g1'
      cases hv'
      have hs2 := ownsRow_sortedI (n := nn) (os := os) (ts := sortI xs) hsl hbase hbk k1 k2 k3
      rw [← e3] at hs2
      exact ⟨_, M, h, .tup [], _, e2, ⟨rfl, rfl⟩, .tup [] #[] rfl (fun i pv v a => by simp at a), Step.turn I (b := 0) rfl hb rfl (by rw [e3]; exact grownBy_sortedI _) (row_ints ⟨_, _, _, rfl⟩ (by rw [hsl]; exact hs2))⟩
theorem pcalls_compact (hs : ∀ (blk cap : Nat) (zs : List Int) (w : World), Holds (Value.int .i64) w blk 0 zs.toArray → zs.length ≤ 9223372036854775807 → zs.length ≤ cap → Calls P f #[.slice (some ⟨blk, 0, none⟩) zs.length cap] w fun e w' => e = .returned (.slice (some ⟨blk, 0, none⟩) (Lib.compact zs).length cap) ∧ ∃ q, w' = putRow (Value.int .i64) (Sort.ahead w q) blk 0 (Lib.compact zs ++ List.replicate (zs.length - (Lib.compact zs).length) 0).toArray)
    (hn : ∀ w : World, Calls P f #[.slice none 0 0] w fun e w' => e = .returned (.slice none 0 0) ∧ w' = w) (t : TypeId) (xs : List Int) (hl : xs.length ≤ 1099511627776) :
    PCalls P f [.own 0] [some (.row t 1 (xs.map pInt))] (RH (.own 1) [none, some (.row t 1 ((Lib.compact xs).map pInt))]) := by
  intro M h w vs I rv
  obtain ⟨v, rfl⟩ : ∃ v, vs = #[v] := ⟨vs[0]'(by have := rv.1; simp at this; omega), by have := rv.1; simp at this; exact Array.ext (by simp; omega) fun i h1 h2 => by simp at h2; subst h2; rfl⟩
  have r := rv.2 0 _ v rfl rfl
  cases r with
  | own _ oo n c hb =>
    obtain ⟨v0, q0, -, us, q1, q2, q3, q4⟩ := I.blk 0 _ rfl
    rw [hb] at q0
    cases q0
    rw [List.length_map] at q1
    have hus := ints_us (by have := q1.1; simpa using this) q4
    subst hus
    have hcl := Lib.compact_length_le xs
    by_cases hv : (Value.slice oo n c) = .slice none 0 0
    · rw [hv] at q1 hb ⊢
      have hx : xs = [] := by
        rcases q1.2 with ⟨_, g2⟩ | ⟨g, cap, cur, g1, _⟩
        · exact List.length_eq_zero_iff.1 (by simpa using g2)
        · cases g1
      subst hx
      refine (hn w).mono fun e w' ⟨e1, e2⟩ => ?_
      subst e2
      exact ⟨_, M, upd h 1 (.slice none 0 0), .own 1, _, e1, ⟨rfl, rfl⟩, .own _ _ _ _ upd_self, Step.cut (k := 0) I (b := 0) rfl hb (Nat.zero_le _)⟩
    · obtain ⟨g, cap, e1, g1, g2, g3, g4, g5, g6⟩ := Lib.holds_of_ownsRow q1 hv
      rw [e1] at q1 hb ⊢
      have hc := hs g cap xs w g6 (by omega) g3
      refine hc.mono fun e w' ⟨e2, q, e3⟩ => ?_
      have hyl : (Lib.compact xs ++ List.replicate (xs.length - (Lib.compact xs).length) 0).length = xs.length := by simp; omega
      have hs2 := Lib.ownsRow_putRow (q := q) (k := xs.length) q1 hyl (Nat.le_refl _)
      rw [← e3, List.take_of_length_le (by omega)] at hs2
      have st : Step M h _ w M h _ w' := Step.turn I (b := 0) rfl hb rfl (by rw [e3]; exact grownBy_sortedI (os := #[]) _ |> fun z => by simpa using z) (row_ints (M := M) (h := h) ⟨_, _, _, rfl⟩ (by rw [hyl]; exact hs2))
      have st2 := Step.cut (k := (Lib.compact xs).length) st.inv (b := 0) rfl hb (by rw [List.length_map, hyl]; exact hcl)
      rw [← List.map_take, List.take_left' rfl] at st2
      exact ⟨_, M, _, .own 1, _, e2, ⟨rfl, rfl⟩, .own _ _ _ _ upd_self, st.trans st2⟩
end
end Go.Proofs.YtiboajlnjldalaaGreatDoor
namespace Go.Proofs
open Go.Shelf
def Tryz.laysSort_ren : Go.Shelf.Ren := ⟨fun | 189 => 230 | 125 => 262 | 257 => 261 | 128 => 277 | 129 => 278 | 294 => 268 | 295 => 269 | 296 => 270 | 297 => 271 | 298 => 272 | 299 => 273 | 216 => 274 | 300 => 275 | 301 => 276 | 328 => 287 | 329 => 288 | 330 => 289 | 331 => 290 | 332 => 291 | 215 => 292 | 343 => 296 | n => n, fun | 28 => 106 | 3 => 3 | 46 => 228 | 0 => 0 | 51 => 261 | 53 => 300 | 4 => 4 | 183 => 291 | 182 => 290 | 131 => 296 | 5 => 5 | 9 => 9 | 218 => 306 | 222 => 310 | 228 => 314 | 229 => 238 | n => n, fun | n => n⟩
theorem Tryz.laysSort : Go.Proofs.Lays.n189 Tryz.prog Tryz.laysSort_ren := {
  mixed := by kernel_rfl
  f125 := Tryz.func262.trans (congrArg some (by kernel_rfl))
  f128 := Tryz.func277.trans (congrArg some (by kernel_rfl))
  f129 := Tryz.func278.trans (congrArg some (by kernel_rfl))
  f189 := Tryz.func230.trans (congrArg some (by kernel_rfl))
  f215 := Tryz.func292.trans (congrArg some (by kernel_rfl))
  f216 := Tryz.func274.trans (congrArg some (by kernel_rfl))
  f257 := Tryz.func261.trans (congrArg some (by kernel_rfl))
  f294 := Tryz.func268.trans (congrArg some (by kernel_rfl))
  f295 := Tryz.func269.trans (congrArg some (by kernel_rfl))
  f296 := Tryz.func270.trans (congrArg some (by kernel_rfl))
  f297 := Tryz.func271.trans (congrArg some (by kernel_rfl))
  f298 := Tryz.func272.trans (congrArg some (by kernel_rfl))
  f299 := Tryz.func273.trans (congrArg some (by kernel_rfl))
  f300 := Tryz.func275.trans (congrArg some (by kernel_rfl))
  f301 := Tryz.func276.trans (congrArg some (by kernel_rfl))
  f328 := Tryz.func287.trans (congrArg some (by kernel_rfl))
  f329 := Tryz.func288.trans (congrArg some (by kernel_rfl))
  f330 := Tryz.func289.trans (congrArg some (by kernel_rfl))
  f331 := Tryz.func290.trans (congrArg some (by kernel_rfl))
  f332 := Tryz.func291.trans (congrArg some (by kernel_rfl))
  f343 := Tryz.func296.trans (congrArg some (by kernel_rfl))
  t0 := Tryz.underlying0
  a0 := Tryz.isAgg0
  z0 := Tryz.sizeOf0
  v0 := Tryz.zeroValue0
  t3 := Tryz.underlying3
  a3 := Tryz.isAgg3
  z3 := Tryz.sizeOf3
  v3 := Tryz.zeroValue3
  t4 := Tryz.underlying4
  a4 := Tryz.isAgg4
  z4 := Tryz.sizeOf4
  v4 := Tryz.zeroValue4
  t5 := Tryz.underlying5
  a5 := Tryz.isAgg5
  z5 := Tryz.sizeOf5
  v5 := Tryz.zeroValue5
  t9 := Tryz.underlying9
  a9 := Tryz.isAgg9
  z9 := Tryz.sizeOf9
  v9 := Tryz.zeroValue9
  t28 := Tryz.underlying106
  a28 := Tryz.isAgg106
  z28 := Tryz.sizeOf106
  v28 := Tryz.zeroValue106
  t46 := Tryz.underlying228
  a46 := Tryz.isAgg228
  z46 := Tryz.sizeOf228
  v46 := Tryz.zeroValue228
  t51 := Tryz.underlying261
  a51 := Tryz.isAgg261
  z51 := Tryz.sizeOf261
  v51 := Tryz.zeroValue261
  t53 := Tryz.underlying300
  a53 := Tryz.isAgg300
  z53 := Tryz.sizeOf300
  v53 := Tryz.zeroValue300
  t131 := Tryz.underlying296
  a131 := Tryz.isAgg296
  z131 := Tryz.sizeOf296
  v131 := Tryz.zeroValue296
  t182 := Tryz.underlying290
  a182 := Tryz.isAgg290
  z182 := Tryz.sizeOf290
  v182 := Tryz.zeroValue290
  t183 := Tryz.underlying291
  a183 := Tryz.isAgg291
  z183 := Tryz.sizeOf291
  v183 := Tryz.zeroValue291
  t218 := Tryz.underlying306
  a218 := Tryz.isAgg306
  z218 := Tryz.sizeOf306
  v218 := Tryz.zeroValue306
  t222 := Tryz.underlying310
  a222 := Tryz.isAgg310
  z222 := Tryz.sizeOf310
  v222 := Tryz.zeroValue310
  t228 := Tryz.underlying314
  a228 := Tryz.isAgg314
  z228 := Tryz.sizeOf314
  v228 := Tryz.zeroValue314
  t229 := Tryz.underlying238
  a229 := Tryz.isAgg238
  z229 := Tryz.sizeOf238
  v229 := Tryz.zeroValue238 }
def Tryz.laysCompact_ren : Go.Shelf.Ren := ⟨fun | 20 => 251 | n => n, fun | 22 => 106 | 3 => 3 | 4 => 4 | 0 => 0 | n => n, fun | n => n⟩
theorem Tryz.laysCompact : Go.Proofs.Lays2.n20 Tryz.prog Tryz.laysCompact_ren := {
  mixed := by kernel_rfl
  f20 := Tryz.func251.trans (congrArg some (by kernel_rfl))
  t0 := Tryz.underlying0
  a0 := Tryz.isAgg0
  z0 := Tryz.sizeOf0
  v0 := Tryz.zeroValue0
  t3 := Tryz.underlying3
  a3 := Tryz.isAgg3
  z3 := Tryz.sizeOf3
  v3 := Tryz.zeroValue3
  t4 := Tryz.underlying4
  a4 := Tryz.isAgg4
  z4 := Tryz.sizeOf4
  v4 := Tryz.zeroValue4
  t22 := Tryz.underlying106
  a22 := Tryz.isAgg106
  z22 := Tryz.sizeOf106
  v22 := Tryz.zeroValue106
  i3 := by kernel_rfl }
end Go.Proofs
namespace Go.Proofs.YtiboajlnjldalaaGreatDoor
set_option linter.unusedSimpArgs false
set_option linter.unusedVariables false
open Go.RowKit
theorem sortI_p (xs : List Int) (hl : xs.length ≤ 1099511627776) : PCalls Tryz.prog 230 [.own 0] [some (.row 3 1 (xs.map pInt))] (RH (.tup []) [some (.row 3 1 ((sortI xs).map pInt))]) :=
  pcalls_sort (fun blk cap zs w h1 h2 h3 => Any.slices_Sort_int Tryz.laysSort blk 0 cap zs w h1 h2 h3) (fun w => Any.slices_Sort_int_none Tryz.laysSort none 0 w) _ xs hl
theorem compactI_p (xs : List Int) (hl : xs.length ≤ 1099511627776) : PCalls Tryz.prog 251 [.own 0] [some (.row 3 1 (xs.map pInt))] (RH (.own 1) [none, some (.row 3 1 ((Lib.compact xs).map pInt))]) :=
  pcalls_compact (fun blk cap zs w h1 h2 h3 => Any.slices_Compact_int Tryz.laysCompact blk 0 cap zs w h1 h2 h3) (fun w => Any.slices_Compact_int_empty Tryz.laysCompact none 0 w) _ xs hl
end Go.Proofs.YtiboajlnjldalaaGreatDoor
namespace Go.Proofs.YtiboajlnjldalaaGreatDoor
set_option linter.unusedSimpArgs false
set_option linter.unusedVariables false
open Go.RowKit
set_option maxRecDepth 100000
theorem sortI_perm (xs : List Int) : (sortI xs).Perm xs := List.mergeSort_perm xs _
theorem sortI_sorted (xs : List Int) : (sortI xs).Pairwise (· ≤ ·) := by
  have := List.pairwise_mergeSort (le := fun x y : Int => decide (x ≤ y)) (fun a b c h1 h2 => by simp at *; omega) (fun a b => by simp; omega) xs
  exact this.imp fun h => by simpa using h
theorem cu_mem {d : Array Int} {x : Int} : ∀ m, x ∈ Lib.compactUpTo d m ↔ ∃ j, j < m ∧ d[j]! = x
  | 0 => by simp [Lib.compactUpTo]
  | m + 1 => by
    rw [Lib.compactUpTo_succ, List.mem_append, cu_mem m]
    constructor
    · rintro (⟨j, h1, h2⟩ | h)
      · exact ⟨j, by omega, h2⟩
      · split at h
        · exact ⟨m, by omega, (List.mem_singleton.1 h).symm⟩
        · simp at h
    · rintro ⟨j, h1, h2⟩
      by_cases e : j < m
      · exact .inl ⟨j, e, h2⟩
      · obtain rfl : j = m := by omega
        cases hk : Lib.keeps d j with
        | true => right; simp [h2]
        | false =>
          simp only [Lib.keeps, decide_eq_false_iff_not, not_or, Decidable.not_not] at hk
          exact .inl ⟨j - 1, by omega, by rw [← hk.2]; exact h2⟩
theorem cu_rising {d : Array Int} (hs : ∀ i j, i ≤ j → j < d.size → d[i]! ≤ d[j]!) : ∀ m, m ≤ d.size → (Lib.compactUpTo d m).Pairwise (· < ·)
  | 0, _ => by simp [Lib.compactUpTo]
  | m + 1, h => by
    rw [Lib.compactUpTo_succ, List.pairwise_append]
    refine ⟨cu_rising hs m (by omega), by split <;> simp, fun x hx y hy => ?_⟩
    split at hy
    · rename_i hk
      obtain rfl := List.mem_singleton.1 hy
      obtain ⟨j, h1, rfl⟩ := (cu_mem m).1 hx
      simp only [Lib.keeps, decide_eq_true_eq] at hk
      have h2 := hs j (m - 1) (by omega) (by omega)
      have h3 := hs (m - 1) m (by omega) (by omega)
      rcases hk with hk | hk
      · omega
      · have : d[m]! ≠ d[m - 1]! := hk
        omega
    · simp at hy
theorem compact_rising {xs : List Int} (hs : xs.Pairwise (· ≤ ·)) : (Lib.compact xs).Pairwise (· < ·) := by
  refine cu_rising (fun i j hij hj => ?_) _ (by simp)
  have hj' : j < xs.length := by simpa using hj
  rw [getElem!_pos xs.toArray i (by simp; omega), getElem!_pos xs.toArray j hj]
  simp only [List.getElem_toArray]
  by_cases e : i = j
  · subst e; exact Int.le_refl _
  · exact List.pairwise_iff_getElem.1 hs i j (by omega) hj' (by omega)
theorem compact_mem {xs : List Int} {x : Int} : x ∈ Lib.compact xs ↔ x ∈ xs := by
  unfold Lib.compact
  rw [cu_mem]
  constructor
  · rintro ⟨j, h1, rfl⟩
    rw [getElem!_pos xs.toArray j (by simpa using h1)]
    simp
  · intro h
    obtain ⟨k, hk, rfl⟩ := List.getElem_of_mem h
    exact ⟨k, hk, by rw [getElem!_pos xs.toArray k (by simpa using hk)]; simp⟩
theorem commitVals_sort {c : GCommit} (h : c.fSigs.length ≤ 12) : Lib.compact (sortI (sigVals c c.fSigs)) = commitVals c := by
  unfold commitVals
  rw [if_neg (by omega)]
  exact rising_eq (compact_rising (sortI_sorted _)) (scanVals_rising c 99) fun x => by rw [compact_mem, (sortI_perm _).mem_iff, scanVals_mem]
theorem sigVals_le (c : GCommit) (l : List GCSig) : (sigVals c l).length ≤ l.length := by
  unfold sigVals
  rw [List.length_map]
  exact List.length_filter_le _ _
theorem sortI_len (xs : List Int) : (sortI xs).length = xs.length := List.length_mergeSort xs
set_option maxHeartbeats 1000000 in
theorem iCommitVals_o (c : GCommit) (hl : c.fSigs.length ≤ 12) : PCalls Tryz.prog 193 [.agg (pCommit c)] [] (RH (.own 0) [some (.row 3 1 ((commitVals c).map pInt))]) := by
  have hcv := commitVals_sort hl
  have hz := sigVals_le c
  refine pcalls_ofR okP Tryz.func193 rfl ?_
  simp only [Tryz.f193, List.length_cons, List.length_nil, Nat.reduceAdd, Nat.reduceSub, List.replicate_succ, List.replicate_zero, List.cons_append, List.nil_append, List.length_map]
  repeat' (first | with_reducible (first | refine wA ?_ | refine wB ?_ | refine wC ?_ | refine w1 ?_ | refine w2 ?_ | refine w3 ?_ | refine w4 ?_ | refine w5 ?_ | refine w6 ?_ | refine w7 ?_ | refine w8 ?_ | refine wT ?_ | refine w9 ?_ | refine wE ?_ | refine wS ?_) | ((with_reducible refine hK _ ?_); clear hK K) | ((with_reducible refine PWp.condI ?_); refine ⟨_, rfl, fun hg => ?_, fun hg => ?_⟩ <;> first | (exact absurd hg (by decide)) | ((try simp only [Bool.not_true, Bool.not_false] at hg); (try simp only [hg]); (try simp only [push_cast] at hg); (try exact absurd trivial hg); (try (exfalso; omega)))) | ((with_reducible refine pops_plain fun K hK => popO_row ?_); refine ⟨_, _, _, _, _, rfl, rfl, rfl, rfl, rfl, ?_⟩; simp (disch := omega) only [push_cast, seval]) | ((with_reducible refine pops_plain fun K hK => popO_build ?_); refine ⟨_, rfl, _, rfl, ?_⟩; simp (disch := omega) only [push_cast, seval]) | ((with_reducible refine pbuild_cs ?_); refine ⟨_, rfl, _, rfl, ?_⟩; simp (disch := omega) only [push_cast, seval]) | ((with_reducible refine pops_plain fun K hK => ?_); simp (disch := omega) only [push_cast, seval]) | ((with_reducible show pcall _ _ _ _ _ _); (first | (refine pcall_RGf (cf Tryz.func230) [?_] ?_ ?_ ?_ (sortI_p ?_ ?_) ?_; rotate_left 1; (· ((try simp (disch := omega) only [push_cast, seval]); (repeat' (first | exact trivial | exact rfl | refine And.intro ?_ ?_ | omega)))); (· (repeat' (first | exact trivial | refine And.intro ?_ ?_ | exact ⟨_, rfl⟩ | (simp (disch := omega) only [push_cast, seval]; done) | exact rfl))); (· exact rfl); rotate_right 1; rotate_left 1; (all_goals (try (first | omega | exact (show _ = _ by assumption))))) | (refine pcV (cf Tryz.func250) (iSigned_p ⟨_, _, _, _, _⟩ _) ?_) | (refine pcall_RGf (cf Tryz.func251) [?_] ?_ ?_ ?_ (compactI_p ?_ ?_) ?_; rotate_left 1; (· ((try simp (disch := omega) only [push_cast, seval]); (repeat' (first | exact trivial | exact rfl | refine And.intro ?_ ?_ | omega)))); (· (repeat' (first | exact trivial | refine And.intro ?_ ?_ | exact ⟨_, rfl⟩ | (simp (disch := omega) only [push_cast, seval]; done) | exact rfl))); (· exact rfl); rotate_right 1; rotate_left 1; (all_goals (try (first | omega | exact (show _ = _ by assumption)))))); (try simp (disch := omega) only [push_cast, seval])) | ((with_reducible refine And.intro ?_ ?_); omega))
  refine PWp.loopK (α := Nat) (fun k => [(3, .own 1), (14, .val (.int .i64 (k : Int)))]) [0, 4, 5, 6, 7, 8, 9, 10, 11, 15, 16, 17, 18, 19, 20, 21, 22, 23, 24, 25, 26, 27, 28, 29, 30, 31, 32, 33, 34, 35, 37] (fun k => [some (.box (pCommit c)), some (.row 3 1 ((sigVals c (c.fSigs.take k)).map pInt))]) (fun k => k ≤ c.fSigs.length) (fun k => c.fSigs.length - k) (0) (Nat.zero_le _) (by (refine ⟨[?_, ?_], ?_, ?_, ?_, ?_⟩; rotate_left 2; (· ((try simp (disch := omega) only [push_cast, seval]); (repeat' (first | exact trivial | exact rfl | refine And.intro ?_ ?_ | omega)))); (· ((try simp (disch := omega) only [push_cast, seval]); (repeat' (first | exact trivial | exact rfl | refine And.intro ?_ ?_ | omega)))); (· exact rfl); (· (first | exact trivial | exact ⟨rfl, trivial⟩ | exact ⟨rfl, rfl, trivial⟩)))) ?_
  intro k ρ hI
  (try dsimp only at hI)
  refine PWp.at (tm' := ?_) (H' := ?_) ?_ ?_ ?_; rotate_left 2; (· ((try simp only [push_cast, seval]); exact rfl)); (· ((try dsimp only); exact rfl))
  by_cases hlt : k < c.fSigs.length
  · obtain ⟨x, hx⟩ : ∃ x, c.fSigs[k]? = some x := ⟨_, List.getElem?_eq_getElem hlt⟩
    have e := sigVals_take (c := c) hx
    have hz2 := hz (c.fSigs.take k)
    rw [List.length_take] at hz2
    cases hs : sigOk c x with
    | true =>
      rw [hs, if_pos rfl] at e
      have hs' : signed ⟨c.fHeight, c.fRound, 2, c.fId, x.fVal⟩ x.fSig = true := hs
      repeat' (first | with_reducible (first | refine wA ?_ | refine wB ?_ | refine wC ?_ | refine w1 ?_ | refine w2 ?_ | refine w3 ?_ | refine w4 ?_ | refine w5 ?_ | refine w6 ?_ | refine w7 ?_ | refine w8 ?_ | refine wT ?_ | refine w9 ?_ | refine wE ?_ | refine wS ?_) | ((with_reducible refine hK _ ?_); clear hK K) | ((with_reducible refine PWp.condI ?_); refine ⟨_, rfl, fun hg => ?_, fun hg => ?_⟩ <;> first | (exact absurd hg (by decide)) | ((try simp only [Bool.not_true, Bool.not_false] at hg); (try simp only [hg]); (try simp only [push_cast] at hg); (try exact absurd trivial hg); (try (exfalso; omega)))) | ((with_reducible refine pops_plain fun K hK => popO_row ?_); refine ⟨_, _, _, _, _, rfl, rfl, rfl, rfl, rfl, ?_⟩; simp (disch := omega) only [push_cast, seval, hx, hs']) | ((with_reducible refine pops_plain fun K hK => popO_build ?_); refine ⟨_, rfl, _, rfl, ?_⟩; simp (disch := omega) only [push_cast, seval, hx, hs']) | ((with_reducible refine pbuild_cs ?_); refine ⟨_, rfl, _, rfl, ?_⟩; simp (disch := omega) only [push_cast, seval, hx, hs']) | ((with_reducible refine pops_plain fun K hK => ?_); simp (disch := omega) only [push_cast, seval, hx, hs']) | ((with_reducible show pcall _ _ _ _ _ _); (first | (refine pcall_RGf (cf Tryz.func230) [?_] ?_ ?_ ?_ (sortI_p ?_ ?_) ?_; rotate_left 1; (· ((try simp (disch := omega) only [push_cast, seval]); (repeat' (first | exact trivial | exact rfl | refine And.intro ?_ ?_ | omega)))); (· (repeat' (first | exact trivial | refine And.intro ?_ ?_ | exact ⟨_, rfl⟩ | (simp (disch := omega) only [push_cast, seval]; done) | exact rfl))); (· exact rfl); rotate_right 1; rotate_left 1; (all_goals (try (first | omega | exact (show _ = _ by assumption))))) | (refine pcV (cf Tryz.func250) (iSigned_p ⟨_, _, _, _, _⟩ _) ?_) | (refine pcall_RGf (cf Tryz.func251) [?_] ?_ ?_ ?_ (compactI_p ?_ ?_) ?_; rotate_left 1; (· ((try simp (disch := omega) only [push_cast, seval]); (repeat' (first | exact trivial | exact rfl | refine And.intro ?_ ?_ | omega)))); (· (repeat' (first | exact trivial | refine And.intro ?_ ?_ | exact ⟨_, rfl⟩ | (simp (disch := omega) only [push_cast, seval]; done) | exact rfl))); (· exact rfl); rotate_right 1; rotate_left 1; (all_goals (try (first | omega | exact (show _ = _ by assumption)))))); (try simp (disch := omega) only [push_cast, seval, hx, hs'])) | ((with_reducible refine And.intro ?_ ?_); omega))
      (refine ⟨k + 1, by ((try dsimp only); omega), ?_, by (refine ⟨[?_, ?_], ?_, ?_, ?_, ?_⟩; rotate_left 2; (· ((first | simp (disch := omega) only [push_cast, seval, e, List.map_append, List.map_cons, List.map_nil, pInt] | simp (disch := omega) only [push_cast, seval] | skip); (repeat' (first | exact trivial | exact rfl | refine And.intro ?_ ?_ | omega)))); (· ((first | simp (disch := omega) only [push_cast, seval, e, List.map_append, List.map_cons, List.map_nil, pInt] | simp (disch := omega) only [push_cast, seval] | skip); (repeat' (first | exact trivial | exact rfl | refine And.intro ?_ ?_ | omega)))); (· exact rfl); (· (first | exact trivial | exact ⟨rfl, trivial⟩ | exact ⟨rfl, rfl, trivial⟩)))⟩)
      exact hlt
    | false =>
      rw [hs, if_neg (by simp)] at e
      have hs' : signed ⟨c.fHeight, c.fRound, 2, c.fId, x.fVal⟩ x.fSig = false := hs
      repeat' (first | with_reducible (first | refine wA ?_ | refine wB ?_ | refine wC ?_ | refine w1 ?_ | refine w2 ?_ | refine w3 ?_ | refine w4 ?_ | refine w5 ?_ | refine w6 ?_ | refine w7 ?_ | refine w8 ?_ | refine wT ?_ | refine w9 ?_ | refine wE ?_ | refine wS ?_) | ((with_reducible refine hK _ ?_); clear hK K) | ((with_reducible refine PWp.condI ?_); refine ⟨_, rfl, fun hg => ?_, fun hg => ?_⟩ <;> first | (exact absurd hg (by decide)) | ((try simp only [Bool.not_true, Bool.not_false] at hg); (try simp only [hg]); (try simp only [push_cast] at hg); (try exact absurd trivial hg); (try (exfalso; omega)))) | ((with_reducible refine pops_plain fun K hK => popO_row ?_); refine ⟨_, _, _, _, _, rfl, rfl, rfl, rfl, rfl, ?_⟩; simp (disch := omega) only [push_cast, seval, hx, hs']) | ((with_reducible refine pops_plain fun K hK => popO_build ?_); refine ⟨_, rfl, _, rfl, ?_⟩; simp (disch := omega) only [push_cast, seval, hx, hs']) | ((with_reducible refine pbuild_cs ?_); refine ⟨_, rfl, _, rfl, ?_⟩; simp (disch := omega) only [push_cast, seval, hx, hs']) | ((with_reducible refine pops_plain fun K hK => ?_); simp (disch := omega) only [push_cast, seval, hx, hs']) | ((with_reducible show pcall _ _ _ _ _ _); (first | (refine pcall_RGf (cf Tryz.func230) [?_] ?_ ?_ ?_ (sortI_p ?_ ?_) ?_; rotate_left 1; (· ((try simp (disch := omega) only [push_cast, seval]); (repeat' (first | exact trivial | exact rfl | refine And.intro ?_ ?_ | omega)))); (· (repeat' (first | exact trivial | refine And.intro ?_ ?_ | exact ⟨_, rfl⟩ | (simp (disch := omega) only [push_cast, seval]; done) | exact rfl))); (· exact rfl); rotate_right 1; rotate_left 1; (all_goals (try (first | omega | exact (show _ = _ by assumption))))) | (refine pcV (cf Tryz.func250) (iSigned_p ⟨_, _, _, _, _⟩ _) ?_) | (refine pcall_RGf (cf Tryz.func251) [?_] ?_ ?_ ?_ (compactI_p ?_ ?_) ?_; rotate_left 1; (· ((try simp (disch := omega) only [push_cast, seval]); (repeat' (first | exact trivial | exact rfl | refine And.intro ?_ ?_ | omega)))); (· (repeat' (first | exact trivial | refine And.intro ?_ ?_ | exact ⟨_, rfl⟩ | (simp (disch := omega) only [push_cast, seval]; done) | exact rfl))); (· exact rfl); rotate_right 1; rotate_left 1; (all_goals (try (first | omega | exact (show _ = _ by assumption)))))); (try simp (disch := omega) only [push_cast, seval, hx, hs'])) | ((with_reducible refine And.intro ?_ ?_); omega))
      (refine ⟨k + 1, by ((try dsimp only); omega), ?_, by (refine ⟨[?_, ?_], ?_, ?_, ?_, ?_⟩; rotate_left 2; (· ((first | simp (disch := omega) only [push_cast, seval, e] | simp (disch := omega) only [push_cast, seval] | skip); (repeat' (first | exact trivial | exact rfl | refine And.intro ?_ ?_ | omega)))); (· ((first | simp (disch := omega) only [push_cast, seval, e] | simp (disch := omega) only [push_cast, seval] | skip); (repeat' (first | exact trivial | exact rfl | refine And.intro ?_ ?_ | omega)))); (· exact rfl); (· (first | exact trivial | exact ⟨rfl, trivial⟩ | exact ⟨rfl, rfl, trivial⟩)))⟩)
      exact hlt
  obtain rfl : k = c.fSigs.length := by omega
  have hz2 := hz c.fSigs
  have hz3 := sortI_len (sigVals c c.fSigs)
  rw [List.take_length]
  repeat' (first | with_reducible (first | refine wA ?_ | refine wB ?_ | refine wC ?_ | refine w1 ?_ | refine w2 ?_ | refine w3 ?_ | refine w4 ?_ | refine w5 ?_ | refine w6 ?_ | refine w7 ?_ | refine w8 ?_ | refine wT ?_ | refine w9 ?_ | refine wE ?_ | refine wS ?_) | ((with_reducible refine hK _ ?_); clear hK K) | ((with_reducible refine PWp.condI ?_); refine ⟨_, rfl, fun hg => ?_, fun hg => ?_⟩ <;> first | (exact absurd hg (by decide)) | ((try simp only [Bool.not_true, Bool.not_false] at hg); (try simp only [hg]); (try simp only [push_cast] at hg); (try exact absurd trivial hg); (try (exfalso; omega)))) | ((with_reducible refine pops_plain fun K hK => popO_row ?_); refine ⟨_, _, _, _, _, rfl, rfl, rfl, rfl, rfl, ?_⟩; simp (disch := omega) only [push_cast, seval, hcv]) | ((with_reducible refine pops_plain fun K hK => popO_build ?_); refine ⟨_, rfl, _, rfl, ?_⟩; simp (disch := omega) only [push_cast, seval, hcv]) | ((with_reducible refine pbuild_cs ?_); refine ⟨_, rfl, _, rfl, ?_⟩; simp (disch := omega) only [push_cast, seval, hcv]) | ((with_reducible refine pops_plain fun K hK => ?_); simp (disch := omega) only [push_cast, seval, hcv]) | ((with_reducible show pcall _ _ _ _ _ _); (first | (refine pcall_RGf (cf Tryz.func230) [?_] ?_ ?_ ?_ (sortI_p ?_ ?_) ?_; rotate_left 1; (· ((try simp (disch := omega) only [push_cast, seval]); (repeat' (first | exact trivial | exact rfl | refine And.intro ?_ ?_ | omega)))); (· (repeat' (first | exact trivial | refine And.intro ?_ ?_ | exact ⟨_, rfl⟩ | (simp (disch := omega) only [push_cast, seval]; done) | exact rfl))); (· exact rfl); rotate_right 1; rotate_left 1; (all_goals (try (first | omega | exact (show _ = _ by assumption))))) | (refine pcV (cf Tryz.func250) (iSigned_p ⟨_, _, _, _, _⟩ _) ?_) | (refine pcall_RGf (cf Tryz.func251) [?_] ?_ ?_ ?_ (compactI_p ?_ ?_) ?_; rotate_left 1; (· ((try simp (disch := omega) only [push_cast, seval]); (repeat' (first | exact trivial | exact rfl | refine And.intro ?_ ?_ | omega)))); (· (repeat' (first | exact trivial | refine And.intro ?_ ?_ | exact ⟨_, rfl⟩ | (simp (disch := omega) only [push_cast, seval]; done) | exact rfl))); (· exact rfl); rotate_right 1; rotate_left 1; (all_goals (try (first | omega | exact (show _ = _ by assumption)))))); (try simp (disch := omega) only [push_cast, seval, hcv])) | ((with_reducible refine And.intro ?_ ?_); omega))
  ((with_reducible show PPostR _ _ _ _ _ _); exact finH [_])
theorem iCommitVals_no (c : GCommit) (hl : 12 < c.fSigs.length) (hl2 : c.fSigs.length ≤ 1099511627776) : PCalls Tryz.prog 193 [.agg (pCommit c)] [] (RH (.val (.slice none 0 0)) []) := by
  refine pcalls_ofR okP Tryz.func193 rfl ?_
  simp only [Tryz.f193, List.length_cons, List.length_nil, Nat.reduceAdd, Nat.reduceSub, List.replicate_succ, List.replicate_zero, List.cons_append, List.nil_append, List.length_map]
  repeat' (first | with_reducible (first | refine wA ?_ | refine wB ?_ | refine wC ?_ | refine w1 ?_ | refine w2 ?_ | refine w3 ?_ | refine w4 ?_ | refine w5 ?_ | refine w6 ?_ | refine w7 ?_ | refine w8 ?_ | refine wT ?_ | refine w9 ?_ | refine wE ?_ | refine wS ?_) | ((with_reducible refine hK _ ?_); clear hK K) | ((with_reducible refine PWp.condI ?_); refine ⟨_, rfl, fun hg => ?_, fun hg => ?_⟩ <;> first | (exact absurd hg (by decide)) | ((try simp only [Bool.not_true, Bool.not_false] at hg); (try simp only [hg]); (try simp only [push_cast] at hg); (try exact absurd trivial hg); (try (exfalso; omega)))) | ((with_reducible refine pops_plain fun K hK => popO_row ?_); refine ⟨_, _, _, _, _, rfl, rfl, rfl, rfl, rfl, ?_⟩; simp (disch := omega) only [push_cast, seval]) | ((with_reducible refine pops_plain fun K hK => popO_build ?_); refine ⟨_, rfl, _, rfl, ?_⟩; simp (disch := omega) only [push_cast, seval]) | ((with_reducible refine pbuild_cs ?_); refine ⟨_, rfl, _, rfl, ?_⟩; simp (disch := omega) only [push_cast, seval]) | ((with_reducible refine pops_plain fun K hK => ?_); simp (disch := omega) only [push_cast, seval]) | ((with_reducible show pcall _ _ _ _ _ _); (first | (refine pcall_RGf (cf Tryz.func230) [?_] ?_ ?_ ?_ (sortI_p ?_ ?_) ?_; rotate_left 1; (· ((try simp (disch := omega) only [push_cast, seval]); (repeat' (first | exact trivial | exact rfl | refine And.intro ?_ ?_ | omega)))); (· (repeat' (first | exact trivial | refine And.intro ?_ ?_ | exact ⟨_, rfl⟩ | (simp (disch := omega) only [push_cast, seval]; done) | exact rfl))); (· exact rfl); rotate_right 1; rotate_left 1; (all_goals (try (first | omega | exact (show _ = _ by assumption))))) | (refine pcV (cf Tryz.func250) (iSigned_p ⟨_, _, _, _, _⟩ _) ?_) | (refine pcall_RGf (cf Tryz.func251) [?_] ?_ ?_ ?_ (compactI_p ?_ ?_) ?_; rotate_left 1; (· ((try simp (disch := omega) only [push_cast, seval]); (repeat' (first | exact trivial | exact rfl | refine And.intro ?_ ?_ | omega)))); (· (repeat' (first | exact trivial | refine And.intro ?_ ?_ | exact ⟨_, rfl⟩ | (simp (disch := omega) only [push_cast, seval]; done) | exact rfl))); (· exact rfl); rotate_right 1; rotate_left 1; (all_goals (try (first | omega | exact (show _ = _ by assumption)))))); (try simp (disch := omega) only [push_cast, seval])) | ((with_reducible refine And.intro ?_ ?_); omega))
  ((with_reducible show PPostR _ _ _ _ _ _); exact finH [])
theorem iCommitVals_p (c : GCommit) (hl : c.fSigs.length ≤ 1099511627776) : PCalls Tryz.prog 193 [.agg (pCommit c)] [] (RH (.sl 1 ((commitVals c).map pInt)) []) := by
  by_cases h : c.fSigs.length ≤ 12
  · exact (iCommitVals_o c h).thawH 0 [] rfl (of_eq_true (pInt_rc _)) rfl rfl trivial trivial
  · have e : commitVals c = [] := by unfold commitVals; rw [if_pos (by omega)]
    rw [e]
    exact (iCommitVals_no c (by omega) hl).wkR (by (repeat' (first | exact Wk.rfl _ | exact Wk.nil _ | exact trivial | refine And.intro ?_ ?_ | refine wk_agg ?_ | refine wk_tup ?_)))
def anyTo (c : GCommit) (v : Int) (j : Nat) : Bool := (c.fSigs.take j).any fun s => decide (s.fVal = v) && sigOk c s
theorem anyTo_succ {c : GCommit} {v : Int} {j : Nat} {x : GCSig} (h : c.fSigs[j]? = some x) : anyTo c v (j + 1) = (anyTo c v j || (decide (x.fVal = v) && signed (cVote c v) x.fSig)) := by
  unfold anyTo
  rw [List.take_add_one, h, List.any_append]
  congr 1
  simp only [Option.toList_some, List.any_cons, List.any_nil, Bool.or_false]
  by_cases e : x.fVal = v
  · subst e; rfl
  · simp [e]
theorem anyTo_all {c : GCommit} {v : Int} : anyTo c v c.fSigs.length = sigAt c v := by unfold anyTo sigAt; rw [List.take_length]
theorem sL9Vote_p (c : GCommit) (val : Int) : PCalls Tryz.prog 187 [.agg (pCommit c), .val (.int .i64 val)] [] (RH (.agg (pVote (cVote c val))) []) := by
  refine pcalls_ofR okP Tryz.func187 rfl ?_
  simp only [Tryz.f187, List.length_cons, List.length_nil, Nat.reduceAdd, Nat.reduceSub, List.replicate_succ, List.replicate_zero, List.cons_append, List.nil_append, List.length_map]
  repeat' (first | with_reducible (first | refine wA ?_ | refine wB ?_ | refine wC ?_ | refine w1 ?_ | refine w2 ?_ | refine w3 ?_ | refine w4 ?_ | refine w5 ?_ | refine w6 ?_ | refine w7 ?_ | refine w8 ?_ | refine wT ?_ | refine w9 ?_ | refine wE ?_ | refine wS ?_) | ((with_reducible refine hK _ ?_); clear hK K) | ((with_reducible refine pops_plain fun K hK => popO_build ?_); refine ⟨_, rfl, _, rfl, ?_⟩; simp (disch := omega) only [push_cast, seval]) | ((with_reducible refine pbuild_cs ?_); refine ⟨_, rfl, _, rfl, ?_⟩; simp (disch := omega) only [push_cast, seval]) | ((with_reducible refine pops_plain fun K hK => ?_); simp (disch := omega) only [push_cast, seval]) | ((with_reducible refine And.intro ?_ ?_); omega))
  ((with_reducible show PPostR _ _ _ _ _ _); exact finH [])
set_option maxHeartbeats 1000000 in
theorem sCommitVals_o (c : GCommit) (hl : c.fSigs.length ≤ 1099511627776) : PCalls Tryz.prog 197 [.agg (pCommit c)] [] (RH (.own 0) [some (.row 3 1 ((commitVals c).map pInt))]) := by
  by_cases h12 : 12 < c.fSigs.length
  · have e : commitVals c = [] := by unfold commitVals; rw [if_pos h12]
    rw [e]
    refine pcalls_ofR okP Tryz.func197 rfl ?_
    simp only [Tryz.f197, List.length_cons, List.length_nil, Nat.reduceAdd, Nat.reduceSub, List.replicate_succ, List.replicate_zero, List.cons_append, List.nil_append, List.length_map]
    repeat' (first | with_reducible (first | refine wA ?_ | refine wB ?_ | refine wC ?_) | with_reducible refine PWp.draw (id := 11) okP true [0, 1, 2, 3, 4, 5, 6, 7, 8, 9, 10, 11, 12, 14, 15, 16, 17, 18, 19, 13, 20, 21, 22, 23] (by kernel_rfl) ?_ | with_reducible (first | refine w1 ?_ | refine w2 ?_ | refine w3 ?_ | refine w4 ?_ | refine w5 ?_ | refine w6 ?_ | refine w7 ?_ | refine w8 ?_ | refine wT ?_ | refine w9 ?_ | refine wE ?_ | refine wS ?_) | ((with_reducible refine hK _ ?_); clear hK K) | ((with_reducible refine PWp.condI ?_); refine ⟨_, rfl, fun hg => ?_, fun hg => ?_⟩ <;> first | (exact absurd hg (by decide)) | ((try simp only [Bool.not_true, Bool.not_false] at hg); (try simp only [hg]); (try simp only [push_cast] at hg); (try exact absurd trivial hg); (try (exfalso; omega)))) | ((first | ((with_reducible refine pops_guard0 ?_); refine ⟨_, rfl, fun K hK => ⟨rfl, ?_⟩⟩) | ((with_reducible refine pD_g0 ?_); refine ⟨_, rfl, rfl, ?_⟩)); (try simp (disch := omega) only [push_cast, seval])) | ((with_reducible refine pany_I ?_); refine ⟨_, rfl, fun K hK => ?_⟩) | ((with_reducible refine pops_plain fun K hK => popO_row ?_); refine ⟨_, _, _, _, _, rfl, rfl, rfl, rfl, rfl, ?_⟩; simp (disch := omega) only [push_cast, seval]) | ((with_reducible refine pD_x ?_ (popO_row ?_)); exact rfl; refine ⟨_, _, _, _, _, rfl, rfl, rfl, rfl, rfl, ?_⟩; simp (disch := omega) only [push_cast, seval]) | ((with_reducible refine pops_plain fun K hK => ?_); simp (disch := omega) only [push_cast, seval]) | ((first | ((with_reducible refine pD_y ?_ ?_); exact rfl) | ((with_reducible refine pD_x ?_ ?_); exact rfl)); simp (disch := omega) only [push_cast, seval]) | ((first | ((with_reducible refine pops_guard ?_); refine ⟨_, rfl, fun K hK => ⟨_, rfl, fun hg => ?_, fun hg => ?_⟩⟩) | ((first | ((with_reducible refine pD_gy ?_ ?_); exact rfl) | ((with_reducible refine pD_gx ?_ ?_); exact rfl)); refine ⟨_, rfl, _, rfl, fun hg => ?_, fun hg => ?_⟩)) <;> first | (exact absurd hg (by decide)) | ((try simp only [Bool.not_true, Bool.not_false] at hg); (try simp only [hg]); (try simp only [push_cast] at hg); (try exact absurd trivial hg); (try (exfalso; omega)); (try simp (disch := omega) only [push_cast, seval]))) | ((with_reducible show pcall _ _ _ _ _ _); (first | (refine pcF (cf Tryz.func187) (sL9Vote_p ⟨_, _, _, _⟩ _) ?_) | (refine pcV (cf Tryz.func254) (sSigned_p ⟨_, _, _, _, _⟩ _) ?_)); (try simp (disch := omega) only [push_cast, seval])) | ((with_reducible refine And.intro ?_ ?_); omega))
    ((with_reducible show PPostR _ _ _ _ _ _); exact finH [_])
  have hcv : commitVals c = scanVals c 99 := by unfold commitVals; rw [if_neg h12]
  rw [hcv]
  refine pcalls_ofR okP Tryz.func197 rfl ?_
  simp only [Tryz.f197, List.length_cons, List.length_nil, Nat.reduceAdd, Nat.reduceSub, List.replicate_succ, List.replicate_zero, List.cons_append, List.nil_append, List.length_map]
  repeat' (first | with_reducible (first | refine wA ?_ | refine wB ?_ | refine wC ?_) | with_reducible refine PWp.draw (id := 11) okP true [0, 1, 2, 3, 4, 5, 6, 7, 8, 9, 10, 11, 12, 14, 15, 16, 17, 18, 19, 13, 20, 21, 22, 23] (by kernel_rfl) ?_ | with_reducible (first | refine w1 ?_ | refine w2 ?_ | refine w3 ?_ | refine w4 ?_ | refine w5 ?_ | refine w6 ?_ | refine w7 ?_ | refine w8 ?_ | refine wT ?_ | refine w9 ?_ | refine wE ?_ | refine wS ?_) | ((with_reducible refine hK _ ?_); clear hK K) | ((with_reducible refine PWp.condI ?_); refine ⟨_, rfl, fun hg => ?_, fun hg => ?_⟩ <;> first | (exact absurd hg (by decide)) | ((try simp only [Bool.not_true, Bool.not_false] at hg); (try simp only [hg]); (try simp only [push_cast] at hg); (try exact absurd trivial hg); (try (exfalso; omega)))) | ((first | ((with_reducible refine pops_guard0 ?_); refine ⟨_, rfl, fun K hK => ⟨rfl, ?_⟩⟩) | ((with_reducible refine pD_g0 ?_); refine ⟨_, rfl, rfl, ?_⟩)); (try simp (disch := omega) only [push_cast, seval])) | ((with_reducible refine pany_I ?_); refine ⟨_, rfl, fun K hK => ?_⟩) | ((with_reducible refine pops_plain fun K hK => popO_row ?_); refine ⟨_, _, _, _, _, rfl, rfl, rfl, rfl, rfl, ?_⟩; simp (disch := omega) only [push_cast, seval]) | ((with_reducible refine pD_x ?_ (popO_row ?_)); exact rfl; refine ⟨_, _, _, _, _, rfl, rfl, rfl, rfl, rfl, ?_⟩; simp (disch := omega) only [push_cast, seval]) | ((with_reducible refine pops_plain fun K hK => ?_); simp (disch := omega) only [push_cast, seval]) | ((first | ((with_reducible refine pD_y ?_ ?_); exact rfl) | ((with_reducible refine pD_x ?_ ?_); exact rfl)); simp (disch := omega) only [push_cast, seval]) | ((first | ((with_reducible refine pops_guard ?_); refine ⟨_, rfl, fun K hK => ⟨_, rfl, fun hg => ?_, fun hg => ?_⟩⟩) | ((first | ((with_reducible refine pD_gy ?_ ?_); exact rfl) | ((with_reducible refine pD_gx ?_ ?_); exact rfl)); refine ⟨_, rfl, _, rfl, fun hg => ?_, fun hg => ?_⟩)) <;> first | (exact absurd hg (by decide)) | ((try simp only [Bool.not_true, Bool.not_false] at hg); (try simp only [hg]); (try simp only [push_cast] at hg); (try exact absurd trivial hg); (try (exfalso; omega)); (try simp (disch := omega) only [push_cast, seval]))) | ((with_reducible show pcall _ _ _ _ _ _); (first | (refine pcF (cf Tryz.func187) (sL9Vote_p ⟨_, _, _, _⟩ _) ?_) | (refine pcV (cf Tryz.func254) (sSigned_p ⟨_, _, _, _, _⟩ _) ?_)); (try simp (disch := omega) only [push_cast, seval])) | ((with_reducible refine And.intro ?_ ?_); omega))
  refine PWp.loopK (α := Nat) (fun k => [(3, .own 1), (4, .val (.int .i64 ((k : Int) + 1)))]) [0, 5, 6, 7, 8, 9, 10, 11, 12, 13, 14, 15, 16, 17, 18, 19, 20, 21, 22, 23, 24, 25, 26, 27, 28, 29, 30, 31, 32, 33, 34, 35, 36, 37, 38, 39, 40, 41, 42, 43, 44, 45, 46, 47, 48, 49, 50, 51] (fun k => [some (.box (pCommit c)), some (.row 3 1 ((scanVals c k).map pInt))]) (fun k => k ≤ 99) (fun k => 99 - k) (0) (Nat.zero_le _) (by (refine ⟨[?_, ?_], ?_, ?_, ?_, ?_⟩; rotate_left 2; (· ((try simp (disch := omega) only [push_cast, seval]); (repeat' (first | exact trivial | exact rfl | refine And.intro ?_ ?_ | omega)))); (· ((try simp (disch := omega) only [push_cast, seval]); (repeat' (first | exact trivial | exact rfl | refine And.intro ?_ ?_ | omega)))); (· exact rfl); (· (first | exact trivial | exact ⟨rfl, trivial⟩ | exact ⟨rfl, rfl, trivial⟩)))) ?_
  intro k ρ hI
  (try dsimp only at hI)
  refine PWp.at (tm' := ?_) (H' := ?_) ?_ ?_ ?_; rotate_left 2; (· ((try simp only [push_cast, seval]); exact rfl)); (· ((try dsimp only); exact rfl))
  by_cases hlt : k < 99
  ·
    repeat' (first | with_reducible (first | refine wA ?_ | refine wB ?_ | refine wC ?_) | with_reducible refine PWp.draw (id := 11) okP true [0, 1, 2, 3, 4, 5, 6, 7, 8, 9, 10, 11, 12, 14, 15, 16, 17, 18, 19, 13, 20, 21, 22, 23] (by kernel_rfl) ?_ | with_reducible (first | refine w1 ?_ | refine w2 ?_ | refine w3 ?_ | refine w4 ?_ | refine w5 ?_ | refine w6 ?_ | refine w7 ?_ | refine w8 ?_ | refine wT ?_ | refine w9 ?_ | refine wE ?_ | refine wS ?_) | ((with_reducible refine hK _ ?_); clear hK K) | ((with_reducible refine PWp.condI ?_); refine ⟨_, rfl, fun hg => ?_, fun hg => ?_⟩ <;> first | (exact absurd hg (by decide)) | ((try simp only [Bool.not_true, Bool.not_false] at hg); (try simp only [hg]); (try simp only [push_cast] at hg); (try exact absurd trivial hg); (try (exfalso; omega)))) | ((first | ((with_reducible refine pops_guard0 ?_); refine ⟨_, rfl, fun K hK => ⟨rfl, ?_⟩⟩) | ((with_reducible refine pD_g0 ?_); refine ⟨_, rfl, rfl, ?_⟩)); (try simp (disch := omega) only [push_cast, seval])) | ((with_reducible refine pany_I ?_); refine ⟨_, rfl, fun K hK => ?_⟩) | ((with_reducible refine pops_plain fun K hK => popO_row ?_); refine ⟨_, _, _, _, _, rfl, rfl, rfl, rfl, rfl, ?_⟩; simp (disch := omega) only [push_cast, seval]) | ((with_reducible refine pD_x ?_ (popO_row ?_)); exact rfl; refine ⟨_, _, _, _, _, rfl, rfl, rfl, rfl, rfl, ?_⟩; simp (disch := omega) only [push_cast, seval]) | ((with_reducible refine pops_plain fun K hK => ?_); simp (disch := omega) only [push_cast, seval]) | ((first | ((with_reducible refine pD_y ?_ ?_); exact rfl) | ((with_reducible refine pD_x ?_ ?_); exact rfl)); simp (disch := omega) only [push_cast, seval]) | ((first | ((with_reducible refine pops_guard ?_); refine ⟨_, rfl, fun K hK => ⟨_, rfl, fun hg => ?_, fun hg => ?_⟩⟩) | ((first | ((with_reducible refine pD_gy ?_ ?_); exact rfl) | ((with_reducible refine pD_gx ?_ ?_); exact rfl)); refine ⟨_, rfl, _, rfl, fun hg => ?_, fun hg => ?_⟩)) <;> first | (exact absurd hg (by decide)) | ((try simp only [Bool.not_true, Bool.not_false] at hg); (try simp only [hg]); (try simp only [push_cast] at hg); (try exact absurd trivial hg); (try (exfalso; omega)); (try simp (disch := omega) only [push_cast, seval]))) | ((with_reducible show pcall _ _ _ _ _ _); (first | (refine pcF (cf Tryz.func187) (sL9Vote_p ⟨_, _, _, _⟩ _) ?_) | (refine pcV (cf Tryz.func254) (sSigned_p ⟨_, _, _, _, _⟩ _) ?_)); (try simp (disch := omega) only [push_cast, seval])) | ((with_reducible refine And.intro ?_ ?_); omega))
    refine PWp.loopK (α := Nat) (fun j => [(5, .val (.bool (anyTo c ((k : Int) + 1) j))), (6, .val (.int .i64 (j : Int)))]) [0, 7, 8, 9, 10, 11, 12, 17, 18, 19, 20, 21, 22, 23, 24, 25, 26, 27, 28, 29, 30, 31, 32, 33, 34, 35, 36, 37, 38, 39, 40, 41, 42, 43, 44, 45, 46] (fun j => [some (.box (pCommit c)), some (.row 3 1 ((scanVals c k).map pInt))]) (fun j => j ≤ c.fSigs.length) (fun j => c.fSigs.length - j) (0) (Nat.zero_le _) (by (refine ⟨[?_, ?_], ?_, ?_, ?_, ?_⟩; rotate_left 2; (· ((try simp (disch := omega) only [push_cast, seval]); (repeat' (first | exact trivial | exact rfl | refine And.intro ?_ ?_ | omega)))); (· ((try simp (disch := omega) only [push_cast, seval]); (repeat' (first | exact trivial | exact rfl | refine And.intro ?_ ?_ | omega)))); (· exact rfl); (· (first | exact trivial | exact ⟨rfl, trivial⟩ | exact ⟨rfl, rfl, trivial⟩)))) ?_
    intro j ρ hI
    (try dsimp only at hI)
    refine PWp.at (tm' := ?_) (H' := ?_) ?_ ?_ ?_; rotate_left 2; (· ((try simp only [push_cast, seval]); exact rfl)); (· ((try dsimp only); exact rfl))
    by_cases hlj : j < c.fSigs.length
    · obtain ⟨x, hx⟩ : ∃ x, c.fSigs[j]? = some x := ⟨_, List.getElem?_eq_getElem hlj⟩
      have e := anyTo_succ (v := (k : Int) + 1) hx
      cases ha : anyTo c ((k : Int) + 1) j with
      | true =>
        rw [ha, Bool.true_or] at e
        repeat' (first | with_reducible (first | refine wA ?_ | refine wB ?_ | refine wC ?_) | with_reducible refine PWp.draw (id := 11) okP true [0, 1, 2, 3, 4, 5, 6, 7, 8, 9, 10, 11, 12, 14, 15, 16, 17, 18, 19, 13, 20, 21, 22, 23] (by kernel_rfl) ?_ | with_reducible (first | refine w1 ?_ | refine w2 ?_ | refine w3 ?_ | refine w4 ?_ | refine w5 ?_ | refine w6 ?_ | refine w7 ?_ | refine w8 ?_ | refine wT ?_ | refine w9 ?_ | refine wE ?_ | refine wS ?_) | ((with_reducible refine hK _ ?_); clear hK K) | ((with_reducible refine PWp.condI ?_); refine ⟨_, rfl, fun hg => ?_, fun hg => ?_⟩ <;> first | (exact absurd hg (by decide)) | ((try simp only [Bool.not_true, Bool.not_false] at hg); (try simp only [hg]); (try simp only [push_cast] at hg); (try exact absurd trivial hg); (try (exfalso; omega)))) | ((first | ((with_reducible refine pops_guard0 ?_); refine ⟨_, rfl, fun K hK => ⟨rfl, ?_⟩⟩) | ((with_reducible refine pD_g0 ?_); refine ⟨_, rfl, rfl, ?_⟩)); (try simp (disch := omega) only [push_cast, seval, hx, ha])) | ((with_reducible refine pany_I ?_); refine ⟨_, rfl, fun K hK => ?_⟩) | ((with_reducible refine pops_plain fun K hK => popO_row ?_); refine ⟨_, _, _, _, _, rfl, rfl, rfl, rfl, rfl, ?_⟩; simp (disch := omega) only [push_cast, seval, hx, ha]) | ((with_reducible refine pD_x ?_ (popO_row ?_)); exact rfl; refine ⟨_, _, _, _, _, rfl, rfl, rfl, rfl, rfl, ?_⟩; simp (disch := omega) only [push_cast, seval, hx, ha]) | ((with_reducible refine pops_plain fun K hK => ?_); simp (disch := omega) only [push_cast, seval, hx, ha]) | ((first | ((with_reducible refine pD_y ?_ ?_); exact rfl) | ((with_reducible refine pD_x ?_ ?_); exact rfl)); simp (disch := omega) only [push_cast, seval, hx, ha]) | ((first | ((with_reducible refine pops_guard ?_); refine ⟨_, rfl, fun K hK => ⟨_, rfl, fun hg => ?_, fun hg => ?_⟩⟩) | ((first | ((with_reducible refine pD_gy ?_ ?_); exact rfl) | ((with_reducible refine pD_gx ?_ ?_); exact rfl)); refine ⟨_, rfl, _, rfl, fun hg => ?_, fun hg => ?_⟩)) <;> first | (exact absurd hg (by decide)) | ((try simp only [Bool.not_true, Bool.not_false] at hg); (try simp only [hg]); (try simp only [push_cast] at hg); (try exact absurd trivial hg); (try (exfalso; omega)); (try simp (disch := omega) only [push_cast, seval, hx, ha]))) | ((with_reducible show pcall _ _ _ _ _ _); (first | (refine pcF (cf Tryz.func187) (sL9Vote_p ⟨_, _, _, _⟩ _) ?_) | (refine pcV (cf Tryz.func254) (sSigned_p ⟨_, _, _, _, _⟩ _) ?_)); (try simp (disch := omega) only [push_cast, seval, hx, ha])) | ((with_reducible refine And.intro ?_ ?_); omega))
        (refine ⟨j + 1, by ((try dsimp only); omega), ?_, by (refine ⟨[?_, ?_], ?_, ?_, ?_, ?_⟩; rotate_left 2; (· ((first | simp (disch := omega) only [push_cast, seval, e] | simp (disch := omega) only [push_cast, seval] | skip); (repeat' (first | exact trivial | exact rfl | refine And.intro ?_ ?_ | omega)))); (· ((first | simp (disch := omega) only [push_cast, seval, e] | simp (disch := omega) only [push_cast, seval] | skip); (repeat' (first | exact trivial | exact rfl | refine And.intro ?_ ?_ | omega)))); (· exact rfl); (· (first | exact trivial | exact ⟨rfl, trivial⟩ | exact ⟨rfl, rfl, trivial⟩)))⟩)
        exact hlj
      | false =>
        rw [ha, Bool.false_or] at e
        by_cases hv : x.fVal = (k : Int) + 1
        · rw [decide_eq_true hv, Bool.true_and] at e
          repeat' (first | with_reducible (first | refine wA ?_ | refine wB ?_ | refine wC ?_) | with_reducible refine PWp.draw (id := 11) okP true [0, 1, 2, 3, 4, 5, 6, 7, 8, 9, 10, 11, 12, 14, 15, 16, 17, 18, 19, 13, 20, 21, 22, 23] (by kernel_rfl) ?_ | with_reducible (first | refine w1 ?_ | refine w2 ?_ | refine w3 ?_ | refine w4 ?_ | refine w5 ?_ | refine w6 ?_ | refine w7 ?_ | refine w8 ?_ | refine wT ?_ | refine w9 ?_ | refine wE ?_ | refine wS ?_) | ((with_reducible refine hK _ ?_); clear hK K) | ((with_reducible refine PWp.condI ?_); refine ⟨_, rfl, fun hg => ?_, fun hg => ?_⟩ <;> first | (exact absurd hg (by decide)) | ((try simp only [Bool.not_true, Bool.not_false] at hg); (try simp only [hg]); (try simp only [push_cast] at hg); (try exact absurd trivial hg); (try (exfalso; omega)))) | ((first | ((with_reducible refine pops_guard0 ?_); refine ⟨_, rfl, fun K hK => ⟨rfl, ?_⟩⟩) | ((with_reducible refine pD_g0 ?_); refine ⟨_, rfl, rfl, ?_⟩)); (try simp (disch := omega) only [push_cast, seval, hx, ha, hv])) | ((with_reducible refine pany_I ?_); refine ⟨_, rfl, fun K hK => ?_⟩) | ((with_reducible refine pops_plain fun K hK => popO_row ?_); refine ⟨_, _, _, _, _, rfl, rfl, rfl, rfl, rfl, ?_⟩; simp (disch := omega) only [push_cast, seval, hx, ha, hv]) | ((with_reducible refine pD_x ?_ (popO_row ?_)); exact rfl; refine ⟨_, _, _, _, _, rfl, rfl, rfl, rfl, rfl, ?_⟩; simp (disch := omega) only [push_cast, seval, hx, ha, hv]) | ((with_reducible refine pops_plain fun K hK => ?_); simp (disch := omega) only [push_cast, seval, hx, ha, hv]) | ((first | ((with_reducible refine pD_y ?_ ?_); exact rfl) | ((with_reducible refine pD_x ?_ ?_); exact rfl)); simp (disch := omega) only [push_cast, seval, hx, ha, hv]) | ((first | ((with_reducible refine pops_guard ?_); refine ⟨_, rfl, fun K hK => ⟨_, rfl, fun hg => ?_, fun hg => ?_⟩⟩) | ((first | ((with_reducible refine pD_gy ?_ ?_); exact rfl) | ((with_reducible refine pD_gx ?_ ?_); exact rfl)); refine ⟨_, rfl, _, rfl, fun hg => ?_, fun hg => ?_⟩)) <;> first | (exact absurd hg (by decide)) | ((try simp only [Bool.not_true, Bool.not_false] at hg); (try simp only [hg]); (try simp only [push_cast] at hg); (try exact absurd trivial hg); (try (exfalso; omega)); (try simp (disch := omega) only [push_cast, seval, hx, ha, hv]))) | ((with_reducible show pcall _ _ _ _ _ _); (first | (refine pcF (cf Tryz.func187) (sL9Vote_p ⟨_, _, _, _⟩ _) ?_) | (refine pcV (cf Tryz.func254) (sSigned_p ⟨_, _, _, _, _⟩ _) ?_)); (try simp (disch := omega) only [push_cast, seval, hx, ha, hv])) | ((with_reducible refine And.intro ?_ ?_); omega))
          (refine ⟨j + 1, by ((try dsimp only); omega), ?_, by (refine ⟨[?_, ?_], ?_, ?_, ?_, ?_⟩; rotate_left 2; (· ((first | simp (disch := omega) only [push_cast, seval, e] | simp (disch := omega) only [push_cast, seval] | skip); (repeat' (first | exact trivial | exact rfl | refine And.intro ?_ ?_ | omega)))); (· ((first | simp (disch := omega) only [push_cast, seval, e] | simp (disch := omega) only [push_cast, seval] | skip); (repeat' (first | exact trivial | exact rfl | refine And.intro ?_ ?_ | omega)))); (· exact rfl); (· (first | exact trivial | exact ⟨rfl, trivial⟩ | exact ⟨rfl, rfl, trivial⟩)))⟩)
          exact hlj
        · rw [decide_eq_false hv, Bool.false_and] at e
          repeat' (first | with_reducible (first | refine wA ?_ | refine wB ?_ | refine wC ?_) | with_reducible refine PWp.draw (id := 11) okP true [0, 1, 2, 3, 4, 5, 6, 7, 8, 9, 10, 11, 12, 14, 15, 16, 17, 18, 19, 13, 20, 21, 22, 23] (by kernel_rfl) ?_ | with_reducible (first | refine w1 ?_ | refine w2 ?_ | refine w3 ?_ | refine w4 ?_ | refine w5 ?_ | refine w6 ?_ | refine w7 ?_ | refine w8 ?_ | refine wT ?_ | refine w9 ?_ | refine wE ?_ | refine wS ?_) | ((with_reducible refine hK _ ?_); clear hK K) | ((with_reducible refine PWp.condI ?_); refine ⟨_, rfl, fun hg => ?_, fun hg => ?_⟩ <;> first | (exact absurd hg (by decide)) | ((try simp only [Bool.not_true, Bool.not_false] at hg); (try simp only [hg]); (try simp only [push_cast] at hg); (try exact absurd trivial hg); (try (exfalso; omega)))) | ((first | ((with_reducible refine pops_guard0 ?_); refine ⟨_, rfl, fun K hK => ⟨rfl, ?_⟩⟩) | ((with_reducible refine pD_g0 ?_); refine ⟨_, rfl, rfl, ?_⟩)); (try simp (disch := omega) only [push_cast, seval, hx, ha, hv])) | ((with_reducible refine pany_I ?_); refine ⟨_, rfl, fun K hK => ?_⟩) | ((with_reducible refine pops_plain fun K hK => popO_row ?_); refine ⟨_, _, _, _, _, rfl, rfl, rfl, rfl, rfl, ?_⟩; simp (disch := omega) only [push_cast, seval, hx, ha, hv]) | ((with_reducible refine pD_x ?_ (popO_row ?_)); exact rfl; refine ⟨_, _, _, _, _, rfl, rfl, rfl, rfl, rfl, ?_⟩; simp (disch := omega) only [push_cast, seval, hx, ha, hv]) | ((with_reducible refine pops_plain fun K hK => ?_); simp (disch := omega) only [push_cast, seval, hx, ha, hv]) | ((first | ((with_reducible refine pD_y ?_ ?_); exact rfl) | ((with_reducible refine pD_x ?_ ?_); exact rfl)); simp (disch := omega) only [push_cast, seval, hx, ha, hv]) | ((first | ((with_reducible refine pops_guard ?_); refine ⟨_, rfl, fun K hK => ⟨_, rfl, fun hg => ?_, fun hg => ?_⟩⟩) | ((first | ((with_reducible refine pD_gy ?_ ?_); exact rfl) | ((with_reducible refine pD_gx ?_ ?_); exact rfl)); refine ⟨_, rfl, _, rfl, fun hg => ?_, fun hg => ?_⟩)) <;> first | (exact absurd hg (by decide)) | ((try simp only [Bool.not_true, Bool.not_false] at hg); (try simp only [hg]); (try simp only [push_cast] at hg); (try exact absurd trivial hg); (try (exfalso; omega)); (try simp (disch := omega) only [push_cast, seval, hx, ha, hv]))) | ((with_reducible show pcall _ _ _ _ _ _); (first | (refine pcF (cf Tryz.func187) (sL9Vote_p ⟨_, _, _, _⟩ _) ?_) | (refine pcV (cf Tryz.func254) (sSigned_p ⟨_, _, _, _, _⟩ _) ?_)); (try simp (disch := omega) only [push_cast, seval, hx, ha, hv])) | ((with_reducible refine And.intro ?_ ?_); omega))
          (refine ⟨j + 1, by ((try dsimp only); omega), ?_, by (refine ⟨[?_, ?_], ?_, ?_, ?_, ?_⟩; rotate_left 2; (· ((first | simp (disch := omega) only [push_cast, seval, e] | simp (disch := omega) only [push_cast, seval] | skip); (repeat' (first | exact trivial | exact rfl | refine And.intro ?_ ?_ | omega)))); (· ((first | simp (disch := omega) only [push_cast, seval, e] | simp (disch := omega) only [push_cast, seval] | skip); (repeat' (first | exact trivial | exact rfl | refine And.intro ?_ ?_ | omega)))); (· exact rfl); (· (first | exact trivial | exact ⟨rfl, trivial⟩ | exact ⟨rfl, rfl, trivial⟩)))⟩)
          exact hlj
    obtain rfl : j = c.fSigs.length := by omega
    have hle := scanVals_len c k
    have e := scanVals_succ (c := c) (n := k)
    rw [anyTo_all]
    cases hs : sigAt c ((k : Int) + 1) with
    | true =>
      rw [hs, if_pos rfl] at e
      repeat' (first | with_reducible (first | refine wA ?_ | refine wB ?_ | refine wC ?_) | with_reducible refine PWp.draw (id := 11) okP true [0, 1, 2, 3, 4, 5, 6, 7, 8, 9, 10, 11, 12, 14, 15, 16, 17, 18, 19, 13, 20, 21, 22, 23] (by kernel_rfl) ?_ | with_reducible (first | refine w1 ?_ | refine w2 ?_ | refine w3 ?_ | refine w4 ?_ | refine w5 ?_ | refine w6 ?_ | refine w7 ?_ | refine w8 ?_ | refine wT ?_ | refine w9 ?_ | refine wE ?_ | refine wS ?_) | ((with_reducible refine hK _ ?_); clear hK K) | ((with_reducible refine PWp.condI ?_); refine ⟨_, rfl, fun hg => ?_, fun hg => ?_⟩ <;> first | (exact absurd hg (by decide)) | ((try simp only [Bool.not_true, Bool.not_false] at hg); (try simp only [hg]); (try simp only [push_cast] at hg); (try exact absurd trivial hg); (try (exfalso; omega)))) | ((first | ((with_reducible refine pops_guard0 ?_); refine ⟨_, rfl, fun K hK => ⟨rfl, ?_⟩⟩) | ((with_reducible refine pD_g0 ?_); refine ⟨_, rfl, rfl, ?_⟩)); (try simp (disch := omega) only [push_cast, seval])) | ((with_reducible refine pany_I ?_); refine ⟨_, rfl, fun K hK => ?_⟩) | ((with_reducible refine pops_plain fun K hK => popO_row ?_); refine ⟨_, _, _, _, _, rfl, rfl, rfl, rfl, rfl, ?_⟩; simp (disch := omega) only [push_cast, seval]) | ((with_reducible refine pD_x ?_ (popO_row ?_)); exact rfl; refine ⟨_, _, _, _, _, rfl, rfl, rfl, rfl, rfl, ?_⟩; simp (disch := omega) only [push_cast, seval]) | ((with_reducible refine pops_plain fun K hK => ?_); simp (disch := omega) only [push_cast, seval]) | ((first | ((with_reducible refine pD_y ?_ ?_); exact rfl) | ((with_reducible refine pD_x ?_ ?_); exact rfl)); simp (disch := omega) only [push_cast, seval]) | ((first | ((with_reducible refine pops_guard ?_); refine ⟨_, rfl, fun K hK => ⟨_, rfl, fun hg => ?_, fun hg => ?_⟩⟩) | ((first | ((with_reducible refine pD_gy ?_ ?_); exact rfl) | ((with_reducible refine pD_gx ?_ ?_); exact rfl)); refine ⟨_, rfl, _, rfl, fun hg => ?_, fun hg => ?_⟩)) <;> first | (exact absurd hg (by decide)) | ((try simp only [Bool.not_true, Bool.not_false] at hg); (try simp only [hg]); (try simp only [push_cast] at hg); (try exact absurd trivial hg); (try (exfalso; omega)); (try simp (disch := omega) only [push_cast, seval]))) | ((with_reducible show pcall _ _ _ _ _ _); (first | (refine pcF (cf Tryz.func187) (sL9Vote_p ⟨_, _, _, _⟩ _) ?_) | (refine pcV (cf Tryz.func254) (sSigned_p ⟨_, _, _, _, _⟩ _) ?_)); (try simp (disch := omega) only [push_cast, seval])) | ((with_reducible refine And.intro ?_ ?_); omega))
      (refine ⟨k + 1, by ((try dsimp only); omega), ?_, by (refine ⟨[?_, ?_], ?_, ?_, ?_, ?_⟩; rotate_left 2; (· ((first | simp (disch := omega) only [push_cast, seval, e, List.map_append, List.map_cons, List.map_nil, pInt] | simp (disch := omega) only [push_cast, seval] | skip); (repeat' (first | exact trivial | exact rfl | refine And.intro ?_ ?_ | omega)))); (· ((first | simp (disch := omega) only [push_cast, seval, e, List.map_append, List.map_cons, List.map_nil, pInt] | simp (disch := omega) only [push_cast, seval] | skip); (repeat' (first | exact trivial | exact rfl | refine And.intro ?_ ?_ | omega)))); (· exact rfl); (· (first | exact trivial | exact ⟨rfl, trivial⟩ | exact ⟨rfl, rfl, trivial⟩)))⟩)
      exact hlt
    | false =>
      rw [hs, if_neg (by simp)] at e
      repeat' (first | with_reducible (first | refine wA ?_ | refine wB ?_ | refine wC ?_) | with_reducible refine PWp.draw (id := 11) okP true [0, 1, 2, 3, 4, 5, 6, 7, 8, 9, 10, 11, 12, 14, 15, 16, 17, 18, 19, 13, 20, 21, 22, 23] (by kernel_rfl) ?_ | with_reducible (first | refine w1 ?_ | refine w2 ?_ | refine w3 ?_ | refine w4 ?_ | refine w5 ?_ | refine w6 ?_ | refine w7 ?_ | refine w8 ?_ | refine wT ?_ | refine w9 ?_ | refine wE ?_ | refine wS ?_) | ((with_reducible refine hK _ ?_); clear hK K) | ((with_reducible refine PWp.condI ?_); refine ⟨_, rfl, fun hg => ?_, fun hg => ?_⟩ <;> first | (exact absurd hg (by decide)) | ((try simp only [Bool.not_true, Bool.not_false] at hg); (try simp only [hg]); (try simp only [push_cast] at hg); (try exact absurd trivial hg); (try (exfalso; omega)))) | ((first | ((with_reducible refine pops_guard0 ?_); refine ⟨_, rfl, fun K hK => ⟨rfl, ?_⟩⟩) | ((with_reducible refine pD_g0 ?_); refine ⟨_, rfl, rfl, ?_⟩)); (try simp (disch := omega) only [push_cast, seval])) | ((with_reducible refine pany_I ?_); refine ⟨_, rfl, fun K hK => ?_⟩) | ((with_reducible refine pops_plain fun K hK => popO_row ?_); refine ⟨_, _, _, _, _, rfl, rfl, rfl, rfl, rfl, ?_⟩; simp (disch := omega) only [push_cast, seval]) | ((with_reducible refine pD_x ?_ (popO_row ?_)); exact rfl; refine ⟨_, _, _, _, _, rfl, rfl, rfl, rfl, rfl, ?_⟩; simp (disch := omega) only [push_cast, seval]) | ((with_reducible refine pops_plain fun K hK => ?_); simp (disch := omega) only [push_cast, seval]) | ((first | ((with_reducible refine pD_y ?_ ?_); exact rfl) | ((with_reducible refine pD_x ?_ ?_); exact rfl)); simp (disch := omega) only [push_cast, seval]) | ((first | ((with_reducible refine pops_guard ?_); refine ⟨_, rfl, fun K hK => ⟨_, rfl, fun hg => ?_, fun hg => ?_⟩⟩) | ((first | ((with_reducible refine pD_gy ?_ ?_); exact rfl) | ((with_reducible refine pD_gx ?_ ?_); exact rfl)); refine ⟨_, rfl, _, rfl, fun hg => ?_, fun hg => ?_⟩)) <;> first | (exact absurd hg (by decide)) | ((try simp only [Bool.not_true, Bool.not_false] at hg); (try simp only [hg]); (try simp only [push_cast] at hg); (try exact absurd trivial hg); (try (exfalso; omega)); (try simp (disch := omega) only [push_cast, seval]))) | ((with_reducible show pcall _ _ _ _ _ _); (first | (refine pcF (cf Tryz.func187) (sL9Vote_p ⟨_, _, _, _⟩ _) ?_) | (refine pcV (cf Tryz.func254) (sSigned_p ⟨_, _, _, _, _⟩ _) ?_)); (try simp (disch := omega) only [push_cast, seval])) | ((with_reducible refine And.intro ?_ ?_); omega))
      (refine ⟨k + 1, by ((try dsimp only); omega), ?_, by (refine ⟨[?_, ?_], ?_, ?_, ?_, ?_⟩; rotate_left 2; (· ((first | simp (disch := omega) only [push_cast, seval, e] | simp (disch := omega) only [push_cast, seval] | skip); (repeat' (first | exact trivial | exact rfl | refine And.intro ?_ ?_ | omega)))); (· ((first | simp (disch := omega) only [push_cast, seval, e] | simp (disch := omega) only [push_cast, seval] | skip); (repeat' (first | exact trivial | exact rfl | refine And.intro ?_ ?_ | omega)))); (· exact rfl); (· (first | exact trivial | exact ⟨rfl, trivial⟩ | exact ⟨rfl, rfl, trivial⟩)))⟩)
      exact hlt
  obtain rfl : k = 99 := by omega
  repeat' (first | with_reducible (first | refine wA ?_ | refine wB ?_ | refine wC ?_) | with_reducible refine PWp.draw (id := 11) okP true [0, 1, 2, 3, 4, 5, 6, 7, 8, 9, 10, 11, 12, 14, 15, 16, 17, 18, 19, 13, 20, 21, 22, 23] (by kernel_rfl) ?_ | with_reducible (first | refine w1 ?_ | refine w2 ?_ | refine w3 ?_ | refine w4 ?_ | refine w5 ?_ | refine w6 ?_ | refine w7 ?_ | refine w8 ?_ | refine wT ?_ | refine w9 ?_ | refine wE ?_ | refine wS ?_) | ((with_reducible refine hK _ ?_); clear hK K) | ((with_reducible refine PWp.condI ?_); refine ⟨_, rfl, fun hg => ?_, fun hg => ?_⟩ <;> first | (exact absurd hg (by decide)) | ((try simp only [Bool.not_true, Bool.not_false] at hg); (try simp only [hg]); (try simp only [push_cast] at hg); (try exact absurd trivial hg); (try (exfalso; omega)))) | ((first | ((with_reducible refine pops_guard0 ?_); refine ⟨_, rfl, fun K hK => ⟨rfl, ?_⟩⟩) | ((with_reducible refine pD_g0 ?_); refine ⟨_, rfl, rfl, ?_⟩)); (try simp (disch := omega) only [push_cast, seval])) | ((with_reducible refine pany_I ?_); refine ⟨_, rfl, fun K hK => ?_⟩) | ((with_reducible refine pops_plain fun K hK => popO_row ?_); refine ⟨_, _, _, _, _, rfl, rfl, rfl, rfl, rfl, ?_⟩; simp (disch := omega) only [push_cast, seval]) | ((with_reducible refine pD_x ?_ (popO_row ?_)); exact rfl; refine ⟨_, _, _, _, _, rfl, rfl, rfl, rfl, rfl, ?_⟩; simp (disch := omega) only [push_cast, seval]) | ((with_reducible refine pops_plain fun K hK => ?_); simp (disch := omega) only [push_cast, seval]) | ((first | ((with_reducible refine pD_y ?_ ?_); exact rfl) | ((with_reducible refine pD_x ?_ ?_); exact rfl)); simp (disch := omega) only [push_cast, seval]) | ((first | ((with_reducible refine pops_guard ?_); refine ⟨_, rfl, fun K hK => ⟨_, rfl, fun hg => ?_, fun hg => ?_⟩⟩) | ((first | ((with_reducible refine pD_gy ?_ ?_); exact rfl) | ((with_reducible refine pD_gx ?_ ?_); exact rfl)); refine ⟨_, rfl, _, rfl, fun hg => ?_, fun hg => ?_⟩)) <;> first | (exact absurd hg (by decide)) | ((try simp only [Bool.not_true, Bool.not_false] at hg); (try simp only [hg]); (try simp only [push_cast] at hg); (try exact absurd trivial hg); (try (exfalso; omega)); (try simp (disch := omega) only [push_cast, seval]))) | ((with_reducible show pcall _ _ _ _ _ _); (first | (refine pcF (cf Tryz.func187) (sL9Vote_p ⟨_, _, _, _⟩ _) ?_) | (refine pcV (cf Tryz.func254) (sSigned_p ⟨_, _, _, _, _⟩ _) ?_)); (try simp (disch := omega) only [push_cast, seval])) | ((with_reducible refine And.intro ?_ ?_); omega))
  ((with_reducible show PPostR _ _ _ _ _ _); exact finH [_])
theorem sCommitVals_p (c : GCommit) (hl : c.fSigs.length ≤ 1099511627776) : PCalls Tryz.prog 197 [.agg (pCommit c)] [] (RH (.sl 1 ((commitVals c).map pInt)) []) :=
  (sCommitVals_o c hl).thawH 0 [] rfl (of_eq_true (pInt_rc _)) rfl rfl trivial trivial
set_option maxHeartbeats 1000000 in
theorem iCommitOk_p (l : List GVal) (h : GHeader) (c : GCommit) (hl : l.length ≤ 1099511627776) (hc : c.fSigs.length ≤ 1099511627776) : PCalls Tryz.prog 93 [.sl 2 (l.map pVal), .agg (pHeader h), .agg (pCommit c)] [] (RV (.val (.bool (commitOk l h c)))) := by
  have hz := commitVals_len c
  refine pcalls_ofR okP Tryz.func93 rfl ?_
  simp only [Tryz.f93, List.length_cons, List.length_nil, Nat.reduceAdd, Nat.reduceSub, List.replicate_succ, List.replicate_zero, List.cons_append, List.nil_append, List.length_map]
  repeat' (first | with_reducible (first | refine wA ?_ | refine wB ?_ | refine wC ?_) | with_reducible refine PWp.draw (id := 1) okP true [0, 1, 2, 3, 4, 5, 6, 7, 8, 9, 10, 11, 12, 13, 14, 15, 16, 17, 18, 19, 20, 21, 23, 24, 22, 25, 26, 27, 28, 29, 30, 31, 32, 33] (by kernel_rfl) ?_ | with_reducible (first | refine w1 ?_ | refine w2 ?_ | refine w3 ?_ | refine w4 ?_ | refine w5 ?_ | refine w6 ?_ | refine w7 ?_ | refine w8 ?_ | refine wT ?_ | refine w9 ?_ | refine wE ?_ | refine wS ?_) | ((with_reducible refine hK _ ?_); clear hK K) | ((first | ((with_reducible refine pops_guard0 ?_); refine ⟨_, rfl, fun K hK => ⟨rfl, ?_⟩⟩) | ((with_reducible refine pD_g0 ?_); refine ⟨_, rfl, rfl, ?_⟩)); (try simp (disch := omega) only [push_cast, seval])) | ((with_reducible refine pany_I ?_); refine ⟨_, rfl, fun K hK => ?_⟩) | ((with_reducible refine pops_plain fun K hK => ?_); simp (disch := omega) only [push_cast, seval]) | ((first | ((with_reducible refine pD_y ?_ ?_); exact rfl) | ((with_reducible refine pD_x ?_ ?_); exact rfl)); simp (disch := omega) only [push_cast, seval]) | ((first | ((with_reducible refine pops_guard ?_); refine ⟨_, rfl, fun K hK => ⟨_, rfl, fun hg => ?_, fun hg => ?_⟩⟩) | ((first | ((with_reducible refine pD_gy ?_ ?_); exact rfl) | ((with_reducible refine pD_gx ?_ ?_); exact rfl)); refine ⟨_, rfl, _, rfl, fun hg => ?_, fun hg => ?_⟩)) <;> first | (exact absurd hg (by decide)) | ((try simp only [Bool.not_true, Bool.not_false] at hg); (try simp only [hg]); (try simp only [push_cast] at hg); (try exact absurd trivial hg); (try (exfalso; omega)); (try simp (disch := omega) only [push_cast, seval]))) | ((with_reducible show pcall _ _ _ _ _ _); (first | (refine pcV (cf Tryz.func87) (iHeadId_p ⟨_, _, _, _, _, _⟩) ?_) | (refine pcV (cf Tryz.func90) (iValsOk_p _ sd) ?_) | (refine pcV (cf Tryz.func90) (iValsOk_p _ sd) ?_) | (refine pcV (cf Tryz.func91) (iHeaderOk_p ⟨_, _, _, _, _, _⟩) ?_) | (refine pcV (cf Tryz.func92) (iValsHash_p _ sd) ?_) | (refine pcV (cf Tryz.func192) (iEnough_p _ _ sd sd) ?_) | (refine pcF (cf Tryz.func193) (iCommitVals_p ⟨_, _, _, _⟩ sd) ?_)); (try simp (disch := omega) only [push_cast, seval])) | ((with_reducible refine And.intro ?_ ?_); omega))
  all_goals
    ((with_reducible show PPostR _ _ _ _ _ _); refine finV ?_; (try simp only [push_cast, seval]))
    simp_all [commitOk]
set_option maxHeartbeats 1000000 in
theorem sCommitOk_p (l : List GVal) (h : GHeader) (c : GCommit) (hl : l.length ≤ 1099511627776) (hc : c.fSigs.length ≤ 1099511627776) : PCalls Tryz.prog 106 [.sl 2 (l.map pVal), .agg (pHeader h), .agg (pCommit c)] [] (RV (.val (.bool (commitOk l h c)))) := by
  have hz := commitVals_len c
  refine pcalls_ofR okP Tryz.func106 rfl ?_
  simp only [Tryz.f106, List.length_cons, List.length_nil, Nat.reduceAdd, Nat.reduceSub, List.replicate_succ, List.replicate_zero, List.cons_append, List.nil_append, List.length_map]
  repeat' (first | with_reducible (first | refine wA ?_ | refine wB ?_ | refine wC ?_) | with_reducible refine PWp.draw (id := 1) okP true [0, 1, 2, 3, 4, 5, 6, 7, 8, 9, 10, 11, 12, 13, 14, 15, 16, 17, 18, 19, 20, 21, 23, 24, 22, 25, 26, 27, 28, 29, 30, 31, 32, 33] (by kernel_rfl) ?_ | with_reducible (first | refine w1 ?_ | refine w2 ?_ | refine w3 ?_ | refine w4 ?_ | refine w5 ?_ | refine w6 ?_ | refine w7 ?_ | refine w8 ?_ | refine wT ?_ | refine w9 ?_ | refine wE ?_ | refine wS ?_) | ((with_reducible refine hK _ ?_); clear hK K) | ((first | ((with_reducible refine pops_guard0 ?_); refine ⟨_, rfl, fun K hK => ⟨rfl, ?_⟩⟩) | ((with_reducible refine pD_g0 ?_); refine ⟨_, rfl, rfl, ?_⟩)); (try simp (disch := omega) only [push_cast, seval])) | ((with_reducible refine pany_I ?_); refine ⟨_, rfl, fun K hK => ?_⟩) | ((with_reducible refine pops_plain fun K hK => ?_); simp (disch := omega) only [push_cast, seval]) | ((first | ((with_reducible refine pD_y ?_ ?_); exact rfl) | ((with_reducible refine pD_x ?_ ?_); exact rfl)); simp (disch := omega) only [push_cast, seval]) | ((first | ((with_reducible refine pops_guard ?_); refine ⟨_, rfl, fun K hK => ⟨_, rfl, fun hg => ?_, fun hg => ?_⟩⟩) | ((first | ((with_reducible refine pD_gy ?_ ?_); exact rfl) | ((with_reducible refine pD_gx ?_ ?_); exact rfl)); refine ⟨_, rfl, _, rfl, fun hg => ?_, fun hg => ?_⟩)) <;> first | (exact absurd hg (by decide)) | ((try simp only [Bool.not_true, Bool.not_false] at hg); (try simp only [hg]); (try simp only [push_cast] at hg); (try exact absurd trivial hg); (try (exfalso; omega)); (try simp (disch := omega) only [push_cast, seval]))) | ((with_reducible show pcall _ _ _ _ _ _); (first | (refine pcV (cf Tryz.func72) (sHeadId_p ⟨_, _, _, _, _, _⟩) ?_) | (refine pcV (cf Tryz.func83) (sValsHash_p _ sd) ?_) | (refine pcV (cf Tryz.func105) (sValsOk_p _ sd) ?_) | (refine pcV (cf Tryz.func172) (sHeaderOk_p ⟨_, _, _, _, _, _⟩) ?_) | (refine pcV (cf Tryz.func196) (sEnough_p _ _ sd sd) ?_) | (refine pcF (cf Tryz.func197) (sCommitVals_p ⟨_, _, _, _⟩ sd) ?_)); (try simp (disch := omega) only [push_cast, seval])) | ((with_reducible refine And.intro ?_ ?_); omega))
  all_goals
    ((with_reducible show PPostR _ _ _ _ _ _); refine finV ?_; (try simp only [push_cast, seval]))
    simp_all [commitOk]
theorem copyVals_p (l : List GVal) (hl : l.length ≤ 2000000) : PCalls Tryz.prog 120 [.sl 2 (l.map pVal)] [] (RH (.own 0) [some (.row 141 2 (l.map pVal))]) := by
  refine pcalls_ofR okP Tryz.func120 rfl ?_
  simp only [Tryz.f120, List.length_cons, List.length_nil, Nat.reduceAdd, Nat.reduceSub, List.replicate_succ, List.replicate_zero, List.cons_append, List.nil_append, List.length_map]
  repeat' (first | with_reducible (first | refine wA ?_ | refine wB ?_ | refine wC ?_ | refine w1 ?_ | refine w2 ?_ | refine w3 ?_ | refine w4 ?_ | refine w5 ?_ | refine w6 ?_ | refine w7 ?_ | refine w8 ?_ | refine wT ?_ | refine w9 ?_ | refine wE ?_ | refine wS ?_) | ((with_reducible refine hK _ ?_); clear hK K) | ((with_reducible refine pops_plain fun K hK => ?_); simp (disch := omega) only [push_cast, seval]) | ((with_reducible refine And.intro ?_ ?_); omega))
  ((with_reducible show PPostR _ _ _ _ _ _); exact finH [_])
def pAnO (a : GAnchor) : List PV := [.val (.int .i64 a.fHead.fHeight), .val (.int .i64 a.fHead.fTime), .val (.string a.fHead.fLast), .val (.string a.fHead.fVals), .val (.string a.fHead.fNext), .val (.string a.fHead.fData), .own 0]
def bAn (a : GAnchor) : Hp := [some (.row 141 2 (a.fNext.map pVal))]
attribute [push_cast] pAnO bAn
end Go.Proofs.YtiboajlnjldalaaGreatDoor
