/- What the proof leans on, part 6. -/
import Derived.Test.YtiboajlnjldalaaGreatDoorQF5
namespace Go.Proofs.YtiboajlnjldalaaGreatDoor
set_option linter.unusedSimpArgs false
set_option linter.unusedVariables false
open Go.RowKit
set_option maxRecDepth 100000
theorem storeOk_bad {s : GStore} {k : Nat} (hlt : k < s.fHeads.length) (h : adjAt headerOk linkOk s.fHeads k = false) : storeOk s = false := by
  unfold storeOk
  rw [adjOk_no hlt h]
  rfl
set_option maxHeartbeats 2000000 in
theorem iStoreOk_p (s : GStore) (hl : s.fHeads.length ≤ 1099511627776) : PCalls Tryz.prog 206 [.agg (pStore s)] [] (RV (.val (.bool (storeOk s)))) := by
  refine pcalls_ofR okP Tryz.func206 rfl ?_
  simp only [Tryz.f206, List.length_cons, List.length_nil, Nat.reduceAdd, Nat.reduceSub, List.replicate_succ, List.replicate_zero, List.cons_append, List.nil_append, List.length_map]
  repeat' (first | with_reducible (first | refine wA ?_ | refine wB ?_ | refine wC ?_) | with_reducible refine PWp.draw (id := 8) okP true [0, 1, 2, 3, 4, 5, 6, 7, 8, 9, 10, 11, 12, 13, 14, 15, 16, 17, 18, 19, 20, 21, 22, 23, 24, 25, 26] (by kernel_rfl) ?_ | with_reducible (first | refine w1 ?_ | refine w2 ?_ | refine w3 ?_ | refine w4 ?_ | refine w5 ?_ | refine w6 ?_ | refine w7 ?_ | refine w8 ?_ | refine wT ?_ | refine w9 ?_ | refine wE ?_ | refine wS ?_) | ((with_reducible refine hK _ ?_); clear hK K) | ((with_reducible refine PWp.condI ?_); refine ⟨_, rfl, fun hg => ?_, fun hg => ?_⟩ <;> first | (exact absurd hg (by decide)) | ((try simp only [Bool.not_true, Bool.not_false] at hg); (try simp only [hg]); (try simp only [push_cast] at hg); (try exact absurd trivial hg); (try (exfalso; omega)))) | ((first | ((with_reducible refine pops_guard0 ?_); refine ⟨_, rfl, fun K hK => ⟨rfl, ?_⟩⟩) | ((with_reducible refine pD_g0 ?_); refine ⟨_, rfl, rfl, ?_⟩)); (try simp (disch := omega) only [push_cast, seval])) | ((with_reducible refine pany_I ?_); refine ⟨_, rfl, fun K hK => ?_⟩) | ((with_reducible refine pops_plain fun K hK => ?_); simp (disch := omega) only [push_cast, seval]) | ((first | ((with_reducible refine pD_y ?_ ?_); exact rfl) | ((with_reducible refine pD_x ?_ ?_); exact rfl)); simp (disch := omega) only [push_cast, seval]) | ((first | ((with_reducible refine pops_guard ?_); refine ⟨_, rfl, fun K hK => ⟨_, rfl, fun hg => ?_, fun hg => ?_⟩⟩) | ((first | ((with_reducible refine pD_gy ?_ ?_); exact rfl) | ((with_reducible refine pD_gx ?_ ?_); exact rfl)); refine ⟨_, rfl, _, rfl, fun hg => ?_, fun hg => ?_⟩)) <;> first | (exact absurd hg (by decide)) | ((try simp only [Bool.not_true, Bool.not_false] at hg); (try simp only [hg]); (try simp only [push_cast] at hg); (try exact absurd trivial hg); (try (exfalso; omega)); (try simp (disch := omega) only [push_cast, seval]))) | ((with_reducible show pcall _ _ _ _ _ _); (first | (refine pcV (cf Tryz.func77) (within_p _ _ _) ?_) | (refine pcV (cf Tryz.func87) (iHeadId_p ⟨_, _, _, _, _, _⟩) ?_) | (refine pcV (cf Tryz.func91) (iHeaderOk_p ⟨_, _, _, _, _, _⟩) ?_)); (try simp (disch := omega) only [push_cast, seval])) | ((with_reducible refine And.intro ?_ ?_); omega))
  refine PWp.loopK (α := Nat) (fun k => [(1, .ptr 0 0), (9, .val (.int .i64 (k : Int)))]) [0, 2, 3, 4, 5, 6, 10, 11, 12, 13, 14, 15, 16, 17, 18, 19, 20, 21, 22, 23, 24, 25, 26, 27, 28, 29, 30, 31, 32, 33, 34, 35, 36, 37, 38, 39, 40, 41, 42, 43, 44, 45, 46, 47, 48, 49, 50, 51, 52] (fun k => [some (.box (pStore s))]) (fun k => k ≤ s.fHeads.length ∧ allTo (adjAt headerOk linkOk s.fHeads) k) (fun k => s.fHeads.length - k) (0) (⟨Nat.zero_le _, allTo_zero⟩) (by (refine ⟨[?_], ?_, ?_, ?_, ?_⟩; rotate_left 1; (· ((try simp (disch := omega) only [push_cast, seval]); (repeat' (first | exact trivial | exact rfl | refine And.intro ?_ ?_ | omega)))); (· ((try simp (disch := omega) only [push_cast, seval]); (repeat' (first | exact trivial | exact rfl | refine And.intro ?_ ?_ | omega)))); (· exact rfl); (· (first | exact trivial | exact ⟨rfl, trivial⟩ | exact ⟨rfl, rfl, trivial⟩)))) ?_
  intro k ρ hI
  (try dsimp only at hI)
  refine PWp.at (tm' := ?_) (H' := ?_) ?_ ?_ ?_; rotate_left 2; (· ((try simp only [push_cast, seval]); exact rfl)); (· ((try dsimp only); exact rfl))
  obtain ⟨hk, hA⟩ := hI
  by_cases hlt : k < s.fHeads.length
  · obtain ⟨x, hx⟩ : ∃ x, s.fHeads[k]? = some x := ⟨_, List.getElem?_eq_getElem hlt⟩
    have bad := storeOk_bad hlt
    cases k with
    | zero =>
      have e := adjAt_zero (f := headerOk) (g := linkOk) hx
      repeat' (first | with_reducible (first | refine wA ?_ | refine wB ?_ | refine wC ?_) | with_reducible refine PWp.draw (id := 8) okP true [0, 1, 2, 3, 4, 5, 6, 7, 8, 9, 10, 11, 12, 13, 14, 15, 16, 17, 18, 19, 20, 21, 22, 23, 24, 25, 26] (by kernel_rfl) ?_ | with_reducible (first | refine w1 ?_ | refine w2 ?_ | refine w3 ?_ | refine w4 ?_ | refine w5 ?_ | refine w6 ?_ | refine w7 ?_ | refine w8 ?_ | refine wT ?_ | refine w9 ?_ | refine wE ?_ | refine wS ?_) | ((with_reducible refine hK _ ?_); clear hK K) | ((with_reducible refine PWp.condI ?_); refine ⟨_, rfl, fun hg => ?_, fun hg => ?_⟩ <;> first | (exact absurd hg (by decide)) | ((try simp only [Bool.not_true, Bool.not_false] at hg); (try simp only [hg]); (try simp only [push_cast] at hg); (try exact absurd trivial hg); (try (exfalso; omega)))) | ((first | ((with_reducible refine pops_guard0 ?_); refine ⟨_, rfl, fun K hK => ⟨rfl, ?_⟩⟩) | ((with_reducible refine pD_g0 ?_); refine ⟨_, rfl, rfl, ?_⟩)); (try simp (disch := omega) only [push_cast, seval, hx])) | ((with_reducible refine pany_I ?_); refine ⟨_, rfl, fun K hK => ?_⟩) | ((with_reducible refine pops_plain fun K hK => ?_); simp (disch := omega) only [push_cast, seval, hx]) | ((first | ((with_reducible refine pD_y ?_ ?_); exact rfl) | ((with_reducible refine pD_x ?_ ?_); exact rfl)); simp (disch := omega) only [push_cast, seval, hx]) | ((first | ((with_reducible refine pops_guard ?_); refine ⟨_, rfl, fun K hK => ⟨_, rfl, fun hg => ?_, fun hg => ?_⟩⟩) | ((first | ((with_reducible refine pD_gy ?_ ?_); exact rfl) | ((with_reducible refine pD_gx ?_ ?_); exact rfl)); refine ⟨_, rfl, _, rfl, fun hg => ?_, fun hg => ?_⟩)) <;> first | (exact absurd hg (by decide)) | ((try simp only [Bool.not_true, Bool.not_false] at hg); (try simp only [hg]); (try simp only [push_cast] at hg); (try exact absurd trivial hg); (try (exfalso; omega)); (try simp (disch := omega) only [push_cast, seval, hx]))) | ((with_reducible show pcall _ _ _ _ _ _); (first | (refine pcV (cf Tryz.func77) (within_p _ _ _) ?_) | (refine pcV (cf Tryz.func87) (iHeadId_p ⟨_, _, _, _, _, _⟩) ?_) | (refine pcV (cf Tryz.func91) (iHeaderOk_p ⟨_, _, _, _, _, _⟩) ?_)); (try simp (disch := omega) only [push_cast, seval, hx])) | ((with_reducible refine And.intro ?_ ?_); omega))
      all_goals first
        | (((with_reducible show PPostR _ _ _ _ _ _); refine finV ?_; (try simp only [push_cast, seval])); rw [bad (by rw [e]; simp_all)])
        | ((refine ⟨1, by ((try dsimp only); omega), ?_, by (refine ⟨[?_], ?_, ?_, ?_, ?_⟩; rotate_left 1; (· ((try simp (disch := omega) only [push_cast, seval]); (repeat' (first | exact trivial | exact rfl | refine And.intro ?_ ?_ | omega)))); (· ((try simp (disch := omega) only [push_cast, seval]); (repeat' (first | exact trivial | exact rfl | refine And.intro ?_ ?_ | omega)))); (· exact rfl); (· (first | exact trivial | exact ⟨rfl, trivial⟩ | exact ⟨rfl, rfl, trivial⟩)))⟩); exact ⟨by omega, allTo_succ hA (by rw [e]; simp_all)⟩)
    | succ j =>
      obtain ⟨y, hy⟩ : ∃ y, s.fHeads[j]? = some y := ⟨_, List.getElem?_eq_getElem (by omega)⟩
      have e := adjAt_succ (f := headerOk) (g := linkOk) hx hy
      have by' := headerOk_facts (adjAt_f (hA j (by omega)) hy)
      have b1 := by'.h1; have b2 := by'.h2
      repeat' (first | with_reducible (first | refine wA ?_ | refine wB ?_ | refine wC ?_) | with_reducible refine PWp.draw (id := 8) okP true [0, 1, 2, 3, 4, 5, 6, 7, 8, 9, 10, 11, 12, 13, 14, 15, 16, 17, 18, 19, 20, 21, 22, 23, 24, 25, 26] (by kernel_rfl) ?_ | with_reducible (first | refine w1 ?_ | refine w2 ?_ | refine w3 ?_ | refine w4 ?_ | refine w5 ?_ | refine w6 ?_ | refine w7 ?_ | refine w8 ?_ | refine wT ?_ | refine w9 ?_ | refine wE ?_ | refine wS ?_) | ((with_reducible refine hK _ ?_); clear hK K) | ((with_reducible refine PWp.condI ?_); refine ⟨_, rfl, fun hg => ?_, fun hg => ?_⟩ <;> first | (exact absurd hg (by decide)) | ((try simp only [Bool.not_true, Bool.not_false] at hg); (try simp only [hg]); (try simp only [push_cast] at hg); (try exact absurd trivial hg); (try (exfalso; omega)))) | ((first | ((with_reducible refine pops_guard0 ?_); refine ⟨_, rfl, fun K hK => ⟨rfl, ?_⟩⟩) | ((with_reducible refine pD_g0 ?_); refine ⟨_, rfl, rfl, ?_⟩)); (try simp (disch := omega) only [push_cast, seval, hx, hy])) | ((with_reducible refine pany_I ?_); refine ⟨_, rfl, fun K hK => ?_⟩) | ((with_reducible refine pops_plain fun K hK => ?_); simp (disch := omega) only [push_cast, seval, hx, hy]) | ((first | ((with_reducible refine pD_y ?_ ?_); exact rfl) | ((with_reducible refine pD_x ?_ ?_); exact rfl)); simp (disch := omega) only [push_cast, seval, hx, hy]) | ((first | ((with_reducible refine pops_guard ?_); refine ⟨_, rfl, fun K hK => ⟨_, rfl, fun hg => ?_, fun hg => ?_⟩⟩) | ((first | ((with_reducible refine pD_gy ?_ ?_); exact rfl) | ((with_reducible refine pD_gx ?_ ?_); exact rfl)); refine ⟨_, rfl, _, rfl, fun hg => ?_, fun hg => ?_⟩)) <;> first | (exact absurd hg (by decide)) | ((try simp only [Bool.not_true, Bool.not_false] at hg); (try simp only [hg]); (try simp only [push_cast] at hg); (try exact absurd trivial hg); (try (exfalso; omega)); (try simp (disch := omega) only [push_cast, seval, hx, hy]))) | ((with_reducible show pcall _ _ _ _ _ _); (first | (refine pcV (cf Tryz.func77) (within_p _ _ _) ?_) | (refine pcV (cf Tryz.func87) (iHeadId_p ⟨_, _, _, _, _, _⟩) ?_) | (refine pcV (cf Tryz.func91) (iHeaderOk_p ⟨_, _, _, _, _, _⟩) ?_)); (try simp (disch := omega) only [push_cast, seval, hx, hy])) | ((with_reducible refine And.intro ?_ ?_); omega))
      all_goals first
        | (((with_reducible show PPostR _ _ _ _ _ _); refine finV ?_; (try simp only [push_cast, seval])); rw [bad (by rw [e]; (first | (simp_all [linkOk]; done) | (simp_all [linkOk]; omega)))])
        | ((refine ⟨j + 2, by ((try dsimp only); omega), ?_, by (refine ⟨[?_], ?_, ?_, ?_, ?_⟩; rotate_left 1; (· ((try simp (disch := omega) only [push_cast, seval]); (repeat' (first | exact trivial | exact rfl | refine And.intro ?_ ?_ | omega)))); (· ((try simp (disch := omega) only [push_cast, seval]); (repeat' (first | exact trivial | exact rfl | refine And.intro ?_ ?_ | omega)))); (· exact rfl); (· (first | exact trivial | exact ⟨rfl, trivial⟩ | exact ⟨rfl, rfl, trivial⟩)))⟩); exact ⟨by omega, allTo_succ hA (by rw [e]; (first | (simp_all [linkOk]; done) | (simp_all [linkOk]; omega)))⟩)
  obtain rfl : k = s.fHeads.length := by omega
  have hend : storeOk s = (decide ((s.fHeads.length : Int) ≤ 20) && inB s.fSynced 0 s.fHeads.length) := by unfold storeOk; rw [adjOk_end hA, Bool.true_and]
  repeat' (first | with_reducible (first | refine wA ?_ | refine wB ?_ | refine wC ?_) | with_reducible refine PWp.draw (id := 8) okP true [0, 1, 2, 3, 4, 5, 6, 7, 8, 9, 10, 11, 12, 13, 14, 15, 16, 17, 18, 19, 20, 21, 22, 23, 24, 25, 26] (by kernel_rfl) ?_ | with_reducible (first | refine w1 ?_ | refine w2 ?_ | refine w3 ?_ | refine w4 ?_ | refine w5 ?_ | refine w6 ?_ | refine w7 ?_ | refine w8 ?_ | refine wT ?_ | refine w9 ?_ | refine wE ?_ | refine wS ?_) | ((with_reducible refine hK _ ?_); clear hK K) | ((with_reducible refine PWp.condI ?_); refine ⟨_, rfl, fun hg => ?_, fun hg => ?_⟩ <;> first | (exact absurd hg (by decide)) | ((try simp only [Bool.not_true, Bool.not_false] at hg); (try simp only [hg]); (try simp only [push_cast] at hg); (try exact absurd trivial hg); (try (exfalso; omega)))) | ((first | ((with_reducible refine pops_guard0 ?_); refine ⟨_, rfl, fun K hK => ⟨rfl, ?_⟩⟩) | ((with_reducible refine pD_g0 ?_); refine ⟨_, rfl, rfl, ?_⟩)); (try simp (disch := omega) only [push_cast, seval])) | ((with_reducible refine pany_I ?_); refine ⟨_, rfl, fun K hK => ?_⟩) | ((with_reducible refine pops_plain fun K hK => ?_); simp (disch := omega) only [push_cast, seval]) | ((first | ((with_reducible refine pD_y ?_ ?_); exact rfl) | ((with_reducible refine pD_x ?_ ?_); exact rfl)); simp (disch := omega) only [push_cast, seval]) | ((first | ((with_reducible refine pops_guard ?_); refine ⟨_, rfl, fun K hK => ⟨_, rfl, fun hg => ?_, fun hg => ?_⟩⟩) | ((first | ((with_reducible refine pD_gy ?_ ?_); exact rfl) | ((with_reducible refine pD_gx ?_ ?_); exact rfl)); refine ⟨_, rfl, _, rfl, fun hg => ?_, fun hg => ?_⟩)) <;> first | (exact absurd hg (by decide)) | ((try simp only [Bool.not_true, Bool.not_false] at hg); (try simp only [hg]); (try simp only [push_cast] at hg); (try exact absurd trivial hg); (try (exfalso; omega)); (try simp (disch := omega) only [push_cast, seval]))) | ((with_reducible show pcall _ _ _ _ _ _); (first | (refine pcV (cf Tryz.func77) (within_p _ _ _) ?_) | (refine pcV (cf Tryz.func87) (iHeadId_p ⟨_, _, _, _, _, _⟩) ?_) | (refine pcV (cf Tryz.func91) (iHeaderOk_p ⟨_, _, _, _, _, _⟩) ?_)); (try simp (disch := omega) only [push_cast, seval])) | ((with_reducible refine And.intro ?_ ?_); omega))
  all_goals
    ((with_reducible show PPostR _ _ _ _ _ _); refine finV ?_; (try simp only [push_cast, seval]))
    rw [hend]
    first
      | (simp_all; done)
      | (simp_all; intros; omega)
set_option maxHeartbeats 2000000 in
theorem sStoreOk_p (s : GStore) (hl : s.fHeads.length ≤ 1099511627776) : PCalls Tryz.prog 164 [.agg (pStore s)] [] (RV (.val (.bool (storeOk s)))) := by
  by_cases h0 : ((s.fHeads.length : Int) ≤ 20 ∧ inB s.fSynced 0 s.fHeads.length = true)
  case neg =>
    have e : storeOk s = false := by
      unfold storeOk
      by_cases h1 : (s.fHeads.length : Int) ≤ 20
      · have : inB s.fSynced 0 s.fHeads.length = false := by simpa [h1] using h0
        rw [this, Bool.and_false]
      · rw [decide_eq_false h1, Bool.and_false, Bool.false_and]
    rw [e]
    by_cases h1 : (s.fHeads.length : Int) ≤ 20
    · have h2 : inB s.fSynced 0 s.fHeads.length = false := by simpa [h1] using h0
      refine pcalls_ofR okP Tryz.func164 rfl ?_
      simp only [Tryz.f164, List.length_cons, List.length_nil, Nat.reduceAdd, Nat.reduceSub, List.replicate_succ, List.replicate_zero, List.cons_append, List.nil_append, List.length_map]
      repeat' (first | with_reducible (first | refine wA ?_ | refine wB ?_ | refine wC ?_) | with_reducible refine PWp.draw (id := 11) okP true [0, 1, 2, 3, 4, 5, 6, 7, 8, 9, 10, 11, 12, 13, 14, 15, 16, 17, 18, 19, 20, 21, 22, 23, 24, 25, 26] (by kernel_rfl) ?_ | with_reducible (first | refine w1 ?_ | refine w2 ?_ | refine w3 ?_ | refine w4 ?_ | refine w5 ?_ | refine w6 ?_ | refine w7 ?_ | refine w8 ?_ | refine wT ?_ | refine w9 ?_ | refine wE ?_ | refine wS ?_) | ((with_reducible refine hK _ ?_); clear hK K) | ((with_reducible refine PWp.condI ?_); refine ⟨_, rfl, fun hg => ?_, fun hg => ?_⟩ <;> first | (exact absurd hg (by decide)) | ((try simp only [Bool.not_true, Bool.not_false] at hg); (try simp only [hg]); (try simp only [push_cast] at hg); (try exact absurd trivial hg); (try (exfalso; omega)))) | ((first | ((with_reducible refine pops_guard0 ?_); refine ⟨_, rfl, fun K hK => ⟨rfl, ?_⟩⟩) | ((with_reducible refine pD_g0 ?_); refine ⟨_, rfl, rfl, ?_⟩)); (try simp (disch := omega) only [push_cast, seval, h2])) | ((with_reducible refine pany_I ?_); refine ⟨_, rfl, fun K hK => ?_⟩) | ((with_reducible refine pops_plain fun K hK => ?_); simp (disch := omega) only [push_cast, seval, h2]) | ((first | ((with_reducible refine pD_y ?_ ?_); exact rfl) | ((with_reducible refine pD_x ?_ ?_); exact rfl)); simp (disch := omega) only [push_cast, seval, h2]) | ((first | ((with_reducible refine pops_guard ?_); refine ⟨_, rfl, fun K hK => ⟨_, rfl, fun hg => ?_, fun hg => ?_⟩⟩) | ((first | ((with_reducible refine pD_gy ?_ ?_); exact rfl) | ((with_reducible refine pD_gx ?_ ?_); exact rfl)); refine ⟨_, rfl, _, rfl, fun hg => ?_, fun hg => ?_⟩)) <;> first | (exact absurd hg (by decide)) | ((try simp only [Bool.not_true, Bool.not_false] at hg); (try simp only [hg]); (try simp only [push_cast] at hg); (try exact absurd trivial hg); (try (exfalso; omega)); (try simp (disch := omega) only [push_cast, seval, h2]))) | ((with_reducible show pcall _ _ _ _ _ _); (first | (refine pcV (cf Tryz.func72) (sHeadId_p ⟨_, _, _, _, _, _⟩) ?_) | (refine pcV (cf Tryz.func79) (l1In_p _ _ _) ?_) | (refine pcV (cf Tryz.func172) (sHeaderOk_p ⟨_, _, _, _, _, _⟩) ?_)); (try simp (disch := omega) only [push_cast, seval, h2])) | ((with_reducible refine And.intro ?_ ?_); omega))
      ((with_reducible show PPostR _ _ _ _ _ _); refine finV ?_; (try simp only [push_cast, seval]))
    · clear h0
      refine pcalls_ofR okP Tryz.func164 rfl ?_
      simp only [Tryz.f164, List.length_cons, List.length_nil, Nat.reduceAdd, Nat.reduceSub, List.replicate_succ, List.replicate_zero, List.cons_append, List.nil_append, List.length_map]
      repeat' (first | with_reducible (first | refine wA ?_ | refine wB ?_ | refine wC ?_) | with_reducible refine PWp.draw (id := 11) okP true [0, 1, 2, 3, 4, 5, 6, 7, 8, 9, 10, 11, 12, 13, 14, 15, 16, 17, 18, 19, 20, 21, 22, 23, 24, 25, 26] (by kernel_rfl) ?_ | with_reducible (first | refine w1 ?_ | refine w2 ?_ | refine w3 ?_ | refine w4 ?_ | refine w5 ?_ | refine w6 ?_ | refine w7 ?_ | refine w8 ?_ | refine wT ?_ | refine w9 ?_ | refine wE ?_ | refine wS ?_) | ((with_reducible refine hK _ ?_); clear hK K) | ((with_reducible refine PWp.condI ?_); refine ⟨_, rfl, fun hg => ?_, fun hg => ?_⟩ <;> first | (exact absurd hg (by decide)) | ((try simp only [Bool.not_true, Bool.not_false] at hg); (try simp only [hg]); (try simp only [push_cast] at hg); (try exact absurd trivial hg); (try (exfalso; omega)))) | ((first | ((with_reducible refine pops_guard0 ?_); refine ⟨_, rfl, fun K hK => ⟨rfl, ?_⟩⟩) | ((with_reducible refine pD_g0 ?_); refine ⟨_, rfl, rfl, ?_⟩)); (try simp (disch := omega) only [push_cast, seval])) | ((with_reducible refine pany_I ?_); refine ⟨_, rfl, fun K hK => ?_⟩) | ((with_reducible refine pops_plain fun K hK => ?_); simp (disch := omega) only [push_cast, seval]) | ((first | ((with_reducible refine pD_y ?_ ?_); exact rfl) | ((with_reducible refine pD_x ?_ ?_); exact rfl)); simp (disch := omega) only [push_cast, seval]) | ((first | ((with_reducible refine pops_guard ?_); refine ⟨_, rfl, fun K hK => ⟨_, rfl, fun hg => ?_, fun hg => ?_⟩⟩) | ((first | ((with_reducible refine pD_gy ?_ ?_); exact rfl) | ((with_reducible refine pD_gx ?_ ?_); exact rfl)); refine ⟨_, rfl, _, rfl, fun hg => ?_, fun hg => ?_⟩)) <;> first | (exact absurd hg (by decide)) | ((try simp only [Bool.not_true, Bool.not_false] at hg); (try simp only [hg]); (try simp only [push_cast] at hg); (try exact absurd trivial hg); (try (exfalso; omega)); (try simp (disch := omega) only [push_cast, seval]))) | ((with_reducible show pcall _ _ _ _ _ _); (first | (refine pcV (cf Tryz.func72) (sHeadId_p ⟨_, _, _, _, _, _⟩) ?_) | (refine pcV (cf Tryz.func79) (l1In_p _ _ _) ?_) | (refine pcV (cf Tryz.func172) (sHeaderOk_p ⟨_, _, _, _, _, _⟩) ?_)); (try simp (disch := omega) only [push_cast, seval])) | ((with_reducible refine And.intro ?_ ?_); omega))
      ((with_reducible show PPostR _ _ _ _ _ _); refine finV ?_; (try simp only [push_cast, seval]))
  obtain ⟨h1, h2⟩ := h0
  refine pcalls_ofR okP Tryz.func164 rfl ?_
  simp only [Tryz.f164, List.length_cons, List.length_nil, Nat.reduceAdd, Nat.reduceSub, List.replicate_succ, List.replicate_zero, List.cons_append, List.nil_append, List.length_map]
  repeat' (first | with_reducible (first | refine wA ?_ | refine wB ?_ | refine wC ?_) | with_reducible refine PWp.draw (id := 11) okP true [0, 1, 2, 3, 4, 5, 6, 7, 8, 9, 10, 11, 12, 13, 14, 15, 16, 17, 18, 19, 20, 21, 22, 23, 24, 25, 26] (by kernel_rfl) ?_ | with_reducible (first | refine w1 ?_ | refine w2 ?_ | refine w3 ?_ | refine w4 ?_ | refine w5 ?_ | refine w6 ?_ | refine w7 ?_ | refine w8 ?_ | refine wT ?_ | refine w9 ?_ | refine wE ?_ | refine wS ?_) | ((with_reducible refine hK _ ?_); clear hK K) | ((with_reducible refine PWp.condI ?_); refine ⟨_, rfl, fun hg => ?_, fun hg => ?_⟩ <;> first | (exact absurd hg (by decide)) | ((try simp only [Bool.not_true, Bool.not_false] at hg); (try simp only [hg]); (try simp only [push_cast] at hg); (try exact absurd trivial hg); (try (exfalso; omega)))) | ((first | ((with_reducible refine pops_guard0 ?_); refine ⟨_, rfl, fun K hK => ⟨rfl, ?_⟩⟩) | ((with_reducible refine pD_g0 ?_); refine ⟨_, rfl, rfl, ?_⟩)); (try simp (disch := omega) only [push_cast, seval, h2])) | ((with_reducible refine pany_I ?_); refine ⟨_, rfl, fun K hK => ?_⟩) | ((with_reducible refine pops_plain fun K hK => ?_); simp (disch := omega) only [push_cast, seval, h2]) | ((first | ((with_reducible refine pD_y ?_ ?_); exact rfl) | ((with_reducible refine pD_x ?_ ?_); exact rfl)); simp (disch := omega) only [push_cast, seval, h2]) | ((first | ((with_reducible refine pops_guard ?_); refine ⟨_, rfl, fun K hK => ⟨_, rfl, fun hg => ?_, fun hg => ?_⟩⟩) | ((first | ((with_reducible refine pD_gy ?_ ?_); exact rfl) | ((with_reducible refine pD_gx ?_ ?_); exact rfl)); refine ⟨_, rfl, _, rfl, fun hg => ?_, fun hg => ?_⟩)) <;> first | (exact absurd hg (by decide)) | ((try simp only [Bool.not_true, Bool.not_false] at hg); (try simp only [hg]); (try simp only [push_cast] at hg); (try exact absurd trivial hg); (try (exfalso; omega)); (try simp (disch := omega) only [push_cast, seval, h2]))) | ((with_reducible show pcall _ _ _ _ _ _); (first | (refine pcV (cf Tryz.func72) (sHeadId_p ⟨_, _, _, _, _, _⟩) ?_) | (refine pcV (cf Tryz.func79) (l1In_p _ _ _) ?_) | (refine pcV (cf Tryz.func172) (sHeaderOk_p ⟨_, _, _, _, _, _⟩) ?_)); (try simp (disch := omega) only [push_cast, seval, h2])) | ((with_reducible refine And.intro ?_ ?_); omega))
  refine PWp.loopK (α := Nat) (fun k => [(1, .ptr 0 0), (3, .val (.int .i64 (k : Int)))]) [0, 2, 4, 5, 6, 7, 8, 9, 10, 11, 12, 13, 14, 15, 16, 17, 18, 19, 20, 21, 22, 23, 24, 25, 26, 27, 28, 29, 30, 31, 32, 33, 34, 35, 36, 37, 38, 39, 40, 41, 42, 43, 44, 45, 46, 47, 48, 49, 50, 51, 52, 53, 54, 55, 56, 57, 58, 59, 60, 61, 62, 63, 64, 65, 66, 67, 68] (fun k => [some (.box (pStore s))]) (fun k => k ≤ s.fHeads.length ∧ allTo (adjAt headerOk linkOk s.fHeads) k) (fun k => s.fHeads.length - k) (0) (⟨Nat.zero_le _, allTo_zero⟩) (by (refine ⟨[?_], ?_, ?_, ?_, ?_⟩; rotate_left 1; (· ((try simp (disch := omega) only [push_cast, seval]); (repeat' (first | exact trivial | exact rfl | refine And.intro ?_ ?_ | omega)))); (· ((try simp (disch := omega) only [push_cast, seval]); (repeat' (first | exact trivial | exact rfl | refine And.intro ?_ ?_ | omega)))); (· exact rfl); (· (first | exact trivial | exact ⟨rfl, trivial⟩ | exact ⟨rfl, rfl, trivial⟩)))) ?_
  intro k ρ hI
  (try dsimp only at hI)
  refine PWp.at (tm' := ?_) (H' := ?_) ?_ ?_ ?_; rotate_left 2; (· ((try simp only [push_cast, seval]); exact rfl)); (· ((try dsimp only); exact rfl))
  obtain ⟨hk, hA⟩ := hI
  by_cases hlt : k < s.fHeads.length
  · obtain ⟨x, hx⟩ : ∃ x, s.fHeads[k]? = some x := ⟨_, List.getElem?_eq_getElem hlt⟩
    have bad := storeOk_bad hlt
    cases k with
    | zero =>
      have e := adjAt_zero (f := headerOk) (g := linkOk) hx
      repeat' (first | with_reducible (first | refine wA ?_ | refine wB ?_ | refine wC ?_) | with_reducible refine PWp.draw (id := 11) okP true [0, 1, 2, 3, 4, 5, 6, 7, 8, 9, 10, 11, 12, 13, 14, 15, 16, 17, 18, 19, 20, 21, 22, 23, 24, 25, 26] (by kernel_rfl) ?_ | with_reducible (first | refine w1 ?_ | refine w2 ?_ | refine w3 ?_ | refine w4 ?_ | refine w5 ?_ | refine w6 ?_ | refine w7 ?_ | refine w8 ?_ | refine wT ?_ | refine w9 ?_ | refine wE ?_ | refine wS ?_) | ((with_reducible refine hK _ ?_); clear hK K) | ((with_reducible refine PWp.condI ?_); refine ⟨_, rfl, fun hg => ?_, fun hg => ?_⟩ <;> first | (exact absurd hg (by decide)) | ((try simp only [Bool.not_true, Bool.not_false] at hg); (try simp only [hg]); (try simp only [push_cast] at hg); (try exact absurd trivial hg); (try (exfalso; omega)))) | ((first | ((with_reducible refine pops_guard0 ?_); refine ⟨_, rfl, fun K hK => ⟨rfl, ?_⟩⟩) | ((with_reducible refine pD_g0 ?_); refine ⟨_, rfl, rfl, ?_⟩)); (try simp (disch := omega) only [push_cast, seval, hx])) | ((with_reducible refine pany_I ?_); refine ⟨_, rfl, fun K hK => ?_⟩) | ((with_reducible refine pops_plain fun K hK => ?_); simp (disch := omega) only [push_cast, seval, hx]) | ((first | ((with_reducible refine pD_y ?_ ?_); exact rfl) | ((with_reducible refine pD_x ?_ ?_); exact rfl)); simp (disch := omega) only [push_cast, seval, hx]) | ((first | ((with_reducible refine pops_guard ?_); refine ⟨_, rfl, fun K hK => ⟨_, rfl, fun hg => ?_, fun hg => ?_⟩⟩) | ((first | ((with_reducible refine pD_gy ?_ ?_); exact rfl) | ((with_reducible refine pD_gx ?_ ?_); exact rfl)); refine ⟨_, rfl, _, rfl, fun hg => ?_, fun hg => ?_⟩)) <;> first | (exact absurd hg (by decide)) | ((try simp only [Bool.not_true, Bool.not_false] at hg); (try simp only [hg]); (try simp only [push_cast] at hg); (try exact absurd trivial hg); (try (exfalso; omega)); (try simp (disch := omega) only [push_cast, seval, hx]))) | ((with_reducible show pcall _ _ _ _ _ _); (first | (refine pcV (cf Tryz.func72) (sHeadId_p ⟨_, _, _, _, _, _⟩) ?_) | (refine pcV (cf Tryz.func79) (l1In_p _ _ _) ?_) | (refine pcV (cf Tryz.func172) (sHeaderOk_p ⟨_, _, _, _, _, _⟩) ?_)); (try simp (disch := omega) only [push_cast, seval, hx])) | ((with_reducible refine And.intro ?_ ?_); omega))
      all_goals first
        | (((with_reducible show PPostR _ _ _ _ _ _); refine finV ?_; (try simp only [push_cast, seval])); rw [bad (by rw [e]; simp_all)])
        | ((refine ⟨1, by ((try dsimp only); omega), ?_, by (refine ⟨[?_], ?_, ?_, ?_, ?_⟩; rotate_left 1; (· ((try simp (disch := omega) only [push_cast, seval]); (repeat' (first | exact trivial | exact rfl | refine And.intro ?_ ?_ | omega)))); (· ((try simp (disch := omega) only [push_cast, seval]); (repeat' (first | exact trivial | exact rfl | refine And.intro ?_ ?_ | omega)))); (· exact rfl); (· (first | exact trivial | exact ⟨rfl, trivial⟩ | exact ⟨rfl, rfl, trivial⟩)))⟩); exact ⟨by omega, allTo_succ hA (by rw [e]; simp_all)⟩)
    | succ j =>
      obtain ⟨y, hy⟩ : ∃ y, s.fHeads[j]? = some y := ⟨_, List.getElem?_eq_getElem (by omega)⟩
      have e := adjAt_succ (f := headerOk) (g := linkOk) hx hy
      have by' := headerOk_facts (adjAt_f (hA j (by omega)) hy)
      have b1 := by'.h1; have b2 := by'.h2
      repeat' (first | with_reducible (first | refine wA ?_ | refine wB ?_ | refine wC ?_) | with_reducible refine PWp.draw (id := 11) okP true [0, 1, 2, 3, 4, 5, 6, 7, 8, 9, 10, 11, 12, 13, 14, 15, 16, 17, 18, 19, 20, 21, 22, 23, 24, 25, 26] (by kernel_rfl) ?_ | with_reducible (first | refine w1 ?_ | refine w2 ?_ | refine w3 ?_ | refine w4 ?_ | refine w5 ?_ | refine w6 ?_ | refine w7 ?_ | refine w8 ?_ | refine wT ?_ | refine w9 ?_ | refine wE ?_ | refine wS ?_) | ((with_reducible refine hK _ ?_); clear hK K) | ((with_reducible refine PWp.condI ?_); refine ⟨_, rfl, fun hg => ?_, fun hg => ?_⟩ <;> first | (exact absurd hg (by decide)) | ((try simp only [Bool.not_true, Bool.not_false] at hg); (try simp only [hg]); (try simp only [push_cast] at hg); (try exact absurd trivial hg); (try (exfalso; omega)))) | ((first | ((with_reducible refine pops_guard0 ?_); refine ⟨_, rfl, fun K hK => ⟨rfl, ?_⟩⟩) | ((with_reducible refine pD_g0 ?_); refine ⟨_, rfl, rfl, ?_⟩)); (try simp (disch := omega) only [push_cast, seval, hx, hy])) | ((with_reducible refine pany_I ?_); refine ⟨_, rfl, fun K hK => ?_⟩) | ((with_reducible refine pops_plain fun K hK => ?_); simp (disch := omega) only [push_cast, seval, hx, hy]) | ((first | ((with_reducible refine pD_y ?_ ?_); exact rfl) | ((with_reducible refine pD_x ?_ ?_); exact rfl)); simp (disch := omega) only [push_cast, seval, hx, hy]) | ((first | ((with_reducible refine pops_guard ?_); refine ⟨_, rfl, fun K hK => ⟨_, rfl, fun hg => ?_, fun hg => ?_⟩⟩) | ((first | ((with_reducible refine pD_gy ?_ ?_); exact rfl) | ((with_reducible refine pD_gx ?_ ?_); exact rfl)); refine ⟨_, rfl, _, rfl, fun hg => ?_, fun hg => ?_⟩)) <;> first | (exact absurd hg (by decide)) | ((try simp only [Bool.not_true, Bool.not_false] at hg); (try simp only [hg]); (try simp only [push_cast] at hg); (try exact absurd trivial hg); (try (exfalso; omega)); (try simp (disch := omega) only [push_cast, seval, hx, hy]))) | ((with_reducible show pcall _ _ _ _ _ _); (first | (refine pcV (cf Tryz.func72) (sHeadId_p ⟨_, _, _, _, _, _⟩) ?_) | (refine pcV (cf Tryz.func79) (l1In_p _ _ _) ?_) | (refine pcV (cf Tryz.func172) (sHeaderOk_p ⟨_, _, _, _, _, _⟩) ?_)); (try simp (disch := omega) only [push_cast, seval, hx, hy])) | ((with_reducible refine And.intro ?_ ?_); omega))
      all_goals first
        | (((with_reducible show PPostR _ _ _ _ _ _); refine finV ?_; (try simp only [push_cast, seval])); rw [bad (by rw [e]; (first | (simp_all [linkOk]; done) | (simp_all [linkOk]; omega)))])
        | ((refine ⟨j + 2, by ((try dsimp only); omega), ?_, by (refine ⟨[?_], ?_, ?_, ?_, ?_⟩; rotate_left 1; (· ((try simp (disch := omega) only [push_cast, seval]); (repeat' (first | exact trivial | exact rfl | refine And.intro ?_ ?_ | omega)))); (· ((try simp (disch := omega) only [push_cast, seval]); (repeat' (first | exact trivial | exact rfl | refine And.intro ?_ ?_ | omega)))); (· exact rfl); (· (first | exact trivial | exact ⟨rfl, trivial⟩ | exact ⟨rfl, rfl, trivial⟩)))⟩); exact ⟨by omega, allTo_succ hA (by rw [e]; (first | (simp_all [linkOk]; done) | (simp_all [linkOk]; omega)))⟩)
  obtain rfl : k = s.fHeads.length := by omega
  have hend : storeOk s = true := by unfold storeOk; rw [adjOk_end hA, decide_eq_true h1, h2]; rfl
  repeat' (first | with_reducible (first | refine wA ?_ | refine wB ?_ | refine wC ?_) | with_reducible refine PWp.draw (id := 11) okP true [0, 1, 2, 3, 4, 5, 6, 7, 8, 9, 10, 11, 12, 13, 14, 15, 16, 17, 18, 19, 20, 21, 22, 23, 24, 25, 26] (by kernel_rfl) ?_ | with_reducible (first | refine w1 ?_ | refine w2 ?_ | refine w3 ?_ | refine w4 ?_ | refine w5 ?_ | refine w6 ?_ | refine w7 ?_ | refine w8 ?_ | refine wT ?_ | refine w9 ?_ | refine wE ?_ | refine wS ?_) | ((with_reducible refine hK _ ?_); clear hK K) | ((with_reducible refine PWp.condI ?_); refine ⟨_, rfl, fun hg => ?_, fun hg => ?_⟩ <;> first | (exact absurd hg (by decide)) | ((try simp only [Bool.not_true, Bool.not_false] at hg); (try simp only [hg]); (try simp only [push_cast] at hg); (try exact absurd trivial hg); (try (exfalso; omega)))) | ((first | ((with_reducible refine pops_guard0 ?_); refine ⟨_, rfl, fun K hK => ⟨rfl, ?_⟩⟩) | ((with_reducible refine pD_g0 ?_); refine ⟨_, rfl, rfl, ?_⟩)); (try simp (disch := omega) only [push_cast, seval])) | ((with_reducible refine pany_I ?_); refine ⟨_, rfl, fun K hK => ?_⟩) | ((with_reducible refine pops_plain fun K hK => ?_); simp (disch := omega) only [push_cast, seval]) | ((first | ((with_reducible refine pD_y ?_ ?_); exact rfl) | ((with_reducible refine pD_x ?_ ?_); exact rfl)); simp (disch := omega) only [push_cast, seval]) | ((first | ((with_reducible refine pops_guard ?_); refine ⟨_, rfl, fun K hK => ⟨_, rfl, fun hg => ?_, fun hg => ?_⟩⟩) | ((first | ((with_reducible refine pD_gy ?_ ?_); exact rfl) | ((with_reducible refine pD_gx ?_ ?_); exact rfl)); refine ⟨_, rfl, _, rfl, fun hg => ?_, fun hg => ?_⟩)) <;> first | (exact absurd hg (by decide)) | ((try simp only [Bool.not_true, Bool.not_false] at hg); (try simp only [hg]); (try simp only [push_cast] at hg); (try exact absurd trivial hg); (try (exfalso; omega)); (try simp (disch := omega) only [push_cast, seval]))) | ((with_reducible show pcall _ _ _ _ _ _); (first | (refine pcV (cf Tryz.func72) (sHeadId_p ⟨_, _, _, _, _, _⟩) ?_) | (refine pcV (cf Tryz.func79) (l1In_p _ _ _) ?_) | (refine pcV (cf Tryz.func172) (sHeaderOk_p ⟨_, _, _, _, _, _⟩) ?_)); (try simp (disch := omega) only [push_cast, seval])) | ((with_reducible refine And.intro ?_ ?_); omega))
  ((with_reducible show PPostR _ _ _ _ _ _); refine finV ?_; (try simp only [push_cast, seval]))
  rw [hend]
def pStO (s : GStore) : List PV := [.own 0, .val (.int .i64 s.fSynced)]
def bSt (s : GStore) : Hp := [some (.row 30 6 (s.fHeads.map pHeader))]
attribute [push_cast] pStO bSt
theorem iCopyStore_p (s : GStore) (hl : s.fHeads.length ≤ 2000000) : PCalls Tryz.prog 225 [.agg (pStore s)] [] (RH (.agg (pStO s)) (bSt s)) := by
  refine pcalls_ofR okP Tryz.func225 rfl ?_
  simp only [Tryz.f225, List.length_cons, List.length_nil, Nat.reduceAdd, Nat.reduceSub, List.replicate_succ, List.replicate_zero, List.cons_append, List.nil_append, List.length_map]
  repeat' (first | with_reducible (first | refine wA ?_ | refine wB ?_ | refine wC ?_) | with_reducible refine PWp.draw (id := 1) okP true [0, 1, 3, 4, 2, 5, 6] (by kernel_rfl) ?_ | with_reducible (first | refine w1 ?_ | refine w2 ?_ | refine w3 ?_ | refine w4 ?_ | refine w5 ?_ | refine w6 ?_ | refine w7 ?_ | refine w8 ?_ | refine wT ?_ | refine w9 ?_ | refine wE ?_ | refine wS ?_) | ((with_reducible refine hK _ ?_); clear hK K) | ((with_reducible refine pany_I ?_); refine ⟨_, rfl, fun K hK => ?_⟩) | ((with_reducible refine pops_plain fun K hK => popO_build ?_); refine ⟨_, rfl, _, rfl, ?_⟩; simp (disch := omega) only [push_cast, seval]) | ((with_reducible refine pD_y ?_ (py_build ?_)); exact rfl; refine ⟨_, rfl, _, rfl, ?_⟩; simp (disch := omega) only [push_cast, seval]) | ((with_reducible refine pbuild_cs ?_); refine ⟨_, rfl, _, rfl, ?_⟩; simp (disch := omega) only [push_cast, seval]) | ((with_reducible refine pops_plain fun K hK => ?_); simp (disch := omega) only [push_cast, seval]) | ((first | ((with_reducible refine pD_y ?_ ?_); exact rfl) | ((with_reducible refine pD_x ?_ ?_); exact rfl)); simp (disch := omega) only [push_cast, seval]) | ((with_reducible refine And.intro ?_ ?_); omega))
  all_goals
    ((with_reducible show PPostR _ _ _ _ _ _); exact finH [_])
theorem sL15Copy_p (s : GStore) (hl : s.fHeads.length ≤ 2000000) : PCalls Tryz.prog 221 [.agg (pStore s)] [] (RH (.agg (pStO s)) (bSt s)) := by
  refine pcalls_ofR okP Tryz.func221 rfl ?_
  simp only [Tryz.f221, List.length_cons, List.length_nil, Nat.reduceAdd, Nat.reduceSub, List.replicate_succ, List.replicate_zero, List.cons_append, List.nil_append, List.length_map]
  repeat' (first | with_reducible (first | refine wA ?_ | refine wB ?_ | refine wC ?_) | with_reducible refine PWp.drawT (id := 1) okP true (.step 1 (.step 2 (.step 4 (.fork (.alt 0 (.fork (.alt 3 (.step 5 (.step 6 (.step 7 .done))) (.alt 5 (.step 3 (.step 6 (.step 7 .done))) .stop))) (.alt 5 (.step 0 (.step 3 (.step 6 (.step 7 .done)))) .stop)))))) (by kernel_rfl) ?_ | with_reducible (first | refine w1 ?_ | refine w2 ?_ | refine w3 ?_ | refine w4 ?_ | refine w5 ?_ | refine w6 ?_ | refine w7 ?_ | refine w8 ?_ | refine wT ?_ | refine w9 ?_ | refine wE ?_ | refine wS ?_) | ((with_reducible refine hK _ ?_); clear hK K) | with_reducible (first | refine ptree_done ?_ | exact ptree_stop | refine ptree_fork ?_) | ((with_reducible refine ptree_I ?_); refine ⟨_, rfl, fun K hK => ?_⟩) | ((with_reducible refine ptree_A ?_ ?_); (refine ⟨_, rfl, fun K hK => ?_⟩)) | ((with_reducible refine pany_I ?_); refine ⟨_, rfl, fun K hK => ?_⟩) | ((with_reducible refine pops_plain fun K hK => popO_row ?_); refine ⟨_, _, _, _, _, rfl, rfl, rfl, rfl, rfl, ?_⟩; simp (disch := omega) only [push_cast, seval]) | ((with_reducible refine pD_x ?_ (popO_row ?_)); exact rfl; refine ⟨_, _, _, _, _, rfl, rfl, rfl, rfl, rfl, ?_⟩; simp (disch := omega) only [push_cast, seval]) | ((with_reducible refine pops_plain fun K hK => popO_build ?_); refine ⟨_, rfl, _, rfl, ?_⟩; simp (disch := omega) only [push_cast, seval]) | ((with_reducible refine pD_y ?_ (py_build ?_)); exact rfl; refine ⟨_, rfl, _, rfl, ?_⟩; simp (disch := omega) only [push_cast, seval]) | ((with_reducible refine pbuild_cs ?_); refine ⟨_, rfl, _, rfl, ?_⟩; simp (disch := omega) only [push_cast, seval]) | ((with_reducible refine pops_plain fun K hK => ?_); simp (disch := omega) only [push_cast, seval]) | ((first | ((with_reducible refine pD_y ?_ ?_); exact rfl) | ((with_reducible refine pD_x ?_ ?_); exact rfl)); simp (disch := omega) only [push_cast, seval]) | ((with_reducible refine And.intro ?_ ?_); omega))
  all_goals
    ((with_reducible show PPostR _ _ _ _ _ _); exact finH [_])
theorem iStoreOk_app (s : GStore) (h : GHeader) (hl : s.fHeads.length ≤ 2000000) : PCalls Tryz.prog 206 [.agg [.sl 6 (s.fHeads.map pHeader ++ [[.val (.int .i64 h.fHeight), .val (.int .i64 h.fTime), .val (.string h.fLast), .val (.string h.fVals), .val (.string h.fNext), .val (.string h.fData)]]), .val (.int .i64 s.fSynced)]] [] (RV (.val (.bool (storeOk ⟨s.fHeads ++ [h], s.fSynced⟩)))) := by
  have := iStoreOk_p ⟨s.fHeads ++ [h], s.fSynced⟩ (by simp; omega)
  unfold pStore at this
  rw [List.map_append] at this
  exact this
theorem iStoreAdd_p (s : GStore) (h : GHeader) (ok : storeOk s = true) : PCalls Tryz.prog 151 [.agg (pStore s), .agg (pHeader h)] [] (RH (.tup [.agg (pStO (storeAdd s h).1), .val (.bool (storeAdd s h).2)]) (bSt (storeAdd s h).1)) := by
  have h20 := (storeOk_iff.1 ok).2.1
  cases ok2 : storeOk ⟨s.fHeads ++ [h], s.fSynced⟩ with
  | false =>
    have e : storeAdd s h = (s, false) := by unfold storeAdd; rw [if_neg (by simp [ok2])]
    rw [e]
    refine pcalls_ofR okP Tryz.func151 rfl ?_
    simp only [Tryz.f151, List.length_cons, List.length_nil, Nat.reduceAdd, Nat.reduceSub, List.replicate_succ, List.replicate_zero, List.cons_append, List.nil_append, List.length_map]
    repeat' (first | with_reducible (first | refine wA ?_ | refine wB ?_ | refine wC ?_ | refine w1 ?_ | refine w2 ?_ | refine w3 ?_ | refine w4 ?_ | refine w5 ?_ | refine w6 ?_ | refine w7 ?_ | refine w8 ?_ | refine wT ?_ | refine w9 ?_ | refine wE ?_ | refine wS ?_) | ((with_reducible refine hK _ ?_); clear hK K) | ((with_reducible refine PWp.condI ?_); refine ⟨_, rfl, fun hg => ?_, fun hg => ?_⟩ <;> first | (exact absurd hg (by decide)) | ((try simp only [Bool.not_true, Bool.not_false] at hg); (try simp only [hg]); (try simp only [push_cast] at hg); (try exact absurd trivial hg); (try (exfalso; omega)))) | ((with_reducible refine pops_plain fun K hK => popO_row ?_); refine ⟨_, _, _, _, _, rfl, rfl, rfl, rfl, rfl, ?_⟩; simp (disch := omega) only [push_cast, seval, ok, ok2]) | ((with_reducible refine pops_plain fun K hK => popO_build ?_); refine ⟨_, rfl, _, rfl, ?_⟩; simp (disch := omega) only [push_cast, seval, ok, ok2]) | ((with_reducible refine pbuild_cs ?_); refine ⟨_, rfl, _, rfl, ?_⟩; simp (disch := omega) only [push_cast, seval, ok, ok2]) | ((with_reducible refine pops_plain fun K hK => ?_); simp (disch := omega) only [push_cast, seval, ok, ok2]) | ((with_reducible show pcall _ _ _ _ _ _); (first | (refine pcV (cf Tryz.func206) (iStoreOk_app s h (by omega)) ?_) | (refine pcV (cf Tryz.func206) (iStoreOk_p ⟨_, _⟩ sd) ?_) | (refine pcF (cf Tryz.func225) (iCopyStore_p ⟨_, _⟩ sd) ?_)); (try simp (disch := omega) only [push_cast, seval, ok, ok2])) | ((with_reducible refine And.intro ?_ ?_); omega))
    ((with_reducible show PPostR _ _ _ _ _ _); exact finH [_])
  | true =>
    have e : storeAdd s h = (⟨s.fHeads ++ [h], s.fSynced⟩, true) := by unfold storeAdd; rw [if_pos ok2]
    rw [e]
    refine pcalls_ofR okP Tryz.func151 rfl ?_
    simp only [Tryz.f151, List.length_cons, List.length_nil, Nat.reduceAdd, Nat.reduceSub, List.replicate_succ, List.replicate_zero, List.cons_append, List.nil_append, List.length_map]
    repeat' (first | with_reducible (first | refine wA ?_ | refine wB ?_ | refine wC ?_ | refine w1 ?_ | refine w2 ?_ | refine w3 ?_ | refine w4 ?_ | refine w5 ?_ | refine w6 ?_ | refine w7 ?_ | refine w8 ?_ | refine wT ?_ | refine w9 ?_ | refine wE ?_ | refine wS ?_) | ((with_reducible refine hK _ ?_); clear hK K) | ((with_reducible refine PWp.condI ?_); refine ⟨_, rfl, fun hg => ?_, fun hg => ?_⟩ <;> first | (exact absurd hg (by decide)) | ((try simp only [Bool.not_true, Bool.not_false] at hg); (try simp only [hg]); (try simp only [push_cast] at hg); (try exact absurd trivial hg); (try (exfalso; omega)))) | ((with_reducible refine pops_plain fun K hK => popO_row ?_); refine ⟨_, _, _, _, _, rfl, rfl, rfl, rfl, rfl, ?_⟩; simp (disch := omega) only [push_cast, seval, ok, ok2]) | ((with_reducible refine pops_plain fun K hK => popO_build ?_); refine ⟨_, rfl, _, rfl, ?_⟩; simp (disch := omega) only [push_cast, seval, ok, ok2]) | ((with_reducible refine pbuild_cs ?_); refine ⟨_, rfl, _, rfl, ?_⟩; simp (disch := omega) only [push_cast, seval, ok, ok2]) | ((with_reducible refine pops_plain fun K hK => ?_); simp (disch := omega) only [push_cast, seval, ok, ok2]) | ((with_reducible show pcall _ _ _ _ _ _); (first | (refine pcV (cf Tryz.func206) (iStoreOk_app s h (by omega)) ?_) | (refine pcV (cf Tryz.func206) (iStoreOk_p ⟨_, _⟩ sd) ?_) | (refine pcF (cf Tryz.func225) (iCopyStore_p ⟨_, _⟩ sd) ?_)); (try simp (disch := omega) only [push_cast, seval, ok, ok2])) | ((with_reducible refine And.intro ?_ ?_); omega))
    ((with_reducible show PPostR _ _ _ _ _ _); exact finH [_])
theorem iStoreSync_p (s : GStore) (ok : storeOk s = true) : PCalls Tryz.prog 152 [.agg (pStore s)] [] (RH (.tup [.agg (pStO ⟨s.fHeads, s.fHeads.length⟩), .val (.bool true)]) (bSt s)) := by
  have h20 := (storeOk_iff.1 ok).2.1
  refine pcalls_ofR okP Tryz.func152 rfl ?_
  simp only [Tryz.f152, List.length_cons, List.length_nil, Nat.reduceAdd, Nat.reduceSub, List.replicate_succ, List.replicate_zero, List.cons_append, List.nil_append, List.length_map]
  repeat' (first | with_reducible (first | refine wA ?_ | refine wB ?_ | refine wC ?_ | refine w1 ?_ | refine w2 ?_ | refine w3 ?_ | refine w4 ?_ | refine w5 ?_ | refine w6 ?_ | refine w7 ?_ | refine w8 ?_ | refine wT ?_ | refine w9 ?_ | refine wE ?_ | refine wS ?_) | ((with_reducible refine hK _ ?_); clear hK K) | ((with_reducible refine PWp.condI ?_); refine ⟨_, rfl, fun hg => ?_, fun hg => ?_⟩ <;> first | (exact absurd hg (by decide)) | ((try simp only [Bool.not_true, Bool.not_false] at hg); (try simp only [hg]); (try simp only [push_cast] at hg); (try exact absurd trivial hg); (try (exfalso; omega)))) | ((with_reducible refine pops_plain fun K hK => popO_build ?_); refine ⟨_, rfl, _, rfl, ?_⟩; simp (disch := omega) only [push_cast, seval, ok]) | ((with_reducible refine pbuild_cs ?_); refine ⟨_, rfl, _, rfl, ?_⟩; simp (disch := omega) only [push_cast, seval, ok]) | ((with_reducible refine pops_plain fun K hK => ?_); simp (disch := omega) only [push_cast, seval, ok]) | ((with_reducible show pcall _ _ _ _ _ _); (first | (refine pcV (cf Tryz.func206) (iStoreOk_p ⟨_, _⟩ sd) ?_) | (refine pcF (cf Tryz.func225) (iCopyStore_p ⟨_, _⟩ sd) ?_)); (try simp (disch := omega) only [push_cast, seval, ok])) | ((with_reducible refine And.intro ?_ ?_); omega))
  ((with_reducible show PPostR _ _ _ _ _ _); exact finH [_])
theorem iStorePrune_p (s : GStore) (ok : storeOk s = true) (h20 : s.fHeads.length = 20) : PCalls Tryz.prog 150 [.agg (pStore s), .val (.int .i64 10)] [] (RH (.tup [.agg (pStO ⟨s.fHeads.drop 10, max 0 (s.fSynced - 10)⟩), .val (.bool true)]) (bSt ⟨s.fHeads.drop 10, 0⟩)) := by
  have hs := (storeOk_iff.1 ok).2.2
  have hin : inB 10 1 19 = true := by decide
  have htk : List.take 10 (List.drop 10 (s.fHeads.map pHeader)) = (s.fHeads.drop 10).map pHeader := by rw [List.take_of_length_le (by simp; omega), List.map_drop]
  refine pcalls_ofR okP Tryz.func150 rfl ?_
  simp only [Tryz.f150, List.length_cons, List.length_nil, Nat.reduceAdd, Nat.reduceSub, List.replicate_succ, List.replicate_zero, List.cons_append, List.nil_append, List.length_map]
  repeat' (first | with_reducible (first | refine wA ?_ | refine wB ?_ | refine wC ?_ | refine w1 ?_ | refine w2 ?_ | refine w3 ?_ | refine w4 ?_ | refine w5 ?_ | refine w6 ?_ | refine w7 ?_ | refine w8 ?_ | refine wT ?_ | refine w9 ?_ | refine wE ?_ | refine wS ?_) | ((with_reducible refine hK _ ?_); clear hK K) | ((with_reducible refine PWp.condI ?_); refine ⟨_, rfl, fun hg => ?_, fun hg => ?_⟩ <;> first | (exact absurd hg (by decide)) | ((try simp only [Bool.not_true, Bool.not_false] at hg); (try simp only [hg]); (try simp only [push_cast] at hg); (try exact absurd trivial hg); (try (exfalso; omega)))) | ((with_reducible refine pops_plain fun K hK => popO_build ?_); refine ⟨_, rfl, _, rfl, ?_⟩; simp (disch := omega) only [push_cast, seval, ok, h20, hin, htk, List.length_drop]) | ((with_reducible refine pbuild_cs ?_); refine ⟨_, rfl, _, rfl, ?_⟩; simp (disch := omega) only [push_cast, seval, ok, h20, hin, htk, List.length_drop]) | ((with_reducible refine pops_plain fun K hK => ?_); simp (disch := omega) only [push_cast, seval, ok, h20, hin, htk, List.length_drop]) | ((with_reducible show pcall _ _ _ _ _ _); (first | (refine pcV (cf Tryz.func77) (within_p _ _ _) ?_) | (refine pcV (cf Tryz.func206) (iStoreOk_p ⟨_, _⟩ sd) ?_) | (refine pcF (cf Tryz.func225) (iCopyStore_p ⟨_, _⟩ sd) ?_)); (try simp (disch := omega) only [push_cast, seval, ok, h20, hin, htk, List.length_drop])) | ((with_reducible refine And.intro ?_ ?_); omega))
  ((with_reducible show PPostR _ _ _ _ _ _); exact finH [_])
end Go.Proofs.YtiboajlnjldalaaGreatDoor
namespace Go.Proofs.YtiboajlnjldalaaGreatDoor
set_option linter.unusedSimpArgs false
set_option linter.unusedVariables false
open Go.RowKit
set_option maxRecDepth 100000
theorem sL19At_p (t : GTable) (id : Int) (hl : t.fPeers.length ≤ 1099511627776) : PCalls Tryz.prog 170 [.agg (pTable t), .val (.int .i64 id)] [] (RV (.val (.int .i64 (peerIdx t.fPeers id)))) := by
  refine pcalls_ofR okP Tryz.func170 rfl ?_
  simp only [Tryz.f170, List.length_cons, List.length_nil, Nat.reduceAdd, Nat.reduceSub, List.replicate_succ, List.replicate_zero, List.cons_append, List.nil_append, List.length_map]
  repeat' (first | with_reducible (first | refine wA ?_ | refine wB ?_ | refine wC ?_ | refine w1 ?_ | refine w2 ?_ | refine w3 ?_ | refine w4 ?_ | refine w5 ?_ | refine w6 ?_ | refine w7 ?_ | refine w8 ?_ | refine wT ?_ | refine w9 ?_ | refine wE ?_ | refine wS ?_) | ((with_reducible refine hK _ ?_); clear hK K) | ((with_reducible refine PWp.condI ?_); refine ⟨_, rfl, fun hg => ?_, fun hg => ?_⟩ <;> first | (exact absurd hg (by decide)) | ((try simp only [Bool.not_true, Bool.not_false] at hg); (try simp only [hg]); (try simp only [push_cast] at hg); (try exact absurd trivial hg); (try (exfalso; omega)))) | ((with_reducible refine pops_plain fun K hK => ?_); simp (disch := omega) only [push_cast, seval]) | ((with_reducible refine And.intro ?_ ?_); omega))
  refine PWp.loopK (α := Nat) (fun k => [(1, .val (.int .i64 id)), (2, .ptr 0 0), (5, .val (.int .i64 (k : Int)))]) [0, 3, 4, 6, 7, 8, 9, 10, 11, 12, 13, 14, 15, 16, 17, 18, 19, 20, 21] (fun k => [some (.box (pTable t))]) (fun k => k ≤ t.fPeers.length ∧ noneTo (fun p => decide (p.fId = id)) t.fPeers k) (fun k => t.fPeers.length - k) (0) (⟨Nat.zero_le _, noneTo_zero⟩) (by (refine ⟨[?_], ?_, ?_, ?_, ?_⟩; rotate_left 1; (· ((try simp (disch := omega) only [push_cast, seval]); (repeat' (first | exact trivial | exact rfl | refine And.intro ?_ ?_ | omega)))); (· ((try simp (disch := omega) only [push_cast, seval]); (repeat' (first | exact trivial | exact rfl | refine And.intro ?_ ?_ | omega)))); (· exact rfl); (· (first | exact trivial | exact ⟨rfl, trivial⟩ | exact ⟨rfl, rfl, trivial⟩)))) ?_
  intro k ρ hI
  (try dsimp only at hI)
  refine PWp.at (tm' := ?_) (H' := ?_) ?_ ?_ ?_; rotate_left 2; (· ((try simp only [push_cast, seval]); exact rfl)); (· ((try dsimp only); exact rfl))
  obtain ⟨hk, hA⟩ := hI
  by_cases hlt : k < t.fPeers.length
  · obtain ⟨x, hx⟩ : ∃ x, t.fPeers[k]? = some x := ⟨_, List.getElem?_eq_getElem hlt⟩
    by_cases he : x.fId = id
    · have e : peerIdx t.fPeers id = k := idx_some hx (by simpa using he) hA
      repeat' (first | with_reducible (first | refine wA ?_ | refine wB ?_ | refine wC ?_ | refine w1 ?_ | refine w2 ?_ | refine w3 ?_ | refine w4 ?_ | refine w5 ?_ | refine w6 ?_ | refine w7 ?_ | refine w8 ?_ | refine wT ?_ | refine w9 ?_ | refine wE ?_ | refine wS ?_) | ((with_reducible refine hK _ ?_); clear hK K) | ((with_reducible refine PWp.condI ?_); refine ⟨_, rfl, fun hg => ?_, fun hg => ?_⟩ <;> first | (exact absurd hg (by decide)) | ((try simp only [Bool.not_true, Bool.not_false] at hg); (try simp only [hg]); (try simp only [push_cast] at hg); (try exact absurd trivial hg); (try (exfalso; omega)))) | ((with_reducible refine pops_plain fun K hK => ?_); simp (disch := omega) only [push_cast, seval, hx, he]) | ((with_reducible refine And.intro ?_ ?_); omega))
      ((with_reducible show PPostR _ _ _ _ _ _); refine finV ?_; (try simp only [push_cast, seval]))
      rw [e]
    ·
      repeat' (first | with_reducible (first | refine wA ?_ | refine wB ?_ | refine wC ?_ | refine w1 ?_ | refine w2 ?_ | refine w3 ?_ | refine w4 ?_ | refine w5 ?_ | refine w6 ?_ | refine w7 ?_ | refine w8 ?_ | refine wT ?_ | refine w9 ?_ | refine wE ?_ | refine wS ?_) | ((with_reducible refine hK _ ?_); clear hK K) | ((with_reducible refine PWp.condI ?_); refine ⟨_, rfl, fun hg => ?_, fun hg => ?_⟩ <;> first | (exact absurd hg (by decide)) | ((try simp only [Bool.not_true, Bool.not_false] at hg); (try simp only [hg]); (try simp only [push_cast] at hg); (try exact absurd trivial hg); (try (exfalso; omega)))) | ((with_reducible refine pops_plain fun K hK => ?_); simp (disch := omega) only [push_cast, seval, hx]) | ((with_reducible refine And.intro ?_ ?_); omega))
      (refine ⟨k + 1, by ((try dsimp only); omega), ?_, by (refine ⟨[?_], ?_, ?_, ?_, ?_⟩; rotate_left 1; (· ((try simp (disch := omega) only [push_cast, seval]); (repeat' (first | exact trivial | exact rfl | refine And.intro ?_ ?_ | omega)))); (· ((try simp (disch := omega) only [push_cast, seval]); (repeat' (first | exact trivial | exact rfl | refine And.intro ?_ ?_ | omega)))); (· exact rfl); (· (first | exact trivial | exact ⟨rfl, trivial⟩ | exact ⟨rfl, rfl, trivial⟩)))⟩)
      exact ⟨hlt, noneTo_succ hA hx (by simpa using he)⟩
  obtain rfl : k = t.fPeers.length := by omega
  have e : peerIdx t.fPeers id = -1 := noneTo_end hA
  repeat' (first | with_reducible (first | refine wA ?_ | refine wB ?_ | refine wC ?_ | refine w1 ?_ | refine w2 ?_ | refine w3 ?_ | refine w4 ?_ | refine w5 ?_ | refine w6 ?_ | refine w7 ?_ | refine w8 ?_ | refine wT ?_ | refine w9 ?_ | refine wE ?_ | refine wS ?_) | ((with_reducible refine hK _ ?_); clear hK K) | ((with_reducible refine PWp.condI ?_); refine ⟨_, rfl, fun hg => ?_, fun hg => ?_⟩ <;> first | (exact absurd hg (by decide)) | ((try simp only [Bool.not_true, Bool.not_false] at hg); (try simp only [hg]); (try simp only [push_cast] at hg); (try exact absurd trivial hg); (try (exfalso; omega)))) | ((with_reducible refine pops_plain fun K hK => ?_); simp (disch := omega) only [push_cast, seval]) | ((with_reducible refine And.intro ?_ ?_); omega))
  ((with_reducible show PPostR _ _ _ _ _ _); refine finV ?_; (try simp only [push_cast, seval]))
  rw [e]
theorem at1_p (p : GPeer) (id : Int) : PCalls Tryz.prog 228 [.agg (pPeer p), .eptr [.val (.int .i64 id)] 0] [] (RV (.val (.bool (decide (p.fId = id))))) := by
  refine pcalls_ofR okP Tryz.func228 rfl ?_
  simp only [Tryz.f228, List.length_cons, List.length_nil, Nat.reduceAdd, Nat.reduceSub, List.replicate_succ, List.replicate_zero, List.cons_append, List.nil_append, List.length_map]
  repeat' (first | with_reducible (first | refine wA ?_ | refine wB ?_ | refine wC ?_ | refine w1 ?_ | refine w2 ?_ | refine w3 ?_ | refine w4 ?_ | refine w5 ?_ | refine w6 ?_ | refine w7 ?_ | refine w8 ?_ | refine wT ?_ | refine w9 ?_ | refine wE ?_ | refine wS ?_) | ((with_reducible refine hK _ ?_); clear hK K) | ((with_reducible refine pops_plain fun K hK => ?_); simp (disch := omega) only [push_cast, seval]) | ((with_reducible refine And.intro ?_ ?_); omega))
  ((with_reducible show PPostR _ _ _ _ _ _); refine finV ?_; (try simp only [push_cast, seval]))
  exact eqI_B
theorem idxPeer_p (l : List GPeer) (id : Int) (hl : l.length ≤ 1099511627776) : PCalls Tryz.prog 227 [.sl 4 (l.map pPeer), .clo 228 [.eptr [.val (.int .i64 id)] 0]] [] (RV (.val (.int .i64 (peerIdx l id)))) := by
  have cloC : Callable Tryz.prog 228 := callable_of Tryz.func228 rfl rfl
  refine pcalls_ofR okP Tryz.func227 rfl ?_
  simp only [Tryz.f227, List.length_cons, List.length_nil, Nat.reduceAdd, Nat.reduceSub, List.replicate_succ, List.replicate_zero, List.cons_append, List.nil_append, List.length_map]
  repeat' (first | with_reducible (first | refine wA ?_ | refine wB ?_ | refine wC ?_ | refine w1 ?_ | refine w2 ?_ | refine w3 ?_ | refine w4 ?_ | refine w5 ?_ | refine w6 ?_ | refine w7 ?_ | refine w8 ?_ | refine wT ?_ | refine w9 ?_ | refine wE ?_ | refine wS ?_) | ((with_reducible refine hK _ ?_); clear hK K) | ((with_reducible refine PWp.condI ?_); refine ⟨_, rfl, fun hg => ?_, fun hg => ?_⟩ <;> first | (exact absurd hg (by decide)) | ((try simp only [Bool.not_true, Bool.not_false] at hg); (try simp only [hg]); (try simp only [push_cast] at hg); (try exact absurd trivial hg); (try (exfalso; omega)))) | ((with_reducible refine pops_plain fun K hK => ?_); simp (disch := omega) only [push_cast, seval]) | ((with_reducible show pcall _ _ _ _ _ _); (first | (refine pcV (g := 228) cloC (at1_p ⟨_, _, _, _⟩ _) ?_)); (try simp (disch := omega) only [push_cast, seval])) | ((with_reducible refine And.intro ?_ ?_); omega))
  refine PWp.loopK (α := Nat) (fun k => [(8, .val (.int .i64 (k : Int)))]) [2, 3, 4, 5, 6, 9, 10, 11, 12, 13, 14, 15, 16, 17, 18] (fun k => []) (fun k => k ≤ l.length ∧ noneTo (fun p => decide (p.fId = id)) l k) (fun k => l.length - k) (0) (⟨Nat.zero_le _, noneTo_zero⟩) (by (refine ⟨[], ?_, ?_, ?_, ?_⟩; (· ((try simp (disch := omega) only [push_cast, seval]); (repeat' (first | exact trivial | exact rfl | refine And.intro ?_ ?_ | omega)))); (· ((try simp (disch := omega) only [push_cast, seval]); (repeat' (first | exact trivial | exact rfl | refine And.intro ?_ ?_ | omega)))); (· exact rfl); (· (first | exact trivial | exact ⟨rfl, trivial⟩ | exact ⟨rfl, rfl, trivial⟩)))) ?_
  intro k ρ hI
  (try dsimp only at hI)
  refine PWp.at (tm' := ?_) (H' := ?_) ?_ ?_ ?_; rotate_left 2; (· ((try simp only [push_cast, seval]); exact rfl)); (· ((try dsimp only); exact rfl))
  obtain ⟨hk, hA⟩ := hI
  by_cases hlt : k < l.length
  · obtain ⟨x, hx⟩ : ∃ x, l[k]? = some x := ⟨_, List.getElem?_eq_getElem hlt⟩
    by_cases he : x.fId = id
    · have e : peerIdx l id = k := idx_some hx (by simpa using he) hA
      repeat' (first | with_reducible (first | refine wA ?_ | refine wB ?_ | refine wC ?_ | refine w1 ?_ | refine w2 ?_ | refine w3 ?_ | refine w4 ?_ | refine w5 ?_ | refine w6 ?_ | refine w7 ?_ | refine w8 ?_ | refine wT ?_ | refine w9 ?_ | refine wE ?_ | refine wS ?_) | ((with_reducible refine hK _ ?_); clear hK K) | ((with_reducible refine PWp.condI ?_); refine ⟨_, rfl, fun hg => ?_, fun hg => ?_⟩ <;> first | (exact absurd hg (by decide)) | ((try simp only [Bool.not_true, Bool.not_false] at hg); (try simp only [hg]); (try simp only [push_cast] at hg); (try exact absurd trivial hg); (try (exfalso; omega)))) | ((with_reducible refine pops_plain fun K hK => ?_); simp (disch := omega) only [push_cast, seval, hx, he]) | ((with_reducible show pcall _ _ _ _ _ _); (first | (refine pcV (g := 228) cloC (at1_p ⟨_, _, _, _⟩ _) ?_)); (try simp (disch := omega) only [push_cast, seval, hx, he])) | ((with_reducible refine And.intro ?_ ?_); omega))
      ((with_reducible show PPostR _ _ _ _ _ _); refine finV ?_; (try simp only [push_cast, seval]))
      rw [e]
    ·
      repeat' (first | with_reducible (first | refine wA ?_ | refine wB ?_ | refine wC ?_ | refine w1 ?_ | refine w2 ?_ | refine w3 ?_ | refine w4 ?_ | refine w5 ?_ | refine w6 ?_ | refine w7 ?_ | refine w8 ?_ | refine wT ?_ | refine w9 ?_ | refine wE ?_ | refine wS ?_) | ((with_reducible refine hK _ ?_); clear hK K) | ((with_reducible refine PWp.condI ?_); refine ⟨_, rfl, fun hg => ?_, fun hg => ?_⟩ <;> first | (exact absurd hg (by decide)) | ((try simp only [Bool.not_true, Bool.not_false] at hg); (try simp only [hg]); (try simp only [push_cast] at hg); (try exact absurd trivial hg); (try (exfalso; omega)))) | ((with_reducible refine pops_plain fun K hK => ?_); simp (disch := omega) only [push_cast, seval, hx]) | ((with_reducible show pcall _ _ _ _ _ _); (first | (refine pcV (g := 228) cloC (at1_p ⟨_, _, _, _⟩ _) ?_)); (try simp (disch := omega) only [push_cast, seval, hx])) | ((with_reducible refine And.intro ?_ ?_); omega))
      (refine ⟨k + 1, by ((try dsimp only); omega), ?_, by (refine ⟨[], ?_, ?_, ?_, ?_⟩; (· ((try simp (disch := omega) only [push_cast, seval]); (repeat' (first | exact trivial | exact rfl | refine And.intro ?_ ?_ | omega)))); (· ((try simp (disch := omega) only [push_cast, seval]); (repeat' (first | exact trivial | exact rfl | refine And.intro ?_ ?_ | omega)))); (· exact rfl); (· (first | exact trivial | exact ⟨rfl, trivial⟩ | exact ⟨rfl, rfl, trivial⟩)))⟩)
      exact ⟨hlt, noneTo_succ hA hx (by simpa using he)⟩
  obtain rfl : k = l.length := by omega
  have e : peerIdx l id = -1 := noneTo_end hA
  repeat' (first | with_reducible (first | refine wA ?_ | refine wB ?_ | refine wC ?_ | refine w1 ?_ | refine w2 ?_ | refine w3 ?_ | refine w4 ?_ | refine w5 ?_ | refine w6 ?_ | refine w7 ?_ | refine w8 ?_ | refine wT ?_ | refine w9 ?_ | refine wE ?_ | refine wS ?_) | ((with_reducible refine hK _ ?_); clear hK K) | ((with_reducible refine PWp.condI ?_); refine ⟨_, rfl, fun hg => ?_, fun hg => ?_⟩ <;> first | (exact absurd hg (by decide)) | ((try simp only [Bool.not_true, Bool.not_false] at hg); (try simp only [hg]); (try simp only [push_cast] at hg); (try exact absurd trivial hg); (try (exfalso; omega)))) | ((with_reducible refine pops_plain fun K hK => ?_); simp (disch := omega) only [push_cast, seval]) | ((with_reducible show pcall _ _ _ _ _ _); (first | (refine pcV (g := 228) cloC (at1_p ⟨_, _, _, _⟩ _) ?_)); (try simp (disch := omega) only [push_cast, seval])) | ((with_reducible refine And.intro ?_ ?_); omega))
  ((with_reducible show PPostR _ _ _ _ _ _); refine finV ?_; (try simp only [push_cast, seval]))
  rw [e]
theorem iAt_p (t : GTable) (id : Int) (hl : t.fPeers.length ≤ 1099511627776) : PCalls Tryz.prog 146 [.agg (pTable t), .val (.int .i64 id)] [] (RV (.val (.int .i64 (peerIdx t.fPeers id)))) := by
  refine pcalls_ofR okP Tryz.func146 rfl ?_
  simp only [Tryz.f146, List.length_cons, List.length_nil, Nat.reduceAdd, Nat.reduceSub, List.replicate_succ, List.replicate_zero, List.cons_append, List.nil_append, List.length_map]
  repeat' (first | with_reducible (first | refine wA ?_ | refine wB ?_ | refine wC ?_ | refine w1 ?_ | refine w2 ?_ | refine w3 ?_ | refine w4 ?_ | refine w5 ?_ | refine w6 ?_ | refine w7 ?_ | refine w8 ?_ | refine wT ?_ | refine w9 ?_ | refine wE ?_ | refine wS ?_) | ((with_reducible refine hK _ ?_); clear hK K) | ((with_reducible refine pops_plain fun K hK => ?_); simp (disch := omega) only [push_cast, seval]) | ((with_reducible show pcall _ _ _ _ _ _); (first | (refine pcV (cf Tryz.func227) (idxFree_p _ sd) ?_) | (refine pcV (cf Tryz.func227) (idxPeer_p _ _ sd) ?_)); (try simp (disch := omega) only [push_cast, seval])) | ((with_reducible refine And.intro ?_ ?_); omega))
  ((with_reducible show PPostR _ _ _ _ _ _); refine finV ?_; (try simp only [push_cast, seval]))
theorem table_bad {t : GTable} {k : Nat} (hlt : k < t.fPeers.length) (h : peerAt t.fPeers k = false) : tableOk t = false := by
  unfold tableOk
  rw [allN_no hlt h]
  rfl
set_option maxHeartbeats 1000000 in
theorem iTableOk_p (t : GTable) (hl : t.fPeers.length ≤ 1099511627776) : PCalls Tryz.prog 207 [.agg (pTable t)] [] (RV (.val (.bool (tableOk t)))) := by
  refine pcalls_ofR okP Tryz.func207 rfl ?_
  simp only [Tryz.f207, List.length_cons, List.length_nil, Nat.reduceAdd, Nat.reduceSub, List.replicate_succ, List.replicate_zero, List.cons_append, List.nil_append, List.length_map]
  repeat' (first | with_reducible (first | refine wA ?_ | refine wB ?_ | refine wC ?_ | refine w1 ?_ | refine w2 ?_ | refine w3 ?_ | refine w4 ?_ | refine w5 ?_ | refine w6 ?_ | refine w7 ?_ | refine w8 ?_ | refine wT ?_ | refine w9 ?_ | refine wE ?_ | refine wS ?_) | ((with_reducible refine hK _ ?_); clear hK K) | ((with_reducible refine PWp.condI ?_); refine ⟨_, rfl, fun hg => ?_, fun hg => ?_⟩ <;> first | (exact absurd hg (by decide)) | ((try simp only [Bool.not_true, Bool.not_false] at hg); (try simp only [hg]); (try simp only [push_cast] at hg); (try exact absurd trivial hg); (try (exfalso; omega)))) | ((with_reducible refine pops_guard0 ?_); refine ⟨_, rfl, fun K hK => ⟨rfl, ?_⟩⟩; (try simp (disch := omega) only [push_cast, seval])) | ((with_reducible refine pops_plain fun K hK => ?_); simp (disch := omega) only [push_cast, seval]) | ((with_reducible refine pops_guard ?_); refine ⟨_, rfl, fun K hK => ⟨_, rfl, fun hg => ?_, fun hg => ?_⟩⟩ <;> first | (exact absurd hg (by decide)) | ((try simp only [Bool.not_true, Bool.not_false] at hg); (try simp only [hg]); (try simp only [push_cast] at hg); (try exact absurd trivial hg); (try (exfalso; omega)); (try simp (disch := omega) only [push_cast, seval]))) | ((with_reducible show pcall _ _ _ _ _ _); (first | (refine pcV (cf Tryz.func77) (within_p _ _ _) ?_) | (refine pcV (cf Tryz.func146) (iAt_p ⟨_, _⟩ _ sd) ?_) | (refine pcV (cf Tryz.func167) (isTime_p _) ?_)); (try simp (disch := omega) only [push_cast, seval])) | ((with_reducible refine And.intro ?_ ?_); omega))
  refine PWp.loopK (α := Nat) (fun k => [(1, .ptr 0 0), (8, .val (.int .i64 (k : Int)))]) [0, 2, 3, 4, 5, 9, 10, 11, 12, 13, 14, 15, 16, 17, 18, 19, 20, 21, 22, 23, 24, 25, 26, 27, 28, 29, 30, 31, 32, 33, 34, 35, 36, 37] (fun k => [some (.box (pTable t))]) (fun k => k ≤ t.fPeers.length ∧ allTo (peerAt t.fPeers) k) (fun k => t.fPeers.length - k) (0) (⟨Nat.zero_le _, allTo_zero⟩) (by (refine ⟨[?_], ?_, ?_, ?_, ?_⟩; rotate_left 1; (· ((try simp (disch := omega) only [push_cast, seval]); (repeat' (first | exact trivial | exact rfl | refine And.intro ?_ ?_ | omega)))); (· ((try simp (disch := omega) only [push_cast, seval]); (repeat' (first | exact trivial | exact rfl | refine And.intro ?_ ?_ | omega)))); (· exact rfl); (· (first | exact trivial | exact ⟨rfl, trivial⟩ | exact ⟨rfl, rfl, trivial⟩)))) ?_
  intro k ρ hI
  (try dsimp only at hI)
  refine PWp.at (tm' := ?_) (H' := ?_) ?_ ?_ ?_; rotate_left 2; (· ((try simp only [push_cast, seval]); exact rfl)); (· ((try dsimp only); exact rfl))
  obtain ⟨hk, hA⟩ := hI
  by_cases hlt : k < t.fPeers.length
  · obtain ⟨x, hx⟩ : ∃ x, t.fPeers[k]? = some x := ⟨_, List.getElem?_eq_getElem hlt⟩
    have bad := table_bad hlt
    have e : peerAt t.fPeers k = (inB x.fId 1 99 && inB x.fUntil 0 1000320 && inB x.fBans 0 20 && decide (peerIdx t.fPeers x.fId = (k : Int))) := by unfold peerAt; rw [hx]
    repeat' (first | with_reducible (first | refine wA ?_ | refine wB ?_ | refine wC ?_ | refine w1 ?_ | refine w2 ?_ | refine w3 ?_ | refine w4 ?_ | refine w5 ?_ | refine w6 ?_ | refine w7 ?_ | refine w8 ?_ | refine wT ?_ | refine w9 ?_ | refine wE ?_ | refine wS ?_) | ((with_reducible refine hK _ ?_); clear hK K) | ((with_reducible refine PWp.condI ?_); refine ⟨_, rfl, fun hg => ?_, fun hg => ?_⟩ <;> first | (exact absurd hg (by decide)) | ((try simp only [Bool.not_true, Bool.not_false] at hg); (try simp only [hg]); (try simp only [push_cast] at hg); (try exact absurd trivial hg); (try (exfalso; omega)))) | ((with_reducible refine pops_guard0 ?_); refine ⟨_, rfl, fun K hK => ⟨rfl, ?_⟩⟩; (try simp (disch := omega) only [push_cast, seval, hx])) | ((with_reducible refine pops_plain fun K hK => ?_); simp (disch := omega) only [push_cast, seval, hx]) | ((with_reducible refine pops_guard ?_); refine ⟨_, rfl, fun K hK => ⟨_, rfl, fun hg => ?_, fun hg => ?_⟩⟩ <;> first | (exact absurd hg (by decide)) | ((try simp only [Bool.not_true, Bool.not_false] at hg); (try simp only [hg]); (try simp only [push_cast] at hg); (try exact absurd trivial hg); (try (exfalso; omega)); (try simp (disch := omega) only [push_cast, seval, hx]))) | ((with_reducible show pcall _ _ _ _ _ _); (first | (refine pcV (cf Tryz.func77) (within_p _ _ _) ?_) | (refine pcV (cf Tryz.func146) (iAt_p ⟨_, _⟩ _ sd) ?_) | (refine pcV (cf Tryz.func167) (isTime_p _) ?_)); (try simp (disch := omega) only [push_cast, seval, hx])) | ((with_reducible refine And.intro ?_ ?_); omega))
    all_goals first
      | (((with_reducible show PPostR _ _ _ _ _ _); refine finV ?_; (try simp only [push_cast, seval])); rw [bad (by rw [e]; simp_all)])
      | ((refine ⟨k + 1, by ((try dsimp only); omega), ?_, by (refine ⟨[?_], ?_, ?_, ?_, ?_⟩; rotate_left 1; (· ((try simp (disch := omega) only [push_cast, seval]); (repeat' (first | exact trivial | exact rfl | refine And.intro ?_ ?_ | omega)))); (· ((try simp (disch := omega) only [push_cast, seval]); (repeat' (first | exact trivial | exact rfl | refine And.intro ?_ ?_ | omega)))); (· exact rfl); (· (first | exact trivial | exact ⟨rfl, trivial⟩ | exact ⟨rfl, rfl, trivial⟩)))⟩); exact ⟨by omega, allTo_succ hA (by rw [e]; simp_all)⟩)
  obtain rfl : k = t.fPeers.length := by omega
  have e : tableOk t = (decide ((t.fPeers.length : Int) ≤ 6) && isTime t.fTurn) := by unfold tableOk; rw [allTo_end hA, Bool.true_and]
  repeat' (first | with_reducible (first | refine wA ?_ | refine wB ?_ | refine wC ?_ | refine w1 ?_ | refine w2 ?_ | refine w3 ?_ | refine w4 ?_ | refine w5 ?_ | refine w6 ?_ | refine w7 ?_ | refine w8 ?_ | refine wT ?_ | refine w9 ?_ | refine wE ?_ | refine wS ?_) | ((with_reducible refine hK _ ?_); clear hK K) | ((with_reducible refine PWp.condI ?_); refine ⟨_, rfl, fun hg => ?_, fun hg => ?_⟩ <;> first | (exact absurd hg (by decide)) | ((try simp only [Bool.not_true, Bool.not_false] at hg); (try simp only [hg]); (try simp only [push_cast] at hg); (try exact absurd trivial hg); (try (exfalso; omega)))) | ((with_reducible refine pops_guard0 ?_); refine ⟨_, rfl, fun K hK => ⟨rfl, ?_⟩⟩; (try simp (disch := omega) only [push_cast, seval])) | ((with_reducible refine pops_plain fun K hK => ?_); simp (disch := omega) only [push_cast, seval]) | ((with_reducible refine pops_guard ?_); refine ⟨_, rfl, fun K hK => ⟨_, rfl, fun hg => ?_, fun hg => ?_⟩⟩ <;> first | (exact absurd hg (by decide)) | ((try simp only [Bool.not_true, Bool.not_false] at hg); (try simp only [hg]); (try simp only [push_cast] at hg); (try exact absurd trivial hg); (try (exfalso; omega)); (try simp (disch := omega) only [push_cast, seval]))) | ((with_reducible show pcall _ _ _ _ _ _); (first | (refine pcV (cf Tryz.func77) (within_p _ _ _) ?_) | (refine pcV (cf Tryz.func146) (iAt_p ⟨_, _⟩ _ sd) ?_) | (refine pcV (cf Tryz.func167) (isTime_p _) ?_)); (try simp (disch := omega) only [push_cast, seval])) | ((with_reducible refine And.intro ?_ ?_); omega))
  all_goals
    ((with_reducible show PPostR _ _ _ _ _ _); refine finV ?_; (try simp only [push_cast, seval]))
    rw [e]
    first
      | (simp_all; done)
      | (simp_all; intros; omega)
set_option maxHeartbeats 1000000 in
theorem sTableOk_p (t : GTable) (hl : t.fPeers.length ≤ 1099511627776) : PCalls Tryz.prog 165 [.agg (pTable t)] [] (RV (.val (.bool (tableOk t)))) := by
  by_cases h6 : (t.fPeers.length : Int) ≤ 6
  case neg =>
    have e : tableOk t = false := by unfold tableOk; rw [decide_eq_false h6, Bool.and_false]; rfl
    rw [e]
    refine pcalls_ofR okP Tryz.func165 rfl ?_
    simp only [Tryz.f165, List.length_cons, List.length_nil, Nat.reduceAdd, Nat.reduceSub, List.replicate_succ, List.replicate_zero, List.cons_append, List.nil_append, List.length_map]
    repeat' (first | with_reducible (first | refine wA ?_ | refine wB ?_ | refine wC ?_ | refine w1 ?_ | refine w2 ?_ | refine w3 ?_ | refine w4 ?_ | refine w5 ?_ | refine w6 ?_ | refine w7 ?_ | refine w8 ?_ | refine wT ?_ | refine w9 ?_ | refine wE ?_ | refine wS ?_) | ((with_reducible refine hK _ ?_); clear hK K) | ((with_reducible refine PWp.condI ?_); refine ⟨_, rfl, fun hg => ?_, fun hg => ?_⟩ <;> first | (exact absurd hg (by decide)) | ((try simp only [Bool.not_true, Bool.not_false] at hg); (try simp only [hg]); (try simp only [push_cast] at hg); (try exact absurd trivial hg); (try (exfalso; omega)))) | ((with_reducible refine pops_guard0 ?_); refine ⟨_, rfl, fun K hK => ⟨rfl, ?_⟩⟩; (try simp (disch := omega) only [push_cast, seval])) | ((with_reducible refine pops_plain fun K hK => ?_); simp (disch := omega) only [push_cast, seval]) | ((with_reducible refine pops_guard ?_); refine ⟨_, rfl, fun K hK => ⟨_, rfl, fun hg => ?_, fun hg => ?_⟩⟩ <;> first | (exact absurd hg (by decide)) | ((try simp only [Bool.not_true, Bool.not_false] at hg); (try simp only [hg]); (try simp only [push_cast] at hg); (try exact absurd trivial hg); (try (exfalso; omega)); (try simp (disch := omega) only [push_cast, seval]))) | ((with_reducible show pcall _ _ _ _ _ _); (first | (refine pcV (cf Tryz.func79) (l1In_p _ _ _) ?_) | (refine pcV (cf Tryz.func166) (l10Time_p _) ?_) | (refine pcV (cf Tryz.func170) (sL19At_p ⟨_, _⟩ _ sd) ?_)); (try simp (disch := omega) only [push_cast, seval])) | ((with_reducible refine And.intro ?_ ?_); omega))
    ((with_reducible show PPostR _ _ _ _ _ _); refine finV ?_; (try simp only [push_cast, seval]))
  cases ht : isTime t.fTurn with
  | false =>
    have e : tableOk t = false := by unfold tableOk; rw [ht, Bool.and_false]
    rw [e]
    refine pcalls_ofR okP Tryz.func165 rfl ?_
    simp only [Tryz.f165, List.length_cons, List.length_nil, Nat.reduceAdd, Nat.reduceSub, List.replicate_succ, List.replicate_zero, List.cons_append, List.nil_append, List.length_map]
    repeat' (first | with_reducible (first | refine wA ?_ | refine wB ?_ | refine wC ?_ | refine w1 ?_ | refine w2 ?_ | refine w3 ?_ | refine w4 ?_ | refine w5 ?_ | refine w6 ?_ | refine w7 ?_ | refine w8 ?_ | refine wT ?_ | refine w9 ?_ | refine wE ?_ | refine wS ?_) | ((with_reducible refine hK _ ?_); clear hK K) | ((with_reducible refine PWp.condI ?_); refine ⟨_, rfl, fun hg => ?_, fun hg => ?_⟩ <;> first | (exact absurd hg (by decide)) | ((try simp only [Bool.not_true, Bool.not_false] at hg); (try simp only [hg]); (try simp only [push_cast] at hg); (try exact absurd trivial hg); (try (exfalso; omega)))) | ((with_reducible refine pops_guard0 ?_); refine ⟨_, rfl, fun K hK => ⟨rfl, ?_⟩⟩; (try simp (disch := omega) only [push_cast, seval, ht])) | ((with_reducible refine pops_plain fun K hK => ?_); simp (disch := omega) only [push_cast, seval, ht]) | ((with_reducible refine pops_guard ?_); refine ⟨_, rfl, fun K hK => ⟨_, rfl, fun hg => ?_, fun hg => ?_⟩⟩ <;> first | (exact absurd hg (by decide)) | ((try simp only [Bool.not_true, Bool.not_false] at hg); (try simp only [hg]); (try simp only [push_cast] at hg); (try exact absurd trivial hg); (try (exfalso; omega)); (try simp (disch := omega) only [push_cast, seval, ht]))) | ((with_reducible show pcall _ _ _ _ _ _); (first | (refine pcV (cf Tryz.func79) (l1In_p _ _ _) ?_) | (refine pcV (cf Tryz.func166) (l10Time_p _) ?_) | (refine pcV (cf Tryz.func170) (sL19At_p ⟨_, _⟩ _ sd) ?_)); (try simp (disch := omega) only [push_cast, seval, ht])) | ((with_reducible refine And.intro ?_ ?_); omega))
    ((with_reducible show PPostR _ _ _ _ _ _); refine finV ?_; (try simp only [push_cast, seval]))
  | true =>
  refine pcalls_ofR okP Tryz.func165 rfl ?_
  simp only [Tryz.f165, List.length_cons, List.length_nil, Nat.reduceAdd, Nat.reduceSub, List.replicate_succ, List.replicate_zero, List.cons_append, List.nil_append, List.length_map]
  repeat' (first | with_reducible (first | refine wA ?_ | refine wB ?_ | refine wC ?_ | refine w1 ?_ | refine w2 ?_ | refine w3 ?_ | refine w4 ?_ | refine w5 ?_ | refine w6 ?_ | refine w7 ?_ | refine w8 ?_ | refine wT ?_ | refine w9 ?_ | refine wE ?_ | refine wS ?_) | ((with_reducible refine hK _ ?_); clear hK K) | ((with_reducible refine PWp.condI ?_); refine ⟨_, rfl, fun hg => ?_, fun hg => ?_⟩ <;> first | (exact absurd hg (by decide)) | ((try simp only [Bool.not_true, Bool.not_false] at hg); (try simp only [hg]); (try simp only [push_cast] at hg); (try exact absurd trivial hg); (try (exfalso; omega)))) | ((with_reducible refine pops_guard0 ?_); refine ⟨_, rfl, fun K hK => ⟨rfl, ?_⟩⟩; (try simp (disch := omega) only [push_cast, seval, ht])) | ((with_reducible refine pops_plain fun K hK => ?_); simp (disch := omega) only [push_cast, seval, ht]) | ((with_reducible refine pops_guard ?_); refine ⟨_, rfl, fun K hK => ⟨_, rfl, fun hg => ?_, fun hg => ?_⟩⟩ <;> first | (exact absurd hg (by decide)) | ((try simp only [Bool.not_true, Bool.not_false] at hg); (try simp only [hg]); (try simp only [push_cast] at hg); (try exact absurd trivial hg); (try (exfalso; omega)); (try simp (disch := omega) only [push_cast, seval, ht]))) | ((with_reducible show pcall _ _ _ _ _ _); (first | (refine pcV (cf Tryz.func79) (l1In_p _ _ _) ?_) | (refine pcV (cf Tryz.func166) (l10Time_p _) ?_) | (refine pcV (cf Tryz.func170) (sL19At_p ⟨_, _⟩ _ sd) ?_)); (try simp (disch := omega) only [push_cast, seval, ht])) | ((with_reducible refine And.intro ?_ ?_); omega))
  refine PWp.loopK (α := Nat) (fun k => [(1, .ptr 0 0), (3, .val (.int .i64 (k : Int)))]) [0, 2, 4, 5, 6, 7, 8, 9, 10, 11, 12, 13, 14, 15, 16, 17, 18, 19, 20, 21, 22, 23, 24, 25, 26, 27, 28, 29, 30, 31, 32, 33, 34, 35, 36, 37, 38, 39, 40, 41, 42, 43, 44, 45, 46, 47, 48, 49, 50] (fun k => [some (.box (pTable t))]) (fun k => k ≤ t.fPeers.length ∧ allTo (peerAt t.fPeers) k) (fun k => t.fPeers.length - k) (0) (⟨Nat.zero_le _, allTo_zero⟩) (by (refine ⟨[?_], ?_, ?_, ?_, ?_⟩; rotate_left 1; (· ((try simp (disch := omega) only [push_cast, seval]); (repeat' (first | exact trivial | exact rfl | refine And.intro ?_ ?_ | omega)))); (· ((try simp (disch := omega) only [push_cast, seval]); (repeat' (first | exact trivial | exact rfl | refine And.intro ?_ ?_ | omega)))); (· exact rfl); (· (first | exact trivial | exact ⟨rfl, trivial⟩ | exact ⟨rfl, rfl, trivial⟩)))) ?_
  intro k ρ hI
  (try dsimp only at hI)
  refine PWp.at (tm' := ?_) (H' := ?_) ?_ ?_ ?_; rotate_left 2; (· ((try simp only [push_cast, seval]); exact rfl)); (· ((try dsimp only); exact rfl))
  obtain ⟨hk, hA⟩ := hI
  by_cases hlt : k < t.fPeers.length
  · obtain ⟨x, hx⟩ : ∃ x, t.fPeers[k]? = some x := ⟨_, List.getElem?_eq_getElem hlt⟩
    have bad := table_bad hlt
    have e : peerAt t.fPeers k = (inB x.fId 1 99 && inB x.fUntil 0 1000320 && inB x.fBans 0 20 && decide (peerIdx t.fPeers x.fId = (k : Int))) := by unfold peerAt; rw [hx]
    repeat' (first | with_reducible (first | refine wA ?_ | refine wB ?_ | refine wC ?_ | refine w1 ?_ | refine w2 ?_ | refine w3 ?_ | refine w4 ?_ | refine w5 ?_ | refine w6 ?_ | refine w7 ?_ | refine w8 ?_ | refine wT ?_ | refine w9 ?_ | refine wE ?_ | refine wS ?_) | ((with_reducible refine hK _ ?_); clear hK K) | ((with_reducible refine PWp.condI ?_); refine ⟨_, rfl, fun hg => ?_, fun hg => ?_⟩ <;> first | (exact absurd hg (by decide)) | ((try simp only [Bool.not_true, Bool.not_false] at hg); (try simp only [hg]); (try simp only [push_cast] at hg); (try exact absurd trivial hg); (try (exfalso; omega)))) | ((with_reducible refine pops_guard0 ?_); refine ⟨_, rfl, fun K hK => ⟨rfl, ?_⟩⟩; (try simp (disch := omega) only [push_cast, seval, hx])) | ((with_reducible refine pops_plain fun K hK => ?_); simp (disch := omega) only [push_cast, seval, hx]) | ((with_reducible refine pops_guard ?_); refine ⟨_, rfl, fun K hK => ⟨_, rfl, fun hg => ?_, fun hg => ?_⟩⟩ <;> first | (exact absurd hg (by decide)) | ((try simp only [Bool.not_true, Bool.not_false] at hg); (try simp only [hg]); (try simp only [push_cast] at hg); (try exact absurd trivial hg); (try (exfalso; omega)); (try simp (disch := omega) only [push_cast, seval, hx]))) | ((with_reducible show pcall _ _ _ _ _ _); (first | (refine pcV (cf Tryz.func79) (l1In_p _ _ _) ?_) | (refine pcV (cf Tryz.func166) (l10Time_p _) ?_) | (refine pcV (cf Tryz.func170) (sL19At_p ⟨_, _⟩ _ sd) ?_)); (try simp (disch := omega) only [push_cast, seval, hx])) | ((with_reducible refine And.intro ?_ ?_); omega))
    all_goals first
      | (((with_reducible show PPostR _ _ _ _ _ _); refine finV ?_; (try simp only [push_cast, seval])); rw [bad (by rw [e]; simp_all)])
      | ((refine ⟨k + 1, by ((try dsimp only); omega), ?_, by (refine ⟨[?_], ?_, ?_, ?_, ?_⟩; rotate_left 1; (· ((try simp (disch := omega) only [push_cast, seval]); (repeat' (first | exact trivial | exact rfl | refine And.intro ?_ ?_ | omega)))); (· ((try simp (disch := omega) only [push_cast, seval]); (repeat' (first | exact trivial | exact rfl | refine And.intro ?_ ?_ | omega)))); (· exact rfl); (· (first | exact trivial | exact ⟨rfl, trivial⟩ | exact ⟨rfl, rfl, trivial⟩)))⟩); exact ⟨by omega, allTo_succ hA (by rw [e]; simp_all)⟩)
  obtain rfl : k = t.fPeers.length := by omega
  have e : tableOk t = true := by unfold tableOk; rw [allTo_end hA, decide_eq_true h6, ht]; rfl
  repeat' (first | with_reducible (first | refine wA ?_ | refine wB ?_ | refine wC ?_ | refine w1 ?_ | refine w2 ?_ | refine w3 ?_ | refine w4 ?_ | refine w5 ?_ | refine w6 ?_ | refine w7 ?_ | refine w8 ?_ | refine wT ?_ | refine w9 ?_ | refine wE ?_ | refine wS ?_) | ((with_reducible refine hK _ ?_); clear hK K) | ((with_reducible refine PWp.condI ?_); refine ⟨_, rfl, fun hg => ?_, fun hg => ?_⟩ <;> first | (exact absurd hg (by decide)) | ((try simp only [Bool.not_true, Bool.not_false] at hg); (try simp only [hg]); (try simp only [push_cast] at hg); (try exact absurd trivial hg); (try (exfalso; omega)))) | ((with_reducible refine pops_guard0 ?_); refine ⟨_, rfl, fun K hK => ⟨rfl, ?_⟩⟩; (try simp (disch := omega) only [push_cast, seval])) | ((with_reducible refine pops_plain fun K hK => ?_); simp (disch := omega) only [push_cast, seval]) | ((with_reducible refine pops_guard ?_); refine ⟨_, rfl, fun K hK => ⟨_, rfl, fun hg => ?_, fun hg => ?_⟩⟩ <;> first | (exact absurd hg (by decide)) | ((try simp only [Bool.not_true, Bool.not_false] at hg); (try simp only [hg]); (try simp only [push_cast] at hg); (try exact absurd trivial hg); (try (exfalso; omega)); (try simp (disch := omega) only [push_cast, seval]))) | ((with_reducible show pcall _ _ _ _ _ _); (first | (refine pcV (cf Tryz.func79) (l1In_p _ _ _) ?_) | (refine pcV (cf Tryz.func166) (l10Time_p _) ?_) | (refine pcV (cf Tryz.func170) (sL19At_p ⟨_, _⟩ _ sd) ?_)); (try simp (disch := omega) only [push_cast, seval])) | ((with_reducible refine And.intro ?_ ?_); omega))
  ((with_reducible show PPostR _ _ _ _ _ _); refine finV ?_; (try simp only [push_cast, seval]))
  rw [e]
def pTbO (t : GTable) : List PV := [.own 0, .val (.int .i64 t.fTurn)]
def bTb (t : GTable) : Hp := [some (.row 211 4 (t.fPeers.map pPeer))]
attribute [push_cast] pTbO bTb
theorem iCopyTable_p (t : GTable) (hl : t.fPeers.length ≤ 2000000) : PCalls Tryz.prog 226 [.agg (pTable t)] [] (RH (.agg (pTbO t)) (bTb t)) := by
  refine pcalls_ofR okP Tryz.func226 rfl ?_
  simp only [Tryz.f226, List.length_cons, List.length_nil, Nat.reduceAdd, Nat.reduceSub, List.replicate_succ, List.replicate_zero, List.cons_append, List.nil_append, List.length_map]
  repeat' (first | with_reducible (first | refine wA ?_ | refine wB ?_ | refine wC ?_) | with_reducible refine PWp.draw (id := 1) okP true [0, 1, 3, 4, 2, 5, 6] (by kernel_rfl) ?_ | with_reducible (first | refine w1 ?_ | refine w2 ?_ | refine w3 ?_ | refine w4 ?_ | refine w5 ?_ | refine w6 ?_ | refine w7 ?_ | refine w8 ?_ | refine wT ?_ | refine w9 ?_ | refine wE ?_ | refine wS ?_) | ((with_reducible refine hK _ ?_); clear hK K) | ((with_reducible refine pany_I ?_); refine ⟨_, rfl, fun K hK => ?_⟩) | ((with_reducible refine pops_plain fun K hK => popO_build ?_); refine ⟨_, rfl, _, rfl, ?_⟩; simp (disch := omega) only [push_cast, seval]) | ((with_reducible refine pD_y ?_ (py_build ?_)); exact rfl; refine ⟨_, rfl, _, rfl, ?_⟩; simp (disch := omega) only [push_cast, seval]) | ((with_reducible refine pbuild_cs ?_); refine ⟨_, rfl, _, rfl, ?_⟩; simp (disch := omega) only [push_cast, seval]) | ((with_reducible refine pops_plain fun K hK => ?_); simp (disch := omega) only [push_cast, seval]) | ((first | ((with_reducible refine pD_y ?_ ?_); exact rfl) | ((with_reducible refine pD_x ?_ ?_); exact rfl)); simp (disch := omega) only [push_cast, seval]) | ((with_reducible refine And.intro ?_ ?_); omega))
  all_goals
    ((with_reducible show PPostR _ _ _ _ _ _); exact finH [_])
theorem sL19Copy_p (t : GTable) (hl : t.fPeers.length ≤ 2000000) : PCalls Tryz.prog 171 [.agg (pTable t)] [] (RH (.agg (pTbO t)) (bTb t)) := by
  refine pcalls_ofR okP Tryz.func171 rfl ?_
  simp only [Tryz.f171, List.length_cons, List.length_nil, Nat.reduceAdd, Nat.reduceSub, List.replicate_succ, List.replicate_zero, List.cons_append, List.nil_append, List.length_map]
  repeat' (first | with_reducible (first | refine wA ?_ | refine wB ?_ | refine wC ?_ | refine w1 ?_ | refine w2 ?_ | refine w3 ?_ | refine w4 ?_ | refine w5 ?_ | refine w6 ?_ | refine w7 ?_ | refine w8 ?_ | refine wT ?_ | refine w9 ?_ | refine wE ?_ | refine wS ?_) | ((with_reducible refine hK _ ?_); clear hK K) | ((with_reducible refine pops_plain fun K hK => popO_row ?_); refine ⟨_, _, _, _, _, rfl, rfl, rfl, rfl, rfl, ?_⟩; simp (disch := omega) only [push_cast, seval]) | ((with_reducible refine pops_plain fun K hK => ?_); simp (disch := omega) only [push_cast, seval]) | ((with_reducible refine And.intro ?_ ?_); omega))
  all_goals
    ((with_reducible show PPostR _ _ _ _ _ _); exact finH [_])
theorem iBanned_o (t : GTable) (now : Int) (ok : tableOk t = true) (hn : isTime now = true) : PCalls Tryz.prog 148 [.agg (pTable t), .val (.int .i64 now)] [] (RH (.own 0) [some (.row 3 1 ((sortI (bans t.fPeers now)).map pInt))]) := by
  have h6 := (tableOk_iff.1 ok).2.1
  refine pcalls_ofR okP Tryz.func148 rfl ?_
  simp only [Tryz.f148, List.length_cons, List.length_nil, Nat.reduceAdd, Nat.reduceSub, List.replicate_succ, List.replicate_zero, List.cons_append, List.nil_append, List.length_map]
  repeat' (first | with_reducible (first | refine wA ?_ | refine wB ?_ | refine wC ?_ | refine w1 ?_ | refine w2 ?_ | refine w3 ?_ | refine w4 ?_ | refine w5 ?_ | refine w6 ?_ | refine w7 ?_ | refine w8 ?_ | refine wT ?_ | refine w9 ?_ | refine wE ?_ | refine wS ?_) | ((with_reducible refine hK _ ?_); clear hK K) | ((with_reducible refine PWp.condI ?_); refine ⟨_, rfl, fun hg => ?_, fun hg => ?_⟩ <;> first | (exact absurd hg (by decide)) | ((try simp only [Bool.not_true, Bool.not_false] at hg); (try simp only [hg]); (try simp only [push_cast] at hg); (try exact absurd trivial hg); (try (exfalso; omega)))) | ((with_reducible refine pops_guard0 ?_); refine ⟨_, rfl, fun K hK => ⟨rfl, ?_⟩⟩; (try simp (disch := omega) only [push_cast, seval, ok, hn])) | ((with_reducible refine pops_plain fun K hK => popO_row ?_); refine ⟨_, _, _, _, _, rfl, rfl, rfl, rfl, rfl, ?_⟩; simp (disch := omega) only [push_cast, seval, ok, hn]) | ((with_reducible refine pops_plain fun K hK => ?_); simp (disch := omega) only [push_cast, seval, ok, hn]) | ((with_reducible refine pops_guard ?_); refine ⟨_, rfl, fun K hK => ⟨_, rfl, fun hg => ?_, fun hg => ?_⟩⟩ <;> first | (exact absurd hg (by decide)) | ((try simp only [Bool.not_true, Bool.not_false] at hg); (try simp only [hg]); (try simp only [push_cast] at hg); (try exact absurd trivial hg); (try (exfalso; omega)); (try simp (disch := omega) only [push_cast, seval, ok, hn]))) | ((with_reducible show pcall _ _ _ _ _ _); (first | (refine pcV (cf Tryz.func167) (isTime_p _) ?_) | (refine pcV (cf Tryz.func207) (iTableOk_p ⟨_, _⟩ sd) ?_) | (refine pcall_RGf (cf Tryz.func230) [?_] ?_ ?_ ?_ (sortI_p ?_ ?_) ?_; rotate_left 1; (· ((try simp (disch := omega) only [push_cast, seval]); (repeat' (first | exact trivial | exact rfl | refine And.intro ?_ ?_ | omega)))); (· (repeat' (first | exact trivial | refine And.intro ?_ ?_ | exact ⟨_, rfl⟩ | (simp (disch := omega) only [push_cast, seval]; done) | exact rfl))); (· exact rfl); rotate_right 1; rotate_left 1; (all_goals (try (first | omega | exact (show _ = _ by assumption)))))); (try simp (disch := omega) only [push_cast, seval, ok, hn])) | ((with_reducible refine And.intro ?_ ?_); omega))
  refine PWp.loopK (α := Nat) (fun k => [(5, .own 0), (20, .val (.int .i64 (k : Int)))]) [0, 2, 3, 6, 7, 8, 9, 10, 11, 12, 13, 14, 15, 16, 17, 21, 22, 23, 24, 25, 26, 27, 28, 29, 30, 31, 32, 33, 35] (fun k => [some (.row 3 1 ((bans (t.fPeers.take k) now).map pInt))]) (fun k => k ≤ t.fPeers.length) (fun k => t.fPeers.length - k) (0) (Nat.zero_le _) (by (refine ⟨[?_], ?_, ?_, ?_, ?_⟩; rotate_left 1; (· ((try simp (disch := omega) only [push_cast, seval]); (repeat' (first | exact trivial | exact rfl | refine And.intro ?_ ?_ | omega)))); (· ((try simp (disch := omega) only [push_cast, seval]); (repeat' (first | exact trivial | exact rfl | refine And.intro ?_ ?_ | omega)))); (· exact rfl); (· (first | exact trivial | exact ⟨rfl, trivial⟩ | exact ⟨rfl, rfl, trivial⟩)))) ?_
  intro k ρ hI
  (try dsimp only at hI)
  refine PWp.at (tm' := ?_) (H' := ?_) ?_ ?_ ?_; rotate_left 2; (· ((try simp only [push_cast, seval]); exact rfl)); (· ((try dsimp only); exact rfl))
  by_cases hlt : k < t.fPeers.length
  · obtain ⟨x, hx⟩ : ∃ x, t.fPeers[k]? = some x := ⟨_, List.getElem?_eq_getElem hlt⟩
    have e := bans_take (now := now) hx
    have hz := bans_len (t.fPeers.take k) now
    rw [List.length_take] at hz
    by_cases hb : now < x.fUntil
    · rw [if_pos hb] at e
      repeat' (first | with_reducible (first | refine wA ?_ | refine wB ?_ | refine wC ?_ | refine w1 ?_ | refine w2 ?_ | refine w3 ?_ | refine w4 ?_ | refine w5 ?_ | refine w6 ?_ | refine w7 ?_ | refine w8 ?_ | refine wT ?_ | refine w9 ?_ | refine wE ?_ | refine wS ?_) | ((with_reducible refine hK _ ?_); clear hK K) | ((with_reducible refine PWp.condI ?_); refine ⟨_, rfl, fun hg => ?_, fun hg => ?_⟩ <;> first | (exact absurd hg (by decide)) | ((try simp only [Bool.not_true, Bool.not_false] at hg); (try simp only [hg]); (try simp only [push_cast] at hg); (try exact absurd trivial hg); (try (exfalso; omega)))) | ((with_reducible refine pops_guard0 ?_); refine ⟨_, rfl, fun K hK => ⟨rfl, ?_⟩⟩; (try simp (disch := omega) only [push_cast, seval, hx])) | ((with_reducible refine pops_plain fun K hK => popO_row ?_); refine ⟨_, _, _, _, _, rfl, rfl, rfl, rfl, rfl, ?_⟩; simp (disch := omega) only [push_cast, seval, hx]) | ((with_reducible refine pops_plain fun K hK => ?_); simp (disch := omega) only [push_cast, seval, hx]) | ((with_reducible refine pops_guard ?_); refine ⟨_, rfl, fun K hK => ⟨_, rfl, fun hg => ?_, fun hg => ?_⟩⟩ <;> first | (exact absurd hg (by decide)) | ((try simp only [Bool.not_true, Bool.not_false] at hg); (try simp only [hg]); (try simp only [push_cast] at hg); (try exact absurd trivial hg); (try (exfalso; omega)); (try simp (disch := omega) only [push_cast, seval, hx]))) | ((with_reducible show pcall _ _ _ _ _ _); (first | (refine pcV (cf Tryz.func167) (isTime_p _) ?_) | (refine pcV (cf Tryz.func207) (iTableOk_p ⟨_, _⟩ sd) ?_) | (refine pcall_RGf (cf Tryz.func230) [?_] ?_ ?_ ?_ (sortI_p ?_ ?_) ?_; rotate_left 1; (· ((try simp (disch := omega) only [push_cast, seval]); (repeat' (first | exact trivial | exact rfl | refine And.intro ?_ ?_ | omega)))); (· (repeat' (first | exact trivial | refine And.intro ?_ ?_ | exact ⟨_, rfl⟩ | (simp (disch := omega) only [push_cast, seval]; done) | exact rfl))); (· exact rfl); rotate_right 1; rotate_left 1; (all_goals (try (first | omega | exact (show _ = _ by assumption)))))); (try simp (disch := omega) only [push_cast, seval, hx])) | ((with_reducible refine And.intro ?_ ?_); omega))
      (refine ⟨k + 1, by ((try dsimp only); omega), ?_, by (refine ⟨[?_], ?_, ?_, ?_, ?_⟩; rotate_left 1; (· ((first | simp (disch := omega) only [push_cast, seval, e, List.map_append, List.map_cons, List.map_nil, pInt] | simp (disch := omega) only [push_cast, seval] | skip); (repeat' (first | exact trivial | exact rfl | refine And.intro ?_ ?_ | omega)))); (· ((first | simp (disch := omega) only [push_cast, seval, e, List.map_append, List.map_cons, List.map_nil, pInt] | simp (disch := omega) only [push_cast, seval] | skip); (repeat' (first | exact trivial | exact rfl | refine And.intro ?_ ?_ | omega)))); (· exact rfl); (· (first | exact trivial | exact ⟨rfl, trivial⟩ | exact ⟨rfl, rfl, trivial⟩)))⟩)
      exact hlt
    · rw [if_neg hb] at e
      repeat' (first | with_reducible (first | refine wA ?_ | refine wB ?_ | refine wC ?_ | refine w1 ?_ | refine w2 ?_ | refine w3 ?_ | refine w4 ?_ | refine w5 ?_ | refine w6 ?_ | refine w7 ?_ | refine w8 ?_ | refine wT ?_ | refine w9 ?_ | refine wE ?_ | refine wS ?_) | ((with_reducible refine hK _ ?_); clear hK K) | ((with_reducible refine PWp.condI ?_); refine ⟨_, rfl, fun hg => ?_, fun hg => ?_⟩ <;> first | (exact absurd hg (by decide)) | ((try simp only [Bool.not_true, Bool.not_false] at hg); (try simp only [hg]); (try simp only [push_cast] at hg); (try exact absurd trivial hg); (try (exfalso; omega)))) | ((with_reducible refine pops_guard0 ?_); refine ⟨_, rfl, fun K hK => ⟨rfl, ?_⟩⟩; (try simp (disch := omega) only [push_cast, seval, hx])) | ((with_reducible refine pops_plain fun K hK => popO_row ?_); refine ⟨_, _, _, _, _, rfl, rfl, rfl, rfl, rfl, ?_⟩; simp (disch := omega) only [push_cast, seval, hx]) | ((with_reducible refine pops_plain fun K hK => ?_); simp (disch := omega) only [push_cast, seval, hx]) | ((with_reducible refine pops_guard ?_); refine ⟨_, rfl, fun K hK => ⟨_, rfl, fun hg => ?_, fun hg => ?_⟩⟩ <;> first | (exact absurd hg (by decide)) | ((try simp only [Bool.not_true, Bool.not_false] at hg); (try simp only [hg]); (try simp only [push_cast] at hg); (try exact absurd trivial hg); (try (exfalso; omega)); (try simp (disch := omega) only [push_cast, seval, hx]))) | ((with_reducible show pcall _ _ _ _ _ _); (first | (refine pcV (cf Tryz.func167) (isTime_p _) ?_) | (refine pcV (cf Tryz.func207) (iTableOk_p ⟨_, _⟩ sd) ?_) | (refine pcall_RGf (cf Tryz.func230) [?_] ?_ ?_ ?_ (sortI_p ?_ ?_) ?_; rotate_left 1; (· ((try simp (disch := omega) only [push_cast, seval]); (repeat' (first | exact trivial | exact rfl | refine And.intro ?_ ?_ | omega)))); (· (repeat' (first | exact trivial | refine And.intro ?_ ?_ | exact ⟨_, rfl⟩ | (simp (disch := omega) only [push_cast, seval]; done) | exact rfl))); (· exact rfl); rotate_right 1; rotate_left 1; (all_goals (try (first | omega | exact (show _ = _ by assumption)))))); (try simp (disch := omega) only [push_cast, seval, hx])) | ((with_reducible refine And.intro ?_ ?_); omega))
      (refine ⟨k + 1, by ((try dsimp only); omega), ?_, by (refine ⟨[?_], ?_, ?_, ?_, ?_⟩; rotate_left 1; (· ((first | simp (disch := omega) only [push_cast, seval, e] | simp (disch := omega) only [push_cast, seval] | skip); (repeat' (first | exact trivial | exact rfl | refine And.intro ?_ ?_ | omega)))); (· ((first | simp (disch := omega) only [push_cast, seval, e] | simp (disch := omega) only [push_cast, seval] | skip); (repeat' (first | exact trivial | exact rfl | refine And.intro ?_ ?_ | omega)))); (· exact rfl); (· (first | exact trivial | exact ⟨rfl, trivial⟩ | exact ⟨rfl, rfl, trivial⟩)))⟩)
      exact hlt
  obtain rfl : k = t.fPeers.length := by omega
  have hz := bans_len t.fPeers now
  rw [List.take_length]
  repeat' (first | with_reducible (first | refine wA ?_ | refine wB ?_ | refine wC ?_ | refine w1 ?_ | refine w2 ?_ | refine w3 ?_ | refine w4 ?_ | refine w5 ?_ | refine w6 ?_ | refine w7 ?_ | refine w8 ?_ | refine wT ?_ | refine w9 ?_ | refine wE ?_ | refine wS ?_) | ((with_reducible refine hK _ ?_); clear hK K) | ((with_reducible refine PWp.condI ?_); refine ⟨_, rfl, fun hg => ?_, fun hg => ?_⟩ <;> first | (exact absurd hg (by decide)) | ((try simp only [Bool.not_true, Bool.not_false] at hg); (try simp only [hg]); (try simp only [push_cast] at hg); (try exact absurd trivial hg); (try (exfalso; omega)))) | ((with_reducible refine pops_guard0 ?_); refine ⟨_, rfl, fun K hK => ⟨rfl, ?_⟩⟩; (try simp (disch := omega) only [push_cast, seval])) | ((with_reducible refine pops_plain fun K hK => popO_row ?_); refine ⟨_, _, _, _, _, rfl, rfl, rfl, rfl, rfl, ?_⟩; simp (disch := omega) only [push_cast, seval]) | ((with_reducible refine pops_plain fun K hK => ?_); simp (disch := omega) only [push_cast, seval]) | ((with_reducible refine pops_guard ?_); refine ⟨_, rfl, fun K hK => ⟨_, rfl, fun hg => ?_, fun hg => ?_⟩⟩ <;> first | (exact absurd hg (by decide)) | ((try simp only [Bool.not_true, Bool.not_false] at hg); (try simp only [hg]); (try simp only [push_cast] at hg); (try exact absurd trivial hg); (try (exfalso; omega)); (try simp (disch := omega) only [push_cast, seval]))) | ((with_reducible show pcall _ _ _ _ _ _); (first | (refine pcV (cf Tryz.func167) (isTime_p _) ?_) | (refine pcV (cf Tryz.func207) (iTableOk_p ⟨_, _⟩ sd) ?_) | (refine pcall_RGf (cf Tryz.func230) [?_] ?_ ?_ ?_ (sortI_p ?_ ?_) ?_; rotate_left 1; (· ((try simp (disch := omega) only [push_cast, seval]); (repeat' (first | exact trivial | exact rfl | refine And.intro ?_ ?_ | omega)))); (· (repeat' (first | exact trivial | refine And.intro ?_ ?_ | exact ⟨_, rfl⟩ | (simp (disch := omega) only [push_cast, seval]; done) | exact rfl))); (· exact rfl); rotate_right 1; rotate_left 1; (all_goals (try (first | omega | exact (show _ = _ by assumption)))))); (try simp (disch := omega) only [push_cast, seval])) | ((with_reducible refine And.intro ?_ ?_); omega))
  ((with_reducible show PPostR _ _ _ _ _ _); exact finH [_])
theorem iBanned_p (t : GTable) (now : Int) (ok : tableOk t = true) (hn : isTime now = true) : PCalls Tryz.prog 148 [.agg (pTable t), .val (.int .i64 now)] [] (RH (.sl 1 ((sortI (bans t.fPeers now)).map pInt)) []) :=
  (iBanned_o t now ok hn).thawH 0 [] rfl (of_eq_true (pInt_rc _)) rfl rfl trivial trivial
theorem modify_set {α : Type} {l : List α} {k : Nat} {x : α} {f : α → α} (h : l[k]? = some x) : l.modify k f = l.set k (f x) := by
  apply List.ext_getElem?
  intro i
  rw [List.getElem?_modify, List.getElem?_set]
  by_cases e : k = i
  · subst e
    have hlt := (List.getElem?_eq_some_iff.1 h).1
    rw [h]
    simp [hlt]
  · simp [e]
attribute [push_cast] List.map_set
set_option maxHeartbeats 1000000 in
theorem iPeerGood_p (t : GTable) (id : Int) (ok : tableOk t = true) : PCalls Tryz.prog 153 [.agg (pTable t), .val (.int .i64 id)] [] (RH (.tup [.agg (pTbO (peerGood t id).1), .val (.bool (peerGood t id).2)]) (bTb (peerGood t id).1)) := by
  have h6 := (tableOk_iff.1 ok).2.1
  obtain ⟨g1, g2⟩ := idx_ge (fun p : GPeer => decide (p.fId = id)) t.fPeers
  by_cases h0 : peerIdx t.fPeers id < 0
  · have e : peerGood t id = (t, false) := by unfold peerGood; rw [if_pos h0]
    rw [e]
    refine pcalls_ofR okP Tryz.func153 rfl ?_
    simp only [Tryz.f153, List.length_cons, List.length_nil, Nat.reduceAdd, Nat.reduceSub, List.replicate_succ, List.replicate_zero, List.cons_append, List.nil_append, List.length_map]
    repeat' (first | with_reducible (first | refine wA ?_ | refine wB ?_ | refine wC ?_ | refine w1 ?_ | refine w2 ?_ | refine w3 ?_ | refine w4 ?_ | refine w5 ?_ | refine w6 ?_ | refine w7 ?_ | refine w8 ?_ | refine wT ?_ | refine w9 ?_ | refine wE ?_ | refine wS ?_) | ((with_reducible refine hK _ ?_); clear hK K) | ((with_reducible refine PWp.condI ?_); refine ⟨_, rfl, fun hg => ?_, fun hg => ?_⟩ <;> first | (exact absurd hg (by decide)) | ((try simp only [Bool.not_true, Bool.not_false] at hg); (try simp only [hg]); (try simp only [push_cast] at hg); (try exact absurd trivial hg); (try (exfalso; omega)))) | ((with_reducible refine pops_plain fun K hK => popO_build ?_); refine ⟨_, rfl, _, rfl, ?_⟩; simp (disch := omega) only [push_cast, seval, ok]) | ((with_reducible refine pbuild_cs ?_); refine ⟨_, rfl, _, rfl, ?_⟩; simp (disch := omega) only [push_cast, seval, ok]) | ((with_reducible refine pops_plain fun K hK => ?_); simp (disch := omega) only [push_cast, seval, ok]) | ((with_reducible show pcall _ _ _ _ _ _); (first | (refine pcV (cf Tryz.func146) (iAt_p ⟨_, _⟩ _ sd) ?_) | (refine pcV (cf Tryz.func207) (iTableOk_p ⟨_, _⟩ sd) ?_) | (refine pcF (cf Tryz.func226) (iCopyTable_p ⟨_, _⟩ sd) ?_)); (try simp (disch := omega) only [push_cast, seval, ok])) | ((with_reducible refine And.intro ?_ ?_); omega))
    ((with_reducible show PPostR _ _ _ _ _ _); exact finH [_])
  · have e : peerGood t id = (peerSet t id fun p => { p with fBans := 0 }, true) := by unfold peerGood; rw [if_neg h0]
    rw [e]
    obtain ⟨k, hk⟩ : ∃ k : Nat, peerIdx t.fPeers id = k := ⟨(peerIdx t.fPeers id).toNat, by omega⟩
    have hkl : k < t.fPeers.length := by unfold peerIdx at hk; omega
    obtain ⟨x, hx⟩ : ∃ x, t.fPeers[k]? = some x := ⟨_, List.getElem?_eq_getElem hkl⟩
    have es : (t.fPeers.modify k fun p => { p with fBans := 0 }).map pPeer = (t.fPeers.map pPeer).set k (pPeer { x with fBans := 0 }) := by rw [modify_set hx, List.map_set]
    unfold peerSet
    rw [hk, Int.toNat_natCast]
    simp only [pTbO, bTb, es]
    refine pcalls_ofR okP Tryz.func153 rfl ?_
    simp only [Tryz.f153, List.length_cons, List.length_nil, Nat.reduceAdd, Nat.reduceSub, List.replicate_succ, List.replicate_zero, List.cons_append, List.nil_append, List.length_map]
    repeat' (first | with_reducible (first | refine wA ?_ | refine wB ?_ | refine wC ?_ | refine w1 ?_ | refine w2 ?_ | refine w3 ?_ | refine w4 ?_ | refine w5 ?_ | refine w6 ?_ | refine w7 ?_ | refine w8 ?_ | refine wT ?_ | refine w9 ?_ | refine wE ?_ | refine wS ?_) | ((with_reducible refine hK _ ?_); clear hK K) | ((with_reducible refine PWp.condI ?_); refine ⟨_, rfl, fun hg => ?_, fun hg => ?_⟩ <;> first | (exact absurd hg (by decide)) | ((try simp only [Bool.not_true, Bool.not_false] at hg); (try simp only [hg]); (try simp only [push_cast] at hg); (try exact absurd trivial hg); (try (exfalso; omega)))) | ((with_reducible refine pops_plain fun K hK => popO_build ?_); refine ⟨_, rfl, _, rfl, ?_⟩; simp (disch := omega) only [push_cast, seval, ok, hk, hx]) | ((with_reducible refine pbuild_cs ?_); refine ⟨_, rfl, _, rfl, ?_⟩; simp (disch := omega) only [push_cast, seval, ok, hk, hx]) | ((with_reducible refine pops_plain fun K hK => ?_); simp (disch := omega) only [push_cast, seval, ok, hk, hx]) | ((with_reducible show pcall _ _ _ _ _ _); (first | (refine pcV (cf Tryz.func146) (iAt_p ⟨_, _⟩ _ sd) ?_) | (refine pcV (cf Tryz.func207) (iTableOk_p ⟨_, _⟩ sd) ?_) | (refine pcF (cf Tryz.func226) (iCopyTable_p ⟨_, _⟩ sd) ?_)); (try simp (disch := omega) only [push_cast, seval, ok, hk, hx])) | ((with_reducible refine And.intro ?_ ?_); omega))
    ((with_reducible show PPostR _ _ _ _ _ _); exact finH [_])
set_option maxHeartbeats 1000000 in
theorem sPeerGood_p (t : GTable) (id : Int) (ok : tableOk t = true) : PCalls Tryz.prog 219 [.agg (pTable t), .val (.int .i64 id)] [] (RH (.tup [.agg (pTbO (peerGood t id).1), .val (.bool (peerGood t id).2)]) (bTb (peerGood t id).1)) := by
  have h6 := (tableOk_iff.1 ok).2.1
  obtain ⟨g1, g2⟩ := idx_ge (fun p : GPeer => decide (p.fId = id)) t.fPeers
  by_cases h0 : peerIdx t.fPeers id < 0
  · have e : peerGood t id = (t, false) := by unfold peerGood; rw [if_pos h0]
    rw [e]
    refine pcalls_ofR okP Tryz.func219 rfl ?_
    simp only [Tryz.f219, List.length_cons, List.length_nil, Nat.reduceAdd, Nat.reduceSub, List.replicate_succ, List.replicate_zero, List.cons_append, List.nil_append, List.length_map]
    repeat' (first | with_reducible (first | refine wA ?_ | refine wB ?_ | refine wC ?_ | refine w1 ?_ | refine w2 ?_ | refine w3 ?_ | refine w4 ?_ | refine w5 ?_ | refine w6 ?_ | refine w7 ?_ | refine w8 ?_ | refine wT ?_ | refine w9 ?_ | refine wE ?_ | refine wS ?_) | ((with_reducible refine hK _ ?_); clear hK K) | ((with_reducible refine PWp.condI ?_); refine ⟨_, rfl, fun hg => ?_, fun hg => ?_⟩ <;> first | (exact absurd hg (by decide)) | ((try simp only [Bool.not_true, Bool.not_false] at hg); (try simp only [hg]); (try simp only [push_cast] at hg); (try exact absurd trivial hg); (try (exfalso; omega)))) | ((with_reducible refine pops_plain fun K hK => popO_build ?_); refine ⟨_, rfl, _, rfl, ?_⟩; simp (disch := omega) only [push_cast, seval, ok]) | ((with_reducible refine pbuild_cs ?_); refine ⟨_, rfl, _, rfl, ?_⟩; simp (disch := omega) only [push_cast, seval, ok]) | ((with_reducible refine pops_plain fun K hK => ?_); simp (disch := omega) only [push_cast, seval, ok]) | ((with_reducible show pcall _ _ _ _ _ _); (first | (refine pcV (cf Tryz.func165) (sTableOk_p ⟨_, _⟩ sd) ?_) | (refine pcV (cf Tryz.func170) (sL19At_p ⟨_, _⟩ _ sd) ?_) | (refine pcF (cf Tryz.func171) (sL19Copy_p ⟨_, _⟩ sd) ?_)); (try simp (disch := omega) only [push_cast, seval, ok])) | ((with_reducible refine And.intro ?_ ?_); omega))
    ((with_reducible show PPostR _ _ _ _ _ _); exact finH [_])
  · have e : peerGood t id = (peerSet t id fun p => { p with fBans := 0 }, true) := by unfold peerGood; rw [if_neg h0]
    rw [e]
    obtain ⟨k, hk⟩ : ∃ k : Nat, peerIdx t.fPeers id = k := ⟨(peerIdx t.fPeers id).toNat, by omega⟩
    have hkl : k < t.fPeers.length := by unfold peerIdx at hk; omega
    obtain ⟨x, hx⟩ : ∃ x, t.fPeers[k]? = some x := ⟨_, List.getElem?_eq_getElem hkl⟩
    have es : (t.fPeers.modify k fun p => { p with fBans := 0 }).map pPeer = (t.fPeers.map pPeer).set k (pPeer { x with fBans := 0 }) := by rw [modify_set hx, List.map_set]
    unfold peerSet
    rw [hk, Int.toNat_natCast]
    simp only [pTbO, bTb, es]
    refine pcalls_ofR okP Tryz.func219 rfl ?_
    simp only [Tryz.f219, List.length_cons, List.length_nil, Nat.reduceAdd, Nat.reduceSub, List.replicate_succ, List.replicate_zero, List.cons_append, List.nil_append, List.length_map]
    repeat' (first | with_reducible (first | refine wA ?_ | refine wB ?_ | refine wC ?_ | refine w1 ?_ | refine w2 ?_ | refine w3 ?_ | refine w4 ?_ | refine w5 ?_ | refine w6 ?_ | refine w7 ?_ | refine w8 ?_ | refine wT ?_ | refine w9 ?_ | refine wE ?_ | refine wS ?_) | ((with_reducible refine hK _ ?_); clear hK K) | ((with_reducible refine PWp.condI ?_); refine ⟨_, rfl, fun hg => ?_, fun hg => ?_⟩ <;> first | (exact absurd hg (by decide)) | ((try simp only [Bool.not_true, Bool.not_false] at hg); (try simp only [hg]); (try simp only [push_cast] at hg); (try exact absurd trivial hg); (try (exfalso; omega)))) | ((with_reducible refine pops_plain fun K hK => popO_build ?_); refine ⟨_, rfl, _, rfl, ?_⟩; simp (disch := omega) only [push_cast, seval, ok, hk, hx]) | ((with_reducible refine pbuild_cs ?_); refine ⟨_, rfl, _, rfl, ?_⟩; simp (disch := omega) only [push_cast, seval, ok, hk, hx]) | ((with_reducible refine pops_plain fun K hK => ?_); simp (disch := omega) only [push_cast, seval, ok, hk, hx]) | ((with_reducible show pcall _ _ _ _ _ _); (first | (refine pcV (cf Tryz.func165) (sTableOk_p ⟨_, _⟩ sd) ?_) | (refine pcV (cf Tryz.func170) (sL19At_p ⟨_, _⟩ _ sd) ?_) | (refine pcF (cf Tryz.func171) (sL19Copy_p ⟨_, _⟩ sd) ?_)); (try simp (disch := omega) only [push_cast, seval, ok, hk, hx])) | ((with_reducible refine And.intro ?_ ?_); omega))
    ((with_reducible show PPostR _ _ _ _ _ _); exact finH [_])
end Go.Proofs.YtiboajlnjldalaaGreatDoor
namespace Go.Proofs.YtiboajlnjldalaaGreatDoor
set_option linter.unusedSimpArgs false
set_option linter.unusedVariables false
open Go.RowKit
set_option maxRecDepth 100000
theorem lieN_eq {b n i : Nat} (h1 : n = 10 * 2 ^ i) (h2 : i ≤ b) (h3 : i = b ∨ 320 ≤ n) (h5 : i ≤ 5) : lieN b = n := by
  unfold lieN
  rcases h3 with rfl | h3
  · subst h1
    have : (2 : Nat) ^ i ≤ 2 ^ 5 := Nat.pow_le_pow_right (by omega) h5
    omega
  · have e : i = 5 := by
      rcases Nat.lt_or_ge i 5 with q | q
      · have : (2 : Nat) ^ i ≤ 2 ^ 4 := Nat.pow_le_pow_right (by omega) (by omega)
        omega
      · omega
    subst e
    have : (2 : Nat) ^ 5 ≤ 2 ^ b := Nat.pow_le_pow_right (by omega) h2
    omega
theorem shl10 {b : Nat} (h : b ≤ 20) : IntKind.i64.wrap (10 * 2 ^ b) = ((10 * 2 ^ b : Nat) : Int) := by
  have : (2 : Nat) ^ b ≤ 2 ^ 20 := Nat.pow_le_pow_right (by omega) h
  have e : ((10 : Int) * 2 ^ b) = ((10 * 2 ^ b : Nat) : Int) := by simp
  rw [e, wr64] <;> omega
attribute [push_cast] List.set_set List.length_set
set_option maxHeartbeats 1000000 in
theorem iPeerLie_p (t : GTable) (id now : Int) (ok : tableOk t = true) : PCalls Tryz.prog 154 [.agg (pTable t), .val (.int .i64 id), .val (.int .i64 now)] [] (RH (.tup [.agg (pTbO (peerLie t id now).1), .val (.bool (peerLie t id now).2)]) (bTb (peerLie t id now).1)) := by
  have h6 := (tableOk_iff.1 ok).2.1
  obtain ⟨g1, g2⟩ := idx_ge (fun p : GPeer => decide (p.fId = id)) t.fPeers
  by_cases h0 : peerIdx t.fPeers id < 0
  · have e : peerLie t id now = (t, false) := by unfold peerLie; rw [if_pos (.inl h0)]
    rw [e]
    refine pcalls_ofR okP Tryz.func154 rfl ?_
    simp only [Tryz.f154, List.length_cons, List.length_nil, Nat.reduceAdd, Nat.reduceSub, List.replicate_succ, List.replicate_zero, List.cons_append, List.nil_append, List.length_map]
    repeat' (first | with_reducible (first | refine wA ?_ | refine wB ?_ | refine wC ?_ | refine w1 ?_ | refine w2 ?_ | refine w3 ?_ | refine w4 ?_ | refine w5 ?_ | refine w6 ?_ | refine w7 ?_ | refine w8 ?_ | refine wT ?_ | refine w9 ?_ | refine wE ?_ | refine wS ?_) | ((with_reducible refine hK _ ?_); clear hK K) | ((with_reducible refine PWp.condI ?_); refine ⟨_, rfl, fun hg => ?_, fun hg => ?_⟩ <;> first | (exact absurd hg (by decide)) | ((try simp only [Bool.not_true, Bool.not_false] at hg); (try simp only [hg]); (try simp only [push_cast] at hg); (try exact absurd trivial hg); (try (exfalso; omega)))) | ((with_reducible refine pops_guard0 ?_); refine ⟨_, rfl, fun K hK => ⟨rfl, ?_⟩⟩; (try simp (disch := omega) only [push_cast, seval, ok])) | ((with_reducible refine pops_plain fun K hK => popO_build ?_); refine ⟨_, rfl, _, rfl, ?_⟩; simp (disch := omega) only [push_cast, seval, ok]) | ((with_reducible refine pbuild_cs ?_); refine ⟨_, rfl, _, rfl, ?_⟩; simp (disch := omega) only [push_cast, seval, ok]) | ((with_reducible refine pops_plain fun K hK => ?_); simp (disch := omega) only [push_cast, seval, ok]) | ((with_reducible refine pops_guard ?_); refine ⟨_, rfl, fun K hK => ⟨_, rfl, fun hg => ?_, fun hg => ?_⟩⟩ <;> first | (exact absurd hg (by decide)) | ((try simp only [Bool.not_true, Bool.not_false] at hg); (try simp only [hg]); (try simp only [push_cast] at hg); (try exact absurd trivial hg); (try (exfalso; omega)); (try simp (disch := omega) only [push_cast, seval, ok]))) | ((with_reducible show pcall _ _ _ _ _ _); (first | (refine pcV (cf Tryz.func146) (iAt_p ⟨_, _⟩ _ sd) ?_) | (refine pcV (cf Tryz.func167) (isTime_p _) ?_) | (refine pcV (cf Tryz.func207) (iTableOk_p ⟨_, _⟩ sd) ?_) | (refine pcF (cf Tryz.func226) (iCopyTable_p ⟨_, _⟩ sd) ?_)); (try simp (disch := omega) only [push_cast, seval, ok])) | ((with_reducible refine And.intro ?_ ?_); omega))
    ((with_reducible show PPostR _ _ _ _ _ _); exact finH [_])
  cases hn : isTime now with
  | false =>
    have e : peerLie t id now = (t, false) := by unfold peerLie; rw [if_pos (.inr hn)]
    rw [e]
    refine pcalls_ofR okP Tryz.func154 rfl ?_
    simp only [Tryz.f154, List.length_cons, List.length_nil, Nat.reduceAdd, Nat.reduceSub, List.replicate_succ, List.replicate_zero, List.cons_append, List.nil_append, List.length_map]
    repeat' (first | with_reducible (first | refine wA ?_ | refine wB ?_ | refine wC ?_ | refine w1 ?_ | refine w2 ?_ | refine w3 ?_ | refine w4 ?_ | refine w5 ?_ | refine w6 ?_ | refine w7 ?_ | refine w8 ?_ | refine wT ?_ | refine w9 ?_ | refine wE ?_ | refine wS ?_) | ((with_reducible refine hK _ ?_); clear hK K) | ((with_reducible refine PWp.condI ?_); refine ⟨_, rfl, fun hg => ?_, fun hg => ?_⟩ <;> first | (exact absurd hg (by decide)) | ((try simp only [Bool.not_true, Bool.not_false] at hg); (try simp only [hg]); (try simp only [push_cast] at hg); (try exact absurd trivial hg); (try (exfalso; omega)))) | ((with_reducible refine pops_guard0 ?_); refine ⟨_, rfl, fun K hK => ⟨rfl, ?_⟩⟩; (try simp (disch := omega) only [push_cast, seval, ok, hn])) | ((with_reducible refine pops_plain fun K hK => popO_build ?_); refine ⟨_, rfl, _, rfl, ?_⟩; simp (disch := omega) only [push_cast, seval, ok, hn]) | ((with_reducible refine pbuild_cs ?_); refine ⟨_, rfl, _, rfl, ?_⟩; simp (disch := omega) only [push_cast, seval, ok, hn]) | ((with_reducible refine pops_plain fun K hK => ?_); simp (disch := omega) only [push_cast, seval, ok, hn]) | ((with_reducible refine pops_guard ?_); refine ⟨_, rfl, fun K hK => ⟨_, rfl, fun hg => ?_, fun hg => ?_⟩⟩ <;> first | (exact absurd hg (by decide)) | ((try simp only [Bool.not_true, Bool.not_false] at hg); (try simp only [hg]); (try simp only [push_cast] at hg); (try exact absurd trivial hg); (try (exfalso; omega)); (try simp (disch := omega) only [push_cast, seval, ok, hn]))) | ((with_reducible show pcall _ _ _ _ _ _); (first | (refine pcV (cf Tryz.func146) (iAt_p ⟨_, _⟩ _ sd) ?_) | (refine pcV (cf Tryz.func167) (isTime_p _) ?_) | (refine pcV (cf Tryz.func207) (iTableOk_p ⟨_, _⟩ sd) ?_) | (refine pcF (cf Tryz.func226) (iCopyTable_p ⟨_, _⟩ sd) ?_)); (try simp (disch := omega) only [push_cast, seval, ok, hn])) | ((with_reducible refine And.intro ?_ ?_); omega))
    ((with_reducible show PPostR _ _ _ _ _ _); exact finH [_])
  | true =>
    have e : peerLie t id now = (peerSet t id (lied now), true) := by unfold peerLie; rw [if_neg (by simp [h0, hn])]
    rw [e]
    have hnb := time_bd hn
    obtain ⟨k, hk⟩ : ∃ k : Nat, peerIdx t.fPeers id = k := ⟨(peerIdx t.fPeers id).toNat, by omega⟩
    have hkl : k < t.fPeers.length := by unfold peerIdx at hk; omega
    obtain ⟨x, hx⟩ : ∃ x, t.fPeers[k]? = some x := ⟨_, List.getElem?_eq_getElem hkl⟩
    have hb := ((tableOk_iff.1 ok).1 k x hx).2.2.1
    obtain ⟨b, hbb⟩ : ∃ b : Nat, x.fBans = b := ⟨x.fBans.toNat, by omega⟩
    have hb20 : b ≤ 20 := by omega
    have hset : ∀ r, ((t.fPeers.map pPeer).set k r)[k]? = some r := fun r => by rw [List.getElem?_set_self (by rw [List.length_map]; exact hkl)]
    have es : (t.fPeers.modify k (lied now)).map pPeer = (t.fPeers.map pPeer).set k (pPeer (lied now x)) := by rw [modify_set hx, List.map_set]
    have el : lied now x = ⟨x.fId, x.fPinned, now + (if ((10 * 2 ^ b : Nat) : Int) < 320 then ((10 * 2 ^ b : Nat) : Int) else 320), (if (b : Int) + 1 < 20 then (b : Int) + 1 else 20)⟩ := by
      unfold lied lieN
      rw [hbb, Int.toNat_natCast]
      generalize 10 * 2 ^ b = B
      congr 1
      · split <;> omega
      · split <;> omega
    rw [el] at es
    have hsh := shl10 hb20
    have hpw : (2 : Nat) ^ b ≤ 2 ^ 20 := Nat.pow_le_pow_right (by omega) hb20
    unfold peerSet
    rw [hk, Int.toNat_natCast]
    simp only [pTbO, bTb, es]
    generalize 10 * 2 ^ b = B at *
    refine pcalls_ofR okP Tryz.func154 rfl ?_
    simp only [Tryz.f154, List.length_cons, List.length_nil, Nat.reduceAdd, Nat.reduceSub, List.replicate_succ, List.replicate_zero, List.cons_append, List.nil_append, List.length_map]
    repeat' (first | with_reducible (first | refine wA ?_ | refine wB ?_ | refine wC ?_ | refine w1 ?_ | refine w2 ?_ | refine w3 ?_ | refine w4 ?_ | refine w5 ?_ | refine w6 ?_ | refine w7 ?_ | refine w8 ?_ | refine wT ?_ | refine w9 ?_ | refine wE ?_ | refine wS ?_) | ((with_reducible refine hK _ ?_); clear hK K) | ((with_reducible refine PWp.condI ?_); refine ⟨_, rfl, fun hg => ?_, fun hg => ?_⟩ <;> first | (exact absurd hg (by decide)) | ((try simp only [Bool.not_true, Bool.not_false] at hg); (try simp only [hg]); (try simp only [push_cast] at hg); (try exact absurd trivial hg); (try (exfalso; omega)))) | ((with_reducible refine pops_guard0 ?_); refine ⟨_, rfl, fun K hK => ⟨rfl, ?_⟩⟩; (try simp (disch := omega) only [push_cast, seval, ok, hn, hk, hx, hbb, hsh, hset])) | ((with_reducible refine pops_plain fun K hK => popO_build ?_); refine ⟨_, rfl, _, rfl, ?_⟩; simp (disch := omega) only [push_cast, seval, ok, hn, hk, hx, hbb, hsh, hset]) | ((with_reducible refine pbuild_cs ?_); refine ⟨_, rfl, _, rfl, ?_⟩; simp (disch := omega) only [push_cast, seval, ok, hn, hk, hx, hbb, hsh, hset]) | ((with_reducible refine pops_plain fun K hK => ?_); simp (disch := omega) only [push_cast, seval, ok, hn, hk, hx, hbb, hsh, hset]) | ((with_reducible refine pops_guard ?_); refine ⟨_, rfl, fun K hK => ⟨_, rfl, fun hg => ?_, fun hg => ?_⟩⟩ <;> first | (exact absurd hg (by decide)) | ((try simp only [Bool.not_true, Bool.not_false] at hg); (try simp only [hg]); (try simp only [push_cast] at hg); (try exact absurd trivial hg); (try (exfalso; omega)); (try simp (disch := omega) only [push_cast, seval, ok, hn, hk, hx, hbb, hsh, hset]))) | ((with_reducible show pcall _ _ _ _ _ _); (first | (refine pcV (cf Tryz.func146) (iAt_p ⟨_, _⟩ _ sd) ?_) | (refine pcV (cf Tryz.func167) (isTime_p _) ?_) | (refine pcV (cf Tryz.func207) (iTableOk_p ⟨_, _⟩ sd) ?_) | (refine pcF (cf Tryz.func226) (iCopyTable_p ⟨_, _⟩ sd) ?_)); (try simp (disch := omega) only [push_cast, seval, ok, hn, hk, hx, hbb, hsh, hset])) | ((with_reducible refine And.intro ?_ ?_); omega))
    ((with_reducible show PPostR _ _ _ _ _ _); exact finH [_])
set_option maxHeartbeats 1000000 in
theorem sPeerLie_p (t : GTable) (id now : Int) (ok : tableOk t = true) : PCalls Tryz.prog 220 [.agg (pTable t), .val (.int .i64 id), .val (.int .i64 now)] [] (RH (.tup [.agg (pTbO (peerLie t id now).1), .val (.bool (peerLie t id now).2)]) (bTb (peerLie t id now).1)) := by
  have h6 := (tableOk_iff.1 ok).2.1
  obtain ⟨g1, g2⟩ := idx_ge (fun p : GPeer => decide (p.fId = id)) t.fPeers
  by_cases h0 : peerIdx t.fPeers id < 0
  · have e : peerLie t id now = (t, false) := by unfold peerLie; rw [if_pos (.inl h0)]
    rw [e]
    refine pcalls_ofR okP Tryz.func220 rfl ?_
    simp only [Tryz.f220, List.length_cons, List.length_nil, Nat.reduceAdd, Nat.reduceSub, List.replicate_succ, List.replicate_zero, List.cons_append, List.nil_append, List.length_map]
    repeat' (first | with_reducible (first | refine wA ?_ | refine wB ?_ | refine wC ?_) | with_reducible refine PWp.draw (id := 16) okP true [0, 1, 2, 3, 4, 5, 6, 7, 8, 9, 10, 11, 12] (by kernel_rfl) ?_ | with_reducible (first | refine w1 ?_ | refine w2 ?_ | refine w3 ?_ | refine w4 ?_ | refine w5 ?_ | refine w6 ?_ | refine w7 ?_ | refine w8 ?_ | refine wT ?_ | refine w9 ?_ | refine wE ?_ | refine wS ?_) | ((with_reducible refine hK _ ?_); clear hK K) | ((with_reducible refine PWp.condI ?_); refine ⟨_, rfl, fun hg => ?_, fun hg => ?_⟩ <;> first | (exact absurd hg (by decide)) | ((try simp only [Bool.not_true, Bool.not_false] at hg); (try simp only [hg]); (try simp only [push_cast] at hg); (try exact absurd trivial hg); (try (exfalso; omega)))) | ((first | ((with_reducible refine pops_guard0 ?_); refine ⟨_, rfl, fun K hK => ⟨rfl, ?_⟩⟩) | ((with_reducible refine pD_g0 ?_); refine ⟨_, rfl, rfl, ?_⟩)); (try simp (disch := omega) only [push_cast, seval, ok])) | ((with_reducible refine pany_I ?_); refine ⟨_, rfl, fun K hK => ?_⟩) | ((with_reducible refine pops_plain fun K hK => popO_build ?_); refine ⟨_, rfl, _, rfl, ?_⟩; simp (disch := omega) only [push_cast, seval, ok]) | ((with_reducible refine pD_y ?_ (py_build ?_)); exact rfl; refine ⟨_, rfl, _, rfl, ?_⟩; simp (disch := omega) only [push_cast, seval, ok]) | ((with_reducible refine pbuild_cs ?_); refine ⟨_, rfl, _, rfl, ?_⟩; simp (disch := omega) only [push_cast, seval, ok]) | ((with_reducible refine pops_plain fun K hK => ?_); simp (disch := omega) only [push_cast, seval, ok]) | ((first | ((with_reducible refine pD_y ?_ ?_); exact rfl) | ((with_reducible refine pD_x ?_ ?_); exact rfl)); simp (disch := omega) only [push_cast, seval, ok]) | ((first | ((with_reducible refine pops_guard ?_); refine ⟨_, rfl, fun K hK => ⟨_, rfl, fun hg => ?_, fun hg => ?_⟩⟩) | ((first | ((with_reducible refine pD_gy ?_ ?_); exact rfl) | ((with_reducible refine pD_gx ?_ ?_); exact rfl)); refine ⟨_, rfl, _, rfl, fun hg => ?_, fun hg => ?_⟩)) <;> first | (exact absurd hg (by decide)) | ((try simp only [Bool.not_true, Bool.not_false] at hg); (try simp only [hg]); (try simp only [push_cast] at hg); (try exact absurd trivial hg); (try (exfalso; omega)); (try simp (disch := omega) only [push_cast, seval, ok]))) | ((with_reducible show pcall _ _ _ _ _ _); (first | (refine pcV (cf Tryz.func165) (sTableOk_p ⟨_, _⟩ sd) ?_) | (refine pcV (cf Tryz.func166) (l10Time_p _) ?_) | (refine pcV (cf Tryz.func170) (sL19At_p ⟨_, _⟩ _ sd) ?_) | (refine pcF (cf Tryz.func171) (sL19Copy_p ⟨_, _⟩ sd) ?_)); (try simp (disch := omega) only [push_cast, seval, ok])) | ((with_reducible refine And.intro ?_ ?_); omega))
    ((with_reducible show PPostR _ _ _ _ _ _); exact finH [_])
  cases hn : isTime now with
  | false =>
    have e : peerLie t id now = (t, false) := by unfold peerLie; rw [if_pos (.inr hn)]
    rw [e]
    refine pcalls_ofR okP Tryz.func220 rfl ?_
    simp only [Tryz.f220, List.length_cons, List.length_nil, Nat.reduceAdd, Nat.reduceSub, List.replicate_succ, List.replicate_zero, List.cons_append, List.nil_append, List.length_map]
    repeat' (first | with_reducible (first | refine wA ?_ | refine wB ?_ | refine wC ?_) | with_reducible refine PWp.draw (id := 16) okP true [0, 1, 2, 3, 4, 5, 6, 7, 8, 9, 10, 11, 12] (by kernel_rfl) ?_ | with_reducible (first | refine w1 ?_ | refine w2 ?_ | refine w3 ?_ | refine w4 ?_ | refine w5 ?_ | refine w6 ?_ | refine w7 ?_ | refine w8 ?_ | refine wT ?_ | refine w9 ?_ | refine wE ?_ | refine wS ?_) | ((with_reducible refine hK _ ?_); clear hK K) | ((with_reducible refine PWp.condI ?_); refine ⟨_, rfl, fun hg => ?_, fun hg => ?_⟩ <;> first | (exact absurd hg (by decide)) | ((try simp only [Bool.not_true, Bool.not_false] at hg); (try simp only [hg]); (try simp only [push_cast] at hg); (try exact absurd trivial hg); (try (exfalso; omega)))) | ((first | ((with_reducible refine pops_guard0 ?_); refine ⟨_, rfl, fun K hK => ⟨rfl, ?_⟩⟩) | ((with_reducible refine pD_g0 ?_); refine ⟨_, rfl, rfl, ?_⟩)); (try simp (disch := omega) only [push_cast, seval, ok, hn])) | ((with_reducible refine pany_I ?_); refine ⟨_, rfl, fun K hK => ?_⟩) | ((with_reducible refine pops_plain fun K hK => popO_build ?_); refine ⟨_, rfl, _, rfl, ?_⟩; simp (disch := omega) only [push_cast, seval, ok, hn]) | ((with_reducible refine pD_y ?_ (py_build ?_)); exact rfl; refine ⟨_, rfl, _, rfl, ?_⟩; simp (disch := omega) only [push_cast, seval, ok, hn]) | ((with_reducible refine pbuild_cs ?_); refine ⟨_, rfl, _, rfl, ?_⟩; simp (disch := omega) only [push_cast, seval, ok, hn]) | ((with_reducible refine pops_plain fun K hK => ?_); simp (disch := omega) only [push_cast, seval, ok, hn]) | ((first | ((with_reducible refine pD_y ?_ ?_); exact rfl) | ((with_reducible refine pD_x ?_ ?_); exact rfl)); simp (disch := omega) only [push_cast, seval, ok, hn]) | ((first | ((with_reducible refine pops_guard ?_); refine ⟨_, rfl, fun K hK => ⟨_, rfl, fun hg => ?_, fun hg => ?_⟩⟩) | ((first | ((with_reducible refine pD_gy ?_ ?_); exact rfl) | ((with_reducible refine pD_gx ?_ ?_); exact rfl)); refine ⟨_, rfl, _, rfl, fun hg => ?_, fun hg => ?_⟩)) <;> first | (exact absurd hg (by decide)) | ((try simp only [Bool.not_true, Bool.not_false] at hg); (try simp only [hg]); (try simp only [push_cast] at hg); (try exact absurd trivial hg); (try (exfalso; omega)); (try simp (disch := omega) only [push_cast, seval, ok, hn]))) | ((with_reducible show pcall _ _ _ _ _ _); (first | (refine pcV (cf Tryz.func165) (sTableOk_p ⟨_, _⟩ sd) ?_) | (refine pcV (cf Tryz.func166) (l10Time_p _) ?_) | (refine pcV (cf Tryz.func170) (sL19At_p ⟨_, _⟩ _ sd) ?_) | (refine pcF (cf Tryz.func171) (sL19Copy_p ⟨_, _⟩ sd) ?_)); (try simp (disch := omega) only [push_cast, seval, ok, hn])) | ((with_reducible refine And.intro ?_ ?_); omega))
    ((with_reducible show PPostR _ _ _ _ _ _); exact finH [_])
  | true =>
    have e : peerLie t id now = (peerSet t id (lied now), true) := by unfold peerLie; rw [if_neg (by simp [h0, hn])]
    rw [e]
    have hnb := time_bd hn
    obtain ⟨k, hk⟩ : ∃ k : Nat, peerIdx t.fPeers id = k := ⟨(peerIdx t.fPeers id).toNat, by omega⟩
    have hkl : k < t.fPeers.length := by unfold peerIdx at hk; omega
    obtain ⟨x, hx⟩ : ∃ x, t.fPeers[k]? = some x := ⟨_, List.getElem?_eq_getElem hkl⟩
    have hb := ((tableOk_iff.1 ok).1 k x hx).2.2.1
    obtain ⟨b, hbb⟩ : ∃ b : Nat, x.fBans = b := ⟨x.fBans.toNat, by omega⟩
    have hb20 : b ≤ 20 := by omega
    have hset : ∀ r, ((t.fPeers.map pPeer).set k r)[k]? = some r := fun r => by rw [List.getElem?_set_self (by rw [List.length_map]; exact hkl)]
    have es : (t.fPeers.modify k (lied now)).map pPeer = (t.fPeers.map pPeer).set k (pPeer (lied now x)) := by rw [modify_set hx, List.map_set]
    have el : lied now x = ⟨x.fId, x.fPinned, now + (lieN b : Int), min 20 ((b : Int) + 1)⟩ := by unfold lied; rw [hbb, Int.toNat_natCast]
    rw [el] at es
    unfold peerSet
    rw [hk, Int.toNat_natCast]
    simp only [pTbO, bTb, es]
    refine pcalls_ofR okP Tryz.func220 rfl ?_
    simp only [Tryz.f220, List.length_cons, List.length_nil, Nat.reduceAdd, Nat.reduceSub, List.replicate_succ, List.replicate_zero, List.cons_append, List.nil_append, List.length_map]
    repeat' (first | with_reducible (first | refine wA ?_ | refine wB ?_ | refine wC ?_) | with_reducible refine PWp.draw (id := 16) okP true [0, 1, 2, 3, 4, 5, 6, 7, 8, 9, 10, 11, 12] (by kernel_rfl) ?_ | with_reducible (first | refine w1 ?_ | refine w2 ?_ | refine w3 ?_ | refine w4 ?_ | refine w5 ?_ | refine w6 ?_ | refine w7 ?_ | refine w8 ?_ | refine wT ?_ | refine w9 ?_ | refine wE ?_ | refine wS ?_) | ((with_reducible refine hK _ ?_); clear hK K) | ((with_reducible refine PWp.condI ?_); refine ⟨_, rfl, fun hg => ?_, fun hg => ?_⟩ <;> first | (exact absurd hg (by decide)) | ((try simp only [Bool.not_true, Bool.not_false] at hg); (try simp only [hg]); (try simp only [push_cast] at hg); (try exact absurd trivial hg); (try (exfalso; omega)))) | ((first | ((with_reducible refine pops_guard0 ?_); refine ⟨_, rfl, fun K hK => ⟨rfl, ?_⟩⟩) | ((with_reducible refine pD_g0 ?_); refine ⟨_, rfl, rfl, ?_⟩)); (try simp (disch := omega) only [push_cast, seval, ok, hn, hk, hx])) | ((with_reducible refine pany_I ?_); refine ⟨_, rfl, fun K hK => ?_⟩) | ((with_reducible refine pops_plain fun K hK => popO_build ?_); refine ⟨_, rfl, _, rfl, ?_⟩; simp (disch := omega) only [push_cast, seval, ok, hn, hk, hx]) | ((with_reducible refine pD_y ?_ (py_build ?_)); exact rfl; refine ⟨_, rfl, _, rfl, ?_⟩; simp (disch := omega) only [push_cast, seval, ok, hn, hk, hx]) | ((with_reducible refine pbuild_cs ?_); refine ⟨_, rfl, _, rfl, ?_⟩; simp (disch := omega) only [push_cast, seval, ok, hn, hk, hx]) | ((with_reducible refine pops_plain fun K hK => ?_); simp (disch := omega) only [push_cast, seval, ok, hn, hk, hx]) | ((first | ((with_reducible refine pD_y ?_ ?_); exact rfl) | ((with_reducible refine pD_x ?_ ?_); exact rfl)); simp (disch := omega) only [push_cast, seval, ok, hn, hk, hx]) | ((first | ((with_reducible refine pops_guard ?_); refine ⟨_, rfl, fun K hK => ⟨_, rfl, fun hg => ?_, fun hg => ?_⟩⟩) | ((first | ((with_reducible refine pD_gy ?_ ?_); exact rfl) | ((with_reducible refine pD_gx ?_ ?_); exact rfl)); refine ⟨_, rfl, _, rfl, fun hg => ?_, fun hg => ?_⟩)) <;> first | (exact absurd hg (by decide)) | ((try simp only [Bool.not_true, Bool.not_false] at hg); (try simp only [hg]); (try simp only [push_cast] at hg); (try exact absurd trivial hg); (try (exfalso; omega)); (try simp (disch := omega) only [push_cast, seval, ok, hn, hk, hx]))) | ((with_reducible show pcall _ _ _ _ _ _); (first | (refine pcV (cf Tryz.func165) (sTableOk_p ⟨_, _⟩ sd) ?_) | (refine pcV (cf Tryz.func166) (l10Time_p _) ?_) | (refine pcV (cf Tryz.func170) (sL19At_p ⟨_, _⟩ _ sd) ?_) | (refine pcF (cf Tryz.func171) (sL19Copy_p ⟨_, _⟩ sd) ?_)); (try simp (disch := omega) only [push_cast, seval, ok, hn, hk, hx])) | ((with_reducible refine And.intro ?_ ?_); omega))
    refine PWp.loopK (α := Nat × Nat) (fun x => match x with | (i, n) => [(8, .ptr 0 0), (6, .ptr 1 0), (10, .val (.int .i64 (n : Int))), (11, .val (.int .i64 (i : Int)))]) [0, 1, 3, 4, 5, 12, 13, 14, 15, 16, 17, 18, 19, 20, 21, 22, 23, 24, 25, 26, 27, 28, 29, 30, 31, 32, 33, 34, 35, 36, 37, 38, 39, 40, 41, 42, 43, 44] (fun x => match x with | (i, n) => [some (.box [.own 2, .val (.int .i64 t.fTurn)]), some (.box [.val (.slice none 0 0), .val (.int .i64 0)]), some (.row 211 4 (t.fPeers.map pPeer))]) (fun x => match x with | (i, n) => i ≤ b ∧ i ≤ 5 ∧ n = 10 * 2 ^ i) (fun x => match x with | (i, n) => b - i) ((0, 10)) (⟨Nat.zero_le _, by omega, rfl⟩) (by (refine ⟨[?_, ?_, ?_], ?_, ?_, ?_, ?_⟩; rotate_left 3; (· ((try simp (disch := omega) only [push_cast, seval]); (repeat' (first | exact trivial | exact rfl | refine And.intro ?_ ?_ | omega)))); (· ((try simp (disch := omega) only [push_cast, seval]); (repeat' (first | exact trivial | exact rfl | refine And.intro ?_ ?_ | omega)))); (· exact rfl); (· (first | exact trivial | exact ⟨rfl, trivial⟩ | exact ⟨rfl, rfl, trivial⟩)))) ?_
    intro x ρ hI; obtain ⟨i, n⟩ := x
    (try dsimp only at hI)
    refine PWp.at (tm' := ?_) (H' := ?_) ?_ ?_ ?_; rotate_left 2; (· ((try simp only [push_cast, seval]); exact rfl)); (· ((try dsimp only); exact rfl))
    obtain ⟨hi, hi5, hnn⟩ := hI
    have hn320 : n ≤ 320 := by
      have : (2 : Nat) ^ i ≤ 2 ^ 5 := Nat.pow_le_pow_right (by omega) hi5
      omega
    by_cases hlt : i < b ∧ n < 320
    · obtain ⟨l1, l2⟩ := hlt
      have l4 : i < 5 := by
        rcases Nat.lt_or_ge i 5 with q | q
        · exact q
        · obtain rfl : i = 5 := by omega
          omega
      repeat' (first | with_reducible (first | refine wA ?_ | refine wB ?_ | refine wC ?_) | with_reducible refine PWp.draw (id := 16) okP true [0, 1, 2, 3, 4, 5, 6, 7, 8, 9, 10, 11, 12] (by kernel_rfl) ?_ | with_reducible (first | refine w1 ?_ | refine w2 ?_ | refine w3 ?_ | refine w4 ?_ | refine w5 ?_ | refine w6 ?_ | refine w7 ?_ | refine w8 ?_ | refine wT ?_ | refine w9 ?_ | refine wE ?_ | refine wS ?_) | ((with_reducible refine hK _ ?_); clear hK K) | ((with_reducible refine PWp.condI ?_); refine ⟨_, rfl, fun hg => ?_, fun hg => ?_⟩ <;> first | (exact absurd hg (by decide)) | ((try simp only [Bool.not_true, Bool.not_false] at hg); (try simp only [hg]); (try simp only [push_cast] at hg); (try exact absurd trivial hg); (try (exfalso; omega)))) | ((first | ((with_reducible refine pops_guard0 ?_); refine ⟨_, rfl, fun K hK => ⟨rfl, ?_⟩⟩) | ((with_reducible refine pD_g0 ?_); refine ⟨_, rfl, rfl, ?_⟩)); (try simp (disch := omega) only [push_cast, seval, hx, hbb])) | ((with_reducible refine pany_I ?_); refine ⟨_, rfl, fun K hK => ?_⟩) | ((with_reducible refine pops_plain fun K hK => popO_build ?_); refine ⟨_, rfl, _, rfl, ?_⟩; simp (disch := omega) only [push_cast, seval, hx, hbb]) | ((with_reducible refine pD_y ?_ (py_build ?_)); exact rfl; refine ⟨_, rfl, _, rfl, ?_⟩; simp (disch := omega) only [push_cast, seval, hx, hbb]) | ((with_reducible refine pbuild_cs ?_); refine ⟨_, rfl, _, rfl, ?_⟩; simp (disch := omega) only [push_cast, seval, hx, hbb]) | ((with_reducible refine pops_plain fun K hK => ?_); simp (disch := omega) only [push_cast, seval, hx, hbb]) | ((first | ((with_reducible refine pD_y ?_ ?_); exact rfl) | ((with_reducible refine pD_x ?_ ?_); exact rfl)); simp (disch := omega) only [push_cast, seval, hx, hbb]) | ((first | ((with_reducible refine pops_guard ?_); refine ⟨_, rfl, fun K hK => ⟨_, rfl, fun hg => ?_, fun hg => ?_⟩⟩) | ((first | ((with_reducible refine pD_gy ?_ ?_); exact rfl) | ((with_reducible refine pD_gx ?_ ?_); exact rfl)); refine ⟨_, rfl, _, rfl, fun hg => ?_, fun hg => ?_⟩)) <;> first | (exact absurd hg (by decide)) | ((try simp only [Bool.not_true, Bool.not_false] at hg); (try simp only [hg]); (try simp only [push_cast] at hg); (try exact absurd trivial hg); (try (exfalso; omega)); (try simp (disch := omega) only [push_cast, seval, hx, hbb]))) | ((with_reducible show pcall _ _ _ _ _ _); (first | (refine pcV (cf Tryz.func165) (sTableOk_p ⟨_, _⟩ sd) ?_) | (refine pcV (cf Tryz.func166) (l10Time_p _) ?_) | (refine pcV (cf Tryz.func170) (sL19At_p ⟨_, _⟩ _ sd) ?_) | (refine pcF (cf Tryz.func171) (sL19Copy_p ⟨_, _⟩ sd) ?_)); (try simp (disch := omega) only [push_cast, seval, hx, hbb])) | ((with_reducible refine And.intro ?_ ?_); omega))
      (refine ⟨(i + 1, 2 * n), by ((try dsimp only); omega), ?_, by (refine ⟨[?_, ?_, ?_], ?_, ?_, ?_, ?_⟩; rotate_left 3; (· ((try simp (disch := omega) only [push_cast, seval]); (repeat' (first | exact trivial | exact rfl | refine And.intro ?_ ?_ | omega)))); (· ((try simp (disch := omega) only [push_cast, seval]); (repeat' (first | exact trivial | exact rfl | refine And.intro ?_ ?_ | omega)))); (· exact rfl); (· (first | exact trivial | exact ⟨rfl, trivial⟩ | exact ⟨rfl, rfl, trivial⟩)))⟩)
      exact ⟨l1, l4, by dsimp only; rw [hnn, Nat.pow_succ]; omega⟩
    have hfin : lieN b = n := lieN_eq hnn hi (by omega) hi5
    rw [hfin]
    by_cases hb20' : b < 20
    · have e20 : min 20 ((b : Int) + 1) = (b : Int) + 1 := by omega
      rw [e20]
      repeat' (first | with_reducible (first | refine wA ?_ | refine wB ?_ | refine wC ?_) | with_reducible refine PWp.draw (id := 16) okP true [0, 1, 2, 3, 4, 5, 6, 7, 8, 9, 10, 11, 12] (by kernel_rfl) ?_ | with_reducible (first | refine w1 ?_ | refine w2 ?_ | refine w3 ?_ | refine w4 ?_ | refine w5 ?_ | refine w6 ?_ | refine w7 ?_ | refine w8 ?_ | refine wT ?_ | refine w9 ?_ | refine wE ?_ | refine wS ?_) | ((with_reducible refine hK _ ?_); clear hK K) | ((with_reducible refine PWp.condI ?_); refine ⟨_, rfl, fun hg => ?_, fun hg => ?_⟩ <;> first | (exact absurd hg (by decide)) | ((try simp only [Bool.not_true, Bool.not_false] at hg); (try simp only [hg]); (try simp only [push_cast] at hg); (try exact absurd trivial hg); (try (exfalso; omega)))) | ((first | ((with_reducible refine pops_guard0 ?_); refine ⟨_, rfl, fun K hK => ⟨rfl, ?_⟩⟩) | ((with_reducible refine pD_g0 ?_); refine ⟨_, rfl, rfl, ?_⟩)); (try simp (disch := omega) only [push_cast, seval, hx, hbb, hset])) | ((with_reducible refine pany_I ?_); refine ⟨_, rfl, fun K hK => ?_⟩) | ((with_reducible refine pops_plain fun K hK => popO_build ?_); refine ⟨_, rfl, _, rfl, ?_⟩; simp (disch := omega) only [push_cast, seval, hx, hbb, hset]) | ((with_reducible refine pD_y ?_ (py_build ?_)); exact rfl; refine ⟨_, rfl, _, rfl, ?_⟩; simp (disch := omega) only [push_cast, seval, hx, hbb, hset]) | ((with_reducible refine pbuild_cs ?_); refine ⟨_, rfl, _, rfl, ?_⟩; simp (disch := omega) only [push_cast, seval, hx, hbb, hset]) | ((with_reducible refine pops_plain fun K hK => ?_); simp (disch := omega) only [push_cast, seval, hx, hbb, hset]) | ((first | ((with_reducible refine pD_y ?_ ?_); exact rfl) | ((with_reducible refine pD_x ?_ ?_); exact rfl)); simp (disch := omega) only [push_cast, seval, hx, hbb, hset]) | ((first | ((with_reducible refine pops_guard ?_); refine ⟨_, rfl, fun K hK => ⟨_, rfl, fun hg => ?_, fun hg => ?_⟩⟩) | ((first | ((with_reducible refine pD_gy ?_ ?_); exact rfl) | ((with_reducible refine pD_gx ?_ ?_); exact rfl)); refine ⟨_, rfl, _, rfl, fun hg => ?_, fun hg => ?_⟩)) <;> first | (exact absurd hg (by decide)) | ((try simp only [Bool.not_true, Bool.not_false] at hg); (try simp only [hg]); (try simp only [push_cast] at hg); (try exact absurd trivial hg); (try (exfalso; omega)); (try simp (disch := omega) only [push_cast, seval, hx, hbb, hset]))) | ((with_reducible show pcall _ _ _ _ _ _); (first | (refine pcV (cf Tryz.func165) (sTableOk_p ⟨_, _⟩ sd) ?_) | (refine pcV (cf Tryz.func166) (l10Time_p _) ?_) | (refine pcV (cf Tryz.func170) (sL19At_p ⟨_, _⟩ _ sd) ?_) | (refine pcF (cf Tryz.func171) (sL19Copy_p ⟨_, _⟩ sd) ?_)); (try simp (disch := omega) only [push_cast, seval, hx, hbb, hset])) | ((with_reducible refine And.intro ?_ ?_); omega))
      all_goals ((with_reducible show PPostR _ _ _ _ _ _); exact finH [_])
    · have e20 : min 20 ((b : Int) + 1) = (b : Int) := by omega
      rw [e20]
      repeat' (first | with_reducible (first | refine wA ?_ | refine wB ?_ | refine wC ?_) | with_reducible refine PWp.draw (id := 16) okP true [0, 1, 2, 3, 4, 5, 6, 7, 8, 9, 10, 11, 12] (by kernel_rfl) ?_ | with_reducible (first | refine w1 ?_ | refine w2 ?_ | refine w3 ?_ | refine w4 ?_ | refine w5 ?_ | refine w6 ?_ | refine w7 ?_ | refine w8 ?_ | refine wT ?_ | refine w9 ?_ | refine wE ?_ | refine wS ?_) | ((with_reducible refine hK _ ?_); clear hK K) | ((with_reducible refine PWp.condI ?_); refine ⟨_, rfl, fun hg => ?_, fun hg => ?_⟩ <;> first | (exact absurd hg (by decide)) | ((try simp only [Bool.not_true, Bool.not_false] at hg); (try simp only [hg]); (try simp only [push_cast] at hg); (try exact absurd trivial hg); (try (exfalso; omega)))) | ((first | ((with_reducible refine pops_guard0 ?_); refine ⟨_, rfl, fun K hK => ⟨rfl, ?_⟩⟩) | ((with_reducible refine pD_g0 ?_); refine ⟨_, rfl, rfl, ?_⟩)); (try simp (disch := omega) only [push_cast, seval, hx, hbb, hset])) | ((with_reducible refine pany_I ?_); refine ⟨_, rfl, fun K hK => ?_⟩) | ((with_reducible refine pops_plain fun K hK => popO_build ?_); refine ⟨_, rfl, _, rfl, ?_⟩; simp (disch := omega) only [push_cast, seval, hx, hbb, hset]) | ((with_reducible refine pD_y ?_ (py_build ?_)); exact rfl; refine ⟨_, rfl, _, rfl, ?_⟩; simp (disch := omega) only [push_cast, seval, hx, hbb, hset]) | ((with_reducible refine pbuild_cs ?_); refine ⟨_, rfl, _, rfl, ?_⟩; simp (disch := omega) only [push_cast, seval, hx, hbb, hset]) | ((with_reducible refine pops_plain fun K hK => ?_); simp (disch := omega) only [push_cast, seval, hx, hbb, hset]) | ((first | ((with_reducible refine pD_y ?_ ?_); exact rfl) | ((with_reducible refine pD_x ?_ ?_); exact rfl)); simp (disch := omega) only [push_cast, seval, hx, hbb, hset]) | ((first | ((with_reducible refine pops_guard ?_); refine ⟨_, rfl, fun K hK => ⟨_, rfl, fun hg => ?_, fun hg => ?_⟩⟩) | ((first | ((with_reducible refine pD_gy ?_ ?_); exact rfl) | ((with_reducible refine pD_gx ?_ ?_); exact rfl)); refine ⟨_, rfl, _, rfl, fun hg => ?_, fun hg => ?_⟩)) <;> first | (exact absurd hg (by decide)) | ((try simp only [Bool.not_true, Bool.not_false] at hg); (try simp only [hg]); (try simp only [push_cast] at hg); (try exact absurd trivial hg); (try (exfalso; omega)); (try simp (disch := omega) only [push_cast, seval, hx, hbb, hset]))) | ((with_reducible show pcall _ _ _ _ _ _); (first | (refine pcV (cf Tryz.func165) (sTableOk_p ⟨_, _⟩ sd) ?_) | (refine pcV (cf Tryz.func166) (l10Time_p _) ?_) | (refine pcV (cf Tryz.func170) (sL19At_p ⟨_, _⟩ _ sd) ?_) | (refine pcF (cf Tryz.func171) (sL19Copy_p ⟨_, _⟩ sd) ?_)); (try simp (disch := omega) only [push_cast, seval, hx, hbb, hset])) | ((with_reducible refine And.intro ?_ ?_); omega))
      all_goals ((with_reducible show PPostR _ _ _ _ _ _); exact finH [_])
end Go.Proofs.YtiboajlnjldalaaGreatDoor
namespace Go.Proofs.YtiboajlnjldalaaGreatDoor
set_option linter.unusedSimpArgs false
set_option linter.unusedVariables false
open Go.RowKit
set_option maxRecDepth 100000
set_option maxHeartbeats 2000000 in
theorem iLightOk_p (c : GLight) (h1 : c.fAnchor.fNext.length ≤ 2000000) (h2 : c.fStore.fHeads.length ≤ 2000000) (h3 : c.fPeers.fPeers.length ≤ 2000000) : PCalls Tryz.prog 121 [.agg (pLight c)] [] (RV (.val (.bool (lightOk c)))) := by
  obtain ⟨tr, st, ⟨hh, nx⟩, ⟨hs, sy⟩, ⟨ps, tu⟩, now⟩ := c
  dsimp only at h1 h2 h3
  have hd : lightOk ⟨tr, st, ⟨hh, nx⟩, ⟨hs, sy⟩, ⟨ps, tu⟩, now⟩ = (trustOk tr && anchorOk ⟨hh, nx⟩ && storeOk ⟨hs, sy⟩ && tableOk ⟨ps, tu⟩ && inB st 1 2 && isTime now && (match lastHead hs with | some h => headEq h hh | none => false)) := rfl
  by_cases hlen : hs.length = 0
  · have e : lastHead hs = none := by unfold lastHead; exact List.getElem?_eq_none (by omega)
    rw [e] at hd
    refine pcalls_ofR okP Tryz.func121 rfl ?_
    simp only [Tryz.f121, List.length_cons, List.length_nil, Nat.reduceAdd, Nat.reduceSub, List.replicate_succ, List.replicate_zero, List.cons_append, List.nil_append, List.length_map]
    repeat' (first | with_reducible (first | refine wA ?_ | refine wB ?_ | refine wC ?_) | with_reducible refine PWp.draw (id := 4) okP true [0, 1, 2, 3, 4, 5, 6, 7, 8, 9, 10, 11, 12, 13, 14, 15, 16, 17, 18, 19, 20, 21, 22, 23, 24, 25] (by kernel_rfl) ?_ | with_reducible (first | refine w1 ?_ | refine w2 ?_ | refine w3 ?_ | refine w4 ?_ | refine w5 ?_ | refine w6 ?_ | refine w7 ?_ | refine w8 ?_ | refine wT ?_ | refine w9 ?_ | refine wE ?_ | refine wS ?_) | ((with_reducible refine hK _ ?_); clear hK K) | ((with_reducible refine PWp.condI ?_); refine ⟨_, rfl, fun hg => ?_, fun hg => ?_⟩ <;> first | (exact absurd hg (by decide)) | ((try simp only [Bool.not_true, Bool.not_false] at hg); (try simp only [hg]); (try simp only [push_cast] at hg); (try exact absurd trivial hg); (try (exfalso; omega)))) | ((first | ((with_reducible refine pops_guard0 ?_); refine ⟨_, rfl, fun K hK => ⟨rfl, ?_⟩⟩) | ((with_reducible refine pD_g0 ?_); refine ⟨_, rfl, rfl, ?_⟩)); (try simp (disch := omega) only [push_cast, seval])) | ((with_reducible refine pany_I ?_); refine ⟨_, rfl, fun K hK => ?_⟩) | ((with_reducible refine pops_plain fun K hK => ?_); simp (disch := omega) only [push_cast, seval]) | ((first | ((with_reducible refine pD_y ?_ ?_); exact rfl) | ((with_reducible refine pD_x ?_ ?_); exact rfl)); simp (disch := omega) only [push_cast, seval]) | ((first | ((with_reducible refine pops_guard ?_); refine ⟨_, rfl, fun K hK => ⟨_, rfl, fun hg => ?_, fun hg => ?_⟩⟩) | ((first | ((with_reducible refine pD_gy ?_ ?_); exact rfl) | ((with_reducible refine pD_gx ?_ ?_); exact rfl)); refine ⟨_, rfl, _, rfl, fun hg => ?_, fun hg => ?_⟩)) <;> first | (exact absurd hg (by decide)) | ((try simp only [Bool.not_true, Bool.not_false] at hg); (try simp only [hg]); (try simp only [push_cast] at hg); (try exact absurd trivial hg); (try (exfalso; omega)); (try simp (disch := omega) only [push_cast, seval]))) | ((with_reducible show pcall _ _ _ _ _ _); (first | (refine pcV (cf Tryz.func77) (within_p _ _ _) ?_) | (refine pcV (cf Tryz.func167) (isTime_p _) ?_) | (refine pcV (cf Tryz.func204) (iTrustOk_p ⟨_, _⟩) ?_) | (refine pcV (cf Tryz.func205) (iAnchorOk_p ⟨⟨_, _, _, _, _, _⟩, _⟩ sd) ?_) | (refine pcV (cf Tryz.func206) (iStoreOk_p ⟨_, _⟩ sd) ?_) | (refine pcV (cf Tryz.func207) (iTableOk_p ⟨_, _⟩ sd) ?_)); (try simp (disch := omega) only [push_cast, seval])) | ((with_reducible refine And.intro ?_ ?_); omega))
    all_goals
      ((with_reducible show PPostR _ _ _ _ _ _); refine finV ?_; (try simp only [push_cast, seval]))
      simp_all
  · obtain ⟨x, hx⟩ : ∃ x, hs[hs.length - 1]? = some x := ⟨_, List.getElem?_eq_getElem (by omega)⟩
    have e : lastHead hs = some x := hx
    rw [e] at hd
    have e1 : ((hs.length : Int) - 1).toNat = hs.length - 1 := by omega
    refine pcalls_ofR okP Tryz.func121 rfl ?_
    simp only [Tryz.f121, List.length_cons, List.length_nil, Nat.reduceAdd, Nat.reduceSub, List.replicate_succ, List.replicate_zero, List.cons_append, List.nil_append, List.length_map]
    repeat' (first | with_reducible (first | refine wA ?_ | refine wB ?_ | refine wC ?_) | with_reducible refine PWp.draw (id := 4) okP true [0, 1, 2, 3, 4, 5, 6, 7, 8, 9, 10, 11, 12, 13, 14, 15, 16, 17, 18, 19, 20, 21, 22, 23, 24, 25] (by kernel_rfl) ?_ | with_reducible (first | refine w1 ?_ | refine w2 ?_ | refine w3 ?_ | refine w4 ?_ | refine w5 ?_ | refine w6 ?_ | refine w7 ?_ | refine w8 ?_ | refine wT ?_ | refine w9 ?_ | refine wE ?_ | refine wS ?_) | ((with_reducible refine hK _ ?_); clear hK K) | ((with_reducible refine PWp.condI ?_); refine ⟨_, rfl, fun hg => ?_, fun hg => ?_⟩ <;> first | (exact absurd hg (by decide)) | ((try simp only [Bool.not_true, Bool.not_false] at hg); (try simp only [hg]); (try simp only [push_cast] at hg); (try exact absurd trivial hg); (try (exfalso; omega)))) | ((first | ((with_reducible refine pops_guard0 ?_); refine ⟨_, rfl, fun K hK => ⟨rfl, ?_⟩⟩) | ((with_reducible refine pD_g0 ?_); refine ⟨_, rfl, rfl, ?_⟩)); (try simp (disch := omega) only [push_cast, seval, e1, hx])) | ((with_reducible refine pany_I ?_); refine ⟨_, rfl, fun K hK => ?_⟩) | ((with_reducible refine pops_plain fun K hK => ?_); simp (disch := omega) only [push_cast, seval, e1, hx]) | ((first | ((with_reducible refine pD_y ?_ ?_); exact rfl) | ((with_reducible refine pD_x ?_ ?_); exact rfl)); simp (disch := omega) only [push_cast, seval, e1, hx]) | ((first | ((with_reducible refine pops_guard ?_); refine ⟨_, rfl, fun K hK => ⟨_, rfl, fun hg => ?_, fun hg => ?_⟩⟩) | ((first | ((with_reducible refine pD_gy ?_ ?_); exact rfl) | ((with_reducible refine pD_gx ?_ ?_); exact rfl)); refine ⟨_, rfl, _, rfl, fun hg => ?_, fun hg => ?_⟩)) <;> first | (exact absurd hg (by decide)) | ((try simp only [Bool.not_true, Bool.not_false] at hg); (try simp only [hg]); (try simp only [push_cast] at hg); (try exact absurd trivial hg); (try (exfalso; omega)); (try simp (disch := omega) only [push_cast, seval, e1, hx]))) | ((with_reducible show pcall _ _ _ _ _ _); (first | (refine pcV (cf Tryz.func77) (within_p _ _ _) ?_) | (refine pcV (cf Tryz.func167) (isTime_p _) ?_) | (refine pcV (cf Tryz.func204) (iTrustOk_p ⟨_, _⟩) ?_) | (refine pcV (cf Tryz.func205) (iAnchorOk_p ⟨⟨_, _, _, _, _, _⟩, _⟩ sd) ?_) | (refine pcV (cf Tryz.func206) (iStoreOk_p ⟨_, _⟩ sd) ?_) | (refine pcV (cf Tryz.func207) (iTableOk_p ⟨_, _⟩ sd) ?_)); (try simp (disch := omega) only [push_cast, seval, e1, hx])) | ((with_reducible refine And.intro ?_ ?_); omega))
    all_goals
      ((with_reducible show PPostR _ _ _ _ _ _); refine finV ?_; (try simp only [push_cast, seval]))
      first
        | (simp_all [headEq]; done)
        | (simp_all [headEq]; omega)
set_option maxHeartbeats 2000000 in
theorem sLightOk_p (c : GLight) (h1 : c.fAnchor.fNext.length ≤ 2000000) (h2 : c.fStore.fHeads.length ≤ 2000000) (h3 : c.fPeers.fPeers.length ≤ 2000000) : PCalls Tryz.prog 62 [.agg (pLight c)] [] (RV (.val (.bool (lightOk c)))) := by
  obtain ⟨tr, st, ⟨hh, nx⟩, ⟨hs, sy⟩, ⟨ps, tu⟩, now⟩ := c
  dsimp only at h1 h2 h3
  have hd : lightOk ⟨tr, st, ⟨hh, nx⟩, ⟨hs, sy⟩, ⟨ps, tu⟩, now⟩ = (trustOk tr && anchorOk ⟨hh, nx⟩ && storeOk ⟨hs, sy⟩ && tableOk ⟨ps, tu⟩ && inB st 1 2 && isTime now && (match lastHead hs with | some h => headEq h hh | none => false)) := rfl
  by_cases hlen : hs.length = 0
  · have e : lastHead hs = none := by unfold lastHead; exact List.getElem?_eq_none (by omega)
    rw [e] at hd
    refine pcalls_ofR okP Tryz.func62 rfl ?_
    simp only [Tryz.f62, List.length_cons, List.length_nil, Nat.reduceAdd, Nat.reduceSub, List.replicate_succ, List.replicate_zero, List.cons_append, List.nil_append, List.length_map]
    repeat' (first | with_reducible (first | refine wA ?_ | refine wB ?_ | refine wC ?_) | with_reducible refine PWp.draw (id := 2) okP true [0, 1, 2, 3, 4, 5, 6, 7, 8, 9, 10, 11, 12, 13, 14, 15, 16, 17, 18, 19, 20, 21, 22, 23, 24, 25, 26, 27, 28, 29, 30, 31, 32, 33, 34, 35, 36, 37, 38, 39, 40, 41, 42, 43, 44, 45] (by kernel_rfl) ?_ | with_reducible (first | refine w1 ?_ | refine w2 ?_ | refine w3 ?_ | refine w4 ?_ | refine w5 ?_ | refine w6 ?_ | refine w7 ?_ | refine w8 ?_ | refine wT ?_ | refine w9 ?_ | refine wE ?_ | refine wS ?_) | ((with_reducible refine hK _ ?_); clear hK K) | ((first | ((with_reducible refine pops_guard0 ?_); refine ⟨_, rfl, fun K hK => ⟨rfl, ?_⟩⟩) | ((with_reducible refine pD_g0 ?_); refine ⟨_, rfl, rfl, ?_⟩)); (try simp (disch := omega) only [push_cast, seval])) | ((with_reducible refine pany_I ?_); refine ⟨_, rfl, fun K hK => ?_⟩) | ((with_reducible refine pops_plain fun K hK => ?_); simp (disch := omega) only [push_cast, seval]) | ((first | ((with_reducible refine pD_y ?_ ?_); exact rfl) | ((with_reducible refine pD_x ?_ ?_); exact rfl)); simp (disch := omega) only [push_cast, seval]) | ((first | ((with_reducible refine pops_guard ?_); refine ⟨_, rfl, fun K hK => ⟨_, rfl, fun hg => ?_, fun hg => ?_⟩⟩) | ((first | ((with_reducible refine pD_gy ?_ ?_); exact rfl) | ((with_reducible refine pD_gx ?_ ?_); exact rfl)); refine ⟨_, rfl, _, rfl, fun hg => ?_, fun hg => ?_⟩)) <;> first | (exact absurd hg (by decide)) | ((try simp only [Bool.not_true, Bool.not_false] at hg); (try simp only [hg]); (try simp only [push_cast] at hg); (try exact absurd trivial hg); (try (exfalso; omega)); (try simp (disch := omega) only [push_cast, seval]))) | ((with_reducible show pcall _ _ _ _ _ _); (first | (refine pcV (cf Tryz.func79) (l1In_p _ _ _) ?_) | (refine pcV (cf Tryz.func162) (sTrustOk_p ⟨_, _⟩) ?_) | (refine pcV (cf Tryz.func163) (sAnchorOk_p ⟨⟨_, _, _, _, _, _⟩, _⟩ sd) ?_) | (refine pcV (cf Tryz.func164) (sStoreOk_p ⟨_, _⟩ sd) ?_) | (refine pcV (cf Tryz.func165) (sTableOk_p ⟨_, _⟩ sd) ?_) | (refine pcV (cf Tryz.func166) (l10Time_p _) ?_)); (try simp (disch := omega) only [push_cast, seval])) | ((with_reducible refine And.intro ?_ ?_); omega))
    all_goals
      ((with_reducible show PPostR _ _ _ _ _ _); refine finV ?_; (try simp only [push_cast, seval]))
      simp_all
  · obtain ⟨x, hx⟩ : ∃ x, hs[hs.length - 1]? = some x := ⟨_, List.getElem?_eq_getElem (by omega)⟩
    have e : lastHead hs = some x := hx
    rw [e] at hd
    have e1 : ((hs.length : Int) - 1).toNat = hs.length - 1 := by omega
    refine pcalls_ofR okP Tryz.func62 rfl ?_
    simp only [Tryz.f62, List.length_cons, List.length_nil, Nat.reduceAdd, Nat.reduceSub, List.replicate_succ, List.replicate_zero, List.cons_append, List.nil_append, List.length_map]
    repeat' (first | with_reducible (first | refine wA ?_ | refine wB ?_ | refine wC ?_) | with_reducible refine PWp.draw (id := 2) okP true [0, 1, 2, 3, 4, 5, 6, 7, 8, 9, 10, 11, 12, 13, 14, 15, 16, 17, 18, 19, 20, 21, 22, 23, 24, 25, 26, 27, 28, 29, 30, 31, 32, 33, 34, 35, 36, 37, 38, 39, 40, 41, 42, 43, 44, 45] (by kernel_rfl) ?_ | with_reducible (first | refine w1 ?_ | refine w2 ?_ | refine w3 ?_ | refine w4 ?_ | refine w5 ?_ | refine w6 ?_ | refine w7 ?_ | refine w8 ?_ | refine wT ?_ | refine w9 ?_ | refine wE ?_ | refine wS ?_) | ((with_reducible refine hK _ ?_); clear hK K) | ((first | ((with_reducible refine pops_guard0 ?_); refine ⟨_, rfl, fun K hK => ⟨rfl, ?_⟩⟩) | ((with_reducible refine pD_g0 ?_); refine ⟨_, rfl, rfl, ?_⟩)); (try simp (disch := omega) only [push_cast, seval, e1, hx])) | ((with_reducible refine pany_I ?_); refine ⟨_, rfl, fun K hK => ?_⟩) | ((with_reducible refine pops_plain fun K hK => ?_); simp (disch := omega) only [push_cast, seval, e1, hx]) | ((first | ((with_reducible refine pD_y ?_ ?_); exact rfl) | ((with_reducible refine pD_x ?_ ?_); exact rfl)); simp (disch := omega) only [push_cast, seval, e1, hx]) | ((first | ((with_reducible refine pops_guard ?_); refine ⟨_, rfl, fun K hK => ⟨_, rfl, fun hg => ?_, fun hg => ?_⟩⟩) | ((first | ((with_reducible refine pD_gy ?_ ?_); exact rfl) | ((with_reducible refine pD_gx ?_ ?_); exact rfl)); refine ⟨_, rfl, _, rfl, fun hg => ?_, fun hg => ?_⟩)) <;> first | (exact absurd hg (by decide)) | ((try simp only [Bool.not_true, Bool.not_false] at hg); (try simp only [hg]); (try simp only [push_cast] at hg); (try exact absurd trivial hg); (try (exfalso; omega)); (try simp (disch := omega) only [push_cast, seval, e1, hx]))) | ((with_reducible show pcall _ _ _ _ _ _); (first | (refine pcV (cf Tryz.func79) (l1In_p _ _ _) ?_) | (refine pcV (cf Tryz.func162) (sTrustOk_p ⟨_, _⟩) ?_) | (refine pcV (cf Tryz.func163) (sAnchorOk_p ⟨⟨_, _, _, _, _, _⟩, _⟩ sd) ?_) | (refine pcV (cf Tryz.func164) (sStoreOk_p ⟨_, _⟩ sd) ?_) | (refine pcV (cf Tryz.func165) (sTableOk_p ⟨_, _⟩ sd) ?_) | (refine pcV (cf Tryz.func166) (l10Time_p _) ?_)); (try simp (disch := omega) only [push_cast, seval, e1, hx])) | ((with_reducible refine And.intro ?_ ?_); omega))
    all_goals
      ((with_reducible show PPostR _ _ _ _ _ _); refine finV ?_; (try simp only [push_cast, seval]))
      first
        | (simp_all [headEq]; done)
        | (simp_all [headEq]; omega)
end Go.Proofs.YtiboajlnjldalaaGreatDoor
namespace Go.Proofs.YtiboajlnjldalaaGreatDoor
set_option linter.unusedSimpArgs false
set_option linter.unusedVariables false
open Go.RowKit
set_option maxRecDepth 100000
structure SmC (c : GLight) : Prop where
  a : c.fAnchor.fNext.length ≤ 2000000
  s : c.fStore.fHeads.length ≤ 2000000
  p : c.fPeers.fPeers.length ≤ 2000000
end Go.Proofs.YtiboajlnjldalaaGreatDoor
namespace Go.Proofs.YtiboajlnjldalaaGreatDoor
set_option linter.unusedSimpArgs false
set_option linter.unusedVariables false
open Go.RowKit
set_option maxRecDepth 100000
def pLiO (c : GLight) : List PV := [.val (.int .i64 c.fTrust.fPeriod), .val (.int .i64 c.fTrust.fSlack), .val (.int .i64 c.fState), .val (.int .i64 c.fAnchor.fHead.fHeight), .val (.int .i64 c.fAnchor.fHead.fTime), .val (.string c.fAnchor.fHead.fLast), .val (.string c.fAnchor.fHead.fVals), .val (.string c.fAnchor.fHead.fNext), .val (.string c.fAnchor.fHead.fData), .own 0, .own 1, .val (.int .i64 c.fStore.fSynced), .own 2, .val (.int .i64 c.fPeers.fTurn), .val (.int .i64 c.fNow)]
def bLi (c : GLight) : Hp := [some (.row 141 2 (c.fAnchor.fNext.map pVal)), some (.row 30 6 (c.fStore.fHeads.map pHeader)), some (.row 211 4 (c.fPeers.fPeers.map pPeer))]
attribute [push_cast] pLiO bLi
set_option maxHeartbeats 1000000 in
theorem iCopyLight_p (c : GLight) (h1 : c.fAnchor.fNext.length ≤ 2000000) (h2 : c.fStore.fHeads.length ≤ 2000000) (h3 : c.fPeers.fPeers.length ≤ 2000000) : PCalls Tryz.prog 145 [.agg (pLight c)] [] (RH (.agg (pLiO c)) (bLi c)) := by
  obtain ⟨tr, st, ⟨hh, nx⟩, ⟨hs, sy⟩, ⟨ps, tu⟩, now⟩ := c
  dsimp only at h1 h2 h3
  refine pcalls_ofR okP Tryz.func145 rfl ?_
  simp only [Tryz.f145, List.length_cons, List.length_nil, Nat.reduceAdd, Nat.reduceSub, List.replicate_succ, List.replicate_zero, List.cons_append, List.nil_append, List.length_map]
  repeat' (first | with_reducible (first | refine wA ?_ | refine wB ?_ | refine wC ?_ | refine w1 ?_ | refine w2 ?_ | refine w3 ?_ | refine w4 ?_ | refine w5 ?_ | refine w6 ?_ | refine w7 ?_ | refine w8 ?_ | refine wT ?_ | refine w9 ?_ | refine wE ?_ | refine wS ?_) | ((with_reducible refine hK _ ?_); clear hK K) | ((with_reducible refine pops_plain fun K hK => ?_); simp (disch := omega) only [push_cast, seval]) | ((with_reducible show pcall _ _ _ _ _ _); (first | (refine pcF (cf Tryz.func224) (iCopyAnchor_p ⟨⟨_, _, _, _, _, _⟩, _⟩ sd) ?_) | (refine pcF (cf Tryz.func225) (iCopyStore_p ⟨_, _⟩ sd) ?_) | (refine pcF (cf Tryz.func226) (iCopyTable_p ⟨_, _⟩ sd) ?_)); (try simp (disch := omega) only [push_cast, seval])) | ((with_reducible refine And.intro ?_ ?_); omega))
  all_goals ((with_reducible show PPostR _ _ _ _ _ _); exact finH [_, _, _])
set_option maxHeartbeats 1000000 in
theorem sL24Copy_p (c : GLight) (h1 : c.fAnchor.fNext.length ≤ 2000000) (h2 : c.fStore.fHeads.length ≤ 2000000) (h3 : c.fPeers.fPeers.length ≤ 2000000) : PCalls Tryz.prog 141 [.agg (pLight c)] [] (RH (.agg (pLiO c)) (bLi c)) := by
  obtain ⟨tr, st, ⟨hh, nx⟩, ⟨hs, sy⟩, ⟨ps, tu⟩, now⟩ := c
  dsimp only at h1 h2 h3
  refine pcalls_ofR okP Tryz.func141 rfl ?_
  simp only [Tryz.f141, List.length_cons, List.length_nil, Nat.reduceAdd, Nat.reduceSub, List.replicate_succ, List.replicate_zero, List.cons_append, List.nil_append, List.length_map]
  repeat' (first | with_reducible (first | refine wA ?_ | refine wB ?_ | refine wC ?_ | refine w1 ?_ | refine w2 ?_ | refine w3 ?_ | refine w4 ?_ | refine w5 ?_ | refine w6 ?_ | refine w7 ?_ | refine w8 ?_ | refine wT ?_ | refine w9 ?_ | refine wE ?_ | refine wS ?_) | ((with_reducible refine hK _ ?_); clear hK K) | ((with_reducible refine pops_plain fun K hK => ?_); simp (disch := omega) only [push_cast, seval]) | ((with_reducible show pcall _ _ _ _ _ _); (first | (refine pcF (cf Tryz.func171) (sL19Copy_p ⟨_, _⟩ sd) ?_) | (refine pcF (cf Tryz.func201) (sL11Copy_p ⟨⟨_, _, _, _, _, _⟩, _⟩ sd) ?_) | (refine pcF (cf Tryz.func221) (sL15Copy_p ⟨_, _⟩ sd) ?_)); (try simp (disch := omega) only [push_cast, seval])) | ((with_reducible refine And.intro ?_ ?_); omega))
  all_goals ((with_reducible show PPostR _ _ _ _ _ _); exact finH [_, _, _])
end Go.Proofs.YtiboajlnjldalaaGreatDoor
namespace Go.Proofs.YtiboajlnjldalaaGreatDoor
set_option linter.unusedSimpArgs false
set_option linter.unusedVariables false
open Go.RowKit
end Go.Proofs.YtiboajlnjldalaaGreatDoor
namespace Go.Proofs.YtiboajlnjldalaaGreatDoor
set_option linter.unusedSimpArgs false
set_option linter.unusedVariables false
open Go.RowKit
def encTrust (x : GTrust) : List D := [.int x.fPeriod, .int x.fSlack]
theorem dec_Trust : Dec [.int .i64, .int .i64] encTrust := by
  intro n W vs h
  match vs, h with
  | [_, _], ⟨k0, k1, _⟩ =>
    obtain ⟨a0, rfl, h0⟩ := cell_int k0
    obtain ⟨a1, rfl, h1⟩ := cell_int k1
    exact ⟨⟨a0, a1⟩, (Rds.int _ (Rds.int _ Rds.nil)), (okL_int h0 (okL_int h1 okL_nil))⟩
end Go.Proofs.YtiboajlnjldalaaGreatDoor
namespace Go.Proofs.YtiboajlnjldalaaGreatDoor
set_option linter.unusedSimpArgs false
set_option linter.unusedVariables false
open Go.RowKit
def encHeader (x : GHeader) : List D := [.int x.fHeight, .int x.fTime, .str x.fLast, .str x.fVals, .str x.fNext, .str x.fData]
theorem dec_Header : Dec [.int .i64, .int .i64, .str, .str, .str, .str] encHeader := by
  intro n W vs h
  match vs, h with
  | [_, _, _, _, _, _], ⟨k0, k1, k2, k3, k4, k5, _⟩ =>
    obtain ⟨a0, rfl, h0⟩ := cell_int k0
    obtain ⟨a1, rfl, h1⟩ := cell_int k1
    obtain ⟨a2, rfl, h2⟩ := cell_str k2
    obtain ⟨a3, rfl, h3⟩ := cell_str k3
    obtain ⟨a4, rfl, h4⟩ := cell_str k4
    obtain ⟨a5, rfl, h5⟩ := cell_str k5
    exact ⟨⟨a0, a1, a2, a3, a4, a5⟩, (Rds.int _ (Rds.int _ (Rds.str _ (Rds.str _ (Rds.str _ (Rds.str _ Rds.nil)))))), (okL_int h0 (okL_int h1 (okL_str h2 (okL_str h3 (okL_str h4 (okL_str h5 okL_nil))))))⟩
theorem pv_Header (x : GHeader) : toPVL (encHeader x) = pHeader x := by
  simp only [encHeader, pHeader, toPVL, toPV]
theorem pvs_Header (e : TypeId) (xs : List GHeader) : toPV (slD e 6 encHeader xs) = .sl 6 (xs.map pHeader) := by rw [toPV_slD (enc := encHeader) (sz := 6) (fun _ => rfl)]; simp only [pv_Header]
end Go.Proofs.YtiboajlnjldalaaGreatDoor
namespace Go.Proofs.YtiboajlnjldalaaGreatDoor
set_option linter.unusedSimpArgs false
set_option linter.unusedVariables false
open Go.RowKit
def encVal (x : GVal) : List D := [.int x.fId, .int x.fPower]
theorem dec_Val : Dec [.int .i64, .int .i64] encVal := by
  intro n W vs h
  match vs, h with
  | [_, _], ⟨k0, k1, _⟩ =>
    obtain ⟨a0, rfl, h0⟩ := cell_int k0
    obtain ⟨a1, rfl, h1⟩ := cell_int k1
    exact ⟨⟨a0, a1⟩, (Rds.int _ (Rds.int _ Rds.nil)), (okL_int h0 (okL_int h1 okL_nil))⟩
theorem pv_Val (x : GVal) : toPVL (encVal x) = pVal x := by
  simp only [encVal, pVal, toPVL, toPV]
theorem pvs_Val (e : TypeId) (xs : List GVal) : toPV (slD e 2 encVal xs) = .sl 2 (xs.map pVal) := by rw [toPV_slD (enc := encVal) (sz := 2) (fun _ => rfl)]; simp only [pv_Val]
end Go.Proofs.YtiboajlnjldalaaGreatDoor
namespace Go.Proofs.YtiboajlnjldalaaGreatDoor
set_option linter.unusedSimpArgs false
set_option linter.unusedVariables false
open Go.RowKit
end Go.Proofs.YtiboajlnjldalaaGreatDoor
namespace Go.Proofs.YtiboajlnjldalaaGreatDoor
set_option linter.unusedSimpArgs false
set_option linter.unusedVariables false
open Go.RowKit
end Go.Proofs.YtiboajlnjldalaaGreatDoor
namespace Go.Proofs.YtiboajlnjldalaaGreatDoor
set_option linter.unusedSimpArgs false
set_option linter.unusedVariables false
open Go.RowKit
def encPeer (x : GPeer) : List D := [.int x.fId, .bool x.fPinned, .int x.fUntil, .int x.fBans]
theorem dec_Peer : Dec [.int .i64, .bool, .int .i64, .int .i64] encPeer := by
  intro n W vs h
  match vs, h with
  | [_, _, _, _], ⟨k0, k1, k2, k3, _⟩ =>
    obtain ⟨a0, rfl, h0⟩ := cell_int k0
    obtain ⟨a1, rfl⟩ := cell_bool k1
    obtain ⟨a2, rfl, h2⟩ := cell_int k2
    obtain ⟨a3, rfl, h3⟩ := cell_int k3
    exact ⟨⟨a0, a1, a2, a3⟩, (Rds.int _ (Rds.bool _ (Rds.int _ (Rds.int _ Rds.nil)))), (okL_int h0 (okL_bool (okL_int h2 (okL_int h3 okL_nil))))⟩
theorem pv_Peer (x : GPeer) : toPVL (encPeer x) = pPeer x := by
  simp only [encPeer, pPeer, toPVL, toPV]
theorem pvs_Peer (e : TypeId) (xs : List GPeer) : toPV (slD e 4 encPeer xs) = .sl 4 (xs.map pPeer) := by rw [toPV_slD (enc := encPeer) (sz := 4) (fun _ => rfl)]; simp only [pv_Peer]
end Go.Proofs.YtiboajlnjldalaaGreatDoor
namespace Go.Proofs.YtiboajlnjldalaaGreatDoor
set_option linter.unusedSimpArgs false
set_option linter.unusedVariables false
open Go.RowKit
end Go.Proofs.YtiboajlnjldalaaGreatDoor
namespace Go.Proofs.YtiboajlnjldalaaGreatDoor
set_option linter.unusedSimpArgs false
set_option linter.unusedVariables false
open Go.RowKit
def encLight (x : GLight) : List D := [.int x.fTrust.fPeriod, .int x.fTrust.fSlack, .int x.fState, .int x.fAnchor.fHead.fHeight, .int x.fAnchor.fHead.fTime, .str x.fAnchor.fHead.fLast, .str x.fAnchor.fHead.fVals, .str x.fAnchor.fHead.fNext, .str x.fAnchor.fHead.fData, slD 141 2 encVal x.fAnchor.fNext, slD 30 6 encHeader x.fStore.fHeads, .int x.fStore.fSynced, slD 211 4 encPeer x.fPeers.fPeers, .int x.fPeers.fTurn, .int x.fNow]
theorem dec_Light : Dec [.int .i64, .int .i64, .int .i64, .int .i64, .int .i64, .str, .str, .str, .str, .sl [.int .i64, .int .i64], .sl [.int .i64, .int .i64, .str, .str, .str, .str], .int .i64, .sl [.int .i64, .bool, .int .i64, .int .i64], .int .i64, .int .i64] encLight := by
  intro n W vs h
  match vs, h with
  | [_, _, _, _, _, _, _, _, _, _, _, _, _, _, _], ⟨k0, k1, k2, k3, k4, k5, k6, k7, k8, k9, k10, k11, k12, k13, k14, _⟩ =>
    obtain ⟨a0, rfl, h0⟩ := cell_int k0
    obtain ⟨a1, rfl, h1⟩ := cell_int k1
    obtain ⟨a2, rfl, h2⟩ := cell_int k2
    obtain ⟨a3, rfl, h3⟩ := cell_int k3
    obtain ⟨a4, rfl, h4⟩ := cell_int k4
    obtain ⟨a5, rfl, h5⟩ := cell_str k5
    obtain ⟨a6, rfl, h6⟩ := cell_str k6
    obtain ⟨a7, rfl, h7⟩ := cell_str k7
    obtain ⟨a8, rfl, h8⟩ := cell_str k8
    obtain ⟨a9, r9, h9⟩ := dec_sl 141 dec_Val (fun _ => rfl) (by decide) k9
    obtain ⟨a10, r10, h10⟩ := dec_sl 30 dec_Header (fun _ => rfl) (by decide) k10
    obtain ⟨a11, rfl, h11⟩ := cell_int k11
    obtain ⟨a12, r12, h12⟩ := dec_sl 211 dec_Peer (fun _ => rfl) (by decide) k12
    obtain ⟨a13, rfl, h13⟩ := cell_int k13
    obtain ⟨a14, rfl, h14⟩ := cell_int k14
    exact ⟨⟨⟨a0, a1⟩, a2, ⟨⟨a3, a4, a5, a6, a7, a8⟩, a9⟩, ⟨a10, a11⟩, ⟨a12, a13⟩, a14⟩, (Rds.int _ (Rds.int _ (Rds.int _ (Rds.int _ (Rds.int _ (Rds.str _ (Rds.str _ (Rds.str _ (Rds.str _ (rds_slD.2 ⟨_, _, rfl, r9, (rds_slD.2 ⟨_, _, rfl, r10, (Rds.int _ (rds_slD.2 ⟨_, _, rfl, r12, (Rds.int _ (Rds.int _ Rds.nil))⟩))⟩)⟩)))))))))), (okL_int h0 (okL_int h1 (okL_int h2 (okL_int h3 (okL_int h4 (okL_str h5 (okL_str h6 (okL_str h7 (okL_str h8 (okL_cons h9 (okL_cons h10 (okL_int h11 (okL_cons h12 (okL_int h13 (okL_int h14 okL_nil)))))))))))))))⟩
theorem pv_Light (x : GLight) : toPVL (encLight x) = pLight x := by
  simp only [encLight, pLight, toPVL, toPV, pvs_Header, pvs_Peer, pvs_Val]
end Go.Proofs.YtiboajlnjldalaaGreatDoor
namespace Go.Proofs.YtiboajlnjldalaaGreatDoor
set_option linter.unusedSimpArgs false
set_option linter.unusedVariables false
open Go.RowKit
set_option maxRecDepth 100000
def light0 : GLight := ⟨⟨0, 0⟩, 0, ⟨header0, []⟩, ⟨[], 0⟩, ⟨[], 0⟩, 0⟩
end Go.Proofs.YtiboajlnjldalaaGreatDoor
namespace Go.Proofs.YtiboajlnjldalaaGreatDoor
set_option linter.unusedSimpArgs false
set_option linter.unusedVariables false
open Go.RowKit
set_option maxRecDepth 100000
def pLn (t : GTrust) (h : GHeader) (now : Int) (x y : PV) : List PV := [.val (.int .i64 t.fPeriod), .val (.int .i64 t.fSlack), .val (.int .i64 1), .val (.int .i64 h.fHeight), .val (.int .i64 h.fTime), .val (.string h.fLast), .val (.string h.fVals), .val (.string h.fNext), .val (.string h.fData), x, y, .val (.int .i64 1), .val (.slice none 0 0), .val (.int .i64 0), .val (.int .i64 now)]
def rHd (h : GHeader) : List PV := [.val (.int .i64 h.fHeight), .val (.int .i64 h.fTime), .val (.string h.fLast), .val (.string h.fVals), .val (.string h.fNext), .val (.string h.fData)]
def bLn (h : GHeader) (nx : List GVal) : Hp := [some (.row 141 2 (nx.map pVal)), some (.row 30 6 [rHd h])]
attribute [push_cast] pLn rHd bLn
end Go.Proofs.YtiboajlnjldalaaGreatDoor
namespace Go.Proofs.YtiboajlnjldalaaGreatDoor
set_option linter.unusedSimpArgs false
set_option linter.unusedVariables false
open Go.RowKit
def kindC (ops : Array Oper) (tn : List Nat) (i : Nat) : Nat := if tn.contains i then 3 else kindAt ops i
theorem kindC_le {ops : Array Oper} {tn : List Nat} {i : Nat} (h : kindC ops tn i ≤ 2) : tn.contains i = false ∧ kindC ops tn i = kindAt ops i := by
  unfold kindC at h ⊢
  cases hc : tn.contains i with
  | true => rw [hc] at h; simp at h
  | false => exact ⟨rfl, by simp⟩
def ordC (ops : Array Oper) (tn : List Nat) : List Nat → Array Bool → Bool
  | [], listed => Region.ready .any ops listed == []
  | i :: rest, listed =>
    (Region.ready .any ops listed).contains i &&
    (if kindC ops tn i ≤ 1 then Region.free .any ops listed i && (kindC ops tn i == 0 || (List.range ops.size).all fun j => listed.getD j true || j == i || kindC ops tn j ≤ 2 || waits ops i 6 j)
     else Region.ready .any ops listed == [i]) && ordC ops tn rest (listed.setIfInBounds i true)
def panyC (P : Program) (T : Tys) (md : Bool) (ops : Array Oper) (tn : List Nat) (K : St → Prop) : List Nat → St → Prop
  | [], σ => K σ
  | i :: rest, σ => match ops[i]? with
    | none => False
    | some o => if pwanted ops σ.tm o.guard then
        (if kindC ops tn i ≤ 1 then py P T σ.tm σ.H o.op o.type fun pv => panyC P T md ops tn K rest (σ.put o.dst pv) else pop P T md (tn.contains i) o σ fun pv σ' => panyC P T md ops tn K rest (σ'.put o.dst pv))
      else panyC P T md ops tn K rest (σ.put o.dst (.val undef))
section
variable {P : Program} {ops : Array Oper} {tn : List Nat} {Q : Exit → Act → World → Prop}
def wpC (P : Program) (ops : Array Oper) (tn : List Nat) (Q : Exit → Act → World → Prop) : Nat → Array Bool → Act → World → Prop
  | 0, listed, a, w => Region.ready .any ops listed = [] ∧ Q .normal a w
  | fuel + 1, listed, a, w =>
    (Region.ready .any ops listed = [] → Q .normal a w) ∧
    ∀ i ∈ Region.ready .any ops listed, wpOp P ops Q i (fun a' w' => (kindC ops tn i ≤ 2 → Ext w w') ∧ wpC P ops tn Q fuel (listed.setIfInBounds i true) a' w') a w
theorem wpAny_of_C : ∀ (fuel : Nat) (listed : Array Bool) (a : Act) (w : World), wpC P ops tn Q fuel listed a w → wpAny P .any ops Q fuel listed a w
  | 0, _, _, _, h => h
  | fuel + 1, _, _, _, h => ⟨h.1, fun i hi => wpOp_mono (fun a' w' h' => wpAny_of_C fuel _ a' w' h'.2) (h.2 i hi)⟩
theorem wpC_first {i : Nat} {oi : Oper} {v : Value} (hi : ops[i]? = some oi) (hsel : ∀ (j : Nat) (o : Oper) cs b, ops[j]? = some o → o.op ≠ .select cs b) (hpan : ∀ c a w, Q (.panic c) a w → False) (b : Bool)
    : ∀ (fuel : Nat) (listed : Array Bool) (a : Act) (w : World),
      (∀ j oj, ops[j]? = some oj → j ≠ i → listed.getD j true = false → ((∀ e ∈ oj.after, Region.binds .any e = true → e.on ≠ i) → oi.apart ops oj = true) ∧ (b = true → waits ops i 6 j = false → kindC ops tn j ≤ 2)) →
      ClosedL ops listed → kindC ops tn i ≤ 2 → i ∈ Region.ready .any ops listed → YieldsIf P ops (fun w' => b = true → Ext w w') oi v a →
      wpC P ops tn Q fuel (listed.setIfInBounds i true) (a.put oi.dst v) w → wpC P ops tn Q (fuel + 1) listed a w := by
  intro fuel
  induction fuel with
  | zero =>
    intro listed a w _ _ _ hr hy H
    refine ⟨fun h => (by rw [h] at hr; cases hr), fun j hj => ?_⟩
    by_cases hji : j = i
    · subst hji; exact hy.wpOp hi (fun _ => Ext.refl w) ⟨fun _ => Ext.refl w, H⟩
    · have := ready_mono hj hji
      rw [H.1] at this
      cases this
  | succ fuel ih =>
    intro listed a w hfree hcl hki hr hy H
    refine ⟨fun h => (by rw [h] at hr; cases hr), fun j hj => ?_⟩
    by_cases hji : j = i
    · subst hji; exact hy.wpOp hi (fun _ => Ext.refl w) ⟨fun _ => Ext.refl w, H⟩
    · have h1 := H.2 j (ready_mono hj hji)
      obtain ⟨hjun, oj, hoj, hall⟩ := mem_ready.1 hj
      have hnot : ∀ e ∈ oj.after, Region.binds .any e = true → e.on ≠ i := fun e he hb heq => by
        have h1 := hall e he hb
        have h0 := (mem_ready.1 hr).1
        rw [heq] at h1
        rcases Nat.lt_or_ge i listed.size with h' | h'
        · simp [h'] at h0 h1; rw [h0] at h1; cases h1
        · simp [Array.getElem?_eq_none h'] at h1
      have hap := hfree j oj hoj hji hjun
      have hnw : waits ops i 6 j = false := by
        cases hq : waits ops i 6 j with
        | false => rfl
        | true => exact (waits_no hcl (mem_ready.1 hr).1 _ _ hq ⟨oj, hoj, hall⟩).elim
      have h2 := wpOp_putIf hoj (hap.1 hnot) (fun cs b => hsel i oi cs b hi) (fun cs b => hsel j oj cs b hoj) (fun c a w q => (hpan _ _ _ q).elim) hy h1
      have hfree' : ∀ k ok, ops[k]? = some ok → k ≠ i → (listed.setIfInBounds j true).getD k true = false →
          ((∀ e ∈ ok.after, Region.binds .any e = true → e.on ≠ i) → oi.apart ops ok = true) ∧ (b = true → waits ops i 6 k = false → kindC ops tn k ≤ 2) := fun k ok hk hki hun => by
        refine hfree k ok hk hki ?_
        by_cases hjk : j = k
        · subst hjk; exact hjun
        · rw [getD_set_ne true hjk] at hun; exact hun
      refine wpOp_mono (fun a' w' h3 => ⟨h3.2.1, ih (listed.setIfInBounds j true) a' w' hfree' (hcl.set hj) hki (ready_mono hr (Ne.symm hji)) (YieldsIf.mono' (P := P) (ops := ops) (o := oi) (a := a') h3.1 fun w'' q hb => (h3.2.1 (hap.2 hb hnw)).trans (q hb)) ?_⟩) h2
      rw [Array.setIfInBounds_comm _ _ hji]
      exact h3.2.2
end
section
variable {P : Program} {T : Tys} {E : Env}
theorem panyC_ok (hT : TysOk P T) (hE : elemsOk P T) {md : Bool} (ops : Array Oper) (tn : List Nat) (hs : Region.noSelect ops = true) {K : St → Prop} {Q : Exit → Act → World → Prop} (hpan : ∀ c a w, Q (.panic c) a w → False) (hq : ∀ σ' a' w', K σ' → Rel E σ' a' w' → Q .normal a' w') :
    ∀ (ord : List Nat) (fuel : Nat) (listed : Array Bool) (σ : St) (a : Act) (w : World), ord.length ≤ fuel → ordC ops tn ord listed = true → ClosedL ops listed → panyC P T md ops tn K ord σ → Rel E σ a w → wpC P ops tn Q fuel listed a w
  | [], fuel, listed, σ, a, w, _, ho, _, hk, r => by
    have hr : Region.ready .any ops listed = [] := by simpa [ordC] using ho
    cases fuel with
    | zero => exact ⟨hr, hq σ a w hk r⟩
    | succ fuel => exact ⟨fun _ => hq σ a w hk r, by rw [hr]; simp⟩
  | i :: rest, 0, _, _, _, _, hl, _, _, _, _ => by simp at hl
  | i :: rest, fuel + 1, listed, σ, a, w, hl, ho, hcl, hk, r => by
    simp only [ordC, Bool.and_eq_true] at ho
    obtain ⟨⟨h1, h2⟩, h3⟩ := ho
    have hi : i ∈ Region.ready .any ops listed := by simpa using h1
    obtain ⟨o, hio⟩ := ready_lt hi
    have hw := r.elim fun M q => q.elim fun h q => wanted_eq q.2.1 ops o
    have hka : kindAt ops i = kindOp o.op := by simp [kindAt, hio]
    simp only [panyC, hio] at hk
    have next := panyC_ok hT hE (md := md) ops tn hs hpan hq rest fuel (listed.setIfInBounds i true)
    have hl' : rest.length ≤ fuel := by simpa using hl
    by_cases hkC : kindC ops tn i ≤ 1
    · obtain ⟨_, hkk⟩ := kindC_le (ops := ops) (tn := tn) (i := i) (by omega)
      have hko : kindC ops tn i = kindOp o.op := hkk.trans hka
      have hkd : kindOp o.op ≤ 1 := by omega
      rw [if_pos hkC, Bool.and_eq_true, hko] at h2
      have hfree := Region.free_spec hio h2.1
      have hside : ∀ j oj, ops[j]? = some oj → j ≠ i → listed.getD j true = false → ((∀ e ∈ oj.after, Region.binds .any e = true → e.on ≠ i) → o.apart ops oj = true) ∧ ((kindOp o.op == 1) = true → waits ops i 6 j = false → kindC ops tn j ≤ 2) := fun j oj hj hji hun => by
        refine ⟨fun hno => hfree j oj hj hji hun hno, fun hk1 hnw => ?_⟩
        have hk1' : kindOp o.op = 1 := by simpa using hk1
        have h22 := h2.2
        simp only [hk1', Bool.or_eq_true, beq_iff_eq, List.all_eq_true, List.mem_range] at h22
        rcases h22 with q | q
        · cases q
        · have hjl : j < ops.size := (Array.getElem?_eq_some_iff.1 hj).1
          rcases q j hjl with ((q | q) | q) | q
          · rw [hun] at q; cases q
          · exact absurd q hji
          · simpa using q
          · rw [hnw] at q; cases q
      have hk2 : kindC ops tn i ≤ 2 := by omega
      by_cases hp : pwanted ops σ.tm o.guard = true
      · rw [if_pos hp, if_pos hkC] at hk
        obtain ⟨M, h, s, t, d⟩ := r
        obtain ⟨pv, v, g1, g2, g3⟩ := py_ok hT hE s.inv t o hk
        refine wpC_first (v := v) hio (noSelect_all hs) hpan (kindOp o.op == 1) fuel listed a w hside hcl hk2 hi (.inl ⟨by rw [hw]; exact hp, fun w' hx => g3 w' fun q => hx (by simpa using q)⟩) ?_
        exact next _ _ w hl' h3 (hcl.set hi) g1 ⟨M, h, by rw [St.put_H]; exact s, t.put g2 o.dst, by rw [Act.put_defers']; exact d⟩
      · rw [if_neg hp] at hk
        refine wpC_first (v := undef) hio (noSelect_all hs) hpan (kindOp o.op == 1) fuel listed a w hside hcl hk2 hi (.inr ⟨by rw [hw]; simpa using hp, rfl⟩) ?_
        exact next _ _ w hl' h3 (hcl.set hi) hk (r.skip o.dst)
    · rw [if_neg hkC] at h2
      have hrd : Region.ready .any ops listed = [i] := by simpa using h2
      refine ⟨(fun h0 => by rw [hrd] at h0; cases h0), fun j hj => ?_⟩
      rw [hrd, List.mem_singleton] at hj
      subst hj
      unfold wpOp
      simp only [hio, hw]
      by_cases hp : pwanted ops σ.tm o.guard = true
      · rw [if_pos hp, if_neg hkC] at hk
        rw [if_pos hp]
        refine .inl (pop_rel hT hE r hk fun pv σ' v w' g1 g2 g3 => ⟨fun hle => ?_, next _ _ w' hl' h3 (hcl.set hi) g1 g3⟩)
        obtain ⟨hnt, hkk⟩ := kindC_le hle
        rw [hkk, hka] at hle
        rw [hkk, hka] at hkC
        refine g2 hnt ?_
        cases hx : extOp o.op with
        | true => rfl
        | false =>
          exfalso
          have : kindOp o.op ≤ 1 ∨ kindOp o.op = 3 := by
            unfold kindOp
            split <;> first | (left; omega) | (rw [hx]; right; rfl)
          omega
      · rw [if_neg hp] at hk
        rw [if_neg hp]
        exact ⟨fun _ => Ext.refl w, next _ _ w hl' h3 (hcl.set hi) hk (r.skip o.dst)⟩
end
section
variable {P : Program} {T : Tys} {md : Bool} {ops : Array Oper} {tn : List Nat} {K : St → Prop} {σ : St}
theorem panyC_nil (h : K σ) : panyC P T md ops tn K [] σ := h
theorem panyC_I {i : Nat} {rest : List Nat} (h : ∃ o, ops.toList[i]? = some o ∧ ∀ K' : St → Prop, (∀ σ, panyC P T md ops tn K rest σ → K' σ) →
    (if kindC ops tn i ≤ 1 then pstepD P T md ops o σ K' else if pwanted ops σ.tm o.guard then pop P T md (tn.contains i) o σ fun pv σ' => K' (σ'.put o.dst pv) else K' (σ.put o.dst (.val undef)))) : panyC P T md ops tn K (i :: rest) σ := by
  obtain ⟨o, hi, h⟩ := h
  rw [Array.getElem?_toList] at hi
  have h := h _ fun _ h => h
  simp only [panyC, hi]
  split
  · rename_i hw
    split
    · rename_i hk
      rw [if_pos hk] at h
      unfold pstepD at h
      rw [if_pos hw] at h
      have hk1 : kindOp o.op ≤ 1 := by
        have := (kindC_le (ops := ops) (tn := tn) (i := i) (by omega)).2
        have h2 : kindAt ops i = kindOp o.op := by simp [kindAt, hi]
        omega
      rw [if_pos hk1] at h
      exact h
    · rename_i hk
      rw [if_neg hk, if_pos hw] at h
      exact h
  · rename_i hw
    split at h
    · unfold pstepD at h
      rw [if_neg hw] at h
      exact h
    · first | exact h | (rw [if_neg hw] at h; exact h)
theorem panyC_w {i : Nat} {o : Oper} {K' : St → Prop} (hk : (decide (kindC ops tn i ≤ 1)) = true) (h : pstepD P T md ops o σ K') : (if kindC ops tn i ≤ 1 then pstepD P T md ops o σ K' else if pwanted ops σ.tm o.guard then pop P T md (tn.contains i) o σ fun pv σ' => K' (σ'.put o.dst pv) else K' (σ.put o.dst (.val undef))) := by
  rw [if_pos (of_decide_eq_true hk)]
  exact h
theorem panyC_s {i : Nat} {dst : Option Tmp} {op : Op} {ty : TypeId} {pos : String} {after : Array Edge} {K' : St → Prop} {cm : Bool} (hk : (decide (kindC ops tn i ≤ 1)) = false) (hc : tn.contains i = cm) (h : popO P T md cm op ty σ fun pv σ' => K' (σ'.put dst pv)) :
    (if kindC ops tn i ≤ 1 then pstepD P T md ops ⟨dst, op, ty, pos, after, none⟩ σ K' else if pwanted ops σ.tm (⟨dst, op, ty, pos, after, none⟩ : Oper).guard then pop P T md (tn.contains i) ⟨dst, op, ty, pos, after, none⟩ σ fun pv σ' => K' (σ'.put (⟨dst, op, ty, pos, after, none⟩ : Oper).dst pv) else K' (σ.put (⟨dst, op, ty, pos, after, none⟩ : Oper).dst (.val undef))) := by
  rw [if_neg (of_decide_eq_false hk)]
  simp only [pwanted, if_true]
  subst hc
  exact h
end
end Go.Proofs.YtiboajlnjldalaaGreatDoor
namespace Go.Proofs.YtiboajlnjldalaaGreatDoor
set_option linter.unusedSimpArgs false
set_option linter.unusedVariables false
open Go.RowKit
def OrdT.okC (ops : Array Oper) (tn : List Nat) : OrdT → Array Bool → Bool
  | .done, listed => Region.ready .any ops listed == []
  | .step i t, listed =>
    (Region.ready .any ops listed).contains i &&
    (if kindC ops tn i ≤ 1 then Region.free .any ops listed i && (kindC ops tn i == 0 || (List.range ops.size).all fun j => listed.getD j true || j == i || kindC ops tn j ≤ 2 || waits ops i 6 j)
     else Region.ready .any ops listed == [i]) && t.isTree && t.okC ops tn (listed.setIfInBounds i true)
  | .fork u, listed => (Region.ready .any ops listed).all (fun j => u.heads.contains j) && !(Region.ready .any ops listed).isEmpty && u.okC ops tn listed
  | .alt i t u, listed => t.isTree && t.okC ops tn (listed.setIfInBounds i true) && u.okC ops tn listed
  | .stop, _ => true
def ptreeC (P : Program) (T : Tys) (md : Bool) (ops : Array Oper) (tn : List Nat) (K : St → Prop) : OrdT → St → Prop
  | .done, σ => K σ
  | .step i t, σ => match ops[i]? with
    | none => False
    | some o => if pwanted ops σ.tm o.guard then
        (if kindC ops tn i ≤ 1 then py P T σ.tm σ.H o.op o.type fun pv => ptreeC P T md ops tn K t (σ.put o.dst pv) else pop P T md (tn.contains i) o σ fun pv σ' => ptreeC P T md ops tn K t (σ'.put o.dst pv))
      else ptreeC P T md ops tn K t (σ.put o.dst (.val undef))
  | .fork u, σ => ptreeC P T md ops tn K u σ
  | .alt i t u, σ => (match ops[i]? with
    | none => False
    | some o => if pwanted ops σ.tm o.guard then
        (if kindC ops tn i ≤ 1 then py P T σ.tm σ.H o.op o.type fun pv => ptreeC P T md ops tn K t (σ.put o.dst pv) else pop P T md (tn.contains i) o σ fun pv σ' => ptreeC P T md ops tn K t (σ'.put o.dst pv))
      else ptreeC P T md ops tn K t (σ.put o.dst (.val undef))) ∧ ptreeC P T md ops tn K u σ
  | .stop, _ => True
section
variable {P : Program} {T : Tys} {E : Env}
theorem stepC_ok (hT : TysOk P T) (hE : elemsOk P T) {md : Bool} {ops : Array Oper} {tn : List Nat} {i : Nat} {o : Oper} (hio : ops[i]? = some o) {K' : St → Prop} {Q : Exit → Act → World → Prop} {σ : St} {a : Act} {w : World} (r : Rel E σ a w)
    (hk : if pwanted ops σ.tm o.guard then (if kindC ops tn i ≤ 1 then py P T σ.tm σ.H o.op o.type fun pv => K' (σ.put o.dst pv) else pop P T md (tn.contains i) o σ fun pv σ' => K' (σ'.put o.dst pv)) else K' (σ.put o.dst (.val undef)))
    {R : Act → World → Prop} (hR : ∀ σ' a' w', K' σ' → Rel E σ' a' w' → R a' w') : wpOp P ops Q i (fun a' w' => (kindC ops tn i ≤ 2 → Ext w w') ∧ R a' w') a w := by
  have hw := r.elim fun M q => q.elim fun h q => wanted_eq q.2.1 ops o
  have hka : kindAt ops i = kindOp o.op := by simp [kindAt, hio]
  unfold wpOp
  simp only [hio, hw]
  by_cases hp : pwanted ops σ.tm o.guard = true
  · rw [if_pos hp] at hk
    rw [if_pos hp]
    by_cases hkd : kindC ops tn i ≤ 1
    · rw [if_pos hkd] at hk
      obtain ⟨M, h, s, t, d⟩ := r
      obtain ⟨pv, v, g1, g2, g3⟩ := py_ok hT hE s.inv t o hk
      exact .inl (wp_value (g3 w fun _ => Ext.refl w) ⟨fun _ => Ext.refl w, hR _ _ w g1 ⟨M, h, by rw [St.put_H]; exact s, t.put g2 o.dst, by rw [Act.put_defers']; exact d⟩⟩)
    · rw [if_neg hkd] at hk
      refine .inl (pop_rel hT hE r hk fun pv σ' v w' g1 g2 g3 => ⟨fun hle => ?_, hR _ _ w' g1 g3⟩)
      obtain ⟨hnt, hkk⟩ := kindC_le hle
      rw [hkk, hka] at hle
      rw [hkk, hka] at hkd
      exact g2 hnt (kind_ext hle hkd)
  · rw [if_neg hp] at hk
    rw [if_neg hp]
    exact ⟨fun _ => Ext.refl w, hR _ _ w hk (r.skip o.dst)⟩
theorem ptreeC_ok (hT : TysOk P T) (hE : elemsOk P T) {md : Bool} (ops : Array Oper) (tn : List Nat) (hs : Region.noSelect ops = true) {K : St → Prop} {Q : Exit → Act → World → Prop} (hpan : ∀ c a w, Q (.panic c) a w → False) (hq : ∀ σ' a' w', K σ' → Rel E σ' a' w' → Q .normal a' w') :
    ∀ (t : OrdT) (listed : Array Bool) (σ : St) (a : Act) (w : World), t.okC ops tn listed = true → ClosedL ops listed → ptreeC P T md ops tn K t σ → Rel E σ a w →
      ((t.heads = [] → t ≠ .stop → ∀ fuel, t.depth ≤ fuel → wpC P ops tn Q fuel listed a w) ∧ ∀ j ∈ t.heads, j ∈ Region.ready .any ops listed → ∀ fuel, t.depth ≤ fuel + 1 → wpOp P ops Q j (fun a' w' => (kindC ops tn j ≤ 2 → Ext w w') ∧ wpC P ops tn Q fuel (listed.setIfInBounds j true) a' w') a w)
  | .done, listed, σ, a, w, ho, _, hk, r => by
    refine ⟨fun _ _ fuel _ => ?_, fun j hj => by simp [OrdT.heads] at hj⟩
    have hr : Region.ready .any ops listed = [] := by simpa [OrdT.okC] using ho
    cases fuel with
    | zero => exact ⟨hr, hq σ a w hk r⟩
    | succ fuel => exact ⟨fun _ => hq σ a w hk r, by rw [hr]; simp⟩
  | .stop, _, _, _, _, _, _, _, _ => ⟨fun _ h => absurd rfl h, fun j hj => by simp [OrdT.heads] at hj⟩
  | .alt i t u, listed, σ, a, w, ho, hcl, hk, r => by
    simp only [OrdT.okC, Bool.and_eq_true] at ho
    refine ⟨fun h => by simp [OrdT.heads] at h, fun j hj hjr fuel hf => ?_⟩
    have hf1 : t.depth ≤ fuel := by simp only [OrdT.depth] at hf; omega
    have hf2 : u.depth ≤ fuel + 1 := by simp only [OrdT.depth] at hf; omega
    by_cases hji : j = i
    · subst hji
      obtain ⟨o, hio⟩ := ready_lt hjr
      have hk1 := hk.1
      simp only [hio] at hk1
      refine stepC_ok hT hE hio (K' := ptreeC P T md ops tn K t) r hk1 fun σ' a' w' g1 g2 => ?_
      have next := ptreeC_ok hT hE (md := md) ops tn hs hpan hq t (listed.setIfInBounds j true) σ' a' w' ho.1.2 (hcl.set hjr) g1 g2
      exact next.1 (tree_heads ho.1.1) (tree_stop ho.1.1) fuel hf1
    · have hj' : j ∈ u.heads := by
        simp only [OrdT.heads, List.mem_cons] at hj
        exact hj.resolve_left hji
      exact (ptreeC_ok hT hE (md := md) ops tn hs hpan hq u listed σ a w ho.2 hcl hk.2 r).2 j hj' hjr fuel hf2
  | .fork u, listed, σ, a, w, ho, hcl, hk, r => by
    simp only [OrdT.okC, Bool.and_eq_true, List.all_eq_true, List.contains_eq_mem, decide_eq_true_eq, Bool.not_eq_true', List.isEmpty_eq_false_iff] at ho
    obtain ⟨⟨h1, h2⟩, h3⟩ := ho
    refine ⟨fun _ _ fuel hf => ?_, fun j hj => by simp [OrdT.heads] at hj⟩
    have sub := (ptreeC_ok hT hE (md := md) ops tn hs hpan hq u listed σ a w h3 hcl hk r).2
    cases fuel with
    | zero =>
      exfalso
      obtain ⟨j, hj⟩ := List.exists_mem_of_ne_nil _ h2
      have := h1 j hj
      cases u with
      | alt i t u => simp only [OrdT.depth] at hf; omega
      | _ => simp [OrdT.heads] at this
    | succ fuel => exact ⟨fun h0 => absurd h0 h2, fun j hj => sub j (h1 j hj) hj fuel hf⟩
  | .step i t, listed, σ, a, w, ho, hcl, hk, r => by
    refine ⟨fun _ _ fuel hf => ?_, fun j hj => by simp [OrdT.heads] at hj⟩
    cases fuel with
    | zero => simp [OrdT.depth] at hf
    | succ fuel =>
    have hl' : t.depth ≤ fuel := by simp only [OrdT.depth] at hf; omega
    simp only [OrdT.okC, Bool.and_eq_true] at ho
    obtain ⟨⟨⟨h1, h2⟩, ht⟩, h3⟩ := ho
    have hi : i ∈ Region.ready .any ops listed := by simpa using h1
    obtain ⟨o, hio⟩ := ready_lt hi
    have hw := r.elim fun M q => q.elim fun h q => wanted_eq q.2.1 ops o
    have hka : kindAt ops i = kindOp o.op := by simp [kindAt, hio]
    simp only [ptreeC, hio] at hk
    have next := fun (σ' : St) (a' : Act) (w' : World) (g1 : ptreeC P T md ops tn K t σ') (g2 : Rel E σ' a' w') => (ptreeC_ok hT hE (md := md) ops tn hs hpan hq t (listed.setIfInBounds i true) σ' a' w' h3 (hcl.set hi) g1 g2).1 (tree_heads ht) (tree_stop ht) fuel hl'
    by_cases hkC : kindC ops tn i ≤ 1
    · obtain ⟨_, hkk⟩ := kindC_le (ops := ops) (tn := tn) (i := i) (by omega)
      have hko : kindC ops tn i = kindOp o.op := hkk.trans hka
      have hkd : kindOp o.op ≤ 1 := by omega
      rw [if_pos hkC, Bool.and_eq_true, hko] at h2
      have hfree := Region.free_spec hio h2.1
      have hside : ∀ j oj, ops[j]? = some oj → j ≠ i → listed.getD j true = false → ((∀ e ∈ oj.after, Region.binds .any e = true → e.on ≠ i) → o.apart ops oj = true) ∧ ((kindOp o.op == 1) = true → waits ops i 6 j = false → kindC ops tn j ≤ 2) := fun j oj hj hji hun => by
        refine ⟨fun hno => hfree j oj hj hji hun hno, fun hk1 hnw => ?_⟩
        have hk1' : kindOp o.op = 1 := by simpa using hk1
        have h22 := h2.2
        simp only [hk1', Bool.or_eq_true, beq_iff_eq, List.all_eq_true, List.mem_range] at h22
        rcases h22 with q | q
        · cases q
        · have hjl : j < ops.size := (Array.getElem?_eq_some_iff.1 hj).1
          rcases q j hjl with ((q | q) | q) | q
          · rw [hun] at q; cases q
          · exact absurd q hji
          · simpa using q
          · rw [hnw] at q; cases q
      have hk2 : kindC ops tn i ≤ 2 := by omega
      by_cases hp : pwanted ops σ.tm o.guard = true
      · rw [if_pos hp, if_pos hkC] at hk
        obtain ⟨M, h, s, t', d⟩ := r
        obtain ⟨pv, v, g1, g2, g3⟩ := py_ok hT hE s.inv t' o hk
        refine wpC_first (v := v) hio (noSelect_all hs) hpan (kindOp o.op == 1) fuel listed a w hside hcl hk2 hi (.inl ⟨by rw [hw]; exact hp, fun w' hx => g3 w' fun q => hx (by simpa using q)⟩) ?_
        exact next _ _ w g1 ⟨M, h, by rw [St.put_H]; exact s, t'.put g2 o.dst, by rw [Act.put_defers']; exact d⟩
      · rw [if_neg hp] at hk
        refine wpC_first (v := undef) hio (noSelect_all hs) hpan (kindOp o.op == 1) fuel listed a w hside hcl hk2 hi (.inr ⟨by rw [hw]; simpa using hp, rfl⟩) ?_
        exact next _ _ w hk (r.skip o.dst)
    · rw [if_neg hkC] at h2
      have hrd : Region.ready .any ops listed = [i] := by simpa using h2
      refine ⟨(fun h0 => by rw [hrd] at h0; cases h0), fun j hj => ?_⟩
      rw [hrd, List.mem_singleton] at hj
      subst hj
      exact stepC_ok hT hE hio (K' := ptreeC P T md ops tn K t) r hk fun σ' a' w' g1 g2 => next σ' a' w' g1 g2
end
theorem PWp.drawCT {P : Program} {T : Tys} {Q : Exit → St → Prop} {σ : St} {N : Nat} (ok : Ok P T) (md : Bool) {id : Nat} {ops : Array Oper} (tn : List Nat) (t : OrdT) (ho : (Region.noSelect ops && decide (t.depth ≤ ops.size) && t.isTree && t.okC ops tn (Array.replicate ops.size false)) = true) (h : ptreeC P T md ops tn (Q .normal) t σ) : PWp P N (.region id ops true) Q σ := fun E a w _ r => by
  simp only [Bool.and_eq_true, decide_eq_true_eq] at ho
  refine wp_region_any ok.mix (wpAny_of_C (tn := tn) _ _ _ _ ?_)
  refine (ptreeC_ok ok.ty ok.el (md := md) ops tn ho.1.1.1 (fun _ _ _ q => q) (fun σ' _ _ h1 h2 => ⟨σ', h1, h2⟩) t _ σ a _ ho.2 (ClosedL.start _ _) h ?_).1 (tree_heads ho.1.2) (tree_stop ho.1.2) ops.size ho.1.1.2
  obtain ⟨M, hh, s, t, d⟩ := r
  refine ⟨M, hh, s.trans (Step.ext s.inv ?_), t, d⟩
  exact (Ext.refl w).drew
section
variable {P : Program} {T : Tys} {md : Bool} {ops : Array Oper} {tn : List Nat} {K : St → Prop} {σ : St}
theorem ptreeC_done (h : K σ) : ptreeC P T md ops tn K .done σ := h
theorem ptreeC_stop : ptreeC P T md ops tn K .stop σ := trivial
theorem ptreeC_fork {u : OrdT} (h : ptreeC P T md ops tn K u σ) : ptreeC P T md ops tn K (.fork u) σ := h
def stepC (P : Program) (T : Tys) (md : Bool) (ops : Array Oper) (tn : List Nat) (i : Nat) (o : Oper) (σ : St) (K' : St → Prop) : Prop :=
  if kindC ops tn i ≤ 1 then pstepD P T md ops o σ K' else if pwanted ops σ.tm o.guard then pop P T md (tn.contains i) o σ fun pv σ' => K' (σ'.put o.dst pv) else K' (σ.put o.dst (.val undef))
theorem stepC_of {i : Nat} {o : Oper} {K' : St → Prop} (hi : ops[i]? = some o) (h : stepC P T md ops tn i o σ K') :
    if pwanted ops σ.tm o.guard then (if kindC ops tn i ≤ 1 then py P T σ.tm σ.H o.op o.type fun pv => K' (σ.put o.dst pv) else pop P T md (tn.contains i) o σ fun pv σ' => K' (σ'.put o.dst pv)) else K' (σ.put o.dst (.val undef)) := by
  unfold stepC at h
  split
  · rename_i hw
    split
    · rename_i hk
      rw [if_pos hk] at h
      unfold pstepD at h
      rw [if_pos hw] at h
      have hk1 : kindOp o.op ≤ 1 := by
        have := (kindC_le (ops := ops) (tn := tn) (i := i) (by omega)).2
        have h2 : kindAt ops i = kindOp o.op := by simp [kindAt, hi]
        omega
      rw [if_pos hk1] at h
      exact h
    · rename_i hk
      rw [if_neg hk, if_pos hw] at h
      exact h
  · rename_i hw
    split at h
    · unfold pstepD at h
      rw [if_neg hw] at h
      exact h
    · first | exact h | (rw [if_neg hw] at h; exact h)
theorem ptreeC_I {i : Nat} {t : OrdT} (h : ∃ o, ops.toList[i]? = some o ∧ ∀ K' : St → Prop, (∀ σ, ptreeC P T md ops tn K t σ → K' σ) → stepC P T md ops tn i o σ K') : ptreeC P T md ops tn K (.step i t) σ := by
  obtain ⟨o, hi, h⟩ := h
  rw [Array.getElem?_toList] at hi
  simp only [ptreeC, hi]
  exact stepC_of hi (h _ fun _ h => h)
theorem ptreeC_A {i : Nat} {t u : OrdT} (h : ∃ o, ops.toList[i]? = some o ∧ ∀ K' : St → Prop, (∀ σ, ptreeC P T md ops tn K t σ → K' σ) → stepC P T md ops tn i o σ K') (h2 : ptreeC P T md ops tn K u σ) : ptreeC P T md ops tn K (.alt i t u) σ := by
  obtain ⟨o, hi, h⟩ := h
  rw [Array.getElem?_toList] at hi
  simp only [ptreeC, hi]
  exact ⟨stepC_of hi (h _ fun _ h => h), h2⟩
theorem stepC_w {i : Nat} {o : Oper} {K' : St → Prop} (hk : (decide (kindC ops tn i ≤ 1)) = true) (h : pstepD P T md ops o σ K') : stepC P T md ops tn i o σ K' := by
  unfold stepC
  rw [if_pos (of_decide_eq_true hk)]
  exact h
theorem stepC_s {i : Nat} {dst : Option Tmp} {op : Op} {ty : TypeId} {pos : String} {after : Array Edge} {K' : St → Prop} {cm : Bool} (hk : (decide (kindC ops tn i ≤ 1)) = false) (hc : tn.contains i = cm) (h : popO P T md cm op ty σ fun pv σ' => K' (σ'.put dst pv)) :
    stepC P T md ops tn i ⟨dst, op, ty, pos, after, none⟩ σ K' := by
  unfold stepC
  rw [if_neg (of_decide_eq_false hk)]
  simp only [pwanted, if_true]
  subst hc
  exact h
end
end Go.Proofs.YtiboajlnjldalaaGreatDoor
