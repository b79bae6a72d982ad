/- FnForever: whatever the input, the call returns true and the argument reads afterwards as it read before. No condition. -/
import Derived.Test.YtcbknmnlgoeniaaQV5
import Derived.Test.YtcbknmnlgoeniaaQV7
import Derived.Test.YtcbknmnlgoeniaaRows
import Derived.JoinedOf
import Derived.Handed
namespace Go.Proofs.Ytcbknmnlgoeniaa
set_option linter.unusedSimpArgs false
set_option linter.unusedVariables false
open Go.RowKit
set_option maxRecDepth 1000000
theorem sDrawPlay_p (code : List UInt8) (hc : code.length ≤ 1048576) : PCalls Try.prog 10 [.sl 1 (code.map pU8)] [] (RX (α := List GNetAct) (fun l => .sl 8 (l.map pNetAct)) (fun _ => []) fun l => l.length ≤ 1000 ∧ True) :=
  (sDrawPlay_o code hc).thawX 0 [] fun x _ => ⟨_, _, _, rfl, of_eq_true (pNetAct_rc _), rfl, rfl, trivial, trivial⟩
set_option maxHeartbeats 40000000 in
theorem fnForever_p (code : List UInt8) (hc : code.length ≤ 9223372036854775807) : PCalls Try.prog 4 [.sl 1 (code.map pU8)] [] (RV (.val (.bool true))) := by
  by_cases hb : 1048576 < code.length
  case pos =>
    have cb := big_p code hc
    rw [decide_eq_true hb] at cb
    refine pcalls_ofR okP Try.func4 rfl ?_
    simp only [Try.f4, List.length_cons, List.length_nil, Nat.reduceAdd, Nat.reduceSub, List.replicate_succ, List.replicate_zero, List.cons_append, List.nil_append, List.length_map]
    repeat' (first | with_reducible (first | refine wA ?_ | refine wC ?_) | with_reducible (first | refine wq1 ?_ | refine wq3 ?_ | refine wq5 ?_ | refine wq9 ?_) | ((with_reducible refine hK _ ?_); clear hK K) | ((with_reducible refine PWp.condI ?_); refine ⟨_, rfl, fun hg => ?_, fun hg => ?_⟩ <;> first | (exact absurd hg (by decide)) | ((try simp only [Bool.not_true, Bool.not_false] at hg); (try simp only [hg]); (try simp only [push_cast] at hg); (try exact absurd trivial hg); (try (exfalso; omega)))) | ((with_reducible refine pops_plain fun K hK => ?_); simp (disch := omega) only [push_cast, seval]) | ((with_reducible show pcall _ _ _ _ _ _); ((refine pcV (cf Try.func5) (cb) ?_)); (try simp (disch := omega) only [push_cast, seval])))
    ((with_reducible show PPostR _ _ _ _ _ _); refine finV ?_; (try simp only [push_cast, seval]))
  have cb := big_p code hc
  rw [decide_eq_false hb] at cb
  have cd := sDrawPlay_p code (by omega)
  have c0 := at_p code 0 (by omega) (by omega)
  rw [show ((0 : Nat) : Int) = 0 from rfl] at c0
  refine pcalls_ofR okP Try.func4 rfl ?_
  simp only [Try.f4, List.length_cons, List.length_nil, Nat.reduceAdd, Nat.reduceSub, List.replicate_succ, List.replicate_zero, List.cons_append, List.nil_append, List.length_map]
  repeat' (first | with_reducible refine mkRegion (id := 6) ?_ | with_reducible (first | refine wA ?_ | refine wC ?_) | with_reducible (first | refine wq1 ?_ | refine wq3 ?_ | refine wq5 ?_ | refine wq9 ?_ | refine wS ?_) | ((with_reducible refine hK _ ?_); clear hK K) | ((with_reducible refine PWp.condI ?_); refine ⟨_, rfl, fun hg => ?_, fun hg => ?_⟩ <;> first | (exact absurd hg (by decide)) | ((try simp only [Bool.not_true, Bool.not_false] at hg); (try simp only [hg]); (try simp only [push_cast] at hg); (try exact absurd trivial hg); (try (exfalso; omega)))) | ((with_reducible refine pops_plain fun K hK => ?_); simp (disch := omega) only [push_cast, seval]) | ((with_reducible show pcall _ _ _ _ _ _); (first | (refine pcV (cf Try.func5) (cb) ?_) | (refine pcall_X1 (cf Try.func10) (by ((try simp (disch := omega) only [push_cast, seval]); first | done | exact rfl)) (cd) ?_; rintro l ⟨hl, -⟩)); (try simp (disch := omega) only [push_cast, seval])))
  · ((with_reducible show PPostR _ _ _ _ _ _); refine finV ?_; (try simp only [push_cast, seval]))
  refine Mk.of ?_
  obtain ⟨k, hk⟩ : ∃ k : Nat, ((atC code 0 : Nat) : Int) % ((l.length : Int) + 1) = (k : Int) ∧ k ≤ l.length := ⟨atC code 0 % (l.length + 1), by push_cast; rfl, by have := Nat.mod_lt (atC code 0) (show 0 < l.length + 1 by omega); omega⟩
  have hk1 := hk.1
  have hk2 := hk.2
  have cx := iNetPlay_p (l.take (k - 0)) (by rw [List.length_take]; have := Nat.min_le_right (k - 0) l.length; omega)
  rw [List.map_take] at cx
  have cy := iNetPlay_p l (by omega)
  have hle := netPlay_le l k
  have hx3 := netPlay_len (l.take k)
  have hy3 := netPlay_len l
  have hn := netPlay_cnt l
  have hxp := (netPlay_inv (l.take k)).p
  have hyp := (netPlay_inv l).p
  rw [Nat.sub_zero] at cx
  generalize netPlay (l.take k) = x at cx hle hx3 hxp
  generalize netPlay l = y at cy hle hy3 hn hyp
  obtain ⟨⟨N, P⟩, nx⟩ := x
  obtain ⟨⟨N', P'⟩, ny⟩ := y
  dsimp only at cx cy hle hx3 hy3 hn hxp hyp
  obtain ⟨hnl, U, hU⟩ := hle
  dsimp only at hnl hU
  have hx3' : (N.length : Int) = 3 := by omega
  have hy3' : (N'.length : Int) = 3 := by omega
  have hn' : ¬ ny > (l.length : Int) := by omega
  have hlk : l.take k = l.take (k - 0) := by rw [Nat.sub_zero]
  repeat' (first | with_reducible refine mkRegion (id := 11) ?_ | with_reducible (first | refine wA ?_ | refine wC ?_) | with_reducible (first | refine wq1 ?_ | refine wq3 ?_ | refine wS ?_) | ((with_reducible refine hK _ ?_); clear hK K) | ((with_reducible refine PWp.condI ?_); refine ⟨_, rfl, fun hg => ?_, fun hg => ?_⟩ <;> first | (exact absurd hg (by decide)) | ((try simp only [Bool.not_true, Bool.not_false] at hg); (try simp only [hg]); (try simp only [push_cast] at hg); (try exact absurd trivial hg); (try (exfalso; omega)))) | ((with_reducible refine pops_plain fun K hK => ?_); simp (disch := omega) only [push_cast, seval, hk1]) | ((((with_reducible refine pops_guard ?_); refine ⟨_, rfl, fun K hK => ⟨_, rfl, fun hg => ?_, fun hg => ?_⟩⟩)) <;> first | (exact absurd hg (by decide)) | ((try simp only [Bool.not_true, Bool.not_false] at hg); (try simp only [hg]); (try simp only [push_cast] at hg); (try exact absurd trivial hg); (try (exfalso; omega)); (try simp (disch := omega) only [push_cast, seval, hk1]))) | ((with_reducible show pcall _ _ _ _ _ _); (first | (refine pcV (cf Try.func8) (c0) ?_) | (refine pcF (cf Try.func11) (cx) ?_) | (refine pcF (cf Try.func11) (cy) ?_)); (try simp (disch := omega) only [push_cast, seval, hk1])) | ((with_reducible refine And.intro ?_ ?_); omega))
  all_goals (try (exfalso; omega))
  refine Mk.of ?_
  repeat' (first | with_reducible (first | refine wB ?_ | refine wC ?_) | with_reducible (first | refine wq1 ?_ | refine wq3 ?_) | ((with_reducible refine hK _ ?_); clear hK K) | ((with_reducible refine pops_plain fun K hK => ?_); simp (disch := omega) only [push_cast, seval]))
  refine PWp.loopK (α := Nat) (fun i => [(5, .ptr 0 0), (7, .ptr 1 0), (9, .val (.int .i64 (i : Int)))]) [0, 1, 2, 3, 4, 6, 8, 10, 11, 12, 13, 14, 15, 16, 17, 18, 19, 20, 21, 22, 23, 24, 25, 26, 27, 28, 29, 30, 31, 32, 33, 34, 35, 36, 37, 38, 39, 40, 41, 42, 43, 44, 45, 46, 47, 48, 49, 50, 51, 52, 53, 54, 55, 56, 57, 58, 59, 60, 61, 62, 63, 64, 65, 66, 67, 68, 69, 70, 71, 72, 73, 74, 75, 76, 77, 78, 79, 80, 81, 82, 83, 84, 85, 86, 87, 88, 89, 90, 91, 92, 93, 94, 95, 96, 97, 98, 99, 100, 101, 102, 103, 104, 105, 106] (fun i => [some (.box (pNet ⟨N, P⟩)), some (.box (pNet ⟨N', P'⟩))]) (fun i => i ≤ 3) (fun i => 3 - i) (0) (Nat.zero_le _) (by exact fitA [_, _]) ?_
  intro i ρ hI
  (try dsimp only at hI)
  refine PWp.at (tm' := ?_) (H' := ?_) ?_ ?_ ?_; rotate_left 2; (· ((try simp only [push_cast, seval]); exact rfl)); (· ((try dsimp only); exact rfl))
  by_cases hlt : i < 3
  · obtain ⟨u, hu⟩ : ∃ u, N[i]? = some u := ⟨_, List.getElem?_eq_getElem (by omega)⟩
    obtain ⟨v, hv, q1, q2, q3⟩ := hnl i u hu
    obtain ⟨n1, n2, n3, n4, n5, n6, n7, n8, n9, nl⟩ := u
    obtain ⟨m1, m2, m3, m4, m5, m6, m7, m8, m9, ml⟩ := v
    dsimp only at q1 q2 q3
    have g1 : ¬ n2 > m2 := by omega
    have g2 : ¬ n5 > m5 := by omega
    by_cases h9 : 0 < n9
    · have e9 := q3 h9
      subst m9
      repeat' (first | with_reducible (first | refine wA ?_ | refine wB ?_ | refine wC ?_) | with_reducible refine PWp.draw (id := 14) okP true [0, 1, 2, 3, 4, 5, 6, 7, 8, 9, 10, 11, 12, 13, 14, 15, 16, 17, 18, 19, 20, 21, 22, 23, 24, 25, 26, 27, 28, 29, 30, 31, 32, 33, 34, 35, 36, 37, 38, 39, 40, 41, 42, 43, 44, 45, 46, 47, 48, 49, 50, 51] (by kernel_rfl) ?_ | with_reducible (first | refine wq1 ?_ | refine wq2 ?_ | refine wq3 ?_ | refine wq4 ?_ | refine wS ?_) | ((with_reducible refine hK _ ?_); clear hK K) | ((with_reducible refine PWp.condI ?_); refine ⟨_, rfl, fun hg => ?_, fun hg => ?_⟩ <;> first | (exact absurd hg (by decide)) | ((try simp only [Bool.not_true, Bool.not_false] at hg); (try simp only [hg]); (try simp only [push_cast] at hg); (try exact absurd trivial hg); (try (exfalso; omega)))) | ((with_reducible refine pany_I ?_); refine ⟨_, rfl, fun K hK => ?_⟩) | ((with_reducible refine pops_plain fun K hK => ?_); simp (disch := omega) only [push_cast, seval, hu, hv, g1, g2, h9]) | ((((with_reducible refine pD_y ?_ ?_); exact rfl)); simp (disch := omega) only [push_cast, seval, hu, hv, g1, g2, h9]) | ((((first | ((with_reducible refine pD_gy ?_ ?_); exact rfl) | ((with_reducible refine pD_gx ?_ ?_); exact rfl)); refine ⟨_, rfl, _, rfl, fun hg => ?_, fun hg => ?_⟩)) <;> first | (exact absurd hg (by decide)) | ((try simp only [Bool.not_true, Bool.not_false] at hg); (try simp only [hg]); (try simp only [push_cast] at hg); (try exact absurd trivial hg); (try (exfalso; omega)); (try simp (disch := omega) only [push_cast, seval, hu, hv, g1, g2, h9]))) | ((with_reducible refine And.intro ?_ ?_); omega))
      all_goals
        (refine ⟨i + 1, by ((try dsimp only); omega), ?_, by exact fitA [_, _]⟩)
        exact hlt
    ·
      repeat' (first | with_reducible (first | refine wA ?_ | refine wB ?_ | refine wC ?_) | with_reducible refine PWp.draw (id := 14) okP true [0, 1, 2, 3, 4, 5, 6, 7, 8, 9, 10, 11, 12, 13, 14, 15, 16, 17, 18, 19, 20, 21, 22, 23, 24, 25, 26, 27, 28, 29, 30, 31, 32, 33, 34, 35, 36, 37, 38, 39, 40, 41, 42, 43, 44, 45, 46, 47, 48, 49, 50, 51] (by kernel_rfl) ?_ | with_reducible (first | refine wq1 ?_ | refine wq2 ?_ | refine wq3 ?_ | refine wq4 ?_ | refine wS ?_) | ((with_reducible refine hK _ ?_); clear hK K) | ((with_reducible refine PWp.condI ?_); refine ⟨_, rfl, fun hg => ?_, fun hg => ?_⟩ <;> first | (exact absurd hg (by decide)) | ((try simp only [Bool.not_true, Bool.not_false] at hg); (try simp only [hg]); (try simp only [push_cast] at hg); (try exact absurd trivial hg); (try (exfalso; omega)))) | ((with_reducible refine pany_I ?_); refine ⟨_, rfl, fun K hK => ?_⟩) | ((with_reducible refine pops_plain fun K hK => ?_); simp (disch := omega) only [push_cast, seval, hu, hv, g1, g2, h9]) | ((((with_reducible refine pD_y ?_ ?_); exact rfl)); simp (disch := omega) only [push_cast, seval, hu, hv, g1, g2, h9]) | ((((first | ((with_reducible refine pD_gy ?_ ?_); exact rfl) | ((with_reducible refine pD_gx ?_ ?_); exact rfl)); refine ⟨_, rfl, _, rfl, fun hg => ?_, fun hg => ?_⟩)) <;> first | (exact absurd hg (by decide)) | ((try simp only [Bool.not_true, Bool.not_false] at hg); (try simp only [hg]); (try simp only [push_cast] at hg); (try exact absurd trivial hg); (try (exfalso; omega)); (try simp (disch := omega) only [push_cast, seval, hu, hv, g1, g2, h9]))) | ((with_reducible refine And.intro ?_ ?_); omega))
      all_goals
        (refine ⟨i + 1, by ((try dsimp only); omega), ?_, by exact fitA [_, _]⟩)
        exact hlt
  obtain rfl : i = 3 := by omega
  have hpl : (P.length : Int) ≤ (P'.length : Int) := by rw [hU, List.length_append]; omega
  have cs : PCalls Try.prog 12 [.sl 5 (P.map pNMsg), .sl 5 ((P'.map pNMsg).take (P.length - 0))] [] (RV (.val (.bool true))) := by
    rw [hU, List.map_append, Nat.sub_zero, List.take_left' (by simp)]
    exact sameMsgs_p P (by omega)
  repeat' (first | with_reducible (first | refine wA ?_ | refine wC ?_) | with_reducible refine PWp.draw (id := 16) okP true [0, 1, 2, 3, 4, 5, 6, 7, 8, 9, 10, 11, 12, 13, 14, 15, 16, 17, 18] (by kernel_rfl) ?_ | with_reducible (first | refine wq1 ?_ | refine wq2 ?_ | refine wq3 ?_ | refine wq7 ?_ | refine wq8 ?_ | refine wq9 ?_ | refine wE ?_) | ((with_reducible refine hK _ ?_); clear hK K) | ((with_reducible refine PWp.condI ?_); refine ⟨_, rfl, fun hg => ?_, fun hg => ?_⟩ <;> first | (exact absurd hg (by decide)) | ((try simp only [Bool.not_true, Bool.not_false] at hg); (try simp only [hg]); (try simp only [push_cast] at hg); (try exact absurd trivial hg); (try (exfalso; omega)))) | ((with_reducible refine pany_I ?_); refine ⟨_, rfl, fun K hK => ?_⟩) | ((with_reducible refine pops_plain fun K hK => ?_); simp (disch := omega) only [push_cast, seval, hpl]) | ((((with_reducible refine pD_y ?_ ?_); exact rfl)); simp (disch := omega) only [push_cast, seval, hpl]) | ((((first | ((with_reducible refine pD_gy ?_ ?_); exact rfl) | ((with_reducible refine pD_gx ?_ ?_); exact rfl)); refine ⟨_, rfl, _, rfl, fun hg => ?_, fun hg => ?_⟩)) <;> first | (exact absurd hg (by decide)) | ((try simp only [Bool.not_true, Bool.not_false] at hg); (try simp only [hg]); (try simp only [push_cast] at hg); (try exact absurd trivial hg); (try (exfalso; omega)); (try simp (disch := omega) only [push_cast, seval, hpl]))) | ((with_reducible show pcall _ _ _ _ _ _); ((refine pcV (cf Try.func12) (cs) ?_)); (try simp (disch := omega) only [push_cast, seval, hpl])) | ((with_reducible refine And.intro ?_ ?_); omega))
  ((with_reducible show PPostR _ _ _ _ _ _); refine finV ?_; (try simp only [push_cast, seval]))
end Go.Proofs.Ytcbknmnlgoeniaa
-- @LAWOLD
namespace Go.Proofs.Ytcbknmnlgoeniaa
set_option linter.unusedSimpArgs false
set_option linter.unusedVariables false
open Go.RowKit Go.ChangeShapes Go.WideShapes Go.ChangeAt
theorem globW_none (w : World) : GlobW w := fun i n q => by simp [globL] at q
set_option maxRecDepth 100000 in
theorem fnForever_args {H : Type} {enc : TypeId × Value → H} (W : World) (base : Nat) (args : Array Value) (ds : List (DataW H)) (p : List MemPlace)
    (hval : ∀ (j : Nat) t v, #[22][j]? = some t → args[j]? = some v → Value.okWide Try.prog W .any base t v)
    (hA : DataW.TrodAll enc Try.prog W 0 (fun _ => true) true #[22].toList args.toList ds p) :
    Calls Try.prog 4 args W fun e W' => e = .returned (.bool true) ∧ Ext W W' := code_law fnForever_p W base args ds p (globW_none W) hval hA
set_option maxRecDepth 100000 in
theorem fnForever_lifted (os : Os) (started : os.Started) (H : Type) (enc : TypeId × Value → H) :
    ReturnsInHanded {} Try.checked os 4 .any (Rows.fnForeverSpec.pre6 enc Try.prog Try.f4 Rows.fnForeverRow.domain false) (Rows.fnForeverSpec.post enc Try.prog Try.f4 false true false false) := by
  refine returnsInHanded_of_change (C := Try.checked) (by kernel_rfl) started (by kernel_rfl) Try.func4
    (ChangeSpec.witness6 (enc := enc) (C := Try.checked) false ⟨#[], #[.slice none 0 0], []⟩ 8 (by kernel_rfl) (by kernel_rfl) (by kernel_rfl) (by kernel_rfl)) ?_
  intro W base args ds gs before hval hW _ _
  refine law_post rfl (by kernel_rfl) Try.underlying4 (by kernel_rfl) (by kernel_rfl) (by intro ds hl; match ds, hl with | [d0], _ => exact ⟨rfl, rfl, rfl⟩) hW ?_
  obtain ⟨p, q, hA, _⟩ := hW
  have hA' : DataW.TrodAll enc Try.prog W 0 (fun _ => true) true Try.f4.params.toList args.toList ds p := hA
  have hval' : ∀ (j : Nat) t v, Try.f4.params[j]? = some t → args[j]? = some v → Value.okWide Try.prog W .any base t v := hval
  rw [Try.params4] at hA' hval'
  exact fnForever_args W base args ds p hval' hA'
theorem fnForever_holds : Rows.FnForeverSaid :=
  OpenClaim.holds_of_wide 4 Try.f4 rfl rfl rfl rfl rfl rfl rfl ⟨rfl, rfl, rfl, rfl, rfl⟩ rfl rfl rfl rfl rfl (by kernel_rfl) Try.func4 (by kernel_rfl)
    (of_decide_eq_true (by kernel_rfl)) (by unfold Func.isWrapper; rw [if_neg (of_decide_eq_false (by kernel_rfl))]; exact ⟨rfl, rfl⟩)
    (fun os started H enc _ => fnForever_lifted os started H enc)
#print axioms fnForever_holds
end Go.Proofs.Ytcbknmnlgoeniaa
