/- Walks on the pure machine: impl.Fixed. -/
import Derived.Test.YtmdjnohdkhepjaaDoorK1
import Derived.Test.YtmdjnohdkhepjaaDoorS1
namespace Go.Proofs.YtmdjnohdkhepjaaDoor
set_option linter.unusedSimpArgs false
set_option linter.unusedVariables false
open Go.RowKit
set_option maxRecDepth 100000

theorem fxR_rows {n w j : Nat} : (fxR n w j).length = w := by simp [fxR]
theorem u8_ofNat {x : Int} {m : Nat} (h : x = ((m : Nat) : Int)) : PV.val (.int .u8 (x % 256)) = PV.val (.int .u8 ((UInt8.ofNat m).toNat : Nat)) := by
  congr 2
  subst h
  simp
set_option maxHeartbeats 4000000 in
theorem iFixed_p (n w : Nat) (hw : 1 ≤ w) (hw7 : w ≤ 7) (hn : n < 2 ^ (8 * w)) : PCalls Tryd.prog 80 [.val (.int .i64 (n : Int)), .val (.int .i64 (w : Int))] [] (RV (.val (.string (fx n w)))) := by
  have h56 : (2 : Nat) ^ (8 * w) ≤ 2 ^ 56 := Nat.pow_le_pow_right (by omega) (by omega)
  have hin : inB (w : Int) 1 7 = true := by simp [inB]; omega
  have e0 : (8 * (w : Int)).toNat = 8 * w := by omega
  have e1 : min (8 * w) 64 = 8 * w := by omega
  have e2 : ((2 : Int) ^ (8 * w)) = ((2 ^ (8 * w) : Nat) : Int) := by simp
  have e3 : IntKind.i64.wrap (1 * 2 ^ (8 * w)) = ((2 ^ (8 * w) : Nat) : Int) := by rw [Int.one_mul, e2, wr64] <;> omega
  generalize 2 ^ (8 * w) = B at *
  refine pcalls_ofR okP Tryd.func80 rfl ?_
  simp only [Tryd.f80, List.length_cons, List.length_nil, Nat.reduceAdd, Nat.reduceSub, List.replicate_succ, List.replicate_zero, List.cons_append, List.nil_append, List.length_map]
  repeat' (first | with_reducible refine PWp.seq ?_ | with_reducible refine PWp.block ?_ | with_reducible refine PWp.region okP true ?_ | with_reducible (first | refine pops_nil ?_ | refine pany_nil ?_ | refine pthen_normal ?_ | refine pblock_normal ?_ | refine pthen_ret ?_ | refine pblock_ret ?_ | refine pthen_exit ?_ | refine pblock_here ?_ | refine pblock_there rfl ?_ | refine PWp.ret ?_ | refine PWp.exit ?_ | refine PWp.skip ?_) | ((with_reducible refine hK _ ?_); clear hK K) | ((with_reducible refine PWp.condI ?_); refine ⟨_, rfl, fun hg => ?_, fun hg => ?_⟩ <;> first | (exact absurd hg (by decide)) | ((try simp only [Bool.not_true, Bool.not_false] at hg); (try simp only [hg]); (try simp only [push_cast] at hg); (try exact absurd trivial hg); (try (exfalso; omega)))) | ((with_reducible refine pops_guard0 ?_); refine ⟨_, rfl, fun K hK => ⟨rfl, ?_⟩⟩; (try simp (disch := omega) only [push_cast, seval, hin, e0, e1, e3])) | ((with_reducible refine pops_plain fun K hK => ?_); simp (disch := omega) only [push_cast, seval, hin, e0, e1, e3]) | ((with_reducible refine pops_guard ?_); refine ⟨_, rfl, fun K hK => ⟨_, rfl, fun hg => ?_, fun hg => ?_⟩⟩ <;> first | (exact absurd hg (by decide)) | ((try simp only [Bool.not_true, Bool.not_false] at hg); (try simp only [hg]); (try simp only [push_cast] at hg); (try exact absurd trivial hg); (try (exfalso; omega)); (try simp (disch := omega) only [push_cast, seval, hin, e0, e1, e3]))) | ((with_reducible show pcall _ _ _ _ _ _); (first | (refine pcV (g := 26) (callable_of Tryd.func26 rfl rfl) (within_p _ _ _) ?_)); (try simp (disch := omega) only [push_cast, seval, hin, e0, e1, e3])) | ((with_reducible refine And.intro ?_ ?_); omega))
  have hset : True := trivial
  refine PWp.loopK (α := Nat × Nat) (fun x => match x with | (j, m) => [(0, .val (.int .i64 (m : Int))), (5, .own 0), (6, .val (.int .i64 ((w : Int) - 1 - (j : Int))))]) [1, 2, 3, 7, 8, 9, 10, 11, 12, 13, 14, 15, 16, 17, 18, 19, 20, 21, 22, 23, 24, 25, 26, 27, 28, 29, 30, 31, 32, 33, 34, 35, 36] (fun x => match x with | (j, m) => [some (.row 5 1 ((fxR n w j).map pU8))]) (fun x => match x with | (j, m) => j ≤ w ∧ m = n / 256 ^ j) (fun x => match x with | (j, m) => w - j) ((0, n)) (⟨Nat.zero_le _, by simp⟩) (by (refine ⟨[?_], ?_, ?_, ?_, ?_⟩; rotate_left 1; (· ((try simp (disch := omega) only [push_cast, seval, fxR_zero, List.map_replicate, pU8, hset]); (repeat' (first | exact trivial | exact rfl | refine And.intro ?_ ?_ | omega)))); (· ((try simp (disch := omega) only [push_cast, seval, fxR_zero, List.map_replicate, pU8, hset]); (repeat' (first | exact trivial | exact rfl | refine And.intro ?_ ?_ | omega)))); (· exact rfl); (· (first | exact trivial | exact ⟨rfl, trivial⟩ | exact ⟨rfl, rfl, trivial⟩)))) ?_
  intro x ρ hI; obtain ⟨j, m⟩ := x
  (try dsimp only at hI)
  refine PWp.at (tm' := ?_) (H' := ?_) ?_ ?_ ?_; rotate_left 2; (· ((try simp only [push_cast, seval]); exact rfl)); (· ((try dsimp only); exact rfl))
  obtain ⟨hj, hm⟩ := hI
  clear hset
  have hmn : m ≤ n := by subst hm; exact Nat.div_le_self _ _
  by_cases hlt : j < w
  · have e5 : ((w : Int) - 1 - (j : Int)).toNat = w - 1 - j := by omega
    have hg0 : (fxR n w j)[w - 1 - j]? = some 0 := by
      unfold fxR
      rw [List.getElem?_map, List.getElem?_range (by omega)]
      simp only [Option.map_some]
      rw [if_neg (by omega)]
    have hset : ((fxR n w j).map pU8).set (w - 1 - j) [PV.val (.int .u8 ((m : Int) % 256 % 256))] = (fxR n w (j + 1)).map pU8 := by
      rw [← fxR_set n w j hlt, List.map_set]
      congr 1
      rw [pU8, ← hm]
      congr 3
      simp
    repeat' (first | with_reducible refine PWp.seq ?_ | with_reducible refine PWp.block ?_ | with_reducible refine PWp.region okP true ?_ | with_reducible (first | refine pops_nil ?_ | refine pany_nil ?_ | refine pthen_normal ?_ | refine pblock_normal ?_ | refine pthen_ret ?_ | refine pblock_ret ?_ | refine pthen_exit ?_ | refine pblock_here ?_ | refine pblock_there rfl ?_ | refine PWp.ret ?_ | refine PWp.exit ?_ | refine PWp.skip ?_) | ((with_reducible refine hK _ ?_); clear hK K) | ((with_reducible refine PWp.condI ?_); refine ⟨_, rfl, fun hg => ?_, fun hg => ?_⟩ <;> first | (exact absurd hg (by decide)) | ((try simp only [Bool.not_true, Bool.not_false] at hg); (try simp only [hg]); (try simp only [push_cast] at hg); (try exact absurd trivial hg); (try (exfalso; omega)))) | ((with_reducible refine pops_guard0 ?_); refine ⟨_, rfl, fun K hK => ⟨rfl, ?_⟩⟩; (try simp (disch := omega) only [push_cast, seval, e5, hg0, pU8, fxR_rows])) | ((with_reducible refine pops_plain fun K hK => ?_); simp (disch := omega) only [push_cast, seval, e5, hg0, pU8, fxR_rows]) | ((with_reducible refine pops_guard ?_); refine ⟨_, rfl, fun K hK => ⟨_, rfl, fun hg => ?_, fun hg => ?_⟩⟩ <;> first | (exact absurd hg (by decide)) | ((try simp only [Bool.not_true, Bool.not_false] at hg); (try simp only [hg]); (try simp only [push_cast] at hg); (try exact absurd trivial hg); (try (exfalso; omega)); (try simp (disch := omega) only [push_cast, seval, e5, hg0, pU8, fxR_rows]))) | ((with_reducible show pcall _ _ _ _ _ _); (first | (refine pcV (g := 26) (callable_of Tryd.func26 rfl rfl) (within_p _ _ _) ?_)); (try simp (disch := omega) only [push_cast, seval, e5, hg0, pU8, fxR_rows])) | ((with_reducible refine And.intro ?_ ?_); omega))
    (refine ⟨(j + 1, m / 256), by ((try dsimp only); omega), ?_, by (refine ⟨[?_], ?_, ?_, ?_, ?_⟩; rotate_left 1; (· ((try simp (disch := omega) only [push_cast, seval, fxR_zero, List.map_replicate, pU8, hset]); (repeat' (first | exact trivial | exact rfl | refine And.intro ?_ ?_ | omega)))); (· ((try simp (disch := omega) only [push_cast, seval, fxR_zero, List.map_replicate, pU8, hset]); (repeat' (first | exact trivial | exact rfl | refine And.intro ?_ ?_ | omega)))); (· exact rfl); (· (first | exact trivial | exact ⟨rfl, trivial⟩ | exact ⟨rfl, rfl, trivial⟩)))⟩)
    exact ⟨by omega, by rw [hm, Nat.div_div_eq_div_mul, Nat.pow_succ]⟩
  · obtain rfl : j = w := by omega
    repeat' (first | with_reducible refine PWp.seq ?_ | with_reducible refine PWp.block ?_ | with_reducible refine PWp.region okP true ?_ | with_reducible (first | refine pops_nil ?_ | refine pany_nil ?_ | refine pthen_normal ?_ | refine pblock_normal ?_ | refine pthen_ret ?_ | refine pblock_ret ?_ | refine pthen_exit ?_ | refine pblock_here ?_ | refine pblock_there rfl ?_ | refine PWp.ret ?_ | refine PWp.exit ?_ | refine PWp.skip ?_) | ((with_reducible refine hK _ ?_); clear hK K) | ((with_reducible refine PWp.condI ?_); refine ⟨_, rfl, fun hg => ?_, fun hg => ?_⟩ <;> first | (exact absurd hg (by decide)) | ((try simp only [Bool.not_true, Bool.not_false] at hg); (try simp only [hg]); (try simp only [push_cast] at hg); (try exact absurd trivial hg); (try (exfalso; omega)))) | ((with_reducible refine pops_guard0 ?_); refine ⟨_, rfl, fun K hK => ⟨rfl, ?_⟩⟩; (try simp (disch := omega) only [push_cast, seval])) | ((with_reducible refine pops_plain fun K hK => ?_); simp (disch := omega) only [push_cast, seval]) | ((with_reducible refine pops_guard ?_); refine ⟨_, rfl, fun K hK => ⟨_, rfl, fun hg => ?_, fun hg => ?_⟩⟩ <;> first | (exact absurd hg (by decide)) | ((try simp only [Bool.not_true, Bool.not_false] at hg); (try simp only [hg]); (try simp only [push_cast] at hg); (try exact absurd trivial hg); (try (exfalso; omega)); (try simp (disch := omega) only [push_cast, seval]))) | ((with_reducible show pcall _ _ _ _ _ _); (first | (refine pcV (g := 26) (callable_of Tryd.func26 rfl rfl) (within_p _ _ _) ?_)); (try simp (disch := omega) only [push_cast, seval])) | ((with_reducible refine And.intro ?_ ?_); omega))
    ((first | with_reducible (first | refine pendV1 ?_ ?_ ?_ | refine pendV2 ?_ ?_ ?_ | refine pendV3 ?_ ?_ ?_ | refine pendV0 ?_ ?_ ?_) | refine pendVG ?_ ?_ ?_); (· (first | exact .inl rfl | exact .inr rfl)); rotate_left 1; (· exact rfl); (try (apply Exists.intro; apply And.intro; (· repeat' (first | exact presults_nil | apply presults_tmp | (apply presults_agg; (· exact rfl); (· exact rfl); (· exact rfl); (· exact rfl); (· exact rfl); (· first | exact Nat.le_refl _ | decide | simp)) | (apply presults_one; (· exact rfl); (· exact rfl); (· exact rfl); (· exact rfl); (· exact rfl)))))); (try simp only [push_cast, seval]))
    rw [fx, fxR_end]
end Go.Proofs.YtmdjnohdkhepjaaDoor
