/- Walks on the pure machine: bytes of a law's code. -/
import Derived.Test.YtcbknmnlgoeniaaK1
namespace Go.Proofs.Ytcbknmnlgoeniaa
set_option linter.unusedSimpArgs false
set_option linter.unusedVariables false
open Go.RowKit
set_option maxRecDepth 100000

theorem u8_byte {b : UInt8} : ([PV.val (.int .u8 (b.toNat : Int))] : List PV) = pU8 b := rfl
def atC (code : List UInt8) (i : Nat) : Nat := match code[i]? with | some b => b.toNat | none => (i * 37 + code.length * 11) % 256
theorem atC_lt (code : List UInt8) (i : Nat) : atC code i < 256 := by
  unfold atC
  split
  · rename_i b _; exact b.toNat_lt
  · omega
theorem big_p (code : List UInt8) (h : code.length ≤ 9223372036854775807) : PCalls Try.prog 5 [.sl 1 (code.map pU8)] [] (RV (.val (.bool (decide (1048576 < code.length))))) := by
  refine pcalls_ofR okP Try.func5 rfl ?_
  simp only [Try.f5, List.length_cons, List.length_nil, Nat.reduceAdd, Nat.reduceSub, List.replicate_succ, List.replicate_zero, List.cons_append, List.nil_append, List.length_map]
  repeat' (first | with_reducible refine PWp.seq ?_ | with_reducible refine PWp.block ?_ | with_reducible refine PWp.region okP true ?_ | with_reducible (first | refine pops_nil ?_ | refine pany_nil ?_ | refine pthen_normal ?_ | refine pblock_normal ?_ | refine pthen_ret ?_ | refine pblock_ret ?_ | refine pthen_exit ?_ | refine pblock_here ?_ | refine pblock_there rfl ?_ | refine PWp.ret ?_ | refine PWp.exit ?_ | refine PWp.skip ?_) | ((with_reducible refine hK _ ?_); clear hK K) | ((with_reducible refine pops_plain fun K hK => ?_); simp (disch := omega) only [push_cast, seval]) | ((with_reducible refine And.intro ?_ ?_); omega))
  ((first | with_reducible (first | refine pendV1 ?_ ?_ ?_ | refine pendV2 ?_ ?_ ?_ | refine pendV3 ?_ ?_ ?_ | refine pendV0 ?_ ?_ ?_) | refine pendVG ?_ ?_ ?_); (· (first | exact .inl rfl | exact .inr rfl)); rotate_left 1; (· exact rfl); (try (apply Exists.intro; apply And.intro; (· repeat' (first | exact presults_nil | apply presults_tmp | (apply presults_agg; (· exact rfl); (· exact rfl); (· exact rfl); (· exact rfl); (· exact rfl); (· first | exact Nat.le_refl _ | decide | simp)) | (apply presults_one; (· exact rfl); (· exact rfl); (· exact rfl); (· exact rfl); (· exact rfl)))))); (try simp only [push_cast, seval]))
  simp
  omega
set_option maxHeartbeats 4000000 in
theorem at_p (code : List UInt8) (i : Nat) (hi : i ≤ 1048576) (hc : code.length ≤ 1048576) : PCalls Try.prog 8 [.sl 1 (code.map pU8), .val (.int .i64 (i : Int))] [] (RV (.val (.int .i64 ((atC code i : Nat) : Int)))) := by
  refine pcalls_ofR okP Try.func8 rfl ?_
  simp only [Try.f8, List.length_cons, List.length_nil, Nat.reduceAdd, Nat.reduceSub, List.replicate_succ, List.replicate_zero, List.cons_append, List.nil_append, List.length_map]
  by_cases hlt : i < code.length
  · obtain ⟨b, hb⟩ : ∃ b, code[i]? = some b := ⟨_, List.getElem?_eq_getElem hlt⟩
    have e : atC code i = b.toNat := by unfold atC; rw [hb]
    have hb8 := b.toNat_lt
    repeat' (first | with_reducible refine PWp.seq ?_ | with_reducible refine PWp.block ?_ | with_reducible refine PWp.region okP true ?_ | with_reducible (first | refine pops_nil ?_ | refine pany_nil ?_ | refine pthen_normal ?_ | refine pblock_normal ?_ | refine pthen_ret ?_ | refine pblock_ret ?_ | refine pthen_exit ?_ | refine pblock_here ?_ | refine pblock_there rfl ?_ | refine PWp.ret ?_ | refine PWp.exit ?_ | refine PWp.skip ?_) | ((with_reducible refine hK _ ?_); clear hK K) | ((with_reducible refine PWp.condI ?_); refine ⟨_, rfl, fun hg => ?_, fun hg => ?_⟩ <;> first | (exact absurd hg (by decide)) | ((try simp only [Bool.not_true, Bool.not_false] at hg); (try simp only [hg]); (try simp only [push_cast] at hg); (try exact absurd trivial hg); (try (exfalso; omega)))) | ((with_reducible refine pops_plain fun K hK => ?_); simp (disch := omega) only [push_cast, seval, hb, pU8]) | ((with_reducible refine And.intro ?_ ?_); omega))
    ((first | with_reducible (first | refine pendV1 ?_ ?_ ?_ | refine pendV2 ?_ ?_ ?_ | refine pendV3 ?_ ?_ ?_ | refine pendV0 ?_ ?_ ?_) | refine pendVG ?_ ?_ ?_); (· (first | exact .inl rfl | exact .inr rfl)); rotate_left 1; (· exact rfl); (try (apply Exists.intro; apply And.intro; (· repeat' (first | exact presults_nil | apply presults_tmp | (apply presults_agg; (· exact rfl); (· exact rfl); (· exact rfl); (· exact rfl); (· exact rfl); (· first | exact Nat.le_refl _ | decide | simp)) | (apply presults_one; (· exact rfl); (· exact rfl); (· exact rfl); (· exact rfl); (· exact rfl)))))); (try simp only [push_cast, seval]))
    rw [e]
  · have e : atC code i = (i * 37 + code.length * 11) % 256 := by unfold atC; rw [List.getElem?_eq_none (by omega)]
    repeat' (first | with_reducible refine PWp.seq ?_ | with_reducible refine PWp.block ?_ | with_reducible refine PWp.region okP true ?_ | with_reducible (first | refine pops_nil ?_ | refine pany_nil ?_ | refine pthen_normal ?_ | refine pblock_normal ?_ | refine pthen_ret ?_ | refine pblock_ret ?_ | refine pthen_exit ?_ | refine pblock_here ?_ | refine pblock_there rfl ?_ | refine PWp.ret ?_ | refine PWp.exit ?_ | refine PWp.skip ?_) | ((with_reducible refine hK _ ?_); clear hK K) | ((with_reducible refine PWp.condI ?_); refine ⟨_, rfl, fun hg => ?_, fun hg => ?_⟩ <;> first | (exact absurd hg (by decide)) | ((try simp only [Bool.not_true, Bool.not_false] at hg); (try simp only [hg]); (try simp only [push_cast] at hg); (try exact absurd trivial hg); (try (exfalso; omega)))) | ((with_reducible refine pops_plain fun K hK => ?_); simp (disch := omega) only [push_cast, seval]) | ((with_reducible refine And.intro ?_ ?_); omega))
    ((first | with_reducible (first | refine pendV1 ?_ ?_ ?_ | refine pendV2 ?_ ?_ ?_ | refine pendV3 ?_ ?_ ?_ | refine pendV0 ?_ ?_ ?_) | refine pendVG ?_ ?_ ?_); (· (first | exact .inl rfl | exact .inr rfl)); rotate_left 1; (· exact rfl); (try (apply Exists.intro; apply And.intro; (· repeat' (first | exact presults_nil | apply presults_tmp | (apply presults_agg; (· exact rfl); (· exact rfl); (· exact rfl); (· exact rfl); (· exact rfl); (· first | exact Nat.le_refl _ | decide | simp)) | (apply presults_one; (· exact rfl); (· exact rfl); (· exact rfl); (· exact rfl); (· exact rfl)))))); (try simp only [push_cast, seval]))
    rw [e]
    omega
end Go.Proofs.Ytcbknmnlgoeniaa
