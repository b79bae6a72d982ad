/- Walks on the pure machine: draws of texts. -/
import Derived.Test.YtkbikihbomnghaaPd
namespace Go.Proofs.Ytkbikihbomnghaa
set_option linter.unusedSimpArgs false
set_option linter.unusedVariables false
open Go.RowKit
set_option maxRecDepth 100000

theorem u8_byte {b : UInt8} : ([PV.val (.int .u8 (b.toNat : Int))] : List PV) = pU8 b := rfl
def atC (code : List UInt8) (i : Nat) : Nat := match code[i]? with | some b => b.toNat | none => (i * 37 + code.length * 11) % 256
theorem atC_lt (code : List UInt8) (i : Nat) : atC code i < 256 := by
  unfold atC
  split
  · rename_i b _; exact b.toNat_lt
  · omega
theorem big_p (code : List UInt8) (h : code.length ≤ 9223372036854775807) : PCalls Try.prog 21 [.sl 1 (code.map pU8)] [] (RV (.val (.bool (decide (1048576 < code.length))))) := by
  refine pcalls_ofR okP Try.func21 rfl ?_
  simp only [Try.f21, List.length_cons, List.length_nil, Nat.reduceAdd, Nat.reduceSub, List.replicate_succ, List.replicate_zero, List.cons_append, List.nil_append, List.length_map]
  repeat' (first
      | with_reducible refine PWp.seq ?_
      | with_reducible refine PWp.block ?_
      | with_reducible refine PWp.region okP true ?_
      | with_reducible (first | refine pops_nil ?_ | refine pany_nil ?_ | refine pthen_normal ?_ | refine pblock_normal ?_ | refine pthen_ret ?_ | refine pblock_ret ?_ | refine pthen_exit ?_ | refine pblock_here ?_ | refine pblock_there rfl ?_ | refine PWp.ret ?_ | refine PWp.exit ?_ | refine PWp.skip ?_)
      | ((with_reducible refine hK _ ?_); clear hK K)
      | ((with_reducible refine PWp.condI ?_); refine ⟨_, rfl, fun hg => ?_, fun hg => ?_⟩ <;> first | (exact absurd hg (by decide)) | ((try simp only [Bool.not_true, Bool.not_false] at hg); (try simp only [hg]); (try simp only [push_cast] at hg); (try (exfalso; omega))))
      | ((first | ((with_reducible refine pops_guard0 ?_); refine ⟨_, rfl, fun K hK => ⟨rfl, ?_⟩⟩) | ((with_reducible refine pD_g0 ?_); refine ⟨_, rfl, rfl, ?_⟩)); (try simp (disch := omega) only [push_cast, seval]))
      | ((with_reducible refine pany_I ?_); refine ⟨_, rfl, fun K hK => ?_⟩)
      | ((with_reducible refine pops_plain fun K hK => ?_); simp (disch := omega) only [push_cast, seval])
      | ((first | ((with_reducible refine pD_y ?_ ?_); exact rfl) | ((with_reducible refine pD_x ?_ ?_); exact rfl)); simp (disch := omega) only [push_cast, seval])
      | ((first | ((with_reducible refine pops_guard ?_); refine ⟨_, rfl, fun K hK => ⟨_, rfl, fun hg => ?_, fun hg => ?_⟩⟩) | ((first | ((with_reducible refine pD_gy ?_ ?_); exact rfl) | ((with_reducible refine pD_gx ?_ ?_); exact rfl)); refine ⟨_, rfl, _, rfl, fun hg => ?_, fun hg => ?_⟩)) <;> first | (exact absurd hg (by decide)) | ((try simp only [Bool.not_true, Bool.not_false] at hg); (try simp only [hg]); (try simp only [push_cast] at hg); (try (exfalso; omega)); (try simp (disch := omega) only [push_cast, seval])))
      | ((with_reducible refine And.intro ?_ ?_); omega))
  ((first | with_reducible (first | refine pendV1 ?_ ?_ ?_ | refine pendV2 ?_ ?_ ?_ | refine pendV3 ?_ ?_ ?_ | refine pendV0 ?_ ?_ ?_) | refine pendVG ?_ ?_ ?_); (· (first | exact .inl rfl | exact .inr rfl)); rotate_left 1; (· exact rfl); (try (apply Exists.intro; apply And.intro; (· repeat' (first | exact presults_nil | apply presults_tmp | (apply presults_agg; (· exact rfl); (· exact rfl); (· exact rfl); (· exact rfl); (· exact rfl); (· first | exact Nat.le_refl _ | decide | simp)) | (apply presults_one; (· exact rfl); (· exact rfl); (· exact rfl); (· exact rfl); (· exact rfl)))))); (try simp only [push_cast, seval]))
  simp
  omega
set_option maxHeartbeats 4000000 in
theorem at_p (code : List UInt8) (i : Nat) (hi : i ≤ 1048576) (hc : code.length ≤ 1048576) : PCalls Try.prog 22 [.sl 1 (code.map pU8), .val (.int .i64 (i : Int))] [] (RV (.val (.int .i64 ((atC code i : Nat) : Int)))) := by
  refine pcalls_ofR okP Try.func22 rfl ?_
  simp only [Try.f22, List.length_cons, List.length_nil, Nat.reduceAdd, Nat.reduceSub, List.replicate_succ, List.replicate_zero, List.cons_append, List.nil_append, List.length_map]
  by_cases hlt : i < code.length
  · obtain ⟨b, hb⟩ : ∃ b, code[i]? = some b := ⟨_, List.getElem?_eq_getElem hlt⟩
    have e : atC code i = b.toNat := by unfold atC; rw [hb]
    have hb8 := b.toNat_lt
    repeat' (first
        | with_reducible refine PWp.seq ?_
        | with_reducible refine PWp.block ?_
        | with_reducible refine PWp.region okP true ?_
        | with_reducible (first | refine pops_nil ?_ | refine pany_nil ?_ | refine pthen_normal ?_ | refine pblock_normal ?_ | refine pthen_ret ?_ | refine pblock_ret ?_ | refine pthen_exit ?_ | refine pblock_here ?_ | refine pblock_there rfl ?_ | refine PWp.ret ?_ | refine PWp.exit ?_ | refine PWp.skip ?_)
        | ((with_reducible refine hK _ ?_); clear hK K)
        | ((with_reducible refine PWp.condI ?_); refine ⟨_, rfl, fun hg => ?_, fun hg => ?_⟩ <;> first | (exact absurd hg (by decide)) | ((try simp only [Bool.not_true, Bool.not_false] at hg); (try simp only [hg]); (try simp only [push_cast] at hg); (try (exfalso; omega))))
        | ((first | ((with_reducible refine pops_guard0 ?_); refine ⟨_, rfl, fun K hK => ⟨rfl, ?_⟩⟩) | ((with_reducible refine pD_g0 ?_); refine ⟨_, rfl, rfl, ?_⟩)); (try simp (disch := omega) only [push_cast, seval, hb, pU8]))
        | ((with_reducible refine pany_I ?_); refine ⟨_, rfl, fun K hK => ?_⟩)
        | ((with_reducible refine pops_plain fun K hK => ?_); simp (disch := omega) only [push_cast, seval, hb, pU8])
        | ((first | ((with_reducible refine pD_y ?_ ?_); exact rfl) | ((with_reducible refine pD_x ?_ ?_); exact rfl)); simp (disch := omega) only [push_cast, seval, hb, pU8])
        | ((first | ((with_reducible refine pops_guard ?_); refine ⟨_, rfl, fun K hK => ⟨_, rfl, fun hg => ?_, fun hg => ?_⟩⟩) | ((first | ((with_reducible refine pD_gy ?_ ?_); exact rfl) | ((with_reducible refine pD_gx ?_ ?_); exact rfl)); refine ⟨_, rfl, _, rfl, fun hg => ?_, fun hg => ?_⟩)) <;> first | (exact absurd hg (by decide)) | ((try simp only [Bool.not_true, Bool.not_false] at hg); (try simp only [hg]); (try simp only [push_cast] at hg); (try (exfalso; omega)); (try simp (disch := omega) only [push_cast, seval, hb, pU8])))
        | ((with_reducible refine And.intro ?_ ?_); omega))
    ((first | with_reducible (first | refine pendV1 ?_ ?_ ?_ | refine pendV2 ?_ ?_ ?_ | refine pendV3 ?_ ?_ ?_ | refine pendV0 ?_ ?_ ?_) | refine pendVG ?_ ?_ ?_); (· (first | exact .inl rfl | exact .inr rfl)); rotate_left 1; (· exact rfl); (try (apply Exists.intro; apply And.intro; (· repeat' (first | exact presults_nil | apply presults_tmp | (apply presults_agg; (· exact rfl); (· exact rfl); (· exact rfl); (· exact rfl); (· exact rfl); (· first | exact Nat.le_refl _ | decide | simp)) | (apply presults_one; (· exact rfl); (· exact rfl); (· exact rfl); (· exact rfl); (· exact rfl)))))); (try simp only [push_cast, seval]))
    rw [e]
  · have e : atC code i = (i * 37 + code.length * 11) % 256 := by unfold atC; rw [List.getElem?_eq_none (by omega)]
    repeat' (first
        | with_reducible refine PWp.seq ?_
        | with_reducible refine PWp.block ?_
        | with_reducible refine PWp.region okP true ?_
        | with_reducible (first | refine pops_nil ?_ | refine pany_nil ?_ | refine pthen_normal ?_ | refine pblock_normal ?_ | refine pthen_ret ?_ | refine pblock_ret ?_ | refine pthen_exit ?_ | refine pblock_here ?_ | refine pblock_there rfl ?_ | refine PWp.ret ?_ | refine PWp.exit ?_ | refine PWp.skip ?_)
        | ((with_reducible refine hK _ ?_); clear hK K)
        | ((with_reducible refine PWp.condI ?_); refine ⟨_, rfl, fun hg => ?_, fun hg => ?_⟩ <;> first | (exact absurd hg (by decide)) | ((try simp only [Bool.not_true, Bool.not_false] at hg); (try simp only [hg]); (try simp only [push_cast] at hg); (try (exfalso; omega))))
        | ((first | ((with_reducible refine pops_guard0 ?_); refine ⟨_, rfl, fun K hK => ⟨rfl, ?_⟩⟩) | ((with_reducible refine pD_g0 ?_); refine ⟨_, rfl, rfl, ?_⟩)); (try simp (disch := omega) only [push_cast, seval]))
        | ((with_reducible refine pany_I ?_); refine ⟨_, rfl, fun K hK => ?_⟩)
        | ((with_reducible refine pops_plain fun K hK => ?_); simp (disch := omega) only [push_cast, seval])
        | ((first | ((with_reducible refine pD_y ?_ ?_); exact rfl) | ((with_reducible refine pD_x ?_ ?_); exact rfl)); simp (disch := omega) only [push_cast, seval])
        | ((first | ((with_reducible refine pops_guard ?_); refine ⟨_, rfl, fun K hK => ⟨_, rfl, fun hg => ?_, fun hg => ?_⟩⟩) | ((first | ((with_reducible refine pD_gy ?_ ?_); exact rfl) | ((with_reducible refine pD_gx ?_ ?_); exact rfl)); refine ⟨_, rfl, _, rfl, fun hg => ?_, fun hg => ?_⟩)) <;> first | (exact absurd hg (by decide)) | ((try simp only [Bool.not_true, Bool.not_false] at hg); (try simp only [hg]); (try simp only [push_cast] at hg); (try (exfalso; omega)); (try simp (disch := omega) only [push_cast, seval])))
        | ((with_reducible refine And.intro ?_ ?_); omega))
    ((first | with_reducible (first | refine pendV1 ?_ ?_ ?_ | refine pendV2 ?_ ?_ ?_ | refine pendV3 ?_ ?_ ?_ | refine pendV0 ?_ ?_ ?_) | refine pendVG ?_ ?_ ?_); (· (first | exact .inl rfl | exact .inr rfl)); rotate_left 1; (· exact rfl); (try (apply Exists.intro; apply And.intro; (· repeat' (first | exact presults_nil | apply presults_tmp | (apply presults_agg; (· exact rfl); (· exact rfl); (· exact rfl); (· exact rfl); (· exact rfl); (· first | exact Nat.le_refl _ | decide | simp)) | (apply presults_one; (· exact rfl); (· exact rfl); (· exact rfl); (· exact rfl); (· exact rfl)))))); (try simp only [push_cast, seval]))
    rw [e]
    omega
theorem sL1Once_p (c : Cur) (n : Int) (hn : n ≤ 9223372036854775807) : PCalls Try.prog 107 [.ptr 0 0, .val (.int .i64 n)] [some (.box (pCur c))] (RX (α := Bool × Cur) (fun x => .val (.bool x.1)) (fun x => [some (.box (pCur x.2))]) fun _ => True) := by
  refine pcalls_ofR okP Try.func107 rfl ?_
  simp only [Try.f107, List.length_cons, List.length_nil, Nat.reduceAdd, Nat.reduceSub, List.replicate_succ, List.replicate_zero, List.cons_append, List.nil_append, List.length_map]
  repeat' (first
      | with_reducible refine PWp.seq ?_
      | with_reducible refine PWp.block ?_
      | with_reducible refine PWp.region okP true ?_
      | with_reducible (first | refine pops_nil ?_ | refine pany_nil ?_ | refine pthen_normal ?_ | refine pblock_normal ?_ | refine pthen_ret ?_ | refine pblock_ret ?_ | refine pthen_exit ?_ | refine pblock_here ?_ | refine pblock_there rfl ?_ | refine PWp.ret ?_ | refine PWp.exit ?_ | refine PWp.skip ?_)
      | ((with_reducible refine hK _ ?_); clear hK K)
      | ((with_reducible refine PWp.condI ?_); refine ⟨_, rfl, fun hg => ?_, fun hg => ?_⟩ <;> first | (exact absurd hg (by decide)) | ((try simp only [Bool.not_true, Bool.not_false] at hg); (try simp only [hg]); (try simp only [push_cast] at hg); (try (exfalso; omega))))
      | ((first | ((with_reducible refine pops_guard0 ?_); refine ⟨_, rfl, fun K hK => ⟨rfl, ?_⟩⟩) | ((with_reducible refine pD_g0 ?_); refine ⟨_, rfl, rfl, ?_⟩)); (try simp (disch := omega) only [push_cast, seval]))
      | ((with_reducible refine pany_I ?_); refine ⟨_, rfl, fun K hK => ?_⟩)
      | ((with_reducible refine pops_plain fun K hK => ?_); simp (disch := omega) only [push_cast, seval])
      | ((first | ((with_reducible refine pD_y ?_ ?_); exact rfl) | ((with_reducible refine pD_x ?_ ?_); exact rfl)); simp (disch := omega) only [push_cast, seval])
      | ((first | ((with_reducible refine pops_guard ?_); refine ⟨_, rfl, fun K hK => ⟨_, rfl, fun hg => ?_, fun hg => ?_⟩⟩) | ((first | ((with_reducible refine pD_gy ?_ ?_); exact rfl) | ((with_reducible refine pD_gx ?_ ?_); exact rfl)); refine ⟨_, rfl, _, rfl, fun hg => ?_, fun hg => ?_⟩)) <;> first | (exact absurd hg (by decide)) | ((try simp only [Bool.not_true, Bool.not_false] at hg); (try simp only [hg]); (try simp only [push_cast] at hg); (try (exfalso; omega)); (try simp (disch := omega) only [push_cast, seval])))
      | ((with_reducible show pcall _ _ _ _ _ _); refine pcall_XG (g := 104) (callable_of Try.func104 rfl rfl) [?_] ?_ ?_ ?_ (sL1Below_p ?_ ?_ ?_) ?_; (any_goals ((with_reducible show (_ : List PV) = renL _ _ _); ((try simp (disch := omega) only [push_cast, seval]); (repeat' (first | exact trivial | exact rfl | refine And.intro ?_ ?_ | omega))))); (any_goals ((with_reducible show blkE _ _ _ _ _); (repeat' (first | exact trivial | refine And.intro ?_ ?_ | exact ⟨_, rfl⟩ | (simp (disch := omega) only [push_cast, seval]; done) | exact rfl)))); (any_goals ((with_reducible show nodupR _ = true); exact rfl)); rotate_right 1; rintro ⟨x, c⟩ ⟨hx1, hx2, hx3⟩; (rotate_left 1; (all_goals (try (first | omega | exact (show _ = _ by assumption)))); rotate_right 1); (try simp (disch := omega) only [push_cast, seval]))
      | ((with_reducible refine And.intro ?_ ?_); omega))
  ((first | with_reducible (first | refine pendX1 (?_, ?_) [0] ?_ ?_ ?_ ?_ ?_ ?_ | refine pendX2 (?_, ?_) [0] ?_ ?_ ?_ ?_ ?_ ?_ | refine pendX3 (?_, ?_) [0] ?_ ?_ ?_ ?_ ?_ ?_ | refine pendX0 (?_, ?_) [0] ?_ ?_ ?_ ?_ ?_ ?_) | refine pendXG (?_, ?_) [0] ?_ ?_ ?_ ?_ ?_ ?_); (try (any_goals ((with_reducible show ∃ _ : List PV, _); (apply Exists.intro; apply And.intro; (· repeat' (first | exact presults_nil | apply presults_tmp | (apply presults_agg; (· exact rfl); (· exact rfl); (· exact rfl); (· exact rfl); (· exact rfl); (· first | exact Nat.le_refl _ | decide | simp)) | (apply presults_one; (· exact rfl); (· exact rfl); (· exact rfl); (· exact rfl); (· exact rfl)))))))); (any_goals ((with_reducible show _ ∨ _); (first | exact Or.inl rfl | exact Or.inr rfl))); (any_goals ((with_reducible show (_ : PV) = _); ((try simp (disch := omega) only [push_cast, seval]); (repeat' (first | exact trivial | exact rfl | refine And.intro ?_ ?_ | omega))))); (any_goals ((with_reducible show blkR _ _ _ _ _); ((try simp (disch := omega) only [push_cast, seval]); (repeat' (first | exact trivial | exact rfl | refine And.intro ?_ ?_ | omega))))); (any_goals ((with_reducible show nodupR _ = true); exact rfl)); (any_goals ((with_reducible show preR _ _); (first | exact trivial | exact ⟨rfl, trivial⟩ | exact ⟨rfl, rfl, trivial⟩ | exact ⟨rfl, rfl, rfl, trivial⟩))))
  trivial
set_option maxHeartbeats 600000 in
theorem sL1Text_p (c : Cur) (most : Int) (h0 : 0 ≤ most) (hn : most ≤ 1000000) : PCalls Try.prog 157 [.ptr 0 0, .val (.int .i64 most)] [some (.box (pCur c))] (RX (α := ByteArray × Cur) (fun x => .val (.string x.1)) (fun x => [some (.box (pCur x.2))]) fun | (s, _) => s.size ≤ most.toNat ∧ True) := by
  refine pcalls_ofR okP Try.func157 rfl ?_
  simp only [Try.f157, List.length_cons, List.length_nil, Nat.reduceAdd, Nat.reduceSub, List.replicate_succ, List.replicate_zero, List.cons_append, List.nil_append, List.length_map]
  repeat' (first
      | with_reducible refine PWp.seq ?_
      | with_reducible refine PWp.block ?_
      | with_reducible refine PWp.region okP true ?_
      | with_reducible (first | refine pops_nil ?_ | refine pany_nil ?_ | refine pthen_normal ?_ | refine pblock_normal ?_ | refine pthen_ret ?_ | refine pblock_ret ?_ | refine pthen_exit ?_ | refine pblock_here ?_ | refine pblock_there rfl ?_ | refine PWp.ret ?_ | refine PWp.exit ?_ | refine PWp.skip ?_)
      | ((with_reducible refine hK _ ?_); clear hK K)
      | ((with_reducible refine PWp.condI ?_); refine ⟨_, rfl, fun hg => ?_, fun hg => ?_⟩ <;> first | (exact absurd hg (by decide)) | ((try simp only [Bool.not_true, Bool.not_false] at hg); (try simp only [hg]); (try simp only [push_cast] at hg); (try (exfalso; omega))))
      | ((first | ((with_reducible refine pops_guard0 ?_); refine ⟨_, rfl, fun K hK => ⟨rfl, ?_⟩⟩) | ((with_reducible refine pD_g0 ?_); refine ⟨_, rfl, rfl, ?_⟩)); (try simp (disch := omega) only [push_cast, seval]))
      | ((with_reducible refine pany_I ?_); refine ⟨_, rfl, fun K hK => ?_⟩)
      | ((with_reducible refine pops_plain fun K hK => popO_row ?_); refine ⟨_, _, _, _, _, rfl, rfl, rfl, rfl, rfl, ?_⟩; simp (disch := omega) only [push_cast, seval])
      | ((with_reducible refine pD_x ?_ (popO_row ?_)); exact rfl; refine ⟨_, _, _, _, _, rfl, rfl, rfl, rfl, rfl, ?_⟩; simp (disch := omega) only [push_cast, seval])
      | ((with_reducible refine pops_plain fun K hK => ?_); simp (disch := omega) only [push_cast, seval])
      | ((first | ((with_reducible refine pD_y ?_ ?_); exact rfl) | ((with_reducible refine pD_x ?_ ?_); exact rfl)); simp (disch := omega) only [push_cast, seval])
      | ((first | ((with_reducible refine pops_guard ?_); refine ⟨_, rfl, fun K hK => ⟨_, rfl, fun hg => ?_, fun hg => ?_⟩⟩) | ((first | ((with_reducible refine pD_gy ?_ ?_); exact rfl) | ((with_reducible refine pD_gx ?_ ?_); exact rfl)); refine ⟨_, rfl, _, rfl, fun hg => ?_, fun hg => ?_⟩)) <;> first | (exact absurd hg (by decide)) | ((try simp only [Bool.not_true, Bool.not_false] at hg); (try simp only [hg]); (try simp only [push_cast] at hg); (try (exfalso; omega)); (try simp (disch := omega) only [push_cast, seval])))
      | ((with_reducible show pcall _ _ _ _ _ _); refine pcall_XG (g := 104) (callable_of Try.func104 rfl rfl) [?_] ?_ ?_ ?_ (sL1Below_p ?_ ?_ ?_) ?_; (any_goals ((with_reducible show (_ : List PV) = renL _ _ _); ((try simp (disch := omega) only [push_cast, seval]); (repeat' (first | exact trivial | exact rfl | refine And.intro ?_ ?_ | omega))))); (any_goals ((with_reducible show blkE _ _ _ _ _); (repeat' (first | exact trivial | refine And.intro ?_ ?_ | exact ⟨_, rfl⟩ | (simp (disch := omega) only [push_cast, seval]; done) | exact rfl)))); (any_goals ((with_reducible show nodupR _ = true); exact rfl)); rotate_right 1; rintro ⟨x, c⟩ ⟨hx1, hx2, hx3⟩; (rotate_left 1; (all_goals (try (first | omega | exact (show _ = _ by assumption)))); rotate_right 1); (try simp (disch := omega) only [push_cast, seval]))
      | ((with_reducible show pcall _ _ _ _ _ _); refine pcall_XG (g := 153) (callable_of Try.func153 rfl rfl) [?_] ?_ ?_ ?_ (sL1Byte_p ?_) ?_; (any_goals ((with_reducible show (_ : List PV) = renL _ _ _); ((try simp (disch := omega) only [push_cast, seval]); (repeat' (first | exact trivial | exact rfl | refine And.intro ?_ ?_ | omega))))); (any_goals ((with_reducible show blkE _ _ _ _ _); (repeat' (first | exact trivial | refine And.intro ?_ ?_ | exact ⟨_, rfl⟩ | (simp (disch := omega) only [push_cast, seval]; done) | exact rfl)))); (any_goals ((with_reducible show nodupR _ = true); exact rfl)); rotate_right 1; rintro ⟨x, c⟩ ⟨hx1, hx2⟩; (rotate_left 1; (all_goals (try (first | omega | exact (show _ = _ by assumption)))); rotate_right 1); (try simp (disch := omega) only [push_cast, seval]))
      | ((with_reducible refine And.intro ?_ ?_); omega))
  obtain ⟨m, hm⟩ : ∃ m : Nat, x = m := ⟨x.toNat, by omega⟩
  refine PWp.loopK (α := Nat × List UInt8 × Cur) (fun x => match x with | (k, bs, c) => [(5, .own 1), (7, .val (.int .i64 (k : Int)))]) [1, 2, 3, 8, 9, 10, 11, 12, 13, 14, 15, 16, 17, 18, 19, 20, 21, 22, 23, 24, 25, 26, 27, 28, 29, 30, 31, 32, 33, 34, 35] (fun x => match x with | (k, bs, c) => [some (.box (pCur c)), some (.row 5 1 (bs.map pU8))]) (fun x => match x with | (k, bs, c) => k + bs.length ≤ most.toNat) (fun x => match x with | (k, bs, c) => k) ((m, [], c)) (by (simp; omega)) (by (refine ⟨[?_, ?_], ?_, ?_, ?_, ?_⟩; rotate_left 2; (· ((try simp (disch := omega) only [push_cast, seval, hm]); (repeat' (first | exact trivial | exact rfl | refine And.intro ?_ ?_ | omega)))); (· ((try simp (disch := omega) only [push_cast, seval, hm]); (repeat' (first | exact trivial | exact rfl | refine And.intro ?_ ?_ | omega)))); (· exact rfl); (· (first | exact trivial | exact ⟨rfl, trivial⟩ | exact ⟨rfl, rfl, trivial⟩)))) ?_
  intro x ρ hI; obtain ⟨k, bs, c⟩ := x
  (try dsimp only at hI)
  refine PWp.at (tm' := ?_) (H' := ?_) ?_ ?_ ?_; rotate_left 2; (· ((try simp only [push_cast, seval]); exact rfl)); (· ((try dsimp only); exact rfl))
  by_cases hk : 0 < k
  · obtain ⟨j, rfl⟩ : ∃ j, k = j + 1 := ⟨k - 1, by omega⟩
    repeat' (first
        | with_reducible refine PWp.seq ?_
        | with_reducible refine PWp.block ?_
        | with_reducible refine PWp.region okP true ?_
        | with_reducible (first | refine pops_nil ?_ | refine pany_nil ?_ | refine pthen_normal ?_ | refine pblock_normal ?_ | refine pthen_ret ?_ | refine pblock_ret ?_ | refine pthen_exit ?_ | refine pblock_here ?_ | refine pblock_there rfl ?_ | refine PWp.ret ?_ | refine PWp.exit ?_ | refine PWp.skip ?_)
        | ((with_reducible refine hK _ ?_); clear hK K)
        | ((with_reducible refine PWp.condI ?_); refine ⟨_, rfl, fun hg => ?_, fun hg => ?_⟩ <;> first | (exact absurd hg (by decide)) | ((try simp only [Bool.not_true, Bool.not_false] at hg); (try simp only [hg]); (try simp only [push_cast] at hg); (try (exfalso; omega))))
        | ((first | ((with_reducible refine pops_guard0 ?_); refine ⟨_, rfl, fun K hK => ⟨rfl, ?_⟩⟩) | ((with_reducible refine pD_g0 ?_); refine ⟨_, rfl, rfl, ?_⟩)); (try simp (disch := omega) only [push_cast, seval]))
        | ((with_reducible refine pany_I ?_); refine ⟨_, rfl, fun K hK => ?_⟩)
        | ((with_reducible refine pops_plain fun K hK => popO_row ?_); refine ⟨_, _, _, _, _, rfl, rfl, rfl, rfl, rfl, ?_⟩; simp (disch := omega) only [push_cast, seval])
        | ((with_reducible refine pD_x ?_ (popO_row ?_)); exact rfl; refine ⟨_, _, _, _, _, rfl, rfl, rfl, rfl, rfl, ?_⟩; simp (disch := omega) only [push_cast, seval])
        | ((with_reducible refine pops_plain fun K hK => ?_); simp (disch := omega) only [push_cast, seval])
        | ((first | ((with_reducible refine pD_y ?_ ?_); exact rfl) | ((with_reducible refine pD_x ?_ ?_); exact rfl)); simp (disch := omega) only [push_cast, seval])
        | ((first | ((with_reducible refine pops_guard ?_); refine ⟨_, rfl, fun K hK => ⟨_, rfl, fun hg => ?_, fun hg => ?_⟩⟩) | ((first | ((with_reducible refine pD_gy ?_ ?_); exact rfl) | ((with_reducible refine pD_gx ?_ ?_); exact rfl)); refine ⟨_, rfl, _, rfl, fun hg => ?_, fun hg => ?_⟩)) <;> first | (exact absurd hg (by decide)) | ((try simp only [Bool.not_true, Bool.not_false] at hg); (try simp only [hg]); (try simp only [push_cast] at hg); (try (exfalso; omega)); (try simp (disch := omega) only [push_cast, seval])))
        | ((with_reducible show pcall _ _ _ _ _ _); refine pcall_XG (g := 104) (callable_of Try.func104 rfl rfl) [?_] ?_ ?_ ?_ (sL1Below_p ?_ ?_ ?_) ?_; (any_goals ((with_reducible show (_ : List PV) = renL _ _ _); ((try simp (disch := omega) only [push_cast, seval]); (repeat' (first | exact trivial | exact rfl | refine And.intro ?_ ?_ | omega))))); (any_goals ((with_reducible show blkE _ _ _ _ _); (repeat' (first | exact trivial | refine And.intro ?_ ?_ | exact ⟨_, rfl⟩ | (simp (disch := omega) only [push_cast, seval]; done) | exact rfl)))); (any_goals ((with_reducible show nodupR _ = true); exact rfl)); rotate_right 1; rintro ⟨x, c⟩ ⟨hx1, hx2, hx3⟩; (rotate_left 1; (all_goals (try (first | omega | exact (show _ = _ by assumption)))); rotate_right 1); (try simp (disch := omega) only [push_cast, seval]))
        | ((with_reducible show pcall _ _ _ _ _ _); refine pcall_XG (g := 153) (callable_of Try.func153 rfl rfl) [?_] ?_ ?_ ?_ (sL1Byte_p ?_) ?_; (any_goals ((with_reducible show (_ : List PV) = renL _ _ _); ((try simp (disch := omega) only [push_cast, seval]); (repeat' (first | exact trivial | exact rfl | refine And.intro ?_ ?_ | omega))))); (any_goals ((with_reducible show blkE _ _ _ _ _); (repeat' (first | exact trivial | refine And.intro ?_ ?_ | exact ⟨_, rfl⟩ | (simp (disch := omega) only [push_cast, seval]; done) | exact rfl)))); (any_goals ((with_reducible show nodupR _ = true); exact rfl)); rotate_right 1; rintro ⟨x, c⟩ ⟨hx1, hx2⟩; (rotate_left 1; (all_goals (try (first | omega | exact (show _ = _ by assumption)))); rotate_right 1); (try simp (disch := omega) only [push_cast, seval]))
        | ((with_reducible refine And.intro ?_ ?_); omega))
    · (refine ⟨(j, bs ++ [u8 (x % 2)], c), by ((try dsimp only); omega), ?_, by (refine ⟨[?_, ?_], ?_, ?_, ?_, ?_⟩; rotate_left 2; (· ((try simp (disch := omega) only [push_cast, seval, pU8_u8]); (repeat' (first | exact trivial | exact rfl | refine And.intro ?_ ?_ | omega)))); (· ((try simp (disch := omega) only [push_cast, seval, pU8_u8]); (repeat' (first | exact trivial | exact rfl | refine And.intro ?_ ?_ | omega)))); (· exact rfl); (· (first | exact trivial | exact ⟨rfl, trivial⟩ | exact ⟨rfl, rfl, trivial⟩)))⟩)
      simp; omega
    · (refine ⟨(j, bs ++ [u8 (97 + x % 4)], c), by ((try dsimp only); omega), ?_, by (refine ⟨[?_, ?_], ?_, ?_, ?_, ?_⟩; rotate_left 2; (· ((try simp (disch := omega) only [push_cast, seval, pU8_u8]); (repeat' (first | exact trivial | exact rfl | refine And.intro ?_ ?_ | omega)))); (· ((try simp (disch := omega) only [push_cast, seval, pU8_u8]); (repeat' (first | exact trivial | exact rfl | refine And.intro ?_ ?_ | omega)))); (· exact rfl); (· (first | exact trivial | exact ⟨rfl, trivial⟩ | exact ⟨rfl, rfl, trivial⟩)))⟩)
      simp; omega
    · (refine ⟨(j, bs ++ [u8 x], c), by ((try dsimp only); omega), ?_, by (refine ⟨[?_, ?_], ?_, ?_, ?_, ?_⟩; rotate_left 2; (· ((try simp (disch := omega) only [push_cast, seval, pU8_u8]); (repeat' (first | exact trivial | exact rfl | refine And.intro ?_ ?_ | omega)))); (· ((try simp (disch := omega) only [push_cast, seval, pU8_u8]); (repeat' (first | exact trivial | exact rfl | refine And.intro ?_ ?_ | omega)))); (· exact rfl); (· (first | exact trivial | exact ⟨rfl, trivial⟩ | exact ⟨rfl, rfl, trivial⟩)))⟩)
      simp; omega
  obtain rfl : k = 0 := by omega
  repeat' (first
      | with_reducible refine PWp.seq ?_
      | with_reducible refine PWp.block ?_
      | with_reducible refine PWp.region okP true ?_
      | with_reducible (first | refine pops_nil ?_ | refine pany_nil ?_ | refine pthen_normal ?_ | refine pblock_normal ?_ | refine pthen_ret ?_ | refine pblock_ret ?_ | refine pthen_exit ?_ | refine pblock_here ?_ | refine pblock_there rfl ?_ | refine PWp.ret ?_ | refine PWp.exit ?_ | refine PWp.skip ?_)
      | ((with_reducible refine hK _ ?_); clear hK K)
      | ((with_reducible refine PWp.condI ?_); refine ⟨_, rfl, fun hg => ?_, fun hg => ?_⟩ <;> first | (exact absurd hg (by decide)) | ((try simp only [Bool.not_true, Bool.not_false] at hg); (try simp only [hg]); (try simp only [push_cast] at hg); (try (exfalso; omega))))
      | ((first | ((with_reducible refine pops_guard0 ?_); refine ⟨_, rfl, fun K hK => ⟨rfl, ?_⟩⟩) | ((with_reducible refine pD_g0 ?_); refine ⟨_, rfl, rfl, ?_⟩)); (try simp (disch := omega) only [push_cast, seval]))
      | ((with_reducible refine pany_I ?_); refine ⟨_, rfl, fun K hK => ?_⟩)
      | ((with_reducible refine pops_plain fun K hK => popO_row ?_); refine ⟨_, _, _, _, _, rfl, rfl, rfl, rfl, rfl, ?_⟩; simp (disch := omega) only [push_cast, seval])
      | ((with_reducible refine pD_x ?_ (popO_row ?_)); exact rfl; refine ⟨_, _, _, _, _, rfl, rfl, rfl, rfl, rfl, ?_⟩; simp (disch := omega) only [push_cast, seval])
      | ((with_reducible refine pops_plain fun K hK => ?_); simp (disch := omega) only [push_cast, seval])
      | ((first | ((with_reducible refine pD_y ?_ ?_); exact rfl) | ((with_reducible refine pD_x ?_ ?_); exact rfl)); simp (disch := omega) only [push_cast, seval])
      | ((first | ((with_reducible refine pops_guard ?_); refine ⟨_, rfl, fun K hK => ⟨_, rfl, fun hg => ?_, fun hg => ?_⟩⟩) | ((first | ((with_reducible refine pD_gy ?_ ?_); exact rfl) | ((with_reducible refine pD_gx ?_ ?_); exact rfl)); refine ⟨_, rfl, _, rfl, fun hg => ?_, fun hg => ?_⟩)) <;> first | (exact absurd hg (by decide)) | ((try simp only [Bool.not_true, Bool.not_false] at hg); (try simp only [hg]); (try simp only [push_cast] at hg); (try (exfalso; omega)); (try simp (disch := omega) only [push_cast, seval])))
      | ((with_reducible show pcall _ _ _ _ _ _); refine pcall_XG (g := 104) (callable_of Try.func104 rfl rfl) [?_] ?_ ?_ ?_ (sL1Below_p ?_ ?_ ?_) ?_; (any_goals ((with_reducible show (_ : List PV) = renL _ _ _); ((try simp (disch := omega) only [push_cast, seval]); (repeat' (first | exact trivial | exact rfl | refine And.intro ?_ ?_ | omega))))); (any_goals ((with_reducible show blkE _ _ _ _ _); (repeat' (first | exact trivial | refine And.intro ?_ ?_ | exact ⟨_, rfl⟩ | (simp (disch := omega) only [push_cast, seval]; done) | exact rfl)))); (any_goals ((with_reducible show nodupR _ = true); exact rfl)); rotate_right 1; rintro ⟨x, c⟩ ⟨hx1, hx2, hx3⟩; (rotate_left 1; (all_goals (try (first | omega | exact (show _ = _ by assumption)))); rotate_right 1); (try simp (disch := omega) only [push_cast, seval]))
      | ((with_reducible show pcall _ _ _ _ _ _); refine pcall_XG (g := 153) (callable_of Try.func153 rfl rfl) [?_] ?_ ?_ ?_ (sL1Byte_p ?_) ?_; (any_goals ((with_reducible show (_ : List PV) = renL _ _ _); ((try simp (disch := omega) only [push_cast, seval]); (repeat' (first | exact trivial | exact rfl | refine And.intro ?_ ?_ | omega))))); (any_goals ((with_reducible show blkE _ _ _ _ _); (repeat' (first | exact trivial | refine And.intro ?_ ?_ | exact ⟨_, rfl⟩ | (simp (disch := omega) only [push_cast, seval]; done) | exact rfl)))); (any_goals ((with_reducible show nodupR _ = true); exact rfl)); rotate_right 1; rintro ⟨x, c⟩ ⟨hx1, hx2⟩; (rotate_left 1; (all_goals (try (first | omega | exact (show _ = _ by assumption)))); rotate_right 1); (try simp (disch := omega) only [push_cast, seval]))
      | ((with_reducible refine And.intro ?_ ?_); omega))
  ((first | with_reducible (first | refine pendX1 (?_, ?_) [0] ?_ ?_ ?_ ?_ ?_ ?_ | refine pendX2 (?_, ?_) [0] ?_ ?_ ?_ ?_ ?_ ?_ | refine pendX3 (?_, ?_) [0] ?_ ?_ ?_ ?_ ?_ ?_ | refine pendX0 (?_, ?_) [0] ?_ ?_ ?_ ?_ ?_ ?_) | refine pendXG (?_, ?_) [0] ?_ ?_ ?_ ?_ ?_ ?_); (try (any_goals ((with_reducible show ∃ _ : List PV, _); (apply Exists.intro; apply And.intro; (· repeat' (first | exact presults_nil | apply presults_tmp | (apply presults_agg; (· exact rfl); (· exact rfl); (· exact rfl); (· exact rfl); (· exact rfl); (· first | exact Nat.le_refl _ | decide | simp)) | (apply presults_one; (· exact rfl); (· exact rfl); (· exact rfl); (· exact rfl); (· exact rfl)))))))); (any_goals ((with_reducible show _ ∨ _); (first | exact Or.inl rfl | exact Or.inr rfl))); (any_goals ((with_reducible show (_ : PV) = _); ((try simp (disch := omega) only [push_cast, seval]); (repeat' (first | exact trivial | exact rfl | refine And.intro ?_ ?_ | omega))))); (any_goals ((with_reducible show blkR _ _ _ _ _); ((try simp (disch := omega) only [push_cast, seval]); (repeat' (first | exact trivial | exact rfl | refine And.intro ?_ ?_ | omega))))); (any_goals ((with_reducible show nodupR _ = true); exact rfl)); (any_goals ((with_reducible show preR _ _); (first | exact trivial | exact ⟨rfl, trivial⟩ | exact ⟨rfl, rfl, trivial⟩ | exact ⟨rfl, rfl, rfl, trivial⟩))))
  exact ⟨by rw [size_mk]; omega, trivial⟩
end Go.Proofs.Ytkbikihbomnghaa
