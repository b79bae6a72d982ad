/- Walks on the pure machine: checksums, records. -/
import Derived.Test.YtkbikihbomnghaaMw
import Derived.Test.YtkbikihbomnghaaP3
import Derived.Test.YtkbikihbomnghaaP6
import Derived.Test.YtkbikihbomnghaaP7
import Derived.Test.YtkbikihbomnghaaP8
namespace Go.Proofs.Ytkbikihbomnghaa
set_option linter.unusedSimpArgs false
set_option linter.unusedVariables false
open Go.RowKit
set_option maxRecDepth 100000

theorem and_1 {x : Int} (h0 : 0 ≤ x) (h1 : x < 4611686018427387904) : bits .and .i64 x 1 = x % 2 := bits_mask .i64 62 (by decide) wraps_64 1 (by decide) x h0 h1
set_option maxHeartbeats 1000000 in
theorem iCrc_p (s : ByteArray) (hs : s.size ≤ 1099511627776) : PCalls Try.prog 112 [.val (.string s)] [] (RV (.val (.int .i64 (crcM s)))) := by
  obtain ⟨l, hl⟩ : ∃ l, l = s.data.toList := ⟨_, rfl⟩
  have hz : s.size = l.length := by subst hl; rfl
  unfold crcM
  rw [← hl]
  refine pcalls_ofR okP Try.func112 rfl ?_
  simp only [Try.f112, List.length_cons, List.length_nil, Nat.reduceAdd, Nat.reduceSub, List.replicate_succ, List.replicate_zero, List.cons_append, List.nil_append, List.length_map]
  repeat' (first
      | with_reducible refine PWp.seq ?_
      | with_reducible refine PWp.block ?_
      | with_reducible refine PWp.region okP true ?_
      | with_reducible (first | refine pops_nil ?_ | refine pany_nil ?_ | refine pthen_normal ?_ | refine pblock_normal ?_ | refine pthen_ret ?_ | refine pblock_ret ?_ | refine pthen_exit ?_ | refine pblock_here ?_ | refine pblock_there rfl ?_ | refine PWp.ret ?_ | refine PWp.exit ?_ | refine PWp.skip ?_)
      | ((with_reducible refine hK _ ?_); clear hK K)
      | ((with_reducible refine PWp.condI ?_); refine ⟨_, rfl, fun hg => ?_, fun hg => ?_⟩ <;> first | (exact absurd hg (by decide)) | ((try simp only [Bool.not_true, Bool.not_false] at hg); (try simp only [hg]); (try simp only [push_cast] at hg); (try (exfalso; omega))))
      | ((first | ((with_reducible refine pops_guard0 ?_); refine ⟨_, rfl, fun K hK => ⟨rfl, ?_⟩⟩) | ((with_reducible refine pD_g0 ?_); refine ⟨_, rfl, rfl, ?_⟩)); (try simp (disch := omega) only [push_cast, seval]))
      | ((with_reducible refine pany_I ?_); refine ⟨_, rfl, fun K hK => ?_⟩)
      | ((with_reducible refine pops_plain fun K hK => ?_); simp (disch := omega) only [push_cast, seval])
      | ((first | ((with_reducible refine pD_y ?_ ?_); exact rfl) | ((with_reducible refine pD_x ?_ ?_); exact rfl)); simp (disch := omega) only [push_cast, seval])
      | ((first | ((with_reducible refine pops_guard ?_); refine ⟨_, rfl, fun K hK => ⟨_, rfl, fun hg => ?_, fun hg => ?_⟩⟩) | ((first | ((with_reducible refine pD_gy ?_ ?_); exact rfl) | ((with_reducible refine pD_gx ?_ ?_); exact rfl)); refine ⟨_, rfl, _, rfl, fun hg => ?_, fun hg => ?_⟩)) <;> first | (exact absurd hg (by decide)) | ((try simp only [Bool.not_true, Bool.not_false] at hg); (try simp only [hg]); (try simp only [push_cast] at hg); (try (exfalso; omega)); (try simp (disch := omega) only [push_cast, seval])))
      | ((with_reducible refine And.intro ?_ ?_); omega))
  refine PWp.loopK (α := Nat × Int) (fun x => match x with | (k, c) => [(3, .val (.int .i64 c)), (4, .val (.int .i64 (k : Int)))]) [1, 5, 6, 7, 8, 9, 10, 11, 12, 13, 14, 15, 16, 17, 18, 19, 20, 21, 22, 23, 24, 25, 26, 27, 28] (fun x => match x with | (k, c) => []) (fun x => match x with | (k, c) => k ≤ l.length ∧ (0 ≤ c ∧ c < 4294967296) ∧ crcGo (l.drop k) c = crcGo l 4294967295) (fun x => match x with | (k, c) => l.length - k) ((0, 4294967295)) (⟨Nat.zero_le _, by omega, rfl⟩) (by (refine ⟨[], ?_, ?_, ?_, ?_⟩; (· ((try simp (disch := omega) only [push_cast, seval]); (repeat' (first | exact trivial | exact rfl | refine And.intro ?_ ?_ | omega)))); (· ((try simp (disch := omega) only [push_cast, seval]); (repeat' (first | exact trivial | exact rfl | refine And.intro ?_ ?_ | omega)))); (· exact rfl); (· (first | exact trivial | exact ⟨rfl, trivial⟩ | exact ⟨rfl, rfl, trivial⟩)))) ?_
  intro x ρ hI; obtain ⟨k, c⟩ := x
  (try dsimp only at hI)
  refine PWp.at (tm' := ?_) (H' := ?_) ?_ ?_ ?_; rotate_left 2; (· ((try simp only [push_cast, seval]); exact rfl)); (· ((try dsimp only); exact rfl))
  obtain ⟨hk, ⟨hc0, hc1⟩, hgo⟩ := hI
  by_cases hlt : k < l.length
  · obtain ⟨b, hb⟩ : ∃ b, l[k]? = some b := ⟨_, List.getElem?_eq_getElem hlt⟩
    have hb8 := b.toNat_lt
    have hd : l.drop k = b :: l.drop (k + 1) := by rw [List.drop_eq_getElem_cons hlt]; congr 1; exact (List.getElem?_eq_some_iff.1 hb).2
    rw [hd, crcGo] at hgo
    obtain ⟨x0, x1⟩ := xor_bd hc0 hc1 (y := (b.toNat : Int)) (by omega) (by omega)
    generalize hx : bits .xor .i64 c (b.toNat : Int) = y at hgo x0 x1
    repeat' (first
        | with_reducible refine PWp.seq ?_
        | with_reducible refine PWp.block ?_
        | with_reducible refine PWp.region okP true ?_
        | with_reducible (first | refine pops_nil ?_ | refine pany_nil ?_ | refine pthen_normal ?_ | refine pblock_normal ?_ | refine pthen_ret ?_ | refine pblock_ret ?_ | refine pthen_exit ?_ | refine pblock_here ?_ | refine pblock_there rfl ?_ | refine PWp.ret ?_ | refine PWp.exit ?_ | refine PWp.skip ?_)
        | ((with_reducible refine hK _ ?_); clear hK K)
        | ((with_reducible refine PWp.condI ?_); refine ⟨_, rfl, fun hg => ?_, fun hg => ?_⟩ <;> first | (exact absurd hg (by decide)) | ((try simp only [Bool.not_true, Bool.not_false] at hg); (try simp only [hg]); (try simp only [push_cast] at hg); (try (exfalso; omega))))
        | ((first | ((with_reducible refine pops_guard0 ?_); refine ⟨_, rfl, fun K hK => ⟨rfl, ?_⟩⟩) | ((with_reducible refine pD_g0 ?_); refine ⟨_, rfl, rfl, ?_⟩)); (try simp (disch := omega) only [push_cast, seval, ← hl, hb, hx]))
        | ((with_reducible refine pany_I ?_); refine ⟨_, rfl, fun K hK => ?_⟩)
        | ((with_reducible refine pops_plain fun K hK => ?_); simp (disch := omega) only [push_cast, seval, ← hl, hb, hx])
        | ((first | ((with_reducible refine pD_y ?_ ?_); exact rfl) | ((with_reducible refine pD_x ?_ ?_); exact rfl)); simp (disch := omega) only [push_cast, seval, ← hl, hb, hx])
        | ((first | ((with_reducible refine pops_guard ?_); refine ⟨_, rfl, fun K hK => ⟨_, rfl, fun hg => ?_, fun hg => ?_⟩⟩) | ((first | ((with_reducible refine pD_gy ?_ ?_); exact rfl) | ((with_reducible refine pD_gx ?_ ?_); exact rfl)); refine ⟨_, rfl, _, rfl, fun hg => ?_, fun hg => ?_⟩)) <;> first | (exact absurd hg (by decide)) | ((try simp only [Bool.not_true, Bool.not_false] at hg); (try simp only [hg]); (try simp only [push_cast] at hg); (try (exfalso; omega)); (try simp (disch := omega) only [push_cast, seval, ← hl, hb, hx])))
        | ((with_reducible refine And.intro ?_ ?_); omega))
    refine PWp.loopK (α := Nat × Int) (fun x => match x with | (j, d) => [(3, .val (.int .i64 d)), (18, .val (.int .i64 (j : Int)))]) [1, 5, 19, 20, 21, 22, 23, 24, 25, 26, 27, 28] (fun x => match x with | (j, d) => []) (fun x => match x with | (j, d) => j ≤ 8 ∧ (0 ≤ d ∧ d < 4294967296) ∧ crcIter (8 - j) d = crcIter 8 y) (fun x => match x with | (j, d) => 8 - j) ((0, y)) (⟨by omega, ⟨x0, x1⟩, rfl⟩) (by (refine ⟨[], ?_, ?_, ?_, ?_⟩; (· ((try simp (disch := omega) only [push_cast, seval]); (repeat' (first | exact trivial | exact rfl | refine And.intro ?_ ?_ | omega)))); (· ((try simp (disch := omega) only [push_cast, seval]); (repeat' (first | exact trivial | exact rfl | refine And.intro ?_ ?_ | omega)))); (· exact rfl); (· (first | exact trivial | exact ⟨rfl, trivial⟩ | exact ⟨rfl, rfl, trivial⟩)))) ?_
    intro x ρ hI; obtain ⟨j, d⟩ := x
    (try dsimp only at hI)
    refine PWp.at (tm' := ?_) (H' := ?_) ?_ ?_ ?_; rotate_left 2; (· ((try simp only [push_cast, seval]); exact rfl)); (· ((try dsimp only); exact rfl))
    obtain ⟨hj, ⟨hd0, hd1⟩, hit⟩ := hI
    by_cases hlj : j < 8
    · obtain ⟨m, hm⟩ : ∃ m, 8 - j = m + 1 := ⟨8 - j - 1, by omega⟩
      have hst := crcStep_bd hd0 hd1
      rw [hm, crcIter] at hit
      by_cases hodd : d % 2 = 1
      · have e : crcStep d = bits .xor .i64 (d / 2) 2197175160 := by unfold crcStep; rw [if_pos hodd]
        repeat' (first
            | with_reducible refine PWp.seq ?_
            | with_reducible refine PWp.block ?_
            | with_reducible refine PWp.region okP true ?_
            | with_reducible (first | refine pops_nil ?_ | refine pany_nil ?_ | refine pthen_normal ?_ | refine pblock_normal ?_ | refine pthen_ret ?_ | refine pblock_ret ?_ | refine pthen_exit ?_ | refine pblock_here ?_ | refine pblock_there rfl ?_ | refine PWp.ret ?_ | refine PWp.exit ?_ | refine PWp.skip ?_)
            | ((with_reducible refine hK _ ?_); clear hK K)
            | ((with_reducible refine PWp.condI ?_); refine ⟨_, rfl, fun hg => ?_, fun hg => ?_⟩ <;> first | (exact absurd hg (by decide)) | ((try simp only [Bool.not_true, Bool.not_false] at hg); (try simp only [hg]); (try simp only [push_cast] at hg); (try (exfalso; omega))))
            | ((first | ((with_reducible refine pops_guard0 ?_); refine ⟨_, rfl, fun K hK => ⟨rfl, ?_⟩⟩) | ((with_reducible refine pD_g0 ?_); refine ⟨_, rfl, rfl, ?_⟩)); (try simp (disch := omega) only [push_cast, seval, and_1, hodd]))
            | ((with_reducible refine pany_I ?_); refine ⟨_, rfl, fun K hK => ?_⟩)
            | ((with_reducible refine pops_plain fun K hK => ?_); simp (disch := omega) only [push_cast, seval, and_1, hodd])
            | ((first | ((with_reducible refine pD_y ?_ ?_); exact rfl) | ((with_reducible refine pD_x ?_ ?_); exact rfl)); simp (disch := omega) only [push_cast, seval, and_1, hodd])
            | ((first | ((with_reducible refine pops_guard ?_); refine ⟨_, rfl, fun K hK => ⟨_, rfl, fun hg => ?_, fun hg => ?_⟩⟩) | ((first | ((with_reducible refine pD_gy ?_ ?_); exact rfl) | ((with_reducible refine pD_gx ?_ ?_); exact rfl)); refine ⟨_, rfl, _, rfl, fun hg => ?_, fun hg => ?_⟩)) <;> first | (exact absurd hg (by decide)) | ((try simp only [Bool.not_true, Bool.not_false] at hg); (try simp only [hg]); (try simp only [push_cast] at hg); (try (exfalso; omega)); (try simp (disch := omega) only [push_cast, seval, and_1, hodd])))
            | ((with_reducible refine And.intro ?_ ?_); omega))
        (refine ⟨(j + 1, crcStep d), by ((try dsimp only); omega), ?_, by (refine ⟨[], ?_, ?_, ?_, ?_⟩; (· ((try simp (disch := omega) only [push_cast, seval]); (repeat' (first | exact trivial | exact rfl | refine And.intro ?_ ?_ | omega)))); (· ((try simp (disch := omega) only [push_cast, seval]); (repeat' (first | exact trivial | exact rfl | refine And.intro ?_ ?_ | omega)))); (· exact rfl); (· (first | exact trivial | exact ⟨rfl, trivial⟩ | exact ⟨rfl, rfl, trivial⟩)))⟩)
        exact ⟨by omega, hst, by rw [show 8 - (j + 1) = m by omega]; exact hit⟩
      · have e : crcStep d = d / 2 := by unfold crcStep; rw [if_neg hodd]
        repeat' (first
            | with_reducible refine PWp.seq ?_
            | with_reducible refine PWp.block ?_
            | with_reducible refine PWp.region okP true ?_
            | with_reducible (first | refine pops_nil ?_ | refine pany_nil ?_ | refine pthen_normal ?_ | refine pblock_normal ?_ | refine pthen_ret ?_ | refine pblock_ret ?_ | refine pthen_exit ?_ | refine pblock_here ?_ | refine pblock_there rfl ?_ | refine PWp.ret ?_ | refine PWp.exit ?_ | refine PWp.skip ?_)
            | ((with_reducible refine hK _ ?_); clear hK K)
            | ((with_reducible refine PWp.condI ?_); refine ⟨_, rfl, fun hg => ?_, fun hg => ?_⟩ <;> first | (exact absurd hg (by decide)) | ((try simp only [Bool.not_true, Bool.not_false] at hg); (try simp only [hg]); (try simp only [push_cast] at hg); (try (exfalso; omega))))
            | ((first | ((with_reducible refine pops_guard0 ?_); refine ⟨_, rfl, fun K hK => ⟨rfl, ?_⟩⟩) | ((with_reducible refine pD_g0 ?_); refine ⟨_, rfl, rfl, ?_⟩)); (try simp (disch := omega) only [push_cast, seval, and_1]))
            | ((with_reducible refine pany_I ?_); refine ⟨_, rfl, fun K hK => ?_⟩)
            | ((with_reducible refine pops_plain fun K hK => ?_); simp (disch := omega) only [push_cast, seval, and_1])
            | ((first | ((with_reducible refine pD_y ?_ ?_); exact rfl) | ((with_reducible refine pD_x ?_ ?_); exact rfl)); simp (disch := omega) only [push_cast, seval, and_1])
            | ((first | ((with_reducible refine pops_guard ?_); refine ⟨_, rfl, fun K hK => ⟨_, rfl, fun hg => ?_, fun hg => ?_⟩⟩) | ((first | ((with_reducible refine pD_gy ?_ ?_); exact rfl) | ((with_reducible refine pD_gx ?_ ?_); exact rfl)); refine ⟨_, rfl, _, rfl, fun hg => ?_, fun hg => ?_⟩)) <;> first | (exact absurd hg (by decide)) | ((try simp only [Bool.not_true, Bool.not_false] at hg); (try simp only [hg]); (try simp only [push_cast] at hg); (try (exfalso; omega)); (try simp (disch := omega) only [push_cast, seval, and_1])))
            | ((with_reducible refine And.intro ?_ ?_); omega))
        (refine ⟨(j + 1, crcStep d), by ((try dsimp only); omega), ?_, by (refine ⟨[], ?_, ?_, ?_, ?_⟩; (· ((try simp (disch := omega) only [push_cast, seval]); (repeat' (first | exact trivial | exact rfl | refine And.intro ?_ ?_ | omega)))); (· ((try simp (disch := omega) only [push_cast, seval]); (repeat' (first | exact trivial | exact rfl | refine And.intro ?_ ?_ | omega)))); (· exact rfl); (· (first | exact trivial | exact ⟨rfl, trivial⟩ | exact ⟨rfl, rfl, trivial⟩)))⟩)
        exact ⟨by omega, hst, by rw [show 8 - (j + 1) = m by omega]; exact hit⟩
    · obtain rfl : j = 8 := by omega
      repeat' (first
          | with_reducible refine PWp.seq ?_
          | with_reducible refine PWp.block ?_
          | with_reducible refine PWp.region okP true ?_
          | with_reducible (first | refine pops_nil ?_ | refine pany_nil ?_ | refine pthen_normal ?_ | refine pblock_normal ?_ | refine pthen_ret ?_ | refine pblock_ret ?_ | refine pthen_exit ?_ | refine pblock_here ?_ | refine pblock_there rfl ?_ | refine PWp.ret ?_ | refine PWp.exit ?_ | refine PWp.skip ?_)
          | ((with_reducible refine hK _ ?_); clear hK K)
          | ((with_reducible refine PWp.condI ?_); refine ⟨_, rfl, fun hg => ?_, fun hg => ?_⟩ <;> first | (exact absurd hg (by decide)) | ((try simp only [Bool.not_true, Bool.not_false] at hg); (try simp only [hg]); (try simp only [push_cast] at hg); (try (exfalso; omega))))
          | ((first | ((with_reducible refine pops_guard0 ?_); refine ⟨_, rfl, fun K hK => ⟨rfl, ?_⟩⟩) | ((with_reducible refine pD_g0 ?_); refine ⟨_, rfl, rfl, ?_⟩)); (try simp (disch := omega) only [push_cast, seval]))
          | ((with_reducible refine pany_I ?_); refine ⟨_, rfl, fun K hK => ?_⟩)
          | ((with_reducible refine pops_plain fun K hK => ?_); simp (disch := omega) only [push_cast, seval])
          | ((first | ((with_reducible refine pD_y ?_ ?_); exact rfl) | ((with_reducible refine pD_x ?_ ?_); exact rfl)); simp (disch := omega) only [push_cast, seval])
          | ((first | ((with_reducible refine pops_guard ?_); refine ⟨_, rfl, fun K hK => ⟨_, rfl, fun hg => ?_, fun hg => ?_⟩⟩) | ((first | ((with_reducible refine pD_gy ?_ ?_); exact rfl) | ((with_reducible refine pD_gx ?_ ?_); exact rfl)); refine ⟨_, rfl, _, rfl, fun hg => ?_, fun hg => ?_⟩)) <;> first | (exact absurd hg (by decide)) | ((try simp only [Bool.not_true, Bool.not_false] at hg); (try simp only [hg]); (try simp only [push_cast] at hg); (try (exfalso; omega)); (try simp (disch := omega) only [push_cast, seval])))
          | ((with_reducible refine And.intro ?_ ?_); omega))
      (refine ⟨(k + 1, d), by ((try dsimp only); omega), ?_, by (refine ⟨[], ?_, ?_, ?_, ?_⟩; (· ((try simp (disch := omega) only [push_cast, seval]); (repeat' (first | exact trivial | exact rfl | refine And.intro ?_ ?_ | omega)))); (· ((try simp (disch := omega) only [push_cast, seval]); (repeat' (first | exact trivial | exact rfl | refine And.intro ?_ ?_ | omega)))); (· exact rfl); (· (first | exact trivial | exact ⟨rfl, trivial⟩ | exact ⟨rfl, rfl, trivial⟩)))⟩)
      exact ⟨by omega, ⟨hd0, hd1⟩, by rw [← hgo, ← hit]; rfl⟩
  · obtain rfl : k = l.length := by omega
    rw [List.drop_length, crcGo] at hgo
    repeat' (first
        | with_reducible refine PWp.seq ?_
        | with_reducible refine PWp.block ?_
        | with_reducible refine PWp.region okP true ?_
        | with_reducible (first | refine pops_nil ?_ | refine pany_nil ?_ | refine pthen_normal ?_ | refine pblock_normal ?_ | refine pthen_ret ?_ | refine pblock_ret ?_ | refine pthen_exit ?_ | refine pblock_here ?_ | refine pblock_there rfl ?_ | refine PWp.ret ?_ | refine PWp.exit ?_ | refine PWp.skip ?_)
        | ((with_reducible refine hK _ ?_); clear hK K)
        | ((with_reducible refine PWp.condI ?_); refine ⟨_, rfl, fun hg => ?_, fun hg => ?_⟩ <;> first | (exact absurd hg (by decide)) | ((try simp only [Bool.not_true, Bool.not_false] at hg); (try simp only [hg]); (try simp only [push_cast] at hg); (try (exfalso; omega))))
        | ((first | ((with_reducible refine pops_guard0 ?_); refine ⟨_, rfl, fun K hK => ⟨rfl, ?_⟩⟩) | ((with_reducible refine pD_g0 ?_); refine ⟨_, rfl, rfl, ?_⟩)); (try simp (disch := omega) only [push_cast, seval]))
        | ((with_reducible refine pany_I ?_); refine ⟨_, rfl, fun K hK => ?_⟩)
        | ((with_reducible refine pops_plain fun K hK => ?_); simp (disch := omega) only [push_cast, seval])
        | ((first | ((with_reducible refine pD_y ?_ ?_); exact rfl) | ((with_reducible refine pD_x ?_ ?_); exact rfl)); simp (disch := omega) only [push_cast, seval])
        | ((first | ((with_reducible refine pops_guard ?_); refine ⟨_, rfl, fun K hK => ⟨_, rfl, fun hg => ?_, fun hg => ?_⟩⟩) | ((first | ((with_reducible refine pD_gy ?_ ?_); exact rfl) | ((with_reducible refine pD_gx ?_ ?_); exact rfl)); refine ⟨_, rfl, _, rfl, fun hg => ?_, fun hg => ?_⟩)) <;> first | (exact absurd hg (by decide)) | ((try simp only [Bool.not_true, Bool.not_false] at hg); (try simp only [hg]); (try simp only [push_cast] at hg); (try (exfalso; omega)); (try simp (disch := omega) only [push_cast, seval])))
        | ((with_reducible refine And.intro ?_ ?_); omega))
    ((first | with_reducible (first | refine pendV1 ?_ ?_ ?_ | refine pendV2 ?_ ?_ ?_ | refine pendV3 ?_ ?_ ?_ | refine pendV0 ?_ ?_ ?_) | refine pendVG ?_ ?_ ?_); (· (first | exact .inl rfl | exact .inr rfl)); rotate_left 1; (· exact rfl); (try (apply Exists.intro; apply And.intro; (· repeat' (first | exact presults_nil | apply presults_tmp | (apply presults_agg; (· exact rfl); (· exact rfl); (· exact rfl); (· exact rfl); (· exact rfl); (· first | exact Nat.le_refl _ | decide | simp)) | (apply presults_one; (· exact rfl); (· exact rfl); (· exact rfl); (· exact rfl); (· exact rfl)))))); (try simp only [push_cast, seval]))
    rw [← hgo]
set_option maxHeartbeats 1000000 in
theorem sCrc_p (s : ByteArray) (hs : s.size ≤ 1099511627776) : PCalls Try.prog 116 [.val (.string s)] [] (RV (.val (.int .i64 (crcM s)))) := by
  obtain ⟨l, hl⟩ : ∃ l, l = s.data.toList := ⟨_, rfl⟩
  have hz : s.size = l.length := by subst hl; rfl
  unfold crcM
  rw [← hl]
  refine pcalls_ofR okP Try.func116 rfl ?_
  simp only [Try.f116, List.length_cons, List.length_nil, Nat.reduceAdd, Nat.reduceSub, List.replicate_succ, List.replicate_zero, List.cons_append, List.nil_append, List.length_map]
  repeat' (first
      | with_reducible refine PWp.seq ?_
      | with_reducible refine PWp.block ?_
      | with_reducible refine PWp.region okP true ?_
      | with_reducible (first | refine pops_nil ?_ | refine pany_nil ?_ | refine pthen_normal ?_ | refine pblock_normal ?_ | refine pthen_ret ?_ | refine pblock_ret ?_ | refine pthen_exit ?_ | refine pblock_here ?_ | refine pblock_there rfl ?_ | refine PWp.ret ?_ | refine PWp.exit ?_ | refine PWp.skip ?_)
      | ((with_reducible refine hK _ ?_); clear hK K)
      | ((with_reducible refine PWp.condI ?_); refine ⟨_, rfl, fun hg => ?_, fun hg => ?_⟩ <;> first | (exact absurd hg (by decide)) | ((try simp only [Bool.not_true, Bool.not_false] at hg); (try simp only [hg]); (try simp only [push_cast] at hg); (try (exfalso; omega))))
      | ((first | ((with_reducible refine pops_guard0 ?_); refine ⟨_, rfl, fun K hK => ⟨rfl, ?_⟩⟩) | ((with_reducible refine pD_g0 ?_); refine ⟨_, rfl, rfl, ?_⟩)); (try simp (disch := omega) only [push_cast, seval]))
      | ((with_reducible refine pany_I ?_); refine ⟨_, rfl, fun K hK => ?_⟩)
      | ((with_reducible refine pops_plain fun K hK => ?_); simp (disch := omega) only [push_cast, seval])
      | ((first | ((with_reducible refine pD_y ?_ ?_); exact rfl) | ((with_reducible refine pD_x ?_ ?_); exact rfl)); simp (disch := omega) only [push_cast, seval])
      | ((first | ((with_reducible refine pops_guard ?_); refine ⟨_, rfl, fun K hK => ⟨_, rfl, fun hg => ?_, fun hg => ?_⟩⟩) | ((first | ((with_reducible refine pD_gy ?_ ?_); exact rfl) | ((with_reducible refine pD_gx ?_ ?_); exact rfl)); refine ⟨_, rfl, _, rfl, fun hg => ?_, fun hg => ?_⟩)) <;> first | (exact absurd hg (by decide)) | ((try simp only [Bool.not_true, Bool.not_false] at hg); (try simp only [hg]); (try simp only [push_cast] at hg); (try (exfalso; omega)); (try simp (disch := omega) only [push_cast, seval])))
      | ((with_reducible refine And.intro ?_ ?_); omega))
  refine PWp.loopK (α := Nat × Int) (fun x => match x with | (k, c) => [(3, .val (.int .i64 c)), (4, .val (.int .i64 (k : Int)))]) [1, 5, 6, 7, 8, 9, 10, 11, 12, 13, 14, 15, 16, 17, 18, 19, 20, 21, 22, 23, 24, 25, 26, 27, 28, 29, 30] (fun x => match x with | (k, c) => []) (fun x => match x with | (k, c) => k ≤ l.length ∧ (0 ≤ c ∧ c < 4294967296) ∧ crcGo (l.drop k) c = crcGo l 4294967295) (fun x => match x with | (k, c) => l.length - k) ((0, 4294967295)) (⟨Nat.zero_le _, by omega, rfl⟩) (by (refine ⟨[], ?_, ?_, ?_, ?_⟩; (· ((try simp (disch := omega) only [push_cast, seval]); (repeat' (first | exact trivial | exact rfl | refine And.intro ?_ ?_ | omega)))); (· ((try simp (disch := omega) only [push_cast, seval]); (repeat' (first | exact trivial | exact rfl | refine And.intro ?_ ?_ | omega)))); (· exact rfl); (· (first | exact trivial | exact ⟨rfl, trivial⟩ | exact ⟨rfl, rfl, trivial⟩)))) ?_
  intro x ρ hI; obtain ⟨k, c⟩ := x
  (try dsimp only at hI)
  refine PWp.at (tm' := ?_) (H' := ?_) ?_ ?_ ?_; rotate_left 2; (· ((try simp only [push_cast, seval]); exact rfl)); (· ((try dsimp only); exact rfl))
  obtain ⟨hk, ⟨hc0, hc1⟩, hgo⟩ := hI
  by_cases hlt : k < l.length
  · obtain ⟨b, hb⟩ : ∃ b, l[k]? = some b := ⟨_, List.getElem?_eq_getElem hlt⟩
    have hb8 := b.toNat_lt
    have hd : l.drop k = b :: l.drop (k + 1) := by rw [List.drop_eq_getElem_cons hlt]; congr 1; exact (List.getElem?_eq_some_iff.1 hb).2
    rw [hd, crcGo] at hgo
    obtain ⟨x0, x1⟩ := xor_bd hc0 hc1 (y := (b.toNat : Int)) (by omega) (by omega)
    generalize hx : bits .xor .i64 c (b.toNat : Int) = y at hgo x0 x1
    repeat' (first
        | with_reducible refine PWp.seq ?_
        | with_reducible refine PWp.block ?_
        | with_reducible refine PWp.region okP true ?_
        | with_reducible (first | refine pops_nil ?_ | refine pany_nil ?_ | refine pthen_normal ?_ | refine pblock_normal ?_ | refine pthen_ret ?_ | refine pblock_ret ?_ | refine pthen_exit ?_ | refine pblock_here ?_ | refine pblock_there rfl ?_ | refine PWp.ret ?_ | refine PWp.exit ?_ | refine PWp.skip ?_)
        | ((with_reducible refine hK _ ?_); clear hK K)
        | ((with_reducible refine PWp.condI ?_); refine ⟨_, rfl, fun hg => ?_, fun hg => ?_⟩ <;> first | (exact absurd hg (by decide)) | ((try simp only [Bool.not_true, Bool.not_false] at hg); (try simp only [hg]); (try simp only [push_cast] at hg); (try (exfalso; omega))))
        | ((first | ((with_reducible refine pops_guard0 ?_); refine ⟨_, rfl, fun K hK => ⟨rfl, ?_⟩⟩) | ((with_reducible refine pD_g0 ?_); refine ⟨_, rfl, rfl, ?_⟩)); (try simp (disch := omega) only [push_cast, seval, ← hl, hb, hx]))
        | ((with_reducible refine pany_I ?_); refine ⟨_, rfl, fun K hK => ?_⟩)
        | ((with_reducible refine pops_plain fun K hK => ?_); simp (disch := omega) only [push_cast, seval, ← hl, hb, hx])
        | ((first | ((with_reducible refine pD_y ?_ ?_); exact rfl) | ((with_reducible refine pD_x ?_ ?_); exact rfl)); simp (disch := omega) only [push_cast, seval, ← hl, hb, hx])
        | ((first | ((with_reducible refine pops_guard ?_); refine ⟨_, rfl, fun K hK => ⟨_, rfl, fun hg => ?_, fun hg => ?_⟩⟩) | ((first | ((with_reducible refine pD_gy ?_ ?_); exact rfl) | ((with_reducible refine pD_gx ?_ ?_); exact rfl)); refine ⟨_, rfl, _, rfl, fun hg => ?_, fun hg => ?_⟩)) <;> first | (exact absurd hg (by decide)) | ((try simp only [Bool.not_true, Bool.not_false] at hg); (try simp only [hg]); (try simp only [push_cast] at hg); (try (exfalso; omega)); (try simp (disch := omega) only [push_cast, seval, ← hl, hb, hx])))
        | ((with_reducible refine And.intro ?_ ?_); omega))
    refine PWp.loopK (α := Nat × Int) (fun x => match x with | (j, d) => [(3, .val (.int .i64 d)), (5, .val (.int .i64 (j : Int)))]) [1, 6, 19, 20, 21, 22, 23, 24, 25, 26, 27, 28, 29, 30] (fun x => match x with | (j, d) => []) (fun x => match x with | (j, d) => j ≤ 8 ∧ (0 ≤ d ∧ d < 4294967296) ∧ crcIter (8 - j) d = crcIter 8 y) (fun x => match x with | (j, d) => 8 - j) ((0, y)) (⟨by omega, ⟨x0, x1⟩, rfl⟩) (by (refine ⟨[], ?_, ?_, ?_, ?_⟩; (· ((try simp (disch := omega) only [push_cast, seval]); (repeat' (first | exact trivial | exact rfl | refine And.intro ?_ ?_ | omega)))); (· ((try simp (disch := omega) only [push_cast, seval]); (repeat' (first | exact trivial | exact rfl | refine And.intro ?_ ?_ | omega)))); (· exact rfl); (· (first | exact trivial | exact ⟨rfl, trivial⟩ | exact ⟨rfl, rfl, trivial⟩)))) ?_
    intro x ρ hI; obtain ⟨j, d⟩ := x
    (try dsimp only at hI)
    refine PWp.at (tm' := ?_) (H' := ?_) ?_ ?_ ?_; rotate_left 2; (· ((try simp only [push_cast, seval]); exact rfl)); (· ((try dsimp only); exact rfl))
    obtain ⟨hj, ⟨hd0, hd1⟩, hit⟩ := hI
    by_cases hlj : j < 8
    · obtain ⟨m, hm⟩ : ∃ m, 8 - j = m + 1 := ⟨8 - j - 1, by omega⟩
      have hst := crcStep_bd hd0 hd1
      rw [hm, crcIter] at hit
      by_cases hodd : d % 2 = 1
      · have e : crcStep d = bits .xor .i64 (d / 2) 2197175160 := by unfold crcStep; rw [if_pos hodd]
        repeat' (first
            | with_reducible refine PWp.seq ?_
            | with_reducible refine PWp.block ?_
            | with_reducible refine PWp.region okP true ?_
            | with_reducible (first | refine pops_nil ?_ | refine pany_nil ?_ | refine pthen_normal ?_ | refine pblock_normal ?_ | refine pthen_ret ?_ | refine pblock_ret ?_ | refine pthen_exit ?_ | refine pblock_here ?_ | refine pblock_there rfl ?_ | refine PWp.ret ?_ | refine PWp.exit ?_ | refine PWp.skip ?_)
            | ((with_reducible refine hK _ ?_); clear hK K)
            | ((with_reducible refine PWp.condI ?_); refine ⟨_, rfl, fun hg => ?_, fun hg => ?_⟩ <;> first | (exact absurd hg (by decide)) | ((try simp only [Bool.not_true, Bool.not_false] at hg); (try simp only [hg]); (try simp only [push_cast] at hg); (try (exfalso; omega))))
            | ((first | ((with_reducible refine pops_guard0 ?_); refine ⟨_, rfl, fun K hK => ⟨rfl, ?_⟩⟩) | ((with_reducible refine pD_g0 ?_); refine ⟨_, rfl, rfl, ?_⟩)); (try simp (disch := omega) only [push_cast, seval, and_1, hodd]))
            | ((with_reducible refine pany_I ?_); refine ⟨_, rfl, fun K hK => ?_⟩)
            | ((with_reducible refine pops_plain fun K hK => ?_); simp (disch := omega) only [push_cast, seval, and_1, hodd])
            | ((first | ((with_reducible refine pD_y ?_ ?_); exact rfl) | ((with_reducible refine pD_x ?_ ?_); exact rfl)); simp (disch := omega) only [push_cast, seval, and_1, hodd])
            | ((first | ((with_reducible refine pops_guard ?_); refine ⟨_, rfl, fun K hK => ⟨_, rfl, fun hg => ?_, fun hg => ?_⟩⟩) | ((first | ((with_reducible refine pD_gy ?_ ?_); exact rfl) | ((with_reducible refine pD_gx ?_ ?_); exact rfl)); refine ⟨_, rfl, _, rfl, fun hg => ?_, fun hg => ?_⟩)) <;> first | (exact absurd hg (by decide)) | ((try simp only [Bool.not_true, Bool.not_false] at hg); (try simp only [hg]); (try simp only [push_cast] at hg); (try (exfalso; omega)); (try simp (disch := omega) only [push_cast, seval, and_1, hodd])))
            | ((with_reducible refine And.intro ?_ ?_); omega))
        (refine ⟨(j + 1, crcStep d), by ((try dsimp only); omega), ?_, by (refine ⟨[], ?_, ?_, ?_, ?_⟩; (· ((try simp (disch := omega) only [push_cast, seval]); (repeat' (first | exact trivial | exact rfl | refine And.intro ?_ ?_ | omega)))); (· ((try simp (disch := omega) only [push_cast, seval]); (repeat' (first | exact trivial | exact rfl | refine And.intro ?_ ?_ | omega)))); (· exact rfl); (· (first | exact trivial | exact ⟨rfl, trivial⟩ | exact ⟨rfl, rfl, trivial⟩)))⟩)
        exact ⟨by omega, hst, by rw [show 8 - (j + 1) = m by omega]; exact hit⟩
      · have e : crcStep d = d / 2 := by unfold crcStep; rw [if_neg hodd]
        repeat' (first
            | with_reducible refine PWp.seq ?_
            | with_reducible refine PWp.block ?_
            | with_reducible refine PWp.region okP true ?_
            | with_reducible (first | refine pops_nil ?_ | refine pany_nil ?_ | refine pthen_normal ?_ | refine pblock_normal ?_ | refine pthen_ret ?_ | refine pblock_ret ?_ | refine pthen_exit ?_ | refine pblock_here ?_ | refine pblock_there rfl ?_ | refine PWp.ret ?_ | refine PWp.exit ?_ | refine PWp.skip ?_)
            | ((with_reducible refine hK _ ?_); clear hK K)
            | ((with_reducible refine PWp.condI ?_); refine ⟨_, rfl, fun hg => ?_, fun hg => ?_⟩ <;> first | (exact absurd hg (by decide)) | ((try simp only [Bool.not_true, Bool.not_false] at hg); (try simp only [hg]); (try simp only [push_cast] at hg); (try (exfalso; omega))))
            | ((first | ((with_reducible refine pops_guard0 ?_); refine ⟨_, rfl, fun K hK => ⟨rfl, ?_⟩⟩) | ((with_reducible refine pD_g0 ?_); refine ⟨_, rfl, rfl, ?_⟩)); (try simp (disch := omega) only [push_cast, seval, and_1]))
            | ((with_reducible refine pany_I ?_); refine ⟨_, rfl, fun K hK => ?_⟩)
            | ((with_reducible refine pops_plain fun K hK => ?_); simp (disch := omega) only [push_cast, seval, and_1])
            | ((first | ((with_reducible refine pD_y ?_ ?_); exact rfl) | ((with_reducible refine pD_x ?_ ?_); exact rfl)); simp (disch := omega) only [push_cast, seval, and_1])
            | ((first | ((with_reducible refine pops_guard ?_); refine ⟨_, rfl, fun K hK => ⟨_, rfl, fun hg => ?_, fun hg => ?_⟩⟩) | ((first | ((with_reducible refine pD_gy ?_ ?_); exact rfl) | ((with_reducible refine pD_gx ?_ ?_); exact rfl)); refine ⟨_, rfl, _, rfl, fun hg => ?_, fun hg => ?_⟩)) <;> first | (exact absurd hg (by decide)) | ((try simp only [Bool.not_true, Bool.not_false] at hg); (try simp only [hg]); (try simp only [push_cast] at hg); (try (exfalso; omega)); (try simp (disch := omega) only [push_cast, seval, and_1])))
            | ((with_reducible refine And.intro ?_ ?_); omega))
        (refine ⟨(j + 1, crcStep d), by ((try dsimp only); omega), ?_, by (refine ⟨[], ?_, ?_, ?_, ?_⟩; (· ((try simp (disch := omega) only [push_cast, seval]); (repeat' (first | exact trivial | exact rfl | refine And.intro ?_ ?_ | omega)))); (· ((try simp (disch := omega) only [push_cast, seval]); (repeat' (first | exact trivial | exact rfl | refine And.intro ?_ ?_ | omega)))); (· exact rfl); (· (first | exact trivial | exact ⟨rfl, trivial⟩ | exact ⟨rfl, rfl, trivial⟩)))⟩)
        exact ⟨by omega, hst, by rw [show 8 - (j + 1) = m by omega]; exact hit⟩
    · obtain rfl : j = 8 := by omega
      repeat' (first
          | with_reducible refine PWp.seq ?_
          | with_reducible refine PWp.block ?_
          | with_reducible refine PWp.region okP true ?_
          | with_reducible (first | refine pops_nil ?_ | refine pany_nil ?_ | refine pthen_normal ?_ | refine pblock_normal ?_ | refine pthen_ret ?_ | refine pblock_ret ?_ | refine pthen_exit ?_ | refine pblock_here ?_ | refine pblock_there rfl ?_ | refine PWp.ret ?_ | refine PWp.exit ?_ | refine PWp.skip ?_)
          | ((with_reducible refine hK _ ?_); clear hK K)
          | ((with_reducible refine PWp.condI ?_); refine ⟨_, rfl, fun hg => ?_, fun hg => ?_⟩ <;> first | (exact absurd hg (by decide)) | ((try simp only [Bool.not_true, Bool.not_false] at hg); (try simp only [hg]); (try simp only [push_cast] at hg); (try (exfalso; omega))))
          | ((first | ((with_reducible refine pops_guard0 ?_); refine ⟨_, rfl, fun K hK => ⟨rfl, ?_⟩⟩) | ((with_reducible refine pD_g0 ?_); refine ⟨_, rfl, rfl, ?_⟩)); (try simp (disch := omega) only [push_cast, seval]))
          | ((with_reducible refine pany_I ?_); refine ⟨_, rfl, fun K hK => ?_⟩)
          | ((with_reducible refine pops_plain fun K hK => ?_); simp (disch := omega) only [push_cast, seval])
          | ((first | ((with_reducible refine pD_y ?_ ?_); exact rfl) | ((with_reducible refine pD_x ?_ ?_); exact rfl)); simp (disch := omega) only [push_cast, seval])
          | ((first | ((with_reducible refine pops_guard ?_); refine ⟨_, rfl, fun K hK => ⟨_, rfl, fun hg => ?_, fun hg => ?_⟩⟩) | ((first | ((with_reducible refine pD_gy ?_ ?_); exact rfl) | ((with_reducible refine pD_gx ?_ ?_); exact rfl)); refine ⟨_, rfl, _, rfl, fun hg => ?_, fun hg => ?_⟩)) <;> first | (exact absurd hg (by decide)) | ((try simp only [Bool.not_true, Bool.not_false] at hg); (try simp only [hg]); (try simp only [push_cast] at hg); (try (exfalso; omega)); (try simp (disch := omega) only [push_cast, seval])))
          | ((with_reducible refine And.intro ?_ ?_); omega))
      (refine ⟨(k + 1, d), by ((try dsimp only); omega), ?_, by (refine ⟨[], ?_, ?_, ?_, ?_⟩; (· ((try simp (disch := omega) only [push_cast, seval]); (repeat' (first | exact trivial | exact rfl | refine And.intro ?_ ?_ | omega)))); (· ((try simp (disch := omega) only [push_cast, seval]); (repeat' (first | exact trivial | exact rfl | refine And.intro ?_ ?_ | omega)))); (· exact rfl); (· (first | exact trivial | exact ⟨rfl, trivial⟩ | exact ⟨rfl, rfl, trivial⟩)))⟩)
      exact ⟨by omega, ⟨hd0, hd1⟩, by rw [← hgo, ← hit]; rfl⟩
  · obtain rfl : k = l.length := by omega
    rw [List.drop_length, crcGo] at hgo
    repeat' (first
        | with_reducible refine PWp.seq ?_
        | with_reducible refine PWp.block ?_
        | with_reducible refine PWp.region okP true ?_
        | with_reducible (first | refine pops_nil ?_ | refine pany_nil ?_ | refine pthen_normal ?_ | refine pblock_normal ?_ | refine pthen_ret ?_ | refine pblock_ret ?_ | refine pthen_exit ?_ | refine pblock_here ?_ | refine pblock_there rfl ?_ | refine PWp.ret ?_ | refine PWp.exit ?_ | refine PWp.skip ?_)
        | ((with_reducible refine hK _ ?_); clear hK K)
        | ((with_reducible refine PWp.condI ?_); refine ⟨_, rfl, fun hg => ?_, fun hg => ?_⟩ <;> first | (exact absurd hg (by decide)) | ((try simp only [Bool.not_true, Bool.not_false] at hg); (try simp only [hg]); (try simp only [push_cast] at hg); (try (exfalso; omega))))
        | ((first | ((with_reducible refine pops_guard0 ?_); refine ⟨_, rfl, fun K hK => ⟨rfl, ?_⟩⟩) | ((with_reducible refine pD_g0 ?_); refine ⟨_, rfl, rfl, ?_⟩)); (try simp (disch := omega) only [push_cast, seval]))
        | ((with_reducible refine pany_I ?_); refine ⟨_, rfl, fun K hK => ?_⟩)
        | ((with_reducible refine pops_plain fun K hK => ?_); simp (disch := omega) only [push_cast, seval])
        | ((first | ((with_reducible refine pD_y ?_ ?_); exact rfl) | ((with_reducible refine pD_x ?_ ?_); exact rfl)); simp (disch := omega) only [push_cast, seval])
        | ((first | ((with_reducible refine pops_guard ?_); refine ⟨_, rfl, fun K hK => ⟨_, rfl, fun hg => ?_, fun hg => ?_⟩⟩) | ((first | ((with_reducible refine pD_gy ?_ ?_); exact rfl) | ((with_reducible refine pD_gx ?_ ?_); exact rfl)); refine ⟨_, rfl, _, rfl, fun hg => ?_, fun hg => ?_⟩)) <;> first | (exact absurd hg (by decide)) | ((try simp only [Bool.not_true, Bool.not_false] at hg); (try simp only [hg]); (try simp only [push_cast] at hg); (try (exfalso; omega)); (try simp (disch := omega) only [push_cast, seval])))
        | ((with_reducible refine And.intro ?_ ?_); omega))
    ((first | with_reducible (first | refine pendV1 ?_ ?_ ?_ | refine pendV2 ?_ ?_ ?_ | refine pendV3 ?_ ?_ ?_ | refine pendV0 ?_ ?_ ?_) | refine pendVG ?_ ?_ ?_); (· (first | exact .inl rfl | exact .inr rfl)); rotate_left 1; (· exact rfl); (try (apply Exists.intro; apply And.intro; (· repeat' (first | exact presults_nil | apply presults_tmp | (apply presults_agg; (· exact rfl); (· exact rfl); (· exact rfl); (· exact rfl); (· exact rfl); (· first | exact Nat.le_refl _ | decide | simp)) | (apply presults_one; (· exact rfl); (· exact rfl); (· exact rfl); (· exact rfl); (· exact rfl)))))); (try simp only [push_cast, seval]))
    rw [← hgo]
theorem iWalRec_p (s : ByteArray) (hs : s.size ≤ 1099511627776) : PCalls Try.prog 50 [.val (.string s)] [] (RV (.val (.string (walRec s)))) := by
  by_cases h : 60 < s.size
  · have e : walRec s = ⟨#[]⟩ := by unfold walRec; rw [if_pos h]
    rw [e]
    refine pcalls_ofR okP Try.func50 rfl ?_
    simp only [Try.f50, List.length_cons, List.length_nil, Nat.reduceAdd, Nat.reduceSub, List.replicate_succ, List.replicate_zero, List.cons_append, List.nil_append, List.length_map]
    repeat' (first
        | with_reducible refine PWp.seq ?_
        | with_reducible refine PWp.block ?_
        | with_reducible refine PWp.region okP true ?_
        | with_reducible (first | refine pops_nil ?_ | refine pany_nil ?_ | refine pthen_normal ?_ | refine pblock_normal ?_ | refine pthen_ret ?_ | refine pblock_ret ?_ | refine pthen_exit ?_ | refine pblock_here ?_ | refine pblock_there rfl ?_ | refine PWp.ret ?_ | refine PWp.exit ?_ | refine PWp.skip ?_)
        | ((with_reducible refine hK _ ?_); clear hK K)
        | ((with_reducible refine PWp.condI ?_); refine ⟨_, rfl, fun hg => ?_, fun hg => ?_⟩ <;> first | (exact absurd hg (by decide)) | ((try simp only [Bool.not_true, Bool.not_false] at hg); (try simp only [hg]); (try simp only [push_cast] at hg); (try (exfalso; omega))))
        | ((first | ((with_reducible refine pops_guard0 ?_); refine ⟨_, rfl, fun K hK => ⟨rfl, ?_⟩⟩) | ((with_reducible refine pD_g0 ?_); refine ⟨_, rfl, rfl, ?_⟩)); (try simp (disch := omega) only [push_cast, seval]))
        | ((with_reducible refine pany_I ?_); refine ⟨_, rfl, fun K hK => ?_⟩)
        | ((with_reducible refine pops_plain fun K hK => ?_); simp (disch := omega) only [push_cast, seval])
        | ((first | ((with_reducible refine pD_y ?_ ?_); exact rfl) | ((with_reducible refine pD_x ?_ ?_); exact rfl)); simp (disch := omega) only [push_cast, seval])
        | ((first | ((with_reducible refine pops_guard ?_); refine ⟨_, rfl, fun K hK => ⟨_, rfl, fun hg => ?_, fun hg => ?_⟩⟩) | ((first | ((with_reducible refine pD_gy ?_ ?_); exact rfl) | ((with_reducible refine pD_gx ?_ ?_); exact rfl)); refine ⟨_, rfl, _, rfl, fun hg => ?_, fun hg => ?_⟩)) <;> first | (exact absurd hg (by decide)) | ((try simp only [Bool.not_true, Bool.not_false] at hg); (try simp only [hg]); (try simp only [push_cast] at hg); (try (exfalso; omega)); (try simp (disch := omega) only [push_cast, seval])))
        | ((with_reducible show pcall _ _ _ _ _ _); refine pcall_RV (g := 111) (callable_of Try.func111 rfl rfl) (iFixed_p _ _ (by (first | assumption | omega | (simp; omega) | (simp_all; done) | (simp_all; omega))) (by (first | assumption | omega | (simp; omega) | (simp_all; done) | (simp_all; omega))) (by (first | assumption | omega | (simp; omega) | (simp_all; done) | (simp_all; omega)))) rfl (by (repeat' (first | exact trivial | exact rfl | exact vwOk_clo rfl | exact rowsC fun _ => rfl | exact rowsC2 fun _ => rfl | refine And.intro ?_ ?_ | refine vwOk_ag ?_ | refine vwOk_cl ?_))) ?_; (try simp (disch := omega) only [push_cast, seval]))
        | ((with_reducible show pcall _ _ _ _ _ _); refine pcall_RV (g := 112) (callable_of Try.func112 rfl rfl) (iCrc_p _ (by (first | assumption | omega | (simp; omega) | (simp_all; done) | (simp_all; omega)))) rfl (by (repeat' (first | exact trivial | exact rfl | exact vwOk_clo rfl | exact rowsC fun _ => rfl | exact rowsC2 fun _ => rfl | refine And.intro ?_ ?_ | refine vwOk_ag ?_ | refine vwOk_cl ?_))) ?_; (try simp (disch := omega) only [push_cast, seval]))
        | ((with_reducible show pcall _ _ _ _ _ _); refine pcall_RV (g := 113) (callable_of Try.func113 rfl rfl) (iSized_p _ (by (first | assumption | omega | (simp; omega) | (simp_all; done) | (simp_all; omega)))) rfl (by (repeat' (first | exact trivial | exact rfl | exact vwOk_clo rfl | exact rowsC fun _ => rfl | exact rowsC2 fun _ => rfl | refine And.intro ?_ ?_ | refine vwOk_ag ?_ | refine vwOk_cl ?_))) ?_; (try simp (disch := omega) only [push_cast, seval]))
        | ((with_reducible refine And.intro ?_ ?_); omega))
    ((first | with_reducible (first | refine pendV1 ?_ ?_ ?_ | refine pendV2 ?_ ?_ ?_ | refine pendV3 ?_ ?_ ?_ | refine pendV0 ?_ ?_ ?_) | refine pendVG ?_ ?_ ?_); (· (first | exact .inl rfl | exact .inr rfl)); rotate_left 1; (· exact rfl); (try (apply Exists.intro; apply And.intro; (· repeat' (first | exact presults_nil | apply presults_tmp | (apply presults_agg; (· exact rfl); (· exact rfl); (· exact rfl); (· exact rfl); (· exact rfl); (· first | exact Nat.le_refl _ | decide | simp)) | (apply presults_one; (· exact rfl); (· exact rfl); (· exact rfl); (· exact rfl); (· exact rfl)))))); (try simp only [push_cast, seval]))
  · obtain ⟨c0, c1⟩ := crcM_bd (sizedS s)
    obtain ⟨c, hc⟩ : ∃ c : Nat, crcM (sizedS s) = (c : Int) := ⟨(crcM (sizedS s)).toNat, by omega⟩
    have e : walRec s = fx c 4 ++ sizedS s := by unfold walRec; rw [if_neg h, recB, hc, Int.toNat_natCast]
    rw [e]
    have hv := varS_size s.size
    have hz : (sizedS s).size ≤ 68 := by unfold sizedS; rw [ByteArray.size_append]; omega
    have hf := fx_size c 4
    have hc32 : c < 2 ^ (8 * 4) := by omega
    refine pcalls_ofR okP Try.func50 rfl ?_
    simp only [Try.f50, List.length_cons, List.length_nil, Nat.reduceAdd, Nat.reduceSub, List.replicate_succ, List.replicate_zero, List.cons_append, List.nil_append, List.length_map]
    repeat' (first
        | with_reducible refine PWp.seq ?_
        | with_reducible refine PWp.block ?_
        | with_reducible refine PWp.region okP true ?_
        | with_reducible (first | refine pops_nil ?_ | refine pany_nil ?_ | refine pthen_normal ?_ | refine pblock_normal ?_ | refine pthen_ret ?_ | refine pblock_ret ?_ | refine pthen_exit ?_ | refine pblock_here ?_ | refine pblock_there rfl ?_ | refine PWp.ret ?_ | refine PWp.exit ?_ | refine PWp.skip ?_)
        | ((with_reducible refine hK _ ?_); clear hK K)
        | ((with_reducible refine PWp.condI ?_); refine ⟨_, rfl, fun hg => ?_, fun hg => ?_⟩ <;> first | (exact absurd hg (by decide)) | ((try simp only [Bool.not_true, Bool.not_false] at hg); (try simp only [hg]); (try simp only [push_cast] at hg); (try (exfalso; omega))))
        | ((first | ((with_reducible refine pops_guard0 ?_); refine ⟨_, rfl, fun K hK => ⟨rfl, ?_⟩⟩) | ((with_reducible refine pD_g0 ?_); refine ⟨_, rfl, rfl, ?_⟩)); (try simp (disch := omega) only [push_cast, seval, hc]))
        | ((with_reducible refine pany_I ?_); refine ⟨_, rfl, fun K hK => ?_⟩)
        | ((with_reducible refine pops_plain fun K hK => ?_); simp (disch := omega) only [push_cast, seval, hc])
        | ((first | ((with_reducible refine pD_y ?_ ?_); exact rfl) | ((with_reducible refine pD_x ?_ ?_); exact rfl)); simp (disch := omega) only [push_cast, seval, hc])
        | ((first | ((with_reducible refine pops_guard ?_); refine ⟨_, rfl, fun K hK => ⟨_, rfl, fun hg => ?_, fun hg => ?_⟩⟩) | ((first | ((with_reducible refine pD_gy ?_ ?_); exact rfl) | ((with_reducible refine pD_gx ?_ ?_); exact rfl)); refine ⟨_, rfl, _, rfl, fun hg => ?_, fun hg => ?_⟩)) <;> first | (exact absurd hg (by decide)) | ((try simp only [Bool.not_true, Bool.not_false] at hg); (try simp only [hg]); (try simp only [push_cast] at hg); (try (exfalso; omega)); (try simp (disch := omega) only [push_cast, seval, hc])))
        | ((with_reducible show pcall _ _ _ _ _ _); refine pcall_RV (g := 111) (callable_of Try.func111 rfl rfl) (iFixed_p _ 4 (by omega) (by omega) (by omega)) rfl (by (repeat' (first | exact trivial | exact rfl | exact vwOk_clo rfl | exact rowsC fun _ => rfl | exact rowsC2 fun _ => rfl | refine And.intro ?_ ?_ | refine vwOk_ag ?_ | refine vwOk_cl ?_))) ?_; (try simp (disch := omega) only [push_cast, seval, hc]))
        | ((with_reducible show pcall _ _ _ _ _ _); refine pcall_RV (g := 112) (callable_of Try.func112 rfl rfl) (iCrc_p _ (by (first | assumption | omega | (simp; omega) | (simp_all; done) | (simp_all; omega)))) rfl (by (repeat' (first | exact trivial | exact rfl | exact vwOk_clo rfl | exact rowsC fun _ => rfl | exact rowsC2 fun _ => rfl | refine And.intro ?_ ?_ | refine vwOk_ag ?_ | refine vwOk_cl ?_))) ?_; (try simp (disch := omega) only [push_cast, seval, hc]))
        | ((with_reducible show pcall _ _ _ _ _ _); refine pcall_RV (g := 113) (callable_of Try.func113 rfl rfl) (iSized_p _ (by (first | assumption | omega | (simp; omega) | (simp_all; done) | (simp_all; omega)))) rfl (by (repeat' (first | exact trivial | exact rfl | exact vwOk_clo rfl | exact rowsC fun _ => rfl | exact rowsC2 fun _ => rfl | refine And.intro ?_ ?_ | refine vwOk_ag ?_ | refine vwOk_cl ?_))) ?_; (try simp (disch := omega) only [push_cast, seval, hc]))
        | ((with_reducible refine And.intro ?_ ?_); omega))
    ((first | with_reducible (first | refine pendV1 ?_ ?_ ?_ | refine pendV2 ?_ ?_ ?_ | refine pendV3 ?_ ?_ ?_ | refine pendV0 ?_ ?_ ?_) | refine pendVG ?_ ?_ ?_); (· (first | exact .inl rfl | exact .inr rfl)); rotate_left 1; (· exact rfl); (try (apply Exists.intro; apply And.intro; (· repeat' (first | exact presults_nil | apply presults_tmp | (apply presults_agg; (· exact rfl); (· exact rfl); (· exact rfl); (· exact rfl); (· exact rfl); (· first | exact Nat.le_refl _ | decide | simp)) | (apply presults_one; (· exact rfl); (· exact rfl); (· exact rfl); (· exact rfl); (· exact rfl)))))); (try simp only [push_cast, seval]))
theorem sWalRec_p (s : ByteArray) (hs : s.size ≤ 1099511627776) : PCalls Try.prog 51 [.val (.string s)] [] (RV (.val (.string (walRec s)))) := by
  by_cases h : 60 < s.size
  · have e : walRec s = ⟨#[]⟩ := by unfold walRec; rw [if_pos h]
    rw [e]
    refine pcalls_ofR okP Try.func51 rfl ?_
    simp only [Try.f51, List.length_cons, List.length_nil, Nat.reduceAdd, Nat.reduceSub, List.replicate_succ, List.replicate_zero, List.cons_append, List.nil_append, List.length_map]
    repeat' (first
        | with_reducible refine PWp.seq ?_
        | with_reducible refine PWp.block ?_
        | with_reducible refine PWp.region okP true ?_
        | with_reducible (first | refine pops_nil ?_ | refine pany_nil ?_ | refine pthen_normal ?_ | refine pblock_normal ?_ | refine pthen_ret ?_ | refine pblock_ret ?_ | refine pthen_exit ?_ | refine pblock_here ?_ | refine pblock_there rfl ?_ | refine PWp.ret ?_ | refine PWp.exit ?_ | refine PWp.skip ?_)
        | ((with_reducible refine hK _ ?_); clear hK K)
        | ((with_reducible refine PWp.condI ?_); refine ⟨_, rfl, fun hg => ?_, fun hg => ?_⟩ <;> first | (exact absurd hg (by decide)) | ((try simp only [Bool.not_true, Bool.not_false] at hg); (try simp only [hg]); (try simp only [push_cast] at hg); (try (exfalso; omega))))
        | ((first | ((with_reducible refine pops_guard0 ?_); refine ⟨_, rfl, fun K hK => ⟨rfl, ?_⟩⟩) | ((with_reducible refine pD_g0 ?_); refine ⟨_, rfl, rfl, ?_⟩)); (try simp (disch := omega) only [push_cast, seval]))
        | ((with_reducible refine pany_I ?_); refine ⟨_, rfl, fun K hK => ?_⟩)
        | ((with_reducible refine pops_plain fun K hK => ?_); simp (disch := omega) only [push_cast, seval])
        | ((first | ((with_reducible refine pD_y ?_ ?_); exact rfl) | ((with_reducible refine pD_x ?_ ?_); exact rfl)); simp (disch := omega) only [push_cast, seval])
        | ((first | ((with_reducible refine pops_guard ?_); refine ⟨_, rfl, fun K hK => ⟨_, rfl, fun hg => ?_, fun hg => ?_⟩⟩) | ((first | ((with_reducible refine pD_gy ?_ ?_); exact rfl) | ((with_reducible refine pD_gx ?_ ?_); exact rfl)); refine ⟨_, rfl, _, rfl, fun hg => ?_, fun hg => ?_⟩)) <;> first | (exact absurd hg (by decide)) | ((try simp only [Bool.not_true, Bool.not_false] at hg); (try simp only [hg]); (try simp only [push_cast] at hg); (try (exfalso; omega)); (try simp (disch := omega) only [push_cast, seval])))
        | ((with_reducible show pcall _ _ _ _ _ _); refine pcall_RV (g := 114) (callable_of Try.func114 rfl rfl) (sPiece_p _ (by (first | assumption | omega | (simp; omega) | (simp_all; done) | (simp_all; omega)))) rfl (by (repeat' (first | exact trivial | exact rfl | exact vwOk_clo rfl | exact rowsC fun _ => rfl | exact rowsC2 fun _ => rfl | refine And.intro ?_ ?_ | refine vwOk_ag ?_ | refine vwOk_cl ?_))) ?_; (try simp (disch := omega) only [push_cast, seval]))
        | ((with_reducible show pcall _ _ _ _ _ _); refine pcall_RV (g := 115) (callable_of Try.func115 rfl rfl) (sFixed_p _ _ (by (first | assumption | omega | (simp; omega) | (simp_all; done) | (simp_all; omega))) (by (first | assumption | omega | (simp; omega) | (simp_all; done) | (simp_all; omega))) (by (first | assumption | omega | (simp; omega) | (simp_all; done) | (simp_all; omega)))) rfl (by (repeat' (first | exact trivial | exact rfl | exact vwOk_clo rfl | exact rowsC fun _ => rfl | exact rowsC2 fun _ => rfl | refine And.intro ?_ ?_ | refine vwOk_ag ?_ | refine vwOk_cl ?_))) ?_; (try simp (disch := omega) only [push_cast, seval]))
        | ((with_reducible show pcall _ _ _ _ _ _); refine pcall_RV (g := 116) (callable_of Try.func116 rfl rfl) (sCrc_p _ (by (first | assumption | omega | (simp; omega) | (simp_all; done) | (simp_all; omega)))) rfl (by (repeat' (first | exact trivial | exact rfl | exact vwOk_clo rfl | exact rowsC fun _ => rfl | exact rowsC2 fun _ => rfl | refine And.intro ?_ ?_ | refine vwOk_ag ?_ | refine vwOk_cl ?_))) ?_; (try simp (disch := omega) only [push_cast, seval]))
        | ((with_reducible refine And.intro ?_ ?_); omega))
    ((first | with_reducible (first | refine pendV1 ?_ ?_ ?_ | refine pendV2 ?_ ?_ ?_ | refine pendV3 ?_ ?_ ?_ | refine pendV0 ?_ ?_ ?_) | refine pendVG ?_ ?_ ?_); (· (first | exact .inl rfl | exact .inr rfl)); rotate_left 1; (· exact rfl); (try (apply Exists.intro; apply And.intro; (· repeat' (first | exact presults_nil | apply presults_tmp | (apply presults_agg; (· exact rfl); (· exact rfl); (· exact rfl); (· exact rfl); (· exact rfl); (· first | exact Nat.le_refl _ | decide | simp)) | (apply presults_one; (· exact rfl); (· exact rfl); (· exact rfl); (· exact rfl); (· exact rfl)))))); (try simp only [push_cast, seval]))
  · obtain ⟨c0, c1⟩ := crcM_bd (sizedS s)
    obtain ⟨c, hc⟩ : ∃ c : Nat, crcM (sizedS s) = (c : Int) := ⟨(crcM (sizedS s)).toNat, by omega⟩
    have e : walRec s = fx c 4 ++ sizedS s := by unfold walRec; rw [if_neg h, recB, hc, Int.toNat_natCast]
    rw [e]
    have hv := varS_size s.size
    have hz : (sizedS s).size ≤ 68 := by unfold sizedS; rw [ByteArray.size_append]; omega
    have hf := fx_size c 4
    have hc32 : c < 2 ^ (8 * 4) := by omega
    refine pcalls_ofR okP Try.func51 rfl ?_
    simp only [Try.f51, List.length_cons, List.length_nil, Nat.reduceAdd, Nat.reduceSub, List.replicate_succ, List.replicate_zero, List.cons_append, List.nil_append, List.length_map]
    repeat' (first
        | with_reducible refine PWp.seq ?_
        | with_reducible refine PWp.block ?_
        | with_reducible refine PWp.region okP true ?_
        | with_reducible (first | refine pops_nil ?_ | refine pany_nil ?_ | refine pthen_normal ?_ | refine pblock_normal ?_ | refine pthen_ret ?_ | refine pblock_ret ?_ | refine pthen_exit ?_ | refine pblock_here ?_ | refine pblock_there rfl ?_ | refine PWp.ret ?_ | refine PWp.exit ?_ | refine PWp.skip ?_)
        | ((with_reducible refine hK _ ?_); clear hK K)
        | ((with_reducible refine PWp.condI ?_); refine ⟨_, rfl, fun hg => ?_, fun hg => ?_⟩ <;> first | (exact absurd hg (by decide)) | ((try simp only [Bool.not_true, Bool.not_false] at hg); (try simp only [hg]); (try simp only [push_cast] at hg); (try (exfalso; omega))))
        | ((first | ((with_reducible refine pops_guard0 ?_); refine ⟨_, rfl, fun K hK => ⟨rfl, ?_⟩⟩) | ((with_reducible refine pD_g0 ?_); refine ⟨_, rfl, rfl, ?_⟩)); (try simp (disch := omega) only [push_cast, seval, hc]))
        | ((with_reducible refine pany_I ?_); refine ⟨_, rfl, fun K hK => ?_⟩)
        | ((with_reducible refine pops_plain fun K hK => ?_); simp (disch := omega) only [push_cast, seval, hc])
        | ((first | ((with_reducible refine pD_y ?_ ?_); exact rfl) | ((with_reducible refine pD_x ?_ ?_); exact rfl)); simp (disch := omega) only [push_cast, seval, hc])
        | ((first | ((with_reducible refine pops_guard ?_); refine ⟨_, rfl, fun K hK => ⟨_, rfl, fun hg => ?_, fun hg => ?_⟩⟩) | ((first | ((with_reducible refine pD_gy ?_ ?_); exact rfl) | ((with_reducible refine pD_gx ?_ ?_); exact rfl)); refine ⟨_, rfl, _, rfl, fun hg => ?_, fun hg => ?_⟩)) <;> first | (exact absurd hg (by decide)) | ((try simp only [Bool.not_true, Bool.not_false] at hg); (try simp only [hg]); (try simp only [push_cast] at hg); (try (exfalso; omega)); (try simp (disch := omega) only [push_cast, seval, hc])))
        | ((with_reducible show pcall _ _ _ _ _ _); refine pcall_RV (g := 114) (callable_of Try.func114 rfl rfl) (sPiece_p _ (by (first | assumption | omega | (simp; omega) | (simp_all; done) | (simp_all; omega)))) rfl (by (repeat' (first | exact trivial | exact rfl | exact vwOk_clo rfl | exact rowsC fun _ => rfl | exact rowsC2 fun _ => rfl | refine And.intro ?_ ?_ | refine vwOk_ag ?_ | refine vwOk_cl ?_))) ?_; (try simp (disch := omega) only [push_cast, seval, hc]))
        | ((with_reducible show pcall _ _ _ _ _ _); refine pcall_RV (g := 115) (callable_of Try.func115 rfl rfl) (sFixed_p _ 4 (by omega) (by omega) (by omega)) rfl (by (repeat' (first | exact trivial | exact rfl | exact vwOk_clo rfl | exact rowsC fun _ => rfl | exact rowsC2 fun _ => rfl | refine And.intro ?_ ?_ | refine vwOk_ag ?_ | refine vwOk_cl ?_))) ?_; (try simp (disch := omega) only [push_cast, seval, hc]))
        | ((with_reducible show pcall _ _ _ _ _ _); refine pcall_RV (g := 116) (callable_of Try.func116 rfl rfl) (sCrc_p _ (by (first | assumption | omega | (simp; omega) | (simp_all; done) | (simp_all; omega)))) rfl (by (repeat' (first | exact trivial | exact rfl | exact vwOk_clo rfl | exact rowsC fun _ => rfl | exact rowsC2 fun _ => rfl | refine And.intro ?_ ?_ | refine vwOk_ag ?_ | refine vwOk_cl ?_))) ?_; (try simp (disch := omega) only [push_cast, seval, hc]))
        | ((with_reducible refine And.intro ?_ ?_); omega))
    ((first | with_reducible (first | refine pendV1 ?_ ?_ ?_ | refine pendV2 ?_ ?_ ?_ | refine pendV3 ?_ ?_ ?_ | refine pendV0 ?_ ?_ ?_) | refine pendVG ?_ ?_ ?_); (· (first | exact .inl rfl | exact .inr rfl)); rotate_left 1; (· exact rfl); (try (apply Exists.intro; apply And.intro; (· repeat' (first | exact presults_nil | apply presults_tmp | (apply presults_agg; (· exact rfl); (· exact rfl); (· exact rfl); (· exact rfl); (· exact rfl); (· first | exact Nat.le_refl _ | decide | simp)) | (apply presults_one; (· exact rfl); (· exact rfl); (· exact rfl); (· exact rfl); (· exact rfl)))))); (try simp only [push_cast, seval]))
end Go.Proofs.Ytkbikihbomnghaa
