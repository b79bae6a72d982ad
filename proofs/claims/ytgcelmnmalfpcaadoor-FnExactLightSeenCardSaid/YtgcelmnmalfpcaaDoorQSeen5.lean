/- What the proof leans on, part 5. -/
import Derived.Test.YtgcelmnmalfpcaaDoorQSeen4
namespace Go.Proofs.YtgcelmnmalfpcaaDoor
set_option linter.unusedSimpArgs false
set_option linter.unusedVariables false
open Go.RowKit
set_option maxRecDepth 100000
theorem sL19At_p (t : GTable) (id : Int) (hl : t.fPeers.length ≤ 1099511627776) : PCalls Tryd.prog 74 [.agg (pTable t), .val (.int .i64 id)] [] (RV (.val (.int .i64 (peerIdx t.fPeers id)))) := by
  refine pcalls_ofR okP Tryd.func74 rfl ?_
  simp only [Tryd.f74, List.length_cons, List.length_nil, Nat.reduceAdd, Nat.reduceSub, List.replicate_succ, List.replicate_zero, List.cons_append, List.nil_append, List.length_map]
  repeat' (first
      | with_reducible refine PWp.seq ?_
      | with_reducible refine PWp.block ?_
      | with_reducible refine PWp.region okP true ?_
      | with_reducible (first | refine pops_nil ?_ | refine pany_nil ?_ | refine pthen_normal ?_ | refine pblock_normal ?_ | refine pthen_ret ?_ | refine pblock_ret ?_ | refine pthen_exit ?_ | refine pblock_here ?_ | refine pblock_there rfl ?_ | refine PWp.ret ?_ | refine PWp.exit ?_ | refine PWp.skip ?_)
      | ((with_reducible refine hK _ ?_); clear hK K)
      | ((with_reducible refine PWp.condI ?_); refine ⟨_, rfl, fun hg => ?_, fun hg => ?_⟩ <;> first | (exact absurd hg (by decide)) | ((try simp only [Bool.not_true, Bool.not_false] at hg); (try simp only [hg]); (try simp only [push_cast] at hg); (try exact absurd trivial hg); (try (exfalso; omega))))
      | ((first | ((with_reducible refine pops_guard0 ?_); refine ⟨_, rfl, fun K hK => ⟨rfl, ?_⟩⟩) | ((with_reducible refine pD_g0 ?_); refine ⟨_, rfl, rfl, ?_⟩)); (try simp (disch := omega) only [push_cast, seval]))
      | ((with_reducible refine pany_I ?_); refine ⟨_, rfl, fun K hK => ?_⟩)
      | ((with_reducible refine pops_plain fun K hK => ?_); simp (disch := omega) only [push_cast, seval])
      | ((first | ((with_reducible refine pD_y ?_ ?_); exact rfl) | ((with_reducible refine pD_x ?_ ?_); exact rfl)); simp (disch := omega) only [push_cast, seval])
      | ((first | ((with_reducible refine pops_guard ?_); refine ⟨_, rfl, fun K hK => ⟨_, rfl, fun hg => ?_, fun hg => ?_⟩⟩) | ((first | ((with_reducible refine pD_gy ?_ ?_); exact rfl) | ((with_reducible refine pD_gx ?_ ?_); exact rfl)); refine ⟨_, rfl, _, rfl, fun hg => ?_, fun hg => ?_⟩)) <;> first | (exact absurd hg (by decide)) | ((try simp only [Bool.not_true, Bool.not_false] at hg); (try simp only [hg]); (try simp only [push_cast] at hg); (try exact absurd trivial hg); (try (exfalso; omega)); (try simp (disch := omega) only [push_cast, seval])))
      | ((with_reducible refine And.intro ?_ ?_); omega))
  refine PWp.loopK (α := Nat) (fun k => [(1, .val (.int .i64 id)), (2, .ptr 0 0), (5, .val (.int .i64 (k : Int)))]) [0, 3, 4, 6, 7, 8, 9, 10, 11, 12, 13, 14, 15, 16, 17, 18, 19, 20, 21] (fun k => [some (.box (pTable t))]) (fun k => k ≤ t.fPeers.length ∧ noneTo (fun p => decide (p.fId = id)) t.fPeers k) (fun k => t.fPeers.length - k) (0) (⟨Nat.zero_le _, noneTo_zero⟩) (by (refine ⟨[?_], ?_, ?_, ?_, ?_⟩; rotate_left 1; (· ((try simp (disch := omega) only [push_cast, seval]); (repeat' (first | exact trivial | exact rfl | refine And.intro ?_ ?_ | omega)))); (· ((try simp (disch := omega) only [push_cast, seval]); (repeat' (first | exact trivial | exact rfl | refine And.intro ?_ ?_ | omega)))); (· exact rfl); (· (first | exact trivial | exact ⟨rfl, trivial⟩ | exact ⟨rfl, rfl, trivial⟩)))) ?_
  intro k ρ hI
  (try dsimp only at hI)
  refine PWp.at (tm' := ?_) (H' := ?_) ?_ ?_ ?_; rotate_left 2; (· ((try simp only [push_cast, seval]); exact rfl)); (· ((try dsimp only); exact rfl))
  obtain ⟨hk, hA⟩ := hI
  by_cases hlt : k < t.fPeers.length
  · obtain ⟨x, hx⟩ : ∃ x, t.fPeers[k]? = some x := ⟨_, List.getElem?_eq_getElem hlt⟩
    by_cases he : x.fId = id
    · have e : peerIdx t.fPeers id = k := idx_some hx (by simpa using he) hA
      repeat' (first
          | with_reducible refine PWp.seq ?_
          | with_reducible refine PWp.block ?_
          | with_reducible refine PWp.region okP true ?_
          | with_reducible (first | refine pops_nil ?_ | refine pany_nil ?_ | refine pthen_normal ?_ | refine pblock_normal ?_ | refine pthen_ret ?_ | refine pblock_ret ?_ | refine pthen_exit ?_ | refine pblock_here ?_ | refine pblock_there rfl ?_ | refine PWp.ret ?_ | refine PWp.exit ?_ | refine PWp.skip ?_)
          | ((with_reducible refine hK _ ?_); clear hK K)
          | ((with_reducible refine PWp.condI ?_); refine ⟨_, rfl, fun hg => ?_, fun hg => ?_⟩ <;> first | (exact absurd hg (by decide)) | ((try simp only [Bool.not_true, Bool.not_false] at hg); (try simp only [hg]); (try simp only [push_cast] at hg); (try exact absurd trivial hg); (try (exfalso; omega))))
          | ((first | ((with_reducible refine pops_guard0 ?_); refine ⟨_, rfl, fun K hK => ⟨rfl, ?_⟩⟩) | ((with_reducible refine pD_g0 ?_); refine ⟨_, rfl, rfl, ?_⟩)); (try simp (disch := omega) only [push_cast, seval, hx, he]))
          | ((with_reducible refine pany_I ?_); refine ⟨_, rfl, fun K hK => ?_⟩)
          | ((with_reducible refine pops_plain fun K hK => ?_); simp (disch := omega) only [push_cast, seval, hx, he])
          | ((first | ((with_reducible refine pD_y ?_ ?_); exact rfl) | ((with_reducible refine pD_x ?_ ?_); exact rfl)); simp (disch := omega) only [push_cast, seval, hx, he])
          | ((first | ((with_reducible refine pops_guard ?_); refine ⟨_, rfl, fun K hK => ⟨_, rfl, fun hg => ?_, fun hg => ?_⟩⟩) | ((first | ((with_reducible refine pD_gy ?_ ?_); exact rfl) | ((with_reducible refine pD_gx ?_ ?_); exact rfl)); refine ⟨_, rfl, _, rfl, fun hg => ?_, fun hg => ?_⟩)) <;> first | (exact absurd hg (by decide)) | ((try simp only [Bool.not_true, Bool.not_false] at hg); (try simp only [hg]); (try simp only [push_cast] at hg); (try exact absurd trivial hg); (try (exfalso; omega)); (try simp (disch := omega) only [push_cast, seval, hx, he])))
          | ((with_reducible refine And.intro ?_ ?_); omega))
      ((first | with_reducible (first | refine pendV1 ?_ ?_ ?_ | refine pendV2 ?_ ?_ ?_ | refine pendV3 ?_ ?_ ?_ | refine pendV0 ?_ ?_ ?_) | refine pendVG ?_ ?_ ?_); (· (first | exact .inl rfl | exact .inr rfl)); rotate_left 1; (· exact rfl); (try (apply Exists.intro; apply And.intro; (· repeat' (first | exact presults_nil | apply presults_tmp | (apply presults_agg; (· exact rfl); (· exact rfl); (· exact rfl); (· exact rfl); (· exact rfl); (· first | exact Nat.le_refl _ | decide | simp)) | (apply presults_one; (· exact rfl); (· exact rfl); (· exact rfl); (· exact rfl); (· exact rfl)))))); (try simp only [push_cast, seval]))
      rw [e]
    ·
      repeat' (first
          | with_reducible refine PWp.seq ?_
          | with_reducible refine PWp.block ?_
          | with_reducible refine PWp.region okP true ?_
          | with_reducible (first | refine pops_nil ?_ | refine pany_nil ?_ | refine pthen_normal ?_ | refine pblock_normal ?_ | refine pthen_ret ?_ | refine pblock_ret ?_ | refine pthen_exit ?_ | refine pblock_here ?_ | refine pblock_there rfl ?_ | refine PWp.ret ?_ | refine PWp.exit ?_ | refine PWp.skip ?_)
          | ((with_reducible refine hK _ ?_); clear hK K)
          | ((with_reducible refine PWp.condI ?_); refine ⟨_, rfl, fun hg => ?_, fun hg => ?_⟩ <;> first | (exact absurd hg (by decide)) | ((try simp only [Bool.not_true, Bool.not_false] at hg); (try simp only [hg]); (try simp only [push_cast] at hg); (try exact absurd trivial hg); (try (exfalso; omega))))
          | ((first | ((with_reducible refine pops_guard0 ?_); refine ⟨_, rfl, fun K hK => ⟨rfl, ?_⟩⟩) | ((with_reducible refine pD_g0 ?_); refine ⟨_, rfl, rfl, ?_⟩)); (try simp (disch := omega) only [push_cast, seval, hx]))
          | ((with_reducible refine pany_I ?_); refine ⟨_, rfl, fun K hK => ?_⟩)
          | ((with_reducible refine pops_plain fun K hK => ?_); simp (disch := omega) only [push_cast, seval, hx])
          | ((first | ((with_reducible refine pD_y ?_ ?_); exact rfl) | ((with_reducible refine pD_x ?_ ?_); exact rfl)); simp (disch := omega) only [push_cast, seval, hx])
          | ((first | ((with_reducible refine pops_guard ?_); refine ⟨_, rfl, fun K hK => ⟨_, rfl, fun hg => ?_, fun hg => ?_⟩⟩) | ((first | ((with_reducible refine pD_gy ?_ ?_); exact rfl) | ((with_reducible refine pD_gx ?_ ?_); exact rfl)); refine ⟨_, rfl, _, rfl, fun hg => ?_, fun hg => ?_⟩)) <;> first | (exact absurd hg (by decide)) | ((try simp only [Bool.not_true, Bool.not_false] at hg); (try simp only [hg]); (try simp only [push_cast] at hg); (try exact absurd trivial hg); (try (exfalso; omega)); (try simp (disch := omega) only [push_cast, seval, hx])))
          | ((with_reducible refine And.intro ?_ ?_); omega))
      (refine ⟨k + 1, by ((try dsimp only); omega), ?_, by (refine ⟨[?_], ?_, ?_, ?_, ?_⟩; rotate_left 1; (· ((try simp (disch := omega) only [push_cast, seval]); (repeat' (first | exact trivial | exact rfl | refine And.intro ?_ ?_ | omega)))); (· ((try simp (disch := omega) only [push_cast, seval]); (repeat' (first | exact trivial | exact rfl | refine And.intro ?_ ?_ | omega)))); (· exact rfl); (· (first | exact trivial | exact ⟨rfl, trivial⟩ | exact ⟨rfl, rfl, trivial⟩)))⟩)
      exact ⟨hlt, noneTo_succ hA hx (by simpa using he)⟩
  obtain rfl : k = t.fPeers.length := by omega
  have e : peerIdx t.fPeers id = -1 := noneTo_end hA
  repeat' (first
      | with_reducible refine PWp.seq ?_
      | with_reducible refine PWp.block ?_
      | with_reducible refine PWp.region okP true ?_
      | with_reducible (first | refine pops_nil ?_ | refine pany_nil ?_ | refine pthen_normal ?_ | refine pblock_normal ?_ | refine pthen_ret ?_ | refine pblock_ret ?_ | refine pthen_exit ?_ | refine pblock_here ?_ | refine pblock_there rfl ?_ | refine PWp.ret ?_ | refine PWp.exit ?_ | refine PWp.skip ?_)
      | ((with_reducible refine hK _ ?_); clear hK K)
      | ((with_reducible refine PWp.condI ?_); refine ⟨_, rfl, fun hg => ?_, fun hg => ?_⟩ <;> first | (exact absurd hg (by decide)) | ((try simp only [Bool.not_true, Bool.not_false] at hg); (try simp only [hg]); (try simp only [push_cast] at hg); (try exact absurd trivial hg); (try (exfalso; omega))))
      | ((first | ((with_reducible refine pops_guard0 ?_); refine ⟨_, rfl, fun K hK => ⟨rfl, ?_⟩⟩) | ((with_reducible refine pD_g0 ?_); refine ⟨_, rfl, rfl, ?_⟩)); (try simp (disch := omega) only [push_cast, seval]))
      | ((with_reducible refine pany_I ?_); refine ⟨_, rfl, fun K hK => ?_⟩)
      | ((with_reducible refine pops_plain fun K hK => ?_); simp (disch := omega) only [push_cast, seval])
      | ((first | ((with_reducible refine pD_y ?_ ?_); exact rfl) | ((with_reducible refine pD_x ?_ ?_); exact rfl)); simp (disch := omega) only [push_cast, seval])
      | ((first | ((with_reducible refine pops_guard ?_); refine ⟨_, rfl, fun K hK => ⟨_, rfl, fun hg => ?_, fun hg => ?_⟩⟩) | ((first | ((with_reducible refine pD_gy ?_ ?_); exact rfl) | ((with_reducible refine pD_gx ?_ ?_); exact rfl)); refine ⟨_, rfl, _, rfl, fun hg => ?_, fun hg => ?_⟩)) <;> first | (exact absurd hg (by decide)) | ((try simp only [Bool.not_true, Bool.not_false] at hg); (try simp only [hg]); (try simp only [push_cast] at hg); (try exact absurd trivial hg); (try (exfalso; omega)); (try simp (disch := omega) only [push_cast, seval])))
      | ((with_reducible refine And.intro ?_ ?_); omega))
  ((first | with_reducible (first | refine pendV1 ?_ ?_ ?_ | refine pendV2 ?_ ?_ ?_ | refine pendV3 ?_ ?_ ?_ | refine pendV0 ?_ ?_ ?_) | refine pendVG ?_ ?_ ?_); (· (first | exact .inl rfl | exact .inr rfl)); rotate_left 1; (· exact rfl); (try (apply Exists.intro; apply And.intro; (· repeat' (first | exact presults_nil | apply presults_tmp | (apply presults_agg; (· exact rfl); (· exact rfl); (· exact rfl); (· exact rfl); (· exact rfl); (· first | exact Nat.le_refl _ | decide | simp)) | (apply presults_one; (· exact rfl); (· exact rfl); (· exact rfl); (· exact rfl); (· exact rfl)))))); (try simp only [push_cast, seval]))
  rw [e]
theorem at1_p (p : GPeer) (id : Int) : PCalls Tryd.prog 97 [.agg (pPeer p), .eptr [.val (.int .i64 id)] 0] [] (RV (.val (.bool (decide (p.fId = id))))) := by
  refine pcalls_ofR okP Tryd.func97 rfl ?_
  simp only [Tryd.f97, List.length_cons, List.length_nil, Nat.reduceAdd, Nat.reduceSub, List.replicate_succ, List.replicate_zero, List.cons_append, List.nil_append, List.length_map]
  repeat' (first
      | with_reducible refine PWp.seq ?_
      | with_reducible refine PWp.block ?_
      | with_reducible refine PWp.region okP true ?_
      | with_reducible (first | refine pops_nil ?_ | refine pany_nil ?_ | refine pthen_normal ?_ | refine pblock_normal ?_ | refine pthen_ret ?_ | refine pblock_ret ?_ | refine pthen_exit ?_ | refine pblock_here ?_ | refine pblock_there rfl ?_ | refine PWp.ret ?_ | refine PWp.exit ?_ | refine PWp.skip ?_)
      | ((with_reducible refine hK _ ?_); clear hK K)
      | ((with_reducible refine PWp.condI ?_); refine ⟨_, rfl, fun hg => ?_, fun hg => ?_⟩ <;> first | (exact absurd hg (by decide)) | ((try simp only [Bool.not_true, Bool.not_false] at hg); (try simp only [hg]); (try simp only [push_cast] at hg); (try exact absurd trivial hg); (try (exfalso; omega))))
      | ((first | ((with_reducible refine pops_guard0 ?_); refine ⟨_, rfl, fun K hK => ⟨rfl, ?_⟩⟩) | ((with_reducible refine pD_g0 ?_); refine ⟨_, rfl, rfl, ?_⟩)); (try simp (disch := omega) only [push_cast, seval]))
      | ((with_reducible refine pany_I ?_); refine ⟨_, rfl, fun K hK => ?_⟩)
      | ((with_reducible refine pops_plain fun K hK => ?_); simp (disch := omega) only [push_cast, seval])
      | ((first | ((with_reducible refine pD_y ?_ ?_); exact rfl) | ((with_reducible refine pD_x ?_ ?_); exact rfl)); simp (disch := omega) only [push_cast, seval])
      | ((first | ((with_reducible refine pops_guard ?_); refine ⟨_, rfl, fun K hK => ⟨_, rfl, fun hg => ?_, fun hg => ?_⟩⟩) | ((first | ((with_reducible refine pD_gy ?_ ?_); exact rfl) | ((with_reducible refine pD_gx ?_ ?_); exact rfl)); refine ⟨_, rfl, _, rfl, fun hg => ?_, fun hg => ?_⟩)) <;> first | (exact absurd hg (by decide)) | ((try simp only [Bool.not_true, Bool.not_false] at hg); (try simp only [hg]); (try simp only [push_cast] at hg); (try exact absurd trivial hg); (try (exfalso; omega)); (try simp (disch := omega) only [push_cast, seval])))
      | ((with_reducible refine And.intro ?_ ?_); omega))
  ((first | with_reducible (first | refine pendV1 ?_ ?_ ?_ | refine pendV2 ?_ ?_ ?_ | refine pendV3 ?_ ?_ ?_ | refine pendV0 ?_ ?_ ?_) | refine pendVG ?_ ?_ ?_); (· (first | exact .inl rfl | exact .inr rfl)); rotate_left 1; (· exact rfl); (try (apply Exists.intro; apply And.intro; (· repeat' (first | exact presults_nil | apply presults_tmp | (apply presults_agg; (· exact rfl); (· exact rfl); (· exact rfl); (· exact rfl); (· exact rfl); (· first | exact Nat.le_refl _ | decide | simp)) | (apply presults_one; (· exact rfl); (· exact rfl); (· exact rfl); (· exact rfl); (· exact rfl)))))); (try simp only [push_cast, seval]))
  exact eqI_B
theorem idxPeer_p (l : List GPeer) (id : Int) (hl : l.length ≤ 1099511627776) : PCalls Tryd.prog 96 [.sl 4 (l.map pPeer), .clo 97 [.eptr [.val (.int .i64 id)] 0]] [] (RV (.val (.int .i64 (peerIdx l id)))) := by
  have cloC : Callable Tryd.prog 97 := callable_of Tryd.func97 rfl rfl
  refine pcalls_ofR okP Tryd.func96 rfl ?_
  simp only [Tryd.f96, List.length_cons, List.length_nil, Nat.reduceAdd, Nat.reduceSub, List.replicate_succ, List.replicate_zero, List.cons_append, List.nil_append, List.length_map]
  repeat' (first
      | with_reducible refine PWp.seq ?_
      | with_reducible refine PWp.block ?_
      | with_reducible refine PWp.region okP true ?_
      | with_reducible (first | refine pops_nil ?_ | refine pany_nil ?_ | refine pthen_normal ?_ | refine pblock_normal ?_ | refine pthen_ret ?_ | refine pblock_ret ?_ | refine pthen_exit ?_ | refine pblock_here ?_ | refine pblock_there rfl ?_ | refine PWp.ret ?_ | refine PWp.exit ?_ | refine PWp.skip ?_)
      | ((with_reducible refine hK _ ?_); clear hK K)
      | ((with_reducible refine PWp.condI ?_); refine ⟨_, rfl, fun hg => ?_, fun hg => ?_⟩ <;> first | (exact absurd hg (by decide)) | ((try simp only [Bool.not_true, Bool.not_false] at hg); (try simp only [hg]); (try simp only [push_cast] at hg); (try exact absurd trivial hg); (try (exfalso; omega))))
      | ((first | ((with_reducible refine pops_guard0 ?_); refine ⟨_, rfl, fun K hK => ⟨rfl, ?_⟩⟩) | ((with_reducible refine pD_g0 ?_); refine ⟨_, rfl, rfl, ?_⟩)); (try simp (disch := omega) only [push_cast, seval]))
      | ((with_reducible refine pany_I ?_); refine ⟨_, rfl, fun K hK => ?_⟩)
      | ((with_reducible refine pops_plain fun K hK => ?_); simp (disch := omega) only [push_cast, seval])
      | ((first | ((with_reducible refine pD_y ?_ ?_); exact rfl) | ((with_reducible refine pD_x ?_ ?_); exact rfl)); simp (disch := omega) only [push_cast, seval])
      | ((first | ((with_reducible refine pops_guard ?_); refine ⟨_, rfl, fun K hK => ⟨_, rfl, fun hg => ?_, fun hg => ?_⟩⟩) | ((first | ((with_reducible refine pD_gy ?_ ?_); exact rfl) | ((with_reducible refine pD_gx ?_ ?_); exact rfl)); refine ⟨_, rfl, _, rfl, fun hg => ?_, fun hg => ?_⟩)) <;> first | (exact absurd hg (by decide)) | ((try simp only [Bool.not_true, Bool.not_false] at hg); (try simp only [hg]); (try simp only [push_cast] at hg); (try exact absurd trivial hg); (try (exfalso; omega)); (try simp (disch := omega) only [push_cast, seval])))
      | ((with_reducible show pcall _ _ _ _ _ _); refine pcall_RV (g := 97) cloC (at1_p ⟨_, _, _, _⟩ _) rfl (by (repeat' (first | exact trivial | exact rfl | exact vwOk_clo rfl | exact rowsC fun _ => rfl | exact rowsC2 fun _ => rfl | exact rowsC1 (fun _ => rfl) rfl | refine And.intro ?_ ?_ | refine vwOk_ag ?_ | refine vwOk_cl ?_))) ?_; (try simp (disch := omega) only [push_cast, seval]))
      | ((with_reducible refine And.intro ?_ ?_); omega))
  refine PWp.loopK (α := Nat) (fun k => [(8, .val (.int .i64 (k : Int)))]) [2, 3, 4, 5, 6, 9, 10, 11, 12, 13, 14, 15, 16, 17, 18] (fun k => []) (fun k => k ≤ l.length ∧ noneTo (fun p => decide (p.fId = id)) l k) (fun k => l.length - k) (0) (⟨Nat.zero_le _, noneTo_zero⟩) (by (refine ⟨[], ?_, ?_, ?_, ?_⟩; (· ((try simp (disch := omega) only [push_cast, seval]); (repeat' (first | exact trivial | exact rfl | refine And.intro ?_ ?_ | omega)))); (· ((try simp (disch := omega) only [push_cast, seval]); (repeat' (first | exact trivial | exact rfl | refine And.intro ?_ ?_ | omega)))); (· exact rfl); (· (first | exact trivial | exact ⟨rfl, trivial⟩ | exact ⟨rfl, rfl, trivial⟩)))) ?_
  intro k ρ hI
  (try dsimp only at hI)
  refine PWp.at (tm' := ?_) (H' := ?_) ?_ ?_ ?_; rotate_left 2; (· ((try simp only [push_cast, seval]); exact rfl)); (· ((try dsimp only); exact rfl))
  obtain ⟨hk, hA⟩ := hI
  by_cases hlt : k < l.length
  · obtain ⟨x, hx⟩ : ∃ x, l[k]? = some x := ⟨_, List.getElem?_eq_getElem hlt⟩
    by_cases he : x.fId = id
    · have e : peerIdx l id = k := idx_some hx (by simpa using he) hA
      repeat' (first
          | with_reducible refine PWp.seq ?_
          | with_reducible refine PWp.block ?_
          | with_reducible refine PWp.region okP true ?_
          | with_reducible (first | refine pops_nil ?_ | refine pany_nil ?_ | refine pthen_normal ?_ | refine pblock_normal ?_ | refine pthen_ret ?_ | refine pblock_ret ?_ | refine pthen_exit ?_ | refine pblock_here ?_ | refine pblock_there rfl ?_ | refine PWp.ret ?_ | refine PWp.exit ?_ | refine PWp.skip ?_)
          | ((with_reducible refine hK _ ?_); clear hK K)
          | ((with_reducible refine PWp.condI ?_); refine ⟨_, rfl, fun hg => ?_, fun hg => ?_⟩ <;> first | (exact absurd hg (by decide)) | ((try simp only [Bool.not_true, Bool.not_false] at hg); (try simp only [hg]); (try simp only [push_cast] at hg); (try exact absurd trivial hg); (try (exfalso; omega))))
          | ((first | ((with_reducible refine pops_guard0 ?_); refine ⟨_, rfl, fun K hK => ⟨rfl, ?_⟩⟩) | ((with_reducible refine pD_g0 ?_); refine ⟨_, rfl, rfl, ?_⟩)); (try simp (disch := omega) only [push_cast, seval, hx, he]))
          | ((with_reducible refine pany_I ?_); refine ⟨_, rfl, fun K hK => ?_⟩)
          | ((with_reducible refine pops_plain fun K hK => ?_); simp (disch := omega) only [push_cast, seval, hx, he])
          | ((first | ((with_reducible refine pD_y ?_ ?_); exact rfl) | ((with_reducible refine pD_x ?_ ?_); exact rfl)); simp (disch := omega) only [push_cast, seval, hx, he])
          | ((first | ((with_reducible refine pops_guard ?_); refine ⟨_, rfl, fun K hK => ⟨_, rfl, fun hg => ?_, fun hg => ?_⟩⟩) | ((first | ((with_reducible refine pD_gy ?_ ?_); exact rfl) | ((with_reducible refine pD_gx ?_ ?_); exact rfl)); refine ⟨_, rfl, _, rfl, fun hg => ?_, fun hg => ?_⟩)) <;> first | (exact absurd hg (by decide)) | ((try simp only [Bool.not_true, Bool.not_false] at hg); (try simp only [hg]); (try simp only [push_cast] at hg); (try exact absurd trivial hg); (try (exfalso; omega)); (try simp (disch := omega) only [push_cast, seval, hx, he])))
          | ((with_reducible show pcall _ _ _ _ _ _); refine pcall_RV (g := 97) cloC (at1_p ⟨_, _, _, _⟩ _) rfl (by (repeat' (first | exact trivial | exact rfl | exact vwOk_clo rfl | exact rowsC fun _ => rfl | exact rowsC2 fun _ => rfl | exact rowsC1 (fun _ => rfl) rfl | refine And.intro ?_ ?_ | refine vwOk_ag ?_ | refine vwOk_cl ?_))) ?_; (try simp (disch := omega) only [push_cast, seval, hx, he]))
          | ((with_reducible refine And.intro ?_ ?_); omega))
      ((first | with_reducible (first | refine pendV1 ?_ ?_ ?_ | refine pendV2 ?_ ?_ ?_ | refine pendV3 ?_ ?_ ?_ | refine pendV0 ?_ ?_ ?_) | refine pendVG ?_ ?_ ?_); (· (first | exact .inl rfl | exact .inr rfl)); rotate_left 1; (· exact rfl); (try (apply Exists.intro; apply And.intro; (· repeat' (first | exact presults_nil | apply presults_tmp | (apply presults_agg; (· exact rfl); (· exact rfl); (· exact rfl); (· exact rfl); (· exact rfl); (· first | exact Nat.le_refl _ | decide | simp)) | (apply presults_one; (· exact rfl); (· exact rfl); (· exact rfl); (· exact rfl); (· exact rfl)))))); (try simp only [push_cast, seval]))
      rw [e]
    ·
      repeat' (first
          | with_reducible refine PWp.seq ?_
          | with_reducible refine PWp.block ?_
          | with_reducible refine PWp.region okP true ?_
          | with_reducible (first | refine pops_nil ?_ | refine pany_nil ?_ | refine pthen_normal ?_ | refine pblock_normal ?_ | refine pthen_ret ?_ | refine pblock_ret ?_ | refine pthen_exit ?_ | refine pblock_here ?_ | refine pblock_there rfl ?_ | refine PWp.ret ?_ | refine PWp.exit ?_ | refine PWp.skip ?_)
          | ((with_reducible refine hK _ ?_); clear hK K)
          | ((with_reducible refine PWp.condI ?_); refine ⟨_, rfl, fun hg => ?_, fun hg => ?_⟩ <;> first | (exact absurd hg (by decide)) | ((try simp only [Bool.not_true, Bool.not_false] at hg); (try simp only [hg]); (try simp only [push_cast] at hg); (try exact absurd trivial hg); (try (exfalso; omega))))
          | ((first | ((with_reducible refine pops_guard0 ?_); refine ⟨_, rfl, fun K hK => ⟨rfl, ?_⟩⟩) | ((with_reducible refine pD_g0 ?_); refine ⟨_, rfl, rfl, ?_⟩)); (try simp (disch := omega) only [push_cast, seval, hx]))
          | ((with_reducible refine pany_I ?_); refine ⟨_, rfl, fun K hK => ?_⟩)
          | ((with_reducible refine pops_plain fun K hK => ?_); simp (disch := omega) only [push_cast, seval, hx])
          | ((first | ((with_reducible refine pD_y ?_ ?_); exact rfl) | ((with_reducible refine pD_x ?_ ?_); exact rfl)); simp (disch := omega) only [push_cast, seval, hx])
          | ((first | ((with_reducible refine pops_guard ?_); refine ⟨_, rfl, fun K hK => ⟨_, rfl, fun hg => ?_, fun hg => ?_⟩⟩) | ((first | ((with_reducible refine pD_gy ?_ ?_); exact rfl) | ((with_reducible refine pD_gx ?_ ?_); exact rfl)); refine ⟨_, rfl, _, rfl, fun hg => ?_, fun hg => ?_⟩)) <;> first | (exact absurd hg (by decide)) | ((try simp only [Bool.not_true, Bool.not_false] at hg); (try simp only [hg]); (try simp only [push_cast] at hg); (try exact absurd trivial hg); (try (exfalso; omega)); (try simp (disch := omega) only [push_cast, seval, hx])))
          | ((with_reducible show pcall _ _ _ _ _ _); refine pcall_RV (g := 97) cloC (at1_p ⟨_, _, _, _⟩ _) rfl (by (repeat' (first | exact trivial | exact rfl | exact vwOk_clo rfl | exact rowsC fun _ => rfl | exact rowsC2 fun _ => rfl | exact rowsC1 (fun _ => rfl) rfl | refine And.intro ?_ ?_ | refine vwOk_ag ?_ | refine vwOk_cl ?_))) ?_; (try simp (disch := omega) only [push_cast, seval, hx]))
          | ((with_reducible refine And.intro ?_ ?_); omega))
      (refine ⟨k + 1, by ((try dsimp only); omega), ?_, by (refine ⟨[], ?_, ?_, ?_, ?_⟩; (· ((try simp (disch := omega) only [push_cast, seval]); (repeat' (first | exact trivial | exact rfl | refine And.intro ?_ ?_ | omega)))); (· ((try simp (disch := omega) only [push_cast, seval]); (repeat' (first | exact trivial | exact rfl | refine And.intro ?_ ?_ | omega)))); (· exact rfl); (· (first | exact trivial | exact ⟨rfl, trivial⟩ | exact ⟨rfl, rfl, trivial⟩)))⟩)
      exact ⟨hlt, noneTo_succ hA hx (by simpa using he)⟩
  obtain rfl : k = l.length := by omega
  have e : peerIdx l id = -1 := noneTo_end hA
  repeat' (first
      | with_reducible refine PWp.seq ?_
      | with_reducible refine PWp.block ?_
      | with_reducible refine PWp.region okP true ?_
      | with_reducible (first | refine pops_nil ?_ | refine pany_nil ?_ | refine pthen_normal ?_ | refine pblock_normal ?_ | refine pthen_ret ?_ | refine pblock_ret ?_ | refine pthen_exit ?_ | refine pblock_here ?_ | refine pblock_there rfl ?_ | refine PWp.ret ?_ | refine PWp.exit ?_ | refine PWp.skip ?_)
      | ((with_reducible refine hK _ ?_); clear hK K)
      | ((with_reducible refine PWp.condI ?_); refine ⟨_, rfl, fun hg => ?_, fun hg => ?_⟩ <;> first | (exact absurd hg (by decide)) | ((try simp only [Bool.not_true, Bool.not_false] at hg); (try simp only [hg]); (try simp only [push_cast] at hg); (try exact absurd trivial hg); (try (exfalso; omega))))
      | ((first | ((with_reducible refine pops_guard0 ?_); refine ⟨_, rfl, fun K hK => ⟨rfl, ?_⟩⟩) | ((with_reducible refine pD_g0 ?_); refine ⟨_, rfl, rfl, ?_⟩)); (try simp (disch := omega) only [push_cast, seval]))
      | ((with_reducible refine pany_I ?_); refine ⟨_, rfl, fun K hK => ?_⟩)
      | ((with_reducible refine pops_plain fun K hK => ?_); simp (disch := omega) only [push_cast, seval])
      | ((first | ((with_reducible refine pD_y ?_ ?_); exact rfl) | ((with_reducible refine pD_x ?_ ?_); exact rfl)); simp (disch := omega) only [push_cast, seval])
      | ((first | ((with_reducible refine pops_guard ?_); refine ⟨_, rfl, fun K hK => ⟨_, rfl, fun hg => ?_, fun hg => ?_⟩⟩) | ((first | ((with_reducible refine pD_gy ?_ ?_); exact rfl) | ((with_reducible refine pD_gx ?_ ?_); exact rfl)); refine ⟨_, rfl, _, rfl, fun hg => ?_, fun hg => ?_⟩)) <;> first | (exact absurd hg (by decide)) | ((try simp only [Bool.not_true, Bool.not_false] at hg); (try simp only [hg]); (try simp only [push_cast] at hg); (try exact absurd trivial hg); (try (exfalso; omega)); (try simp (disch := omega) only [push_cast, seval])))
      | ((with_reducible show pcall _ _ _ _ _ _); refine pcall_RV (g := 97) cloC (at1_p ⟨_, _, _, _⟩ _) rfl (by (repeat' (first | exact trivial | exact rfl | exact vwOk_clo rfl | exact rowsC fun _ => rfl | exact rowsC2 fun _ => rfl | exact rowsC1 (fun _ => rfl) rfl | refine And.intro ?_ ?_ | refine vwOk_ag ?_ | refine vwOk_cl ?_))) ?_; (try simp (disch := omega) only [push_cast, seval]))
      | ((with_reducible refine And.intro ?_ ?_); omega))
  ((first | with_reducible (first | refine pendV1 ?_ ?_ ?_ | refine pendV2 ?_ ?_ ?_ | refine pendV3 ?_ ?_ ?_ | refine pendV0 ?_ ?_ ?_) | refine pendVG ?_ ?_ ?_); (· (first | exact .inl rfl | exact .inr rfl)); rotate_left 1; (· exact rfl); (try (apply Exists.intro; apply And.intro; (· repeat' (first | exact presults_nil | apply presults_tmp | (apply presults_agg; (· exact rfl); (· exact rfl); (· exact rfl); (· exact rfl); (· exact rfl); (· first | exact Nat.le_refl _ | decide | simp)) | (apply presults_one; (· exact rfl); (· exact rfl); (· exact rfl); (· exact rfl); (· exact rfl)))))); (try simp only [push_cast, seval]))
  rw [e]
theorem iAt_p (t : GTable) (id : Int) (hl : t.fPeers.length ≤ 1099511627776) : PCalls Tryd.prog 78 [.agg (pTable t), .val (.int .i64 id)] [] (RV (.val (.int .i64 (peerIdx t.fPeers id)))) := by
  refine pcalls_ofR okP Tryd.func78 rfl ?_
  simp only [Tryd.f78, List.length_cons, List.length_nil, Nat.reduceAdd, Nat.reduceSub, List.replicate_succ, List.replicate_zero, List.cons_append, List.nil_append, List.length_map]
  repeat' (first
      | with_reducible refine PWp.seq ?_
      | with_reducible refine PWp.block ?_
      | with_reducible refine PWp.region okP true ?_
      | with_reducible (first | refine pops_nil ?_ | refine pany_nil ?_ | refine pthen_normal ?_ | refine pblock_normal ?_ | refine pthen_ret ?_ | refine pblock_ret ?_ | refine pthen_exit ?_ | refine pblock_here ?_ | refine pblock_there rfl ?_ | refine PWp.ret ?_ | refine PWp.exit ?_ | refine PWp.skip ?_)
      | ((with_reducible refine hK _ ?_); clear hK K)
      | ((with_reducible refine PWp.condI ?_); refine ⟨_, rfl, fun hg => ?_, fun hg => ?_⟩ <;> first | (exact absurd hg (by decide)) | ((try simp only [Bool.not_true, Bool.not_false] at hg); (try simp only [hg]); (try simp only [push_cast] at hg); (try exact absurd trivial hg); (try (exfalso; omega))))
      | ((first | ((with_reducible refine pops_guard0 ?_); refine ⟨_, rfl, fun K hK => ⟨rfl, ?_⟩⟩) | ((with_reducible refine pD_g0 ?_); refine ⟨_, rfl, rfl, ?_⟩)); (try simp (disch := omega) only [push_cast, seval]))
      | ((with_reducible refine pany_I ?_); refine ⟨_, rfl, fun K hK => ?_⟩)
      | ((with_reducible refine pops_plain fun K hK => ?_); simp (disch := omega) only [push_cast, seval])
      | ((first | ((with_reducible refine pD_y ?_ ?_); exact rfl) | ((with_reducible refine pD_x ?_ ?_); exact rfl)); simp (disch := omega) only [push_cast, seval])
      | ((first | ((with_reducible refine pops_guard ?_); refine ⟨_, rfl, fun K hK => ⟨_, rfl, fun hg => ?_, fun hg => ?_⟩⟩) | ((first | ((with_reducible refine pD_gy ?_ ?_); exact rfl) | ((with_reducible refine pD_gx ?_ ?_); exact rfl)); refine ⟨_, rfl, _, rfl, fun hg => ?_, fun hg => ?_⟩)) <;> first | (exact absurd hg (by decide)) | ((try simp only [Bool.not_true, Bool.not_false] at hg); (try simp only [hg]); (try simp only [push_cast] at hg); (try exact absurd trivial hg); (try (exfalso; omega)); (try simp (disch := omega) only [push_cast, seval])))
      | ((with_reducible show pcall _ _ _ _ _ _); refine pcall_RV (g := 96) (callable_of Tryd.func96 rfl rfl) (idxPeer_p _ _ (by (first | assumption | omega | (simp; omega) | (simp_all; done) | (simp_all; omega)))) rfl (by (repeat' (first | exact trivial | exact rfl | exact vwOk_clo rfl | exact rowsC fun _ => rfl | exact rowsC2 fun _ => rfl | exact rowsC1 (fun _ => rfl) rfl | refine And.intro ?_ ?_ | refine vwOk_ag ?_ | refine vwOk_cl ?_))) ?_; (try simp (disch := omega) only [push_cast, seval]))
      | ((with_reducible refine And.intro ?_ ?_); omega))
  ((first | with_reducible (first | refine pendV1 ?_ ?_ ?_ | refine pendV2 ?_ ?_ ?_ | refine pendV3 ?_ ?_ ?_ | refine pendV0 ?_ ?_ ?_) | refine pendVG ?_ ?_ ?_); (· (first | exact .inl rfl | exact .inr rfl)); rotate_left 1; (· exact rfl); (try (apply Exists.intro; apply And.intro; (· repeat' (first | exact presults_nil | apply presults_tmp | (apply presults_agg; (· exact rfl); (· exact rfl); (· exact rfl); (· exact rfl); (· exact rfl); (· first | exact Nat.le_refl _ | decide | simp)) | (apply presults_one; (· exact rfl); (· exact rfl); (· exact rfl); (· exact rfl); (· exact rfl)))))); (try simp only [push_cast, seval]))
theorem table_bad {t : GTable} {k : Nat} (hlt : k < t.fPeers.length) (h : peerAt t.fPeers k = false) : tableOk t = false := by
  unfold tableOk
  rw [allN_no hlt h]
  rfl
set_option maxHeartbeats 1000000 in
theorem iTableOk_p (t : GTable) (hl : t.fPeers.length ≤ 1099511627776) : PCalls Tryd.prog 47 [.agg (pTable t)] [] (RV (.val (.bool (tableOk t)))) := by
  refine pcalls_ofR okP Tryd.func47 rfl ?_
  simp only [Tryd.f47, List.length_cons, List.length_nil, Nat.reduceAdd, Nat.reduceSub, List.replicate_succ, List.replicate_zero, List.cons_append, List.nil_append, List.length_map]
  repeat' (first
      | with_reducible refine PWp.seq ?_
      | with_reducible refine PWp.block ?_
      | with_reducible refine PWp.region okP true ?_
      | with_reducible (first | refine pops_nil ?_ | refine pany_nil ?_ | refine pthen_normal ?_ | refine pblock_normal ?_ | refine pthen_ret ?_ | refine pblock_ret ?_ | refine pthen_exit ?_ | refine pblock_here ?_ | refine pblock_there rfl ?_ | refine PWp.ret ?_ | refine PWp.exit ?_ | refine PWp.skip ?_)
      | ((with_reducible refine hK _ ?_); clear hK K)
      | ((with_reducible refine PWp.condI ?_); refine ⟨_, rfl, fun hg => ?_, fun hg => ?_⟩ <;> first | (exact absurd hg (by decide)) | ((try simp only [Bool.not_true, Bool.not_false] at hg); (try simp only [hg]); (try simp only [push_cast] at hg); (try exact absurd trivial hg); (try (exfalso; omega))))
      | ((first | ((with_reducible refine pops_guard0 ?_); refine ⟨_, rfl, fun K hK => ⟨rfl, ?_⟩⟩) | ((with_reducible refine pD_g0 ?_); refine ⟨_, rfl, rfl, ?_⟩)); (try simp (disch := omega) only [push_cast, seval]))
      | ((with_reducible refine pany_I ?_); refine ⟨_, rfl, fun K hK => ?_⟩)
      | ((with_reducible refine pops_plain fun K hK => ?_); simp (disch := omega) only [push_cast, seval])
      | ((first | ((with_reducible refine pD_y ?_ ?_); exact rfl) | ((with_reducible refine pD_x ?_ ?_); exact rfl)); simp (disch := omega) only [push_cast, seval])
      | ((first | ((with_reducible refine pops_guard ?_); refine ⟨_, rfl, fun K hK => ⟨_, rfl, fun hg => ?_, fun hg => ?_⟩⟩) | ((first | ((with_reducible refine pD_gy ?_ ?_); exact rfl) | ((with_reducible refine pD_gx ?_ ?_); exact rfl)); refine ⟨_, rfl, _, rfl, fun hg => ?_, fun hg => ?_⟩)) <;> first | (exact absurd hg (by decide)) | ((try simp only [Bool.not_true, Bool.not_false] at hg); (try simp only [hg]); (try simp only [push_cast] at hg); (try exact absurd trivial hg); (try (exfalso; omega)); (try simp (disch := omega) only [push_cast, seval])))
      | ((with_reducible show pcall _ _ _ _ _ _); refine pcall_RV (g := 48) (callable_of Tryd.func48 rfl rfl) (within_p _ _ _) rfl (by (repeat' (first | exact trivial | exact rfl | exact vwOk_clo rfl | exact rowsC fun _ => rfl | exact rowsC2 fun _ => rfl | exact rowsC1 (fun _ => rfl) rfl | refine And.intro ?_ ?_ | refine vwOk_ag ?_ | refine vwOk_cl ?_))) ?_; (try simp (disch := omega) only [push_cast, seval]))
      | ((with_reducible show pcall _ _ _ _ _ _); refine pcall_RV (g := 49) (callable_of Tryd.func49 rfl rfl) (isTime_p _) rfl (by (repeat' (first | exact trivial | exact rfl | exact vwOk_clo rfl | exact rowsC fun _ => rfl | exact rowsC2 fun _ => rfl | exact rowsC1 (fun _ => rfl) rfl | refine And.intro ?_ ?_ | refine vwOk_ag ?_ | refine vwOk_cl ?_))) ?_; (try simp (disch := omega) only [push_cast, seval]))
      | ((with_reducible show pcall _ _ _ _ _ _); refine pcall_RV (g := 78) (callable_of Tryd.func78 rfl rfl) (iAt_p ⟨_, _⟩ _ (by (first | assumption | omega | (simp; omega) | (simp_all; done) | (simp_all; omega)))) rfl (by (repeat' (first | exact trivial | exact rfl | exact vwOk_clo rfl | exact rowsC fun _ => rfl | exact rowsC2 fun _ => rfl | exact rowsC1 (fun _ => rfl) rfl | refine And.intro ?_ ?_ | refine vwOk_ag ?_ | refine vwOk_cl ?_))) ?_; (try simp (disch := omega) only [push_cast, seval]))
      | ((with_reducible refine And.intro ?_ ?_); omega))
  refine PWp.loopK (α := Nat) (fun k => [(1, .ptr 0 0), (8, .val (.int .i64 (k : Int)))]) [0, 2, 3, 4, 5, 9, 10, 11, 12, 13, 14, 15, 16, 17, 18, 19, 20, 21, 22, 23, 24, 25, 26, 27, 28, 29, 30, 31, 32, 33, 34, 35, 36, 37] (fun k => [some (.box (pTable t))]) (fun k => k ≤ t.fPeers.length ∧ allTo (peerAt t.fPeers) k) (fun k => t.fPeers.length - k) (0) (⟨Nat.zero_le _, allTo_zero⟩) (by (refine ⟨[?_], ?_, ?_, ?_, ?_⟩; rotate_left 1; (· ((try simp (disch := omega) only [push_cast, seval]); (repeat' (first | exact trivial | exact rfl | refine And.intro ?_ ?_ | omega)))); (· ((try simp (disch := omega) only [push_cast, seval]); (repeat' (first | exact trivial | exact rfl | refine And.intro ?_ ?_ | omega)))); (· exact rfl); (· (first | exact trivial | exact ⟨rfl, trivial⟩ | exact ⟨rfl, rfl, trivial⟩)))) ?_
  intro k ρ hI
  (try dsimp only at hI)
  refine PWp.at (tm' := ?_) (H' := ?_) ?_ ?_ ?_; rotate_left 2; (· ((try simp only [push_cast, seval]); exact rfl)); (· ((try dsimp only); exact rfl))
  obtain ⟨hk, hA⟩ := hI
  by_cases hlt : k < t.fPeers.length
  · obtain ⟨x, hx⟩ : ∃ x, t.fPeers[k]? = some x := ⟨_, List.getElem?_eq_getElem hlt⟩
    have bad := table_bad hlt
    have e : peerAt t.fPeers k = (inB x.fId 1 99 && inB x.fUntil 0 1000320 && inB x.fBans 0 20 && decide (peerIdx t.fPeers x.fId = (k : Int))) := by unfold peerAt; rw [hx]
    repeat' (first
        | with_reducible refine PWp.seq ?_
        | with_reducible refine PWp.block ?_
        | with_reducible refine PWp.region okP true ?_
        | with_reducible (first | refine pops_nil ?_ | refine pany_nil ?_ | refine pthen_normal ?_ | refine pblock_normal ?_ | refine pthen_ret ?_ | refine pblock_ret ?_ | refine pthen_exit ?_ | refine pblock_here ?_ | refine pblock_there rfl ?_ | refine PWp.ret ?_ | refine PWp.exit ?_ | refine PWp.skip ?_)
        | ((with_reducible refine hK _ ?_); clear hK K)
        | ((with_reducible refine PWp.condI ?_); refine ⟨_, rfl, fun hg => ?_, fun hg => ?_⟩ <;> first | (exact absurd hg (by decide)) | ((try simp only [Bool.not_true, Bool.not_false] at hg); (try simp only [hg]); (try simp only [push_cast] at hg); (try exact absurd trivial hg); (try (exfalso; omega))))
        | ((first | ((with_reducible refine pops_guard0 ?_); refine ⟨_, rfl, fun K hK => ⟨rfl, ?_⟩⟩) | ((with_reducible refine pD_g0 ?_); refine ⟨_, rfl, rfl, ?_⟩)); (try simp (disch := omega) only [push_cast, seval, hx]))
        | ((with_reducible refine pany_I ?_); refine ⟨_, rfl, fun K hK => ?_⟩)
        | ((with_reducible refine pops_plain fun K hK => ?_); simp (disch := omega) only [push_cast, seval, hx])
        | ((first | ((with_reducible refine pD_y ?_ ?_); exact rfl) | ((with_reducible refine pD_x ?_ ?_); exact rfl)); simp (disch := omega) only [push_cast, seval, hx])
        | ((first | ((with_reducible refine pops_guard ?_); refine ⟨_, rfl, fun K hK => ⟨_, rfl, fun hg => ?_, fun hg => ?_⟩⟩) | ((first | ((with_reducible refine pD_gy ?_ ?_); exact rfl) | ((with_reducible refine pD_gx ?_ ?_); exact rfl)); refine ⟨_, rfl, _, rfl, fun hg => ?_, fun hg => ?_⟩)) <;> first | (exact absurd hg (by decide)) | ((try simp only [Bool.not_true, Bool.not_false] at hg); (try simp only [hg]); (try simp only [push_cast] at hg); (try exact absurd trivial hg); (try (exfalso; omega)); (try simp (disch := omega) only [push_cast, seval, hx])))
        | ((with_reducible show pcall _ _ _ _ _ _); refine pcall_RV (g := 48) (callable_of Tryd.func48 rfl rfl) (within_p _ _ _) rfl (by (repeat' (first | exact trivial | exact rfl | exact vwOk_clo rfl | exact rowsC fun _ => rfl | exact rowsC2 fun _ => rfl | exact rowsC1 (fun _ => rfl) rfl | refine And.intro ?_ ?_ | refine vwOk_ag ?_ | refine vwOk_cl ?_))) ?_; (try simp (disch := omega) only [push_cast, seval, hx]))
        | ((with_reducible show pcall _ _ _ _ _ _); refine pcall_RV (g := 49) (callable_of Tryd.func49 rfl rfl) (isTime_p _) rfl (by (repeat' (first | exact trivial | exact rfl | exact vwOk_clo rfl | exact rowsC fun _ => rfl | exact rowsC2 fun _ => rfl | exact rowsC1 (fun _ => rfl) rfl | refine And.intro ?_ ?_ | refine vwOk_ag ?_ | refine vwOk_cl ?_))) ?_; (try simp (disch := omega) only [push_cast, seval, hx]))
        | ((with_reducible show pcall _ _ _ _ _ _); refine pcall_RV (g := 78) (callable_of Tryd.func78 rfl rfl) (iAt_p ⟨_, _⟩ _ (by (first | assumption | omega | (simp; omega) | (simp_all; done) | (simp_all; omega)))) rfl (by (repeat' (first | exact trivial | exact rfl | exact vwOk_clo rfl | exact rowsC fun _ => rfl | exact rowsC2 fun _ => rfl | exact rowsC1 (fun _ => rfl) rfl | refine And.intro ?_ ?_ | refine vwOk_ag ?_ | refine vwOk_cl ?_))) ?_; (try simp (disch := omega) only [push_cast, seval, hx]))
        | ((with_reducible refine And.intro ?_ ?_); omega))
    all_goals first
      | (((first | with_reducible (first | refine pendV1 ?_ ?_ ?_ | refine pendV2 ?_ ?_ ?_ | refine pendV3 ?_ ?_ ?_ | refine pendV0 ?_ ?_ ?_) | refine pendVG ?_ ?_ ?_); (· (first | exact .inl rfl | exact .inr rfl)); rotate_left 1; (· exact rfl); (try (apply Exists.intro; apply And.intro; (· repeat' (first | exact presults_nil | apply presults_tmp | (apply presults_agg; (· exact rfl); (· exact rfl); (· exact rfl); (· exact rfl); (· exact rfl); (· first | exact Nat.le_refl _ | decide | simp)) | (apply presults_one; (· exact rfl); (· exact rfl); (· exact rfl); (· exact rfl); (· exact rfl)))))); (try simp only [push_cast, seval])); rw [bad (by rw [e]; simp_all)])
      | ((refine ⟨k + 1, by ((try dsimp only); omega), ?_, by (refine ⟨[?_], ?_, ?_, ?_, ?_⟩; rotate_left 1; (· ((try simp (disch := omega) only [push_cast, seval]); (repeat' (first | exact trivial | exact rfl | refine And.intro ?_ ?_ | omega)))); (· ((try simp (disch := omega) only [push_cast, seval]); (repeat' (first | exact trivial | exact rfl | refine And.intro ?_ ?_ | omega)))); (· exact rfl); (· (first | exact trivial | exact ⟨rfl, trivial⟩ | exact ⟨rfl, rfl, trivial⟩)))⟩); exact ⟨by omega, allTo_succ hA (by rw [e]; simp_all)⟩)
  obtain rfl : k = t.fPeers.length := by omega
  have e : tableOk t = (decide ((t.fPeers.length : Int) ≤ 6) && isTime t.fTurn) := by unfold tableOk; rw [allTo_end hA, Bool.true_and]
  repeat' (first
      | with_reducible refine PWp.seq ?_
      | with_reducible refine PWp.block ?_
      | with_reducible refine PWp.region okP true ?_
      | with_reducible (first | refine pops_nil ?_ | refine pany_nil ?_ | refine pthen_normal ?_ | refine pblock_normal ?_ | refine pthen_ret ?_ | refine pblock_ret ?_ | refine pthen_exit ?_ | refine pblock_here ?_ | refine pblock_there rfl ?_ | refine PWp.ret ?_ | refine PWp.exit ?_ | refine PWp.skip ?_)
      | ((with_reducible refine hK _ ?_); clear hK K)
      | ((with_reducible refine PWp.condI ?_); refine ⟨_, rfl, fun hg => ?_, fun hg => ?_⟩ <;> first | (exact absurd hg (by decide)) | ((try simp only [Bool.not_true, Bool.not_false] at hg); (try simp only [hg]); (try simp only [push_cast] at hg); (try exact absurd trivial hg); (try (exfalso; omega))))
      | ((first | ((with_reducible refine pops_guard0 ?_); refine ⟨_, rfl, fun K hK => ⟨rfl, ?_⟩⟩) | ((with_reducible refine pD_g0 ?_); refine ⟨_, rfl, rfl, ?_⟩)); (try simp (disch := omega) only [push_cast, seval]))
      | ((with_reducible refine pany_I ?_); refine ⟨_, rfl, fun K hK => ?_⟩)
      | ((with_reducible refine pops_plain fun K hK => ?_); simp (disch := omega) only [push_cast, seval])
      | ((first | ((with_reducible refine pD_y ?_ ?_); exact rfl) | ((with_reducible refine pD_x ?_ ?_); exact rfl)); simp (disch := omega) only [push_cast, seval])
      | ((first | ((with_reducible refine pops_guard ?_); refine ⟨_, rfl, fun K hK => ⟨_, rfl, fun hg => ?_, fun hg => ?_⟩⟩) | ((first | ((with_reducible refine pD_gy ?_ ?_); exact rfl) | ((with_reducible refine pD_gx ?_ ?_); exact rfl)); refine ⟨_, rfl, _, rfl, fun hg => ?_, fun hg => ?_⟩)) <;> first | (exact absurd hg (by decide)) | ((try simp only [Bool.not_true, Bool.not_false] at hg); (try simp only [hg]); (try simp only [push_cast] at hg); (try exact absurd trivial hg); (try (exfalso; omega)); (try simp (disch := omega) only [push_cast, seval])))
      | ((with_reducible show pcall _ _ _ _ _ _); refine pcall_RV (g := 48) (callable_of Tryd.func48 rfl rfl) (within_p _ _ _) rfl (by (repeat' (first | exact trivial | exact rfl | exact vwOk_clo rfl | exact rowsC fun _ => rfl | exact rowsC2 fun _ => rfl | exact rowsC1 (fun _ => rfl) rfl | refine And.intro ?_ ?_ | refine vwOk_ag ?_ | refine vwOk_cl ?_))) ?_; (try simp (disch := omega) only [push_cast, seval]))
      | ((with_reducible show pcall _ _ _ _ _ _); refine pcall_RV (g := 49) (callable_of Tryd.func49 rfl rfl) (isTime_p _) rfl (by (repeat' (first | exact trivial | exact rfl | exact vwOk_clo rfl | exact rowsC fun _ => rfl | exact rowsC2 fun _ => rfl | exact rowsC1 (fun _ => rfl) rfl | refine And.intro ?_ ?_ | refine vwOk_ag ?_ | refine vwOk_cl ?_))) ?_; (try simp (disch := omega) only [push_cast, seval]))
      | ((with_reducible show pcall _ _ _ _ _ _); refine pcall_RV (g := 78) (callable_of Tryd.func78 rfl rfl) (iAt_p ⟨_, _⟩ _ (by (first | assumption | omega | (simp; omega) | (simp_all; done) | (simp_all; omega)))) rfl (by (repeat' (first | exact trivial | exact rfl | exact vwOk_clo rfl | exact rowsC fun _ => rfl | exact rowsC2 fun _ => rfl | exact rowsC1 (fun _ => rfl) rfl | refine And.intro ?_ ?_ | refine vwOk_ag ?_ | refine vwOk_cl ?_))) ?_; (try simp (disch := omega) only [push_cast, seval]))
      | ((with_reducible refine And.intro ?_ ?_); omega))
  all_goals
    ((first | with_reducible (first | refine pendV1 ?_ ?_ ?_ | refine pendV2 ?_ ?_ ?_ | refine pendV3 ?_ ?_ ?_ | refine pendV0 ?_ ?_ ?_) | refine pendVG ?_ ?_ ?_); (· (first | exact .inl rfl | exact .inr rfl)); rotate_left 1; (· exact rfl); (try (apply Exists.intro; apply And.intro; (· repeat' (first | exact presults_nil | apply presults_tmp | (apply presults_agg; (· exact rfl); (· exact rfl); (· exact rfl); (· exact rfl); (· exact rfl); (· first | exact Nat.le_refl _ | decide | simp)) | (apply presults_one; (· exact rfl); (· exact rfl); (· exact rfl); (· exact rfl); (· exact rfl)))))); (try simp only [push_cast, seval]))
    rw [e]
    first
      | (simp_all; done)
      | (simp_all; intros; omega)
set_option maxHeartbeats 1000000 in
theorem sTableOk_p (t : GTable) (hl : t.fPeers.length ≤ 1099511627776) : PCalls Tryd.prog 37 [.agg (pTable t)] [] (RV (.val (.bool (tableOk t)))) := by
  by_cases h6 : (t.fPeers.length : Int) ≤ 6
  case neg =>
    have e : tableOk t = false := by unfold tableOk; rw [decide_eq_false h6, Bool.and_false]; rfl
    rw [e]
    refine pcalls_ofR okP Tryd.func37 rfl ?_
    simp only [Tryd.f37, List.length_cons, List.length_nil, Nat.reduceAdd, Nat.reduceSub, List.replicate_succ, List.replicate_zero, List.cons_append, List.nil_append, List.length_map]
    repeat' (first
        | with_reducible refine PWp.seq ?_
        | with_reducible refine PWp.block ?_
        | with_reducible refine PWp.region okP true ?_
        | with_reducible (first | refine pops_nil ?_ | refine pany_nil ?_ | refine pthen_normal ?_ | refine pblock_normal ?_ | refine pthen_ret ?_ | refine pblock_ret ?_ | refine pthen_exit ?_ | refine pblock_here ?_ | refine pblock_there rfl ?_ | refine PWp.ret ?_ | refine PWp.exit ?_ | refine PWp.skip ?_)
        | ((with_reducible refine hK _ ?_); clear hK K)
        | ((with_reducible refine PWp.condI ?_); refine ⟨_, rfl, fun hg => ?_, fun hg => ?_⟩ <;> first | (exact absurd hg (by decide)) | ((try simp only [Bool.not_true, Bool.not_false] at hg); (try simp only [hg]); (try simp only [push_cast] at hg); (try exact absurd trivial hg); (try (exfalso; omega))))
        | ((first | ((with_reducible refine pops_guard0 ?_); refine ⟨_, rfl, fun K hK => ⟨rfl, ?_⟩⟩) | ((with_reducible refine pD_g0 ?_); refine ⟨_, rfl, rfl, ?_⟩)); (try simp (disch := omega) only [push_cast, seval]))
        | ((with_reducible refine pany_I ?_); refine ⟨_, rfl, fun K hK => ?_⟩)
        | ((with_reducible refine pops_plain fun K hK => ?_); simp (disch := omega) only [push_cast, seval])
        | ((first | ((with_reducible refine pD_y ?_ ?_); exact rfl) | ((with_reducible refine pD_x ?_ ?_); exact rfl)); simp (disch := omega) only [push_cast, seval])
        | ((first | ((with_reducible refine pops_guard ?_); refine ⟨_, rfl, fun K hK => ⟨_, rfl, fun hg => ?_, fun hg => ?_⟩⟩) | ((first | ((with_reducible refine pD_gy ?_ ?_); exact rfl) | ((with_reducible refine pD_gx ?_ ?_); exact rfl)); refine ⟨_, rfl, _, rfl, fun hg => ?_, fun hg => ?_⟩)) <;> first | (exact absurd hg (by decide)) | ((try simp only [Bool.not_true, Bool.not_false] at hg); (try simp only [hg]); (try simp only [push_cast] at hg); (try exact absurd trivial hg); (try (exfalso; omega)); (try simp (disch := omega) only [push_cast, seval])))
        | ((with_reducible show pcall _ _ _ _ _ _); refine pcall_RV (g := 38) (callable_of Tryd.func38 rfl rfl) (l1In_p _ _ _) rfl (by (repeat' (first | exact trivial | exact rfl | exact vwOk_clo rfl | exact rowsC fun _ => rfl | exact rowsC2 fun _ => rfl | exact rowsC1 (fun _ => rfl) rfl | refine And.intro ?_ ?_ | refine vwOk_ag ?_ | refine vwOk_cl ?_))) ?_; (try simp (disch := omega) only [push_cast, seval]))
        | ((with_reducible show pcall _ _ _ _ _ _); refine pcall_RV (g := 39) (callable_of Tryd.func39 rfl rfl) (l10Time_p _) rfl (by (repeat' (first | exact trivial | exact rfl | exact vwOk_clo rfl | exact rowsC fun _ => rfl | exact rowsC2 fun _ => rfl | exact rowsC1 (fun _ => rfl) rfl | refine And.intro ?_ ?_ | refine vwOk_ag ?_ | refine vwOk_cl ?_))) ?_; (try simp (disch := omega) only [push_cast, seval]))
        | ((with_reducible show pcall _ _ _ _ _ _); refine pcall_RV (g := 74) (callable_of Tryd.func74 rfl rfl) (sL19At_p ⟨_, _⟩ _ (by (first | assumption | omega | (simp; omega) | (simp_all; done) | (simp_all; omega)))) rfl (by (repeat' (first | exact trivial | exact rfl | exact vwOk_clo rfl | exact rowsC fun _ => rfl | exact rowsC2 fun _ => rfl | exact rowsC1 (fun _ => rfl) rfl | refine And.intro ?_ ?_ | refine vwOk_ag ?_ | refine vwOk_cl ?_))) ?_; (try simp (disch := omega) only [push_cast, seval]))
        | ((with_reducible refine And.intro ?_ ?_); omega))
    ((first | with_reducible (first | refine pendV1 ?_ ?_ ?_ | refine pendV2 ?_ ?_ ?_ | refine pendV3 ?_ ?_ ?_ | refine pendV0 ?_ ?_ ?_) | refine pendVG ?_ ?_ ?_); (· (first | exact .inl rfl | exact .inr rfl)); rotate_left 1; (· exact rfl); (try (apply Exists.intro; apply And.intro; (· repeat' (first | exact presults_nil | apply presults_tmp | (apply presults_agg; (· exact rfl); (· exact rfl); (· exact rfl); (· exact rfl); (· exact rfl); (· first | exact Nat.le_refl _ | decide | simp)) | (apply presults_one; (· exact rfl); (· exact rfl); (· exact rfl); (· exact rfl); (· exact rfl)))))); (try simp only [push_cast, seval]))
  cases ht : isTime t.fTurn with
  | false =>
    have e : tableOk t = false := by unfold tableOk; rw [ht, Bool.and_false]
    rw [e]
    refine pcalls_ofR okP Tryd.func37 rfl ?_
    simp only [Tryd.f37, List.length_cons, List.length_nil, Nat.reduceAdd, Nat.reduceSub, List.replicate_succ, List.replicate_zero, List.cons_append, List.nil_append, List.length_map]
    repeat' (first
        | with_reducible refine PWp.seq ?_
        | with_reducible refine PWp.block ?_
        | with_reducible refine PWp.region okP true ?_
        | with_reducible (first | refine pops_nil ?_ | refine pany_nil ?_ | refine pthen_normal ?_ | refine pblock_normal ?_ | refine pthen_ret ?_ | refine pblock_ret ?_ | refine pthen_exit ?_ | refine pblock_here ?_ | refine pblock_there rfl ?_ | refine PWp.ret ?_ | refine PWp.exit ?_ | refine PWp.skip ?_)
        | ((with_reducible refine hK _ ?_); clear hK K)
        | ((with_reducible refine PWp.condI ?_); refine ⟨_, rfl, fun hg => ?_, fun hg => ?_⟩ <;> first | (exact absurd hg (by decide)) | ((try simp only [Bool.not_true, Bool.not_false] at hg); (try simp only [hg]); (try simp only [push_cast] at hg); (try exact absurd trivial hg); (try (exfalso; omega))))
        | ((first | ((with_reducible refine pops_guard0 ?_); refine ⟨_, rfl, fun K hK => ⟨rfl, ?_⟩⟩) | ((with_reducible refine pD_g0 ?_); refine ⟨_, rfl, rfl, ?_⟩)); (try simp (disch := omega) only [push_cast, seval, ht]))
        | ((with_reducible refine pany_I ?_); refine ⟨_, rfl, fun K hK => ?_⟩)
        | ((with_reducible refine pops_plain fun K hK => ?_); simp (disch := omega) only [push_cast, seval, ht])
        | ((first | ((with_reducible refine pD_y ?_ ?_); exact rfl) | ((with_reducible refine pD_x ?_ ?_); exact rfl)); simp (disch := omega) only [push_cast, seval, ht])
        | ((first | ((with_reducible refine pops_guard ?_); refine ⟨_, rfl, fun K hK => ⟨_, rfl, fun hg => ?_, fun hg => ?_⟩⟩) | ((first | ((with_reducible refine pD_gy ?_ ?_); exact rfl) | ((with_reducible refine pD_gx ?_ ?_); exact rfl)); refine ⟨_, rfl, _, rfl, fun hg => ?_, fun hg => ?_⟩)) <;> first | (exact absurd hg (by decide)) | ((try simp only [Bool.not_true, Bool.not_false] at hg); (try simp only [hg]); (try simp only [push_cast] at hg); (try exact absurd trivial hg); (try (exfalso; omega)); (try simp (disch := omega) only [push_cast, seval, ht])))
        | ((with_reducible show pcall _ _ _ _ _ _); refine pcall_RV (g := 38) (callable_of Tryd.func38 rfl rfl) (l1In_p _ _ _) rfl (by (repeat' (first | exact trivial | exact rfl | exact vwOk_clo rfl | exact rowsC fun _ => rfl | exact rowsC2 fun _ => rfl | exact rowsC1 (fun _ => rfl) rfl | refine And.intro ?_ ?_ | refine vwOk_ag ?_ | refine vwOk_cl ?_))) ?_; (try simp (disch := omega) only [push_cast, seval, ht]))
        | ((with_reducible show pcall _ _ _ _ _ _); refine pcall_RV (g := 39) (callable_of Tryd.func39 rfl rfl) (l10Time_p _) rfl (by (repeat' (first | exact trivial | exact rfl | exact vwOk_clo rfl | exact rowsC fun _ => rfl | exact rowsC2 fun _ => rfl | exact rowsC1 (fun _ => rfl) rfl | refine And.intro ?_ ?_ | refine vwOk_ag ?_ | refine vwOk_cl ?_))) ?_; (try simp (disch := omega) only [push_cast, seval, ht]))
        | ((with_reducible show pcall _ _ _ _ _ _); refine pcall_RV (g := 74) (callable_of Tryd.func74 rfl rfl) (sL19At_p ⟨_, _⟩ _ (by (first | assumption | omega | (simp; omega) | (simp_all; done) | (simp_all; omega)))) rfl (by (repeat' (first | exact trivial | exact rfl | exact vwOk_clo rfl | exact rowsC fun _ => rfl | exact rowsC2 fun _ => rfl | exact rowsC1 (fun _ => rfl) rfl | refine And.intro ?_ ?_ | refine vwOk_ag ?_ | refine vwOk_cl ?_))) ?_; (try simp (disch := omega) only [push_cast, seval, ht]))
        | ((with_reducible refine And.intro ?_ ?_); omega))
    ((first | with_reducible (first | refine pendV1 ?_ ?_ ?_ | refine pendV2 ?_ ?_ ?_ | refine pendV3 ?_ ?_ ?_ | refine pendV0 ?_ ?_ ?_) | refine pendVG ?_ ?_ ?_); (· (first | exact .inl rfl | exact .inr rfl)); rotate_left 1; (· exact rfl); (try (apply Exists.intro; apply And.intro; (· repeat' (first | exact presults_nil | apply presults_tmp | (apply presults_agg; (· exact rfl); (· exact rfl); (· exact rfl); (· exact rfl); (· exact rfl); (· first | exact Nat.le_refl _ | decide | simp)) | (apply presults_one; (· exact rfl); (· exact rfl); (· exact rfl); (· exact rfl); (· exact rfl)))))); (try simp only [push_cast, seval]))
  | true =>
  refine pcalls_ofR okP Tryd.func37 rfl ?_
  simp only [Tryd.f37, List.length_cons, List.length_nil, Nat.reduceAdd, Nat.reduceSub, List.replicate_succ, List.replicate_zero, List.cons_append, List.nil_append, List.length_map]
  repeat' (first
      | with_reducible refine PWp.seq ?_
      | with_reducible refine PWp.block ?_
      | with_reducible refine PWp.region okP true ?_
      | with_reducible (first | refine pops_nil ?_ | refine pany_nil ?_ | refine pthen_normal ?_ | refine pblock_normal ?_ | refine pthen_ret ?_ | refine pblock_ret ?_ | refine pthen_exit ?_ | refine pblock_here ?_ | refine pblock_there rfl ?_ | refine PWp.ret ?_ | refine PWp.exit ?_ | refine PWp.skip ?_)
      | ((with_reducible refine hK _ ?_); clear hK K)
      | ((with_reducible refine PWp.condI ?_); refine ⟨_, rfl, fun hg => ?_, fun hg => ?_⟩ <;> first | (exact absurd hg (by decide)) | ((try simp only [Bool.not_true, Bool.not_false] at hg); (try simp only [hg]); (try simp only [push_cast] at hg); (try exact absurd trivial hg); (try (exfalso; omega))))
      | ((first | ((with_reducible refine pops_guard0 ?_); refine ⟨_, rfl, fun K hK => ⟨rfl, ?_⟩⟩) | ((with_reducible refine pD_g0 ?_); refine ⟨_, rfl, rfl, ?_⟩)); (try simp (disch := omega) only [push_cast, seval, ht]))
      | ((with_reducible refine pany_I ?_); refine ⟨_, rfl, fun K hK => ?_⟩)
      | ((with_reducible refine pops_plain fun K hK => ?_); simp (disch := omega) only [push_cast, seval, ht])
      | ((first | ((with_reducible refine pD_y ?_ ?_); exact rfl) | ((with_reducible refine pD_x ?_ ?_); exact rfl)); simp (disch := omega) only [push_cast, seval, ht])
      | ((first | ((with_reducible refine pops_guard ?_); refine ⟨_, rfl, fun K hK => ⟨_, rfl, fun hg => ?_, fun hg => ?_⟩⟩) | ((first | ((with_reducible refine pD_gy ?_ ?_); exact rfl) | ((with_reducible refine pD_gx ?_ ?_); exact rfl)); refine ⟨_, rfl, _, rfl, fun hg => ?_, fun hg => ?_⟩)) <;> first | (exact absurd hg (by decide)) | ((try simp only [Bool.not_true, Bool.not_false] at hg); (try simp only [hg]); (try simp only [push_cast] at hg); (try exact absurd trivial hg); (try (exfalso; omega)); (try simp (disch := omega) only [push_cast, seval, ht])))
      | ((with_reducible show pcall _ _ _ _ _ _); refine pcall_RV (g := 38) (callable_of Tryd.func38 rfl rfl) (l1In_p _ _ _) rfl (by (repeat' (first | exact trivial | exact rfl | exact vwOk_clo rfl | exact rowsC fun _ => rfl | exact rowsC2 fun _ => rfl | exact rowsC1 (fun _ => rfl) rfl | refine And.intro ?_ ?_ | refine vwOk_ag ?_ | refine vwOk_cl ?_))) ?_; (try simp (disch := omega) only [push_cast, seval, ht]))
      | ((with_reducible show pcall _ _ _ _ _ _); refine pcall_RV (g := 39) (callable_of Tryd.func39 rfl rfl) (l10Time_p _) rfl (by (repeat' (first | exact trivial | exact rfl | exact vwOk_clo rfl | exact rowsC fun _ => rfl | exact rowsC2 fun _ => rfl | exact rowsC1 (fun _ => rfl) rfl | refine And.intro ?_ ?_ | refine vwOk_ag ?_ | refine vwOk_cl ?_))) ?_; (try simp (disch := omega) only [push_cast, seval, ht]))
      | ((with_reducible show pcall _ _ _ _ _ _); refine pcall_RV (g := 74) (callable_of Tryd.func74 rfl rfl) (sL19At_p ⟨_, _⟩ _ (by (first | assumption | omega | (simp; omega) | (simp_all; done) | (simp_all; omega)))) rfl (by (repeat' (first | exact trivial | exact rfl | exact vwOk_clo rfl | exact rowsC fun _ => rfl | exact rowsC2 fun _ => rfl | exact rowsC1 (fun _ => rfl) rfl | refine And.intro ?_ ?_ | refine vwOk_ag ?_ | refine vwOk_cl ?_))) ?_; (try simp (disch := omega) only [push_cast, seval, ht]))
      | ((with_reducible refine And.intro ?_ ?_); omega))
  refine PWp.loopK (α := Nat) (fun k => [(1, .ptr 0 0), (3, .val (.int .i64 (k : Int)))]) [0, 2, 4, 5, 6, 7, 8, 9, 10, 11, 12, 13, 14, 15, 16, 17, 18, 19, 20, 21, 22, 23, 24, 25, 26, 27, 28, 29, 30, 31, 32, 33, 34, 35, 36, 37, 38, 39, 40, 41, 42, 43, 44, 45, 46, 47, 48, 49, 50] (fun k => [some (.box (pTable t))]) (fun k => k ≤ t.fPeers.length ∧ allTo (peerAt t.fPeers) k) (fun k => t.fPeers.length - k) (0) (⟨Nat.zero_le _, allTo_zero⟩) (by (refine ⟨[?_], ?_, ?_, ?_, ?_⟩; rotate_left 1; (· ((try simp (disch := omega) only [push_cast, seval]); (repeat' (first | exact trivial | exact rfl | refine And.intro ?_ ?_ | omega)))); (· ((try simp (disch := omega) only [push_cast, seval]); (repeat' (first | exact trivial | exact rfl | refine And.intro ?_ ?_ | omega)))); (· exact rfl); (· (first | exact trivial | exact ⟨rfl, trivial⟩ | exact ⟨rfl, rfl, trivial⟩)))) ?_
  intro k ρ hI
  (try dsimp only at hI)
  refine PWp.at (tm' := ?_) (H' := ?_) ?_ ?_ ?_; rotate_left 2; (· ((try simp only [push_cast, seval]); exact rfl)); (· ((try dsimp only); exact rfl))
  obtain ⟨hk, hA⟩ := hI
  by_cases hlt : k < t.fPeers.length
  · obtain ⟨x, hx⟩ : ∃ x, t.fPeers[k]? = some x := ⟨_, List.getElem?_eq_getElem hlt⟩
    have bad := table_bad hlt
    have e : peerAt t.fPeers k = (inB x.fId 1 99 && inB x.fUntil 0 1000320 && inB x.fBans 0 20 && decide (peerIdx t.fPeers x.fId = (k : Int))) := by unfold peerAt; rw [hx]
    repeat' (first
        | with_reducible refine PWp.seq ?_
        | with_reducible refine PWp.block ?_
        | with_reducible refine PWp.region okP true ?_
        | with_reducible (first | refine pops_nil ?_ | refine pany_nil ?_ | refine pthen_normal ?_ | refine pblock_normal ?_ | refine pthen_ret ?_ | refine pblock_ret ?_ | refine pthen_exit ?_ | refine pblock_here ?_ | refine pblock_there rfl ?_ | refine PWp.ret ?_ | refine PWp.exit ?_ | refine PWp.skip ?_)
        | ((with_reducible refine hK _ ?_); clear hK K)
        | ((with_reducible refine PWp.condI ?_); refine ⟨_, rfl, fun hg => ?_, fun hg => ?_⟩ <;> first | (exact absurd hg (by decide)) | ((try simp only [Bool.not_true, Bool.not_false] at hg); (try simp only [hg]); (try simp only [push_cast] at hg); (try exact absurd trivial hg); (try (exfalso; omega))))
        | ((first | ((with_reducible refine pops_guard0 ?_); refine ⟨_, rfl, fun K hK => ⟨rfl, ?_⟩⟩) | ((with_reducible refine pD_g0 ?_); refine ⟨_, rfl, rfl, ?_⟩)); (try simp (disch := omega) only [push_cast, seval, hx]))
        | ((with_reducible refine pany_I ?_); refine ⟨_, rfl, fun K hK => ?_⟩)
        | ((with_reducible refine pops_plain fun K hK => ?_); simp (disch := omega) only [push_cast, seval, hx])
        | ((first | ((with_reducible refine pD_y ?_ ?_); exact rfl) | ((with_reducible refine pD_x ?_ ?_); exact rfl)); simp (disch := omega) only [push_cast, seval, hx])
        | ((first | ((with_reducible refine pops_guard ?_); refine ⟨_, rfl, fun K hK => ⟨_, rfl, fun hg => ?_, fun hg => ?_⟩⟩) | ((first | ((with_reducible refine pD_gy ?_ ?_); exact rfl) | ((with_reducible refine pD_gx ?_ ?_); exact rfl)); refine ⟨_, rfl, _, rfl, fun hg => ?_, fun hg => ?_⟩)) <;> first | (exact absurd hg (by decide)) | ((try simp only [Bool.not_true, Bool.not_false] at hg); (try simp only [hg]); (try simp only [push_cast] at hg); (try exact absurd trivial hg); (try (exfalso; omega)); (try simp (disch := omega) only [push_cast, seval, hx])))
        | ((with_reducible show pcall _ _ _ _ _ _); refine pcall_RV (g := 38) (callable_of Tryd.func38 rfl rfl) (l1In_p _ _ _) rfl (by (repeat' (first | exact trivial | exact rfl | exact vwOk_clo rfl | exact rowsC fun _ => rfl | exact rowsC2 fun _ => rfl | exact rowsC1 (fun _ => rfl) rfl | refine And.intro ?_ ?_ | refine vwOk_ag ?_ | refine vwOk_cl ?_))) ?_; (try simp (disch := omega) only [push_cast, seval, hx]))
        | ((with_reducible show pcall _ _ _ _ _ _); refine pcall_RV (g := 39) (callable_of Tryd.func39 rfl rfl) (l10Time_p _) rfl (by (repeat' (first | exact trivial | exact rfl | exact vwOk_clo rfl | exact rowsC fun _ => rfl | exact rowsC2 fun _ => rfl | exact rowsC1 (fun _ => rfl) rfl | refine And.intro ?_ ?_ | refine vwOk_ag ?_ | refine vwOk_cl ?_))) ?_; (try simp (disch := omega) only [push_cast, seval, hx]))
        | ((with_reducible show pcall _ _ _ _ _ _); refine pcall_RV (g := 74) (callable_of Tryd.func74 rfl rfl) (sL19At_p ⟨_, _⟩ _ (by (first | assumption | omega | (simp; omega) | (simp_all; done) | (simp_all; omega)))) rfl (by (repeat' (first | exact trivial | exact rfl | exact vwOk_clo rfl | exact rowsC fun _ => rfl | exact rowsC2 fun _ => rfl | exact rowsC1 (fun _ => rfl) rfl | refine And.intro ?_ ?_ | refine vwOk_ag ?_ | refine vwOk_cl ?_))) ?_; (try simp (disch := omega) only [push_cast, seval, hx]))
        | ((with_reducible refine And.intro ?_ ?_); omega))
    all_goals first
      | (((first | with_reducible (first | refine pendV1 ?_ ?_ ?_ | refine pendV2 ?_ ?_ ?_ | refine pendV3 ?_ ?_ ?_ | refine pendV0 ?_ ?_ ?_) | refine pendVG ?_ ?_ ?_); (· (first | exact .inl rfl | exact .inr rfl)); rotate_left 1; (· exact rfl); (try (apply Exists.intro; apply And.intro; (· repeat' (first | exact presults_nil | apply presults_tmp | (apply presults_agg; (· exact rfl); (· exact rfl); (· exact rfl); (· exact rfl); (· exact rfl); (· first | exact Nat.le_refl _ | decide | simp)) | (apply presults_one; (· exact rfl); (· exact rfl); (· exact rfl); (· exact rfl); (· exact rfl)))))); (try simp only [push_cast, seval])); rw [bad (by rw [e]; simp_all)])
      | ((refine ⟨k + 1, by ((try dsimp only); omega), ?_, by (refine ⟨[?_], ?_, ?_, ?_, ?_⟩; rotate_left 1; (· ((try simp (disch := omega) only [push_cast, seval]); (repeat' (first | exact trivial | exact rfl | refine And.intro ?_ ?_ | omega)))); (· ((try simp (disch := omega) only [push_cast, seval]); (repeat' (first | exact trivial | exact rfl | refine And.intro ?_ ?_ | omega)))); (· exact rfl); (· (first | exact trivial | exact ⟨rfl, trivial⟩ | exact ⟨rfl, rfl, trivial⟩)))⟩); exact ⟨by omega, allTo_succ hA (by rw [e]; simp_all)⟩)
  obtain rfl : k = t.fPeers.length := by omega
  have e : tableOk t = true := by unfold tableOk; rw [allTo_end hA, decide_eq_true h6, ht]; rfl
  repeat' (first
      | with_reducible refine PWp.seq ?_
      | with_reducible refine PWp.block ?_
      | with_reducible refine PWp.region okP true ?_
      | with_reducible (first | refine pops_nil ?_ | refine pany_nil ?_ | refine pthen_normal ?_ | refine pblock_normal ?_ | refine pthen_ret ?_ | refine pblock_ret ?_ | refine pthen_exit ?_ | refine pblock_here ?_ | refine pblock_there rfl ?_ | refine PWp.ret ?_ | refine PWp.exit ?_ | refine PWp.skip ?_)
      | ((with_reducible refine hK _ ?_); clear hK K)
      | ((with_reducible refine PWp.condI ?_); refine ⟨_, rfl, fun hg => ?_, fun hg => ?_⟩ <;> first | (exact absurd hg (by decide)) | ((try simp only [Bool.not_true, Bool.not_false] at hg); (try simp only [hg]); (try simp only [push_cast] at hg); (try exact absurd trivial hg); (try (exfalso; omega))))
      | ((first | ((with_reducible refine pops_guard0 ?_); refine ⟨_, rfl, fun K hK => ⟨rfl, ?_⟩⟩) | ((with_reducible refine pD_g0 ?_); refine ⟨_, rfl, rfl, ?_⟩)); (try simp (disch := omega) only [push_cast, seval]))
      | ((with_reducible refine pany_I ?_); refine ⟨_, rfl, fun K hK => ?_⟩)
      | ((with_reducible refine pops_plain fun K hK => ?_); simp (disch := omega) only [push_cast, seval])
      | ((first | ((with_reducible refine pD_y ?_ ?_); exact rfl) | ((with_reducible refine pD_x ?_ ?_); exact rfl)); simp (disch := omega) only [push_cast, seval])
      | ((first | ((with_reducible refine pops_guard ?_); refine ⟨_, rfl, fun K hK => ⟨_, rfl, fun hg => ?_, fun hg => ?_⟩⟩) | ((first | ((with_reducible refine pD_gy ?_ ?_); exact rfl) | ((with_reducible refine pD_gx ?_ ?_); exact rfl)); refine ⟨_, rfl, _, rfl, fun hg => ?_, fun hg => ?_⟩)) <;> first | (exact absurd hg (by decide)) | ((try simp only [Bool.not_true, Bool.not_false] at hg); (try simp only [hg]); (try simp only [push_cast] at hg); (try exact absurd trivial hg); (try (exfalso; omega)); (try simp (disch := omega) only [push_cast, seval])))
      | ((with_reducible show pcall _ _ _ _ _ _); refine pcall_RV (g := 38) (callable_of Tryd.func38 rfl rfl) (l1In_p _ _ _) rfl (by (repeat' (first | exact trivial | exact rfl | exact vwOk_clo rfl | exact rowsC fun _ => rfl | exact rowsC2 fun _ => rfl | exact rowsC1 (fun _ => rfl) rfl | refine And.intro ?_ ?_ | refine vwOk_ag ?_ | refine vwOk_cl ?_))) ?_; (try simp (disch := omega) only [push_cast, seval]))
      | ((with_reducible show pcall _ _ _ _ _ _); refine pcall_RV (g := 39) (callable_of Tryd.func39 rfl rfl) (l10Time_p _) rfl (by (repeat' (first | exact trivial | exact rfl | exact vwOk_clo rfl | exact rowsC fun _ => rfl | exact rowsC2 fun _ => rfl | exact rowsC1 (fun _ => rfl) rfl | refine And.intro ?_ ?_ | refine vwOk_ag ?_ | refine vwOk_cl ?_))) ?_; (try simp (disch := omega) only [push_cast, seval]))
      | ((with_reducible show pcall _ _ _ _ _ _); refine pcall_RV (g := 74) (callable_of Tryd.func74 rfl rfl) (sL19At_p ⟨_, _⟩ _ (by (first | assumption | omega | (simp; omega) | (simp_all; done) | (simp_all; omega)))) rfl (by (repeat' (first | exact trivial | exact rfl | exact vwOk_clo rfl | exact rowsC fun _ => rfl | exact rowsC2 fun _ => rfl | exact rowsC1 (fun _ => rfl) rfl | refine And.intro ?_ ?_ | refine vwOk_ag ?_ | refine vwOk_cl ?_))) ?_; (try simp (disch := omega) only [push_cast, seval]))
      | ((with_reducible refine And.intro ?_ ?_); omega))
  ((first | with_reducible (first | refine pendV1 ?_ ?_ ?_ | refine pendV2 ?_ ?_ ?_ | refine pendV3 ?_ ?_ ?_ | refine pendV0 ?_ ?_ ?_) | refine pendVG ?_ ?_ ?_); (· (first | exact .inl rfl | exact .inr rfl)); rotate_left 1; (· exact rfl); (try (apply Exists.intro; apply And.intro; (· repeat' (first | exact presults_nil | apply presults_tmp | (apply presults_agg; (· exact rfl); (· exact rfl); (· exact rfl); (· exact rfl); (· exact rfl); (· first | exact Nat.le_refl _ | decide | simp)) | (apply presults_one; (· exact rfl); (· exact rfl); (· exact rfl); (· exact rfl); (· exact rfl)))))); (try simp only [push_cast, seval]))
  rw [e]
def pTbO (t : GTable) : List PV := [.own 0, .val (.int .i64 t.fTurn)]
def bTb (t : GTable) : Hp := [some (.row 111 4 (t.fPeers.map pPeer))]
attribute [push_cast] pTbO bTb
attribute [push_cast] List.map_set
end Go.Proofs.YtgcelmnmalfpcaaDoor
namespace Go.Proofs.YtgcelmnmalfpcaaDoor
set_option linter.unusedSimpArgs false
set_option linter.unusedVariables false
open Go.RowKit
set_option maxRecDepth 100000
attribute [push_cast] List.set_set List.length_set
end Go.Proofs.YtgcelmnmalfpcaaDoor
namespace Go.Proofs.YtgcelmnmalfpcaaDoor
set_option linter.unusedSimpArgs false
set_option linter.unusedVariables false
open Go.RowKit
set_option maxRecDepth 100000
set_option maxHeartbeats 2000000 in
theorem iLightOk_p (c : GLight) (h1 : c.fAnchor.fNext.length ≤ 2000000) (h2 : c.fStore.fHeads.length ≤ 2000000) (h3 : c.fPeers.fPeers.length ≤ 2000000) : PCalls Tryd.prog 16 [.agg (pLight c)] [] (RV (.val (.bool (lightOk c)))) := by
  obtain ⟨tr, st, ⟨hh, nx⟩, ⟨hs, sy⟩, ⟨ps, tu⟩, now⟩ := c
  dsimp only at h1 h2 h3
  have hd : lightOk ⟨tr, st, ⟨hh, nx⟩, ⟨hs, sy⟩, ⟨ps, tu⟩, now⟩ = (trustOk tr && anchorOk ⟨hh, nx⟩ && storeOk ⟨hs, sy⟩ && tableOk ⟨ps, tu⟩ && inB st 1 2 && isTime now && (match lastHead hs with | some h => headEq h hh | none => false)) := rfl
  by_cases hlen : hs.length = 0
  · have e : lastHead hs = none := by unfold lastHead; exact List.getElem?_eq_none (by omega)
    rw [e] at hd
    refine pcalls_ofR okP Tryd.func16 rfl ?_
    simp only [Tryd.f16, List.length_cons, List.length_nil, Nat.reduceAdd, Nat.reduceSub, List.replicate_succ, List.replicate_zero, List.cons_append, List.nil_append, List.length_map]
    repeat' (first
        | with_reducible refine PWp.seq ?_
        | with_reducible refine PWp.block ?_
        | with_reducible refine PWp.region okP true ?_
        | with_reducible refine PWp.draw (id := 4) okP true [0, 1, 2, 3, 4, 5, 6, 7, 8, 9, 10, 11, 12, 13, 14, 15, 16, 17, 18, 19, 20, 21, 22, 23, 24, 25] (by kernel_rfl) ?_
        | with_reducible (first | refine pops_nil ?_ | refine pany_nil ?_ | refine pthen_normal ?_ | refine pblock_normal ?_ | refine pthen_ret ?_ | refine pblock_ret ?_ | refine pthen_exit ?_ | refine pblock_here ?_ | refine pblock_there rfl ?_ | refine PWp.ret ?_ | refine PWp.exit ?_ | refine PWp.skip ?_)
        | ((with_reducible refine hK _ ?_); clear hK K)
        | ((with_reducible refine PWp.condI ?_); refine ⟨_, rfl, fun hg => ?_, fun hg => ?_⟩ <;> first | (exact absurd hg (by decide)) | ((try simp only [Bool.not_true, Bool.not_false] at hg); (try simp only [hg]); (try simp only [push_cast] at hg); (try exact absurd trivial hg); (try (exfalso; omega))))
        | ((first | ((with_reducible refine pops_guard0 ?_); refine ⟨_, rfl, fun K hK => ⟨rfl, ?_⟩⟩) | ((with_reducible refine pD_g0 ?_); refine ⟨_, rfl, rfl, ?_⟩)); (try simp (disch := omega) only [push_cast, seval]))
        | ((with_reducible refine pany_I ?_); refine ⟨_, rfl, fun K hK => ?_⟩)
        | ((with_reducible refine pops_plain fun K hK => ?_); simp (disch := omega) only [push_cast, seval])
        | ((first | ((with_reducible refine pD_y ?_ ?_); exact rfl) | ((with_reducible refine pD_x ?_ ?_); exact rfl)); simp (disch := omega) only [push_cast, seval])
        | ((first | ((with_reducible refine pops_guard ?_); refine ⟨_, rfl, fun K hK => ⟨_, rfl, fun hg => ?_, fun hg => ?_⟩⟩) | ((first | ((with_reducible refine pD_gy ?_ ?_); exact rfl) | ((with_reducible refine pD_gx ?_ ?_); exact rfl)); refine ⟨_, rfl, _, rfl, fun hg => ?_, fun hg => ?_⟩)) <;> first | (exact absurd hg (by decide)) | ((try simp only [Bool.not_true, Bool.not_false] at hg); (try simp only [hg]); (try simp only [push_cast] at hg); (try exact absurd trivial hg); (try (exfalso; omega)); (try simp (disch := omega) only [push_cast, seval])))
        | ((with_reducible show pcall _ _ _ _ _ _); refine pcall_RV (g := 44) (callable_of Tryd.func44 rfl rfl) (iTrustOk_p ⟨_, _⟩) rfl (by (repeat' (first | exact trivial | exact rfl | exact vwOk_clo rfl | exact rowsC fun _ => rfl | exact rowsC2 fun _ => rfl | exact rowsC1 (fun _ => rfl) rfl | refine And.intro ?_ ?_ | refine vwOk_ag ?_ | refine vwOk_cl ?_))) ?_; (try simp (disch := omega) only [push_cast, seval]))
        | ((with_reducible show pcall _ _ _ _ _ _); refine pcall_RV (g := 45) (callable_of Tryd.func45 rfl rfl) (iAnchorOk_p ⟨⟨_, _, _, _, _, _⟩, _⟩ (by (first | assumption | omega | (simp; omega) | (simp_all; done) | (simp_all; omega)))) rfl (by (repeat' (first | exact trivial | exact rfl | exact vwOk_clo rfl | exact rowsC fun _ => rfl | exact rowsC2 fun _ => rfl | exact rowsC1 (fun _ => rfl) rfl | refine And.intro ?_ ?_ | refine vwOk_ag ?_ | refine vwOk_cl ?_))) ?_; (try simp (disch := omega) only [push_cast, seval]))
        | ((with_reducible show pcall _ _ _ _ _ _); refine pcall_RV (g := 46) (callable_of Tryd.func46 rfl rfl) (iStoreOk_p ⟨_, _⟩ (by (first | assumption | omega | (simp; omega) | (simp_all; done) | (simp_all; omega)))) rfl (by (repeat' (first | exact trivial | exact rfl | exact vwOk_clo rfl | exact rowsC fun _ => rfl | exact rowsC2 fun _ => rfl | exact rowsC1 (fun _ => rfl) rfl | refine And.intro ?_ ?_ | refine vwOk_ag ?_ | refine vwOk_cl ?_))) ?_; (try simp (disch := omega) only [push_cast, seval]))
        | ((with_reducible show pcall _ _ _ _ _ _); refine pcall_RV (g := 47) (callable_of Tryd.func47 rfl rfl) (iTableOk_p ⟨_, _⟩ (by (first | assumption | omega | (simp; omega) | (simp_all; done) | (simp_all; omega)))) rfl (by (repeat' (first | exact trivial | exact rfl | exact vwOk_clo rfl | exact rowsC fun _ => rfl | exact rowsC2 fun _ => rfl | exact rowsC1 (fun _ => rfl) rfl | refine And.intro ?_ ?_ | refine vwOk_ag ?_ | refine vwOk_cl ?_))) ?_; (try simp (disch := omega) only [push_cast, seval]))
        | ((with_reducible show pcall _ _ _ _ _ _); refine pcall_RV (g := 48) (callable_of Tryd.func48 rfl rfl) (within_p _ _ _) rfl (by (repeat' (first | exact trivial | exact rfl | exact vwOk_clo rfl | exact rowsC fun _ => rfl | exact rowsC2 fun _ => rfl | exact rowsC1 (fun _ => rfl) rfl | refine And.intro ?_ ?_ | refine vwOk_ag ?_ | refine vwOk_cl ?_))) ?_; (try simp (disch := omega) only [push_cast, seval]))
        | ((with_reducible show pcall _ _ _ _ _ _); refine pcall_RV (g := 49) (callable_of Tryd.func49 rfl rfl) (isTime_p _) rfl (by (repeat' (first | exact trivial | exact rfl | exact vwOk_clo rfl | exact rowsC fun _ => rfl | exact rowsC2 fun _ => rfl | exact rowsC1 (fun _ => rfl) rfl | refine And.intro ?_ ?_ | refine vwOk_ag ?_ | refine vwOk_cl ?_))) ?_; (try simp (disch := omega) only [push_cast, seval]))
        | ((with_reducible refine And.intro ?_ ?_); omega))
    all_goals
      ((first | with_reducible (first | refine pendV1 ?_ ?_ ?_ | refine pendV2 ?_ ?_ ?_ | refine pendV3 ?_ ?_ ?_ | refine pendV0 ?_ ?_ ?_) | refine pendVG ?_ ?_ ?_); (· (first | exact .inl rfl | exact .inr rfl)); rotate_left 1; (· exact rfl); (try (apply Exists.intro; apply And.intro; (· repeat' (first | exact presults_nil | apply presults_tmp | (apply presults_agg; (· exact rfl); (· exact rfl); (· exact rfl); (· exact rfl); (· exact rfl); (· first | exact Nat.le_refl _ | decide | simp)) | (apply presults_one; (· exact rfl); (· exact rfl); (· exact rfl); (· exact rfl); (· exact rfl)))))); (try simp only [push_cast, seval]))
      simp_all
  · obtain ⟨x, hx⟩ : ∃ x, hs[hs.length - 1]? = some x := ⟨_, List.getElem?_eq_getElem (by omega)⟩
    have e : lastHead hs = some x := hx
    rw [e] at hd
    have e1 : ((hs.length : Int) - 1).toNat = hs.length - 1 := by omega
    refine pcalls_ofR okP Tryd.func16 rfl ?_
    simp only [Tryd.f16, List.length_cons, List.length_nil, Nat.reduceAdd, Nat.reduceSub, List.replicate_succ, List.replicate_zero, List.cons_append, List.nil_append, List.length_map]
    repeat' (first
        | with_reducible refine PWp.seq ?_
        | with_reducible refine PWp.block ?_
        | with_reducible refine PWp.region okP true ?_
        | with_reducible refine PWp.draw (id := 4) okP true [0, 1, 2, 3, 4, 5, 6, 7, 8, 9, 10, 11, 12, 13, 14, 15, 16, 17, 18, 19, 20, 21, 22, 23, 24, 25] (by kernel_rfl) ?_
        | with_reducible (first | refine pops_nil ?_ | refine pany_nil ?_ | refine pthen_normal ?_ | refine pblock_normal ?_ | refine pthen_ret ?_ | refine pblock_ret ?_ | refine pthen_exit ?_ | refine pblock_here ?_ | refine pblock_there rfl ?_ | refine PWp.ret ?_ | refine PWp.exit ?_ | refine PWp.skip ?_)
        | ((with_reducible refine hK _ ?_); clear hK K)
        | ((with_reducible refine PWp.condI ?_); refine ⟨_, rfl, fun hg => ?_, fun hg => ?_⟩ <;> first | (exact absurd hg (by decide)) | ((try simp only [Bool.not_true, Bool.not_false] at hg); (try simp only [hg]); (try simp only [push_cast] at hg); (try exact absurd trivial hg); (try (exfalso; omega))))
        | ((first | ((with_reducible refine pops_guard0 ?_); refine ⟨_, rfl, fun K hK => ⟨rfl, ?_⟩⟩) | ((with_reducible refine pD_g0 ?_); refine ⟨_, rfl, rfl, ?_⟩)); (try simp (disch := omega) only [push_cast, seval, e1, hx]))
        | ((with_reducible refine pany_I ?_); refine ⟨_, rfl, fun K hK => ?_⟩)
        | ((with_reducible refine pops_plain fun K hK => ?_); simp (disch := omega) only [push_cast, seval, e1, hx])
        | ((first | ((with_reducible refine pD_y ?_ ?_); exact rfl) | ((with_reducible refine pD_x ?_ ?_); exact rfl)); simp (disch := omega) only [push_cast, seval, e1, hx])
        | ((first | ((with_reducible refine pops_guard ?_); refine ⟨_, rfl, fun K hK => ⟨_, rfl, fun hg => ?_, fun hg => ?_⟩⟩) | ((first | ((with_reducible refine pD_gy ?_ ?_); exact rfl) | ((with_reducible refine pD_gx ?_ ?_); exact rfl)); refine ⟨_, rfl, _, rfl, fun hg => ?_, fun hg => ?_⟩)) <;> first | (exact absurd hg (by decide)) | ((try simp only [Bool.not_true, Bool.not_false] at hg); (try simp only [hg]); (try simp only [push_cast] at hg); (try exact absurd trivial hg); (try (exfalso; omega)); (try simp (disch := omega) only [push_cast, seval, e1, hx])))
        | ((with_reducible show pcall _ _ _ _ _ _); refine pcall_RV (g := 44) (callable_of Tryd.func44 rfl rfl) (iTrustOk_p ⟨_, _⟩) rfl (by (repeat' (first | exact trivial | exact rfl | exact vwOk_clo rfl | exact rowsC fun _ => rfl | exact rowsC2 fun _ => rfl | exact rowsC1 (fun _ => rfl) rfl | refine And.intro ?_ ?_ | refine vwOk_ag ?_ | refine vwOk_cl ?_))) ?_; (try simp (disch := omega) only [push_cast, seval, e1, hx]))
        | ((with_reducible show pcall _ _ _ _ _ _); refine pcall_RV (g := 45) (callable_of Tryd.func45 rfl rfl) (iAnchorOk_p ⟨⟨_, _, _, _, _, _⟩, _⟩ (by (first | assumption | omega | (simp; omega) | (simp_all; done) | (simp_all; omega)))) rfl (by (repeat' (first | exact trivial | exact rfl | exact vwOk_clo rfl | exact rowsC fun _ => rfl | exact rowsC2 fun _ => rfl | exact rowsC1 (fun _ => rfl) rfl | refine And.intro ?_ ?_ | refine vwOk_ag ?_ | refine vwOk_cl ?_))) ?_; (try simp (disch := omega) only [push_cast, seval, e1, hx]))
        | ((with_reducible show pcall _ _ _ _ _ _); refine pcall_RV (g := 46) (callable_of Tryd.func46 rfl rfl) (iStoreOk_p ⟨_, _⟩ (by (first | assumption | omega | (simp; omega) | (simp_all; done) | (simp_all; omega)))) rfl (by (repeat' (first | exact trivial | exact rfl | exact vwOk_clo rfl | exact rowsC fun _ => rfl | exact rowsC2 fun _ => rfl | exact rowsC1 (fun _ => rfl) rfl | refine And.intro ?_ ?_ | refine vwOk_ag ?_ | refine vwOk_cl ?_))) ?_; (try simp (disch := omega) only [push_cast, seval, e1, hx]))
        | ((with_reducible show pcall _ _ _ _ _ _); refine pcall_RV (g := 47) (callable_of Tryd.func47 rfl rfl) (iTableOk_p ⟨_, _⟩ (by (first | assumption | omega | (simp; omega) | (simp_all; done) | (simp_all; omega)))) rfl (by (repeat' (first | exact trivial | exact rfl | exact vwOk_clo rfl | exact rowsC fun _ => rfl | exact rowsC2 fun _ => rfl | exact rowsC1 (fun _ => rfl) rfl | refine And.intro ?_ ?_ | refine vwOk_ag ?_ | refine vwOk_cl ?_))) ?_; (try simp (disch := omega) only [push_cast, seval, e1, hx]))
        | ((with_reducible show pcall _ _ _ _ _ _); refine pcall_RV (g := 48) (callable_of Tryd.func48 rfl rfl) (within_p _ _ _) rfl (by (repeat' (first | exact trivial | exact rfl | exact vwOk_clo rfl | exact rowsC fun _ => rfl | exact rowsC2 fun _ => rfl | exact rowsC1 (fun _ => rfl) rfl | refine And.intro ?_ ?_ | refine vwOk_ag ?_ | refine vwOk_cl ?_))) ?_; (try simp (disch := omega) only [push_cast, seval, e1, hx]))
        | ((with_reducible show pcall _ _ _ _ _ _); refine pcall_RV (g := 49) (callable_of Tryd.func49 rfl rfl) (isTime_p _) rfl (by (repeat' (first | exact trivial | exact rfl | exact vwOk_clo rfl | exact rowsC fun _ => rfl | exact rowsC2 fun _ => rfl | exact rowsC1 (fun _ => rfl) rfl | refine And.intro ?_ ?_ | refine vwOk_ag ?_ | refine vwOk_cl ?_))) ?_; (try simp (disch := omega) only [push_cast, seval, e1, hx]))
        | ((with_reducible refine And.intro ?_ ?_); omega))
    all_goals
      ((first | with_reducible (first | refine pendV1 ?_ ?_ ?_ | refine pendV2 ?_ ?_ ?_ | refine pendV3 ?_ ?_ ?_ | refine pendV0 ?_ ?_ ?_) | refine pendVG ?_ ?_ ?_); (· (first | exact .inl rfl | exact .inr rfl)); rotate_left 1; (· exact rfl); (try (apply Exists.intro; apply And.intro; (· repeat' (first | exact presults_nil | apply presults_tmp | (apply presults_agg; (· exact rfl); (· exact rfl); (· exact rfl); (· exact rfl); (· exact rfl); (· first | exact Nat.le_refl _ | decide | simp)) | (apply presults_one; (· exact rfl); (· exact rfl); (· exact rfl); (· exact rfl); (· exact rfl)))))); (try simp only [push_cast, seval]))
      first
        | (simp_all [headEq]; done)
        | (simp_all [headEq]; omega)
set_option maxHeartbeats 2000000 in
theorem sLightOk_p (c : GLight) (h1 : c.fAnchor.fNext.length ≤ 2000000) (h2 : c.fStore.fHeads.length ≤ 2000000) (h3 : c.fPeers.fPeers.length ≤ 2000000) : PCalls Tryd.prog 14 [.agg (pLight c)] [] (RV (.val (.bool (lightOk c)))) := by
  obtain ⟨tr, st, ⟨hh, nx⟩, ⟨hs, sy⟩, ⟨ps, tu⟩, now⟩ := c
  dsimp only at h1 h2 h3
  have hd : lightOk ⟨tr, st, ⟨hh, nx⟩, ⟨hs, sy⟩, ⟨ps, tu⟩, now⟩ = (trustOk tr && anchorOk ⟨hh, nx⟩ && storeOk ⟨hs, sy⟩ && tableOk ⟨ps, tu⟩ && inB st 1 2 && isTime now && (match lastHead hs with | some h => headEq h hh | none => false)) := rfl
  by_cases hlen : hs.length = 0
  · have e : lastHead hs = none := by unfold lastHead; exact List.getElem?_eq_none (by omega)
    rw [e] at hd
    refine pcalls_ofR okP Tryd.func14 rfl ?_
    simp only [Tryd.f14, List.length_cons, List.length_nil, Nat.reduceAdd, Nat.reduceSub, List.replicate_succ, List.replicate_zero, List.cons_append, List.nil_append, List.length_map]
    repeat' (first
        | with_reducible refine PWp.seq ?_
        | with_reducible refine PWp.block ?_
        | with_reducible refine PWp.region okP true ?_
        | with_reducible refine PWp.draw (id := 2) okP true [0, 1, 2, 3, 4, 5, 6, 7, 8, 9, 10, 11, 12, 13, 14, 15, 16, 17, 18, 19, 20, 21, 22, 23, 24, 25, 26, 27, 28, 29, 30, 31, 32, 33, 34, 35, 36, 37, 38, 39, 40, 41, 42, 43, 44, 45] (by kernel_rfl) ?_
        | with_reducible (first | refine pops_nil ?_ | refine pany_nil ?_ | refine pthen_normal ?_ | refine pblock_normal ?_ | refine pthen_ret ?_ | refine pblock_ret ?_ | refine pthen_exit ?_ | refine pblock_here ?_ | refine pblock_there rfl ?_ | refine PWp.ret ?_ | refine PWp.exit ?_ | refine PWp.skip ?_)
        | ((with_reducible refine hK _ ?_); clear hK K)
        | ((with_reducible refine PWp.condI ?_); refine ⟨_, rfl, fun hg => ?_, fun hg => ?_⟩ <;> first | (exact absurd hg (by decide)) | ((try simp only [Bool.not_true, Bool.not_false] at hg); (try simp only [hg]); (try simp only [push_cast] at hg); (try exact absurd trivial hg); (try (exfalso; omega))))
        | ((first | ((with_reducible refine pops_guard0 ?_); refine ⟨_, rfl, fun K hK => ⟨rfl, ?_⟩⟩) | ((with_reducible refine pD_g0 ?_); refine ⟨_, rfl, rfl, ?_⟩)); (try simp (disch := omega) only [push_cast, seval]))
        | ((with_reducible refine pany_I ?_); refine ⟨_, rfl, fun K hK => ?_⟩)
        | ((with_reducible refine pops_plain fun K hK => ?_); simp (disch := omega) only [push_cast, seval])
        | ((first | ((with_reducible refine pD_y ?_ ?_); exact rfl) | ((with_reducible refine pD_x ?_ ?_); exact rfl)); simp (disch := omega) only [push_cast, seval])
        | ((first | ((with_reducible refine pops_guard ?_); refine ⟨_, rfl, fun K hK => ⟨_, rfl, fun hg => ?_, fun hg => ?_⟩⟩) | ((first | ((with_reducible refine pD_gy ?_ ?_); exact rfl) | ((with_reducible refine pD_gx ?_ ?_); exact rfl)); refine ⟨_, rfl, _, rfl, fun hg => ?_, fun hg => ?_⟩)) <;> first | (exact absurd hg (by decide)) | ((try simp only [Bool.not_true, Bool.not_false] at hg); (try simp only [hg]); (try simp only [push_cast] at hg); (try exact absurd trivial hg); (try (exfalso; omega)); (try simp (disch := omega) only [push_cast, seval])))
        | ((with_reducible show pcall _ _ _ _ _ _); refine pcall_RV (g := 34) (callable_of Tryd.func34 rfl rfl) (sTrustOk_p ⟨_, _⟩) rfl (by (repeat' (first | exact trivial | exact rfl | exact vwOk_clo rfl | exact rowsC fun _ => rfl | exact rowsC2 fun _ => rfl | exact rowsC1 (fun _ => rfl) rfl | refine And.intro ?_ ?_ | refine vwOk_ag ?_ | refine vwOk_cl ?_))) ?_; (try simp (disch := omega) only [push_cast, seval]))
        | ((with_reducible show pcall _ _ _ _ _ _); refine pcall_RV (g := 35) (callable_of Tryd.func35 rfl rfl) (sAnchorOk_p ⟨⟨_, _, _, _, _, _⟩, _⟩ (by (first | assumption | omega | (simp; omega) | (simp_all; done) | (simp_all; omega)))) rfl (by (repeat' (first | exact trivial | exact rfl | exact vwOk_clo rfl | exact rowsC fun _ => rfl | exact rowsC2 fun _ => rfl | exact rowsC1 (fun _ => rfl) rfl | refine And.intro ?_ ?_ | refine vwOk_ag ?_ | refine vwOk_cl ?_))) ?_; (try simp (disch := omega) only [push_cast, seval]))
        | ((with_reducible show pcall _ _ _ _ _ _); refine pcall_RV (g := 36) (callable_of Tryd.func36 rfl rfl) (sStoreOk_p ⟨_, _⟩ (by (first | assumption | omega | (simp; omega) | (simp_all; done) | (simp_all; omega)))) rfl (by (repeat' (first | exact trivial | exact rfl | exact vwOk_clo rfl | exact rowsC fun _ => rfl | exact rowsC2 fun _ => rfl | exact rowsC1 (fun _ => rfl) rfl | refine And.intro ?_ ?_ | refine vwOk_ag ?_ | refine vwOk_cl ?_))) ?_; (try simp (disch := omega) only [push_cast, seval]))
        | ((with_reducible show pcall _ _ _ _ _ _); refine pcall_RV (g := 37) (callable_of Tryd.func37 rfl rfl) (sTableOk_p ⟨_, _⟩ (by (first | assumption | omega | (simp; omega) | (simp_all; done) | (simp_all; omega)))) rfl (by (repeat' (first | exact trivial | exact rfl | exact vwOk_clo rfl | exact rowsC fun _ => rfl | exact rowsC2 fun _ => rfl | exact rowsC1 (fun _ => rfl) rfl | refine And.intro ?_ ?_ | refine vwOk_ag ?_ | refine vwOk_cl ?_))) ?_; (try simp (disch := omega) only [push_cast, seval]))
        | ((with_reducible show pcall _ _ _ _ _ _); refine pcall_RV (g := 38) (callable_of Tryd.func38 rfl rfl) (l1In_p _ _ _) rfl (by (repeat' (first | exact trivial | exact rfl | exact vwOk_clo rfl | exact rowsC fun _ => rfl | exact rowsC2 fun _ => rfl | exact rowsC1 (fun _ => rfl) rfl | refine And.intro ?_ ?_ | refine vwOk_ag ?_ | refine vwOk_cl ?_))) ?_; (try simp (disch := omega) only [push_cast, seval]))
        | ((with_reducible show pcall _ _ _ _ _ _); refine pcall_RV (g := 39) (callable_of Tryd.func39 rfl rfl) (l10Time_p _) rfl (by (repeat' (first | exact trivial | exact rfl | exact vwOk_clo rfl | exact rowsC fun _ => rfl | exact rowsC2 fun _ => rfl | exact rowsC1 (fun _ => rfl) rfl | refine And.intro ?_ ?_ | refine vwOk_ag ?_ | refine vwOk_cl ?_))) ?_; (try simp (disch := omega) only [push_cast, seval]))
        | ((with_reducible refine And.intro ?_ ?_); omega))
    all_goals
      ((first | with_reducible (first | refine pendV1 ?_ ?_ ?_ | refine pendV2 ?_ ?_ ?_ | refine pendV3 ?_ ?_ ?_ | refine pendV0 ?_ ?_ ?_) | refine pendVG ?_ ?_ ?_); (· (first | exact .inl rfl | exact .inr rfl)); rotate_left 1; (· exact rfl); (try (apply Exists.intro; apply And.intro; (· repeat' (first | exact presults_nil | apply presults_tmp | (apply presults_agg; (· exact rfl); (· exact rfl); (· exact rfl); (· exact rfl); (· exact rfl); (· first | exact Nat.le_refl _ | decide | simp)) | (apply presults_one; (· exact rfl); (· exact rfl); (· exact rfl); (· exact rfl); (· exact rfl)))))); (try simp only [push_cast, seval]))
      simp_all
  · obtain ⟨x, hx⟩ : ∃ x, hs[hs.length - 1]? = some x := ⟨_, List.getElem?_eq_getElem (by omega)⟩
    have e : lastHead hs = some x := hx
    rw [e] at hd
    have e1 : ((hs.length : Int) - 1).toNat = hs.length - 1 := by omega
    refine pcalls_ofR okP Tryd.func14 rfl ?_
    simp only [Tryd.f14, List.length_cons, List.length_nil, Nat.reduceAdd, Nat.reduceSub, List.replicate_succ, List.replicate_zero, List.cons_append, List.nil_append, List.length_map]
    repeat' (first
        | with_reducible refine PWp.seq ?_
        | with_reducible refine PWp.block ?_
        | with_reducible refine PWp.region okP true ?_
        | with_reducible refine PWp.draw (id := 2) okP true [0, 1, 2, 3, 4, 5, 6, 7, 8, 9, 10, 11, 12, 13, 14, 15, 16, 17, 18, 19, 20, 21, 22, 23, 24, 25, 26, 27, 28, 29, 30, 31, 32, 33, 34, 35, 36, 37, 38, 39, 40, 41, 42, 43, 44, 45] (by kernel_rfl) ?_
        | with_reducible (first | refine pops_nil ?_ | refine pany_nil ?_ | refine pthen_normal ?_ | refine pblock_normal ?_ | refine pthen_ret ?_ | refine pblock_ret ?_ | refine pthen_exit ?_ | refine pblock_here ?_ | refine pblock_there rfl ?_ | refine PWp.ret ?_ | refine PWp.exit ?_ | refine PWp.skip ?_)
        | ((with_reducible refine hK _ ?_); clear hK K)
        | ((with_reducible refine PWp.condI ?_); refine ⟨_, rfl, fun hg => ?_, fun hg => ?_⟩ <;> first | (exact absurd hg (by decide)) | ((try simp only [Bool.not_true, Bool.not_false] at hg); (try simp only [hg]); (try simp only [push_cast] at hg); (try exact absurd trivial hg); (try (exfalso; omega))))
        | ((first | ((with_reducible refine pops_guard0 ?_); refine ⟨_, rfl, fun K hK => ⟨rfl, ?_⟩⟩) | ((with_reducible refine pD_g0 ?_); refine ⟨_, rfl, rfl, ?_⟩)); (try simp (disch := omega) only [push_cast, seval, e1, hx]))
        | ((with_reducible refine pany_I ?_); refine ⟨_, rfl, fun K hK => ?_⟩)
        | ((with_reducible refine pops_plain fun K hK => ?_); simp (disch := omega) only [push_cast, seval, e1, hx])
        | ((first | ((with_reducible refine pD_y ?_ ?_); exact rfl) | ((with_reducible refine pD_x ?_ ?_); exact rfl)); simp (disch := omega) only [push_cast, seval, e1, hx])
        | ((first | ((with_reducible refine pops_guard ?_); refine ⟨_, rfl, fun K hK => ⟨_, rfl, fun hg => ?_, fun hg => ?_⟩⟩) | ((first | ((with_reducible refine pD_gy ?_ ?_); exact rfl) | ((with_reducible refine pD_gx ?_ ?_); exact rfl)); refine ⟨_, rfl, _, rfl, fun hg => ?_, fun hg => ?_⟩)) <;> first | (exact absurd hg (by decide)) | ((try simp only [Bool.not_true, Bool.not_false] at hg); (try simp only [hg]); (try simp only [push_cast] at hg); (try exact absurd trivial hg); (try (exfalso; omega)); (try simp (disch := omega) only [push_cast, seval, e1, hx])))
        | ((with_reducible show pcall _ _ _ _ _ _); refine pcall_RV (g := 34) (callable_of Tryd.func34 rfl rfl) (sTrustOk_p ⟨_, _⟩) rfl (by (repeat' (first | exact trivial | exact rfl | exact vwOk_clo rfl | exact rowsC fun _ => rfl | exact rowsC2 fun _ => rfl | exact rowsC1 (fun _ => rfl) rfl | refine And.intro ?_ ?_ | refine vwOk_ag ?_ | refine vwOk_cl ?_))) ?_; (try simp (disch := omega) only [push_cast, seval, e1, hx]))
        | ((with_reducible show pcall _ _ _ _ _ _); refine pcall_RV (g := 35) (callable_of Tryd.func35 rfl rfl) (sAnchorOk_p ⟨⟨_, _, _, _, _, _⟩, _⟩ (by (first | assumption | omega | (simp; omega) | (simp_all; done) | (simp_all; omega)))) rfl (by (repeat' (first | exact trivial | exact rfl | exact vwOk_clo rfl | exact rowsC fun _ => rfl | exact rowsC2 fun _ => rfl | exact rowsC1 (fun _ => rfl) rfl | refine And.intro ?_ ?_ | refine vwOk_ag ?_ | refine vwOk_cl ?_))) ?_; (try simp (disch := omega) only [push_cast, seval, e1, hx]))
        | ((with_reducible show pcall _ _ _ _ _ _); refine pcall_RV (g := 36) (callable_of Tryd.func36 rfl rfl) (sStoreOk_p ⟨_, _⟩ (by (first | assumption | omega | (simp; omega) | (simp_all; done) | (simp_all; omega)))) rfl (by (repeat' (first | exact trivial | exact rfl | exact vwOk_clo rfl | exact rowsC fun _ => rfl | exact rowsC2 fun _ => rfl | exact rowsC1 (fun _ => rfl) rfl | refine And.intro ?_ ?_ | refine vwOk_ag ?_ | refine vwOk_cl ?_))) ?_; (try simp (disch := omega) only [push_cast, seval, e1, hx]))
        | ((with_reducible show pcall _ _ _ _ _ _); refine pcall_RV (g := 37) (callable_of Tryd.func37 rfl rfl) (sTableOk_p ⟨_, _⟩ (by (first | assumption | omega | (simp; omega) | (simp_all; done) | (simp_all; omega)))) rfl (by (repeat' (first | exact trivial | exact rfl | exact vwOk_clo rfl | exact rowsC fun _ => rfl | exact rowsC2 fun _ => rfl | exact rowsC1 (fun _ => rfl) rfl | refine And.intro ?_ ?_ | refine vwOk_ag ?_ | refine vwOk_cl ?_))) ?_; (try simp (disch := omega) only [push_cast, seval, e1, hx]))
        | ((with_reducible show pcall _ _ _ _ _ _); refine pcall_RV (g := 38) (callable_of Tryd.func38 rfl rfl) (l1In_p _ _ _) rfl (by (repeat' (first | exact trivial | exact rfl | exact vwOk_clo rfl | exact rowsC fun _ => rfl | exact rowsC2 fun _ => rfl | exact rowsC1 (fun _ => rfl) rfl | refine And.intro ?_ ?_ | refine vwOk_ag ?_ | refine vwOk_cl ?_))) ?_; (try simp (disch := omega) only [push_cast, seval, e1, hx]))
        | ((with_reducible show pcall _ _ _ _ _ _); refine pcall_RV (g := 39) (callable_of Tryd.func39 rfl rfl) (l10Time_p _) rfl (by (repeat' (first | exact trivial | exact rfl | exact vwOk_clo rfl | exact rowsC fun _ => rfl | exact rowsC2 fun _ => rfl | exact rowsC1 (fun _ => rfl) rfl | refine And.intro ?_ ?_ | refine vwOk_ag ?_ | refine vwOk_cl ?_))) ?_; (try simp (disch := omega) only [push_cast, seval, e1, hx]))
        | ((with_reducible refine And.intro ?_ ?_); omega))
    all_goals
      ((first | with_reducible (first | refine pendV1 ?_ ?_ ?_ | refine pendV2 ?_ ?_ ?_ | refine pendV3 ?_ ?_ ?_ | refine pendV0 ?_ ?_ ?_) | refine pendVG ?_ ?_ ?_); (· (first | exact .inl rfl | exact .inr rfl)); rotate_left 1; (· exact rfl); (try (apply Exists.intro; apply And.intro; (· repeat' (first | exact presults_nil | apply presults_tmp | (apply presults_agg; (· exact rfl); (· exact rfl); (· exact rfl); (· exact rfl); (· exact rfl); (· first | exact Nat.le_refl _ | decide | simp)) | (apply presults_one; (· exact rfl); (· exact rfl); (· exact rfl); (· exact rfl); (· exact rfl)))))); (try simp only [push_cast, seval]))
      first
        | (simp_all [headEq]; done)
        | (simp_all [headEq]; omega)
end Go.Proofs.YtgcelmnmalfpcaaDoor
namespace Go.Proofs.YtgcelmnmalfpcaaDoor
set_option linter.unusedSimpArgs false
set_option linter.unusedVariables false
open Go.RowKit
set_option maxRecDepth 100000
theorem find_hit {α : Type} {p : α → Bool} : ∀ {l : List α} {k : Nat} {x : α}, l[k]? = some x → p x = true → noneTo p l k → l.find? p = some x
  | [], k, x, h, _, _ => by simp at h
  | y :: l, 0, x, h, hp, _ => by simp at h; subst h; simp [hp]
  | y :: l, k + 1, x, h, hp, hn => by
    have h0 : p y = false := hn 0 y (by omega) rfl
    rw [List.find?_cons, h0]
    exact find_hit (k := k) (by simpa using h) hp fun i z hi hz => hn (i + 1) z (by omega) (by simpa using hz)
theorem find_none {α : Type} {p : α → Bool} : ∀ {l : List α}, noneTo p l l.length → l.find? p = none
  | [], _ => rfl
  | y :: l, hn => by
    have h0 : p y = false := hn 0 y (by simp) rfl
    rw [List.find?_cons, h0]
    exact find_none fun i z hi hz => hn (i + 1) z (by simpa using hi) (by simpa using hz)
theorem storeGet_no {s : GStore} {height : Int} (ok : storeOk s = false) : storeGet s height = (header0, false) := by unfold storeGet; rw [ok]; rfl
theorem storeGet_hit {s : GStore} {height : Int} (ok : storeOk s = true) {k : Nat} {x : GHeader} (hx : s.fHeads[k]? = some x) (he : x.fHeight = height) (hn : noneTo (fun h => decide (h.fHeight = height)) s.fHeads k) : storeGet s height = (x, true) := by
  unfold storeGet
  rw [if_pos ok, find_hit hx (by simpa using he) hn]
theorem storeGet_none {s : GStore} {height : Int} (ok : storeOk s = true) (hn : noneTo (fun h => decide (h.fHeight = height)) s.fHeads s.fHeads.length) : storeGet s height = (header0, false) := by
  unfold storeGet
  rw [if_pos ok, find_none hn]
set_option maxHeartbeats 1000000 in
theorem iStoreGet_p (s : GStore) (height : Int) (hl : s.fHeads.length ≤ 2000000) : PCalls Tryd.prog 55 [.agg (pStore s), .val (.int .i64 height)] [] (RH (.tup [.agg (pHeader (storeGet s height).1), .val (.bool (storeGet s height).2)]) []) := by
  cases ok : storeOk s with
  | false =>
    rw [storeGet_no ok]
    refine pcalls_ofR okP Tryd.func55 rfl ?_
    simp only [Tryd.f55, List.length_cons, List.length_nil, Nat.reduceAdd, Nat.reduceSub, List.replicate_succ, List.replicate_zero, List.cons_append, List.nil_append, List.length_map]
    repeat' (first
        | with_reducible refine PWp.seq ?_
        | with_reducible refine PWp.block ?_
        | with_reducible refine PWp.region okP true ?_
        | with_reducible (first | refine pops_nil ?_ | refine pany_nil ?_ | refine pthen_normal ?_ | refine pblock_normal ?_ | refine pthen_ret ?_ | refine pblock_ret ?_ | refine pthen_exit ?_ | refine pblock_here ?_ | refine pblock_there rfl ?_ | refine PWp.ret ?_ | refine PWp.exit ?_ | refine PWp.skip ?_)
        | ((with_reducible refine hK _ ?_); clear hK K)
        | ((with_reducible refine PWp.condI ?_); refine ⟨_, rfl, fun hg => ?_, fun hg => ?_⟩ <;> first | (exact absurd hg (by decide)) | ((try simp only [Bool.not_true, Bool.not_false] at hg); (try simp only [hg]); (try simp only [push_cast] at hg); (try exact absurd trivial hg); (try (exfalso; omega))))
        | ((first | ((with_reducible refine pops_guard0 ?_); refine ⟨_, rfl, fun K hK => ⟨rfl, ?_⟩⟩) | ((with_reducible refine pD_g0 ?_); refine ⟨_, rfl, rfl, ?_⟩)); (try simp (disch := omega) only [push_cast, seval, ok]))
        | ((with_reducible refine pany_I ?_); refine ⟨_, rfl, fun K hK => ?_⟩)
        | ((with_reducible refine pops_plain fun K hK => popO_build ?_); refine ⟨_, rfl, _, rfl, ?_⟩; simp (disch := omega) only [push_cast, seval, ok])
        | ((with_reducible refine pD_y ?_ (py_build ?_)); exact rfl; refine ⟨_, rfl, _, rfl, ?_⟩; simp (disch := omega) only [push_cast, seval, ok])
        | ((with_reducible refine pbuild_cs ?_); refine ⟨_, rfl, _, rfl, ?_⟩; simp (disch := omega) only [push_cast, seval, ok])
        | ((with_reducible refine pops_plain fun K hK => ?_); simp (disch := omega) only [push_cast, seval, ok])
        | ((first | ((with_reducible refine pD_y ?_ ?_); exact rfl) | ((with_reducible refine pD_x ?_ ?_); exact rfl)); simp (disch := omega) only [push_cast, seval, ok])
        | ((first | ((with_reducible refine pops_guard ?_); refine ⟨_, rfl, fun K hK => ⟨_, rfl, fun hg => ?_, fun hg => ?_⟩⟩) | ((first | ((with_reducible refine pD_gy ?_ ?_); exact rfl) | ((with_reducible refine pD_gx ?_ ?_); exact rfl)); refine ⟨_, rfl, _, rfl, fun hg => ?_, fun hg => ?_⟩)) <;> first | (exact absurd hg (by decide)) | ((try simp only [Bool.not_true, Bool.not_false] at hg); (try simp only [hg]); (try simp only [push_cast] at hg); (try exact absurd trivial hg); (try (exfalso; omega)); (try simp (disch := omega) only [push_cast, seval, ok])))
        | ((with_reducible show pcall _ _ _ _ _ _); refine pcall_RV (g := 46) (callable_of Tryd.func46 rfl rfl) (iStoreOk_p ⟨_, _⟩ (by (first | assumption | omega | (simp; omega) | (simp_all; done) | (simp_all; omega)))) rfl (by (repeat' (first | exact trivial | exact rfl | exact vwOk_clo rfl | exact rowsC fun _ => rfl | exact rowsC2 fun _ => rfl | exact rowsC1 (fun _ => rfl) rfl | refine And.intro ?_ ?_ | refine vwOk_ag ?_ | refine vwOk_cl ?_))) ?_; (try simp (disch := omega) only [push_cast, seval, ok]))
        | ((with_reducible refine And.intro ?_ ?_); omega))
    all_goals ((first | with_reducible (first | refine pendH1 [] ?_ ?_ ?_ ?_ ?_ | refine pendH2 [] ?_ ?_ ?_ ?_ ?_ | refine pendH3 [] ?_ ?_ ?_ ?_ ?_ | refine pendH0 [] ?_ ?_ ?_ ?_ ?_) | refine pendHG [] ?_ ?_ ?_ ?_ ?_); rotate_left 0; (· (first | exact .inl rfl | exact .inr rfl)); (· ((try (apply Exists.intro; apply And.intro; (· repeat' (first | exact presults_nil | apply presults_tmp | (apply presults_agg; (· exact rfl); (· exact rfl); (· exact rfl); (· exact rfl); (· exact rfl); (· first | exact Nat.le_refl _ | decide | simp)) | (apply presults_one; (· exact rfl); (· exact rfl); (· exact rfl); (· exact rfl); (· exact rfl)))))); (try simp (disch := omega) only [push_cast, seval]); (repeat' (first | exact trivial | exact rfl | refine And.intro ?_ ?_ | omega)))); (· ((try simp (disch := omega) only [push_cast, seval]); (repeat' (first | exact trivial | exact rfl | refine And.intro ?_ ?_ | omega)))); (· exact rfl); (· first | exact trivial | exact ⟨rfl, trivial⟩ | exact ⟨rfl, rfl, trivial⟩))
  | true =>
  refine pcalls_ofR okP Tryd.func55 rfl ?_
  simp only [Tryd.f55, List.length_cons, List.length_nil, Nat.reduceAdd, Nat.reduceSub, List.replicate_succ, List.replicate_zero, List.cons_append, List.nil_append, List.length_map]
  repeat' (first
      | with_reducible refine PWp.seq ?_
      | with_reducible refine PWp.block ?_
      | with_reducible refine PWp.region okP true ?_
      | with_reducible (first | refine pops_nil ?_ | refine pany_nil ?_ | refine pthen_normal ?_ | refine pblock_normal ?_ | refine pthen_ret ?_ | refine pblock_ret ?_ | refine pthen_exit ?_ | refine pblock_here ?_ | refine pblock_there rfl ?_ | refine PWp.ret ?_ | refine PWp.exit ?_ | refine PWp.skip ?_)
      | ((with_reducible refine hK _ ?_); clear hK K)
      | ((with_reducible refine PWp.condI ?_); refine ⟨_, rfl, fun hg => ?_, fun hg => ?_⟩ <;> first | (exact absurd hg (by decide)) | ((try simp only [Bool.not_true, Bool.not_false] at hg); (try simp only [hg]); (try simp only [push_cast] at hg); (try exact absurd trivial hg); (try (exfalso; omega))))
      | ((first | ((with_reducible refine pops_guard0 ?_); refine ⟨_, rfl, fun K hK => ⟨rfl, ?_⟩⟩) | ((with_reducible refine pD_g0 ?_); refine ⟨_, rfl, rfl, ?_⟩)); (try simp (disch := omega) only [push_cast, seval, ok]))
      | ((with_reducible refine pany_I ?_); refine ⟨_, rfl, fun K hK => ?_⟩)
      | ((with_reducible refine pops_plain fun K hK => popO_build ?_); refine ⟨_, rfl, _, rfl, ?_⟩; simp (disch := omega) only [push_cast, seval, ok])
      | ((with_reducible refine pD_y ?_ (py_build ?_)); exact rfl; refine ⟨_, rfl, _, rfl, ?_⟩; simp (disch := omega) only [push_cast, seval, ok])
      | ((with_reducible refine pbuild_cs ?_); refine ⟨_, rfl, _, rfl, ?_⟩; simp (disch := omega) only [push_cast, seval, ok])
      | ((with_reducible refine pops_plain fun K hK => ?_); simp (disch := omega) only [push_cast, seval, ok])
      | ((first | ((with_reducible refine pD_y ?_ ?_); exact rfl) | ((with_reducible refine pD_x ?_ ?_); exact rfl)); simp (disch := omega) only [push_cast, seval, ok])
      | ((first | ((with_reducible refine pops_guard ?_); refine ⟨_, rfl, fun K hK => ⟨_, rfl, fun hg => ?_, fun hg => ?_⟩⟩) | ((first | ((with_reducible refine pD_gy ?_ ?_); exact rfl) | ((with_reducible refine pD_gx ?_ ?_); exact rfl)); refine ⟨_, rfl, _, rfl, fun hg => ?_, fun hg => ?_⟩)) <;> first | (exact absurd hg (by decide)) | ((try simp only [Bool.not_true, Bool.not_false] at hg); (try simp only [hg]); (try simp only [push_cast] at hg); (try exact absurd trivial hg); (try (exfalso; omega)); (try simp (disch := omega) only [push_cast, seval, ok])))
      | ((with_reducible show pcall _ _ _ _ _ _); refine pcall_RV (g := 46) (callable_of Tryd.func46 rfl rfl) (iStoreOk_p ⟨_, _⟩ (by (first | assumption | omega | (simp; omega) | (simp_all; done) | (simp_all; omega)))) rfl (by (repeat' (first | exact trivial | exact rfl | exact vwOk_clo rfl | exact rowsC fun _ => rfl | exact rowsC2 fun _ => rfl | exact rowsC1 (fun _ => rfl) rfl | refine And.intro ?_ ?_ | refine vwOk_ag ?_ | refine vwOk_cl ?_))) ?_; (try simp (disch := omega) only [push_cast, seval, ok]))
      | ((with_reducible refine And.intro ?_ ?_); omega))
  refine PWp.loopK (α := Nat) (fun k => [(1, .val (.int .i64 height)), (4, .ptr 0 0), (15, .val (.int .i64 (k : Int)))]) [0, 2, 3, 5, 6, 7, 8, 9, 10, 11, 12, 16, 17, 18, 19, 20, 21, 22, 23, 24] (fun k => [some (.box [.val (.int .i64 0), .val (.int .i64 0), .val (.string ⟨#[]⟩), .val (.string ⟨#[]⟩), .val (.string ⟨#[]⟩), .val (.string ⟨#[]⟩)])]) (fun k => k ≤ s.fHeads.length ∧ noneTo (fun h => decide (h.fHeight = height)) s.fHeads k) (fun k => s.fHeads.length - k) (0) (⟨Nat.zero_le _, noneTo_zero⟩) (by (refine ⟨[?_], ?_, ?_, ?_, ?_⟩; rotate_left 1; (· ((try simp (disch := omega) only [push_cast, seval]); (repeat' (first | exact trivial | exact rfl | refine And.intro ?_ ?_ | omega)))); (· ((try simp (disch := omega) only [push_cast, seval]); (repeat' (first | exact trivial | exact rfl | refine And.intro ?_ ?_ | omega)))); (· exact rfl); (· (first | exact trivial | exact ⟨rfl, trivial⟩ | exact ⟨rfl, rfl, trivial⟩)))) ?_
  intro k ρ hI
  (try dsimp only at hI)
  refine PWp.at (tm' := ?_) (H' := ?_) ?_ ?_ ?_; rotate_left 2; (· ((try simp only [push_cast, seval]); exact rfl)); (· ((try dsimp only); exact rfl))
  obtain ⟨hk, hA⟩ := hI
  by_cases hlt : k < s.fHeads.length
  · obtain ⟨x, hx⟩ : ∃ x, s.fHeads[k]? = some x := ⟨_, List.getElem?_eq_getElem hlt⟩
    by_cases he : x.fHeight = height
    · rw [storeGet_hit ok hx he hA]
      repeat' (first
          | with_reducible refine PWp.seq ?_
          | with_reducible refine PWp.block ?_
          | with_reducible refine PWp.region okP true ?_
          | with_reducible (first | refine pops_nil ?_ | refine pany_nil ?_ | refine pthen_normal ?_ | refine pblock_normal ?_ | refine pthen_ret ?_ | refine pblock_ret ?_ | refine pthen_exit ?_ | refine pblock_here ?_ | refine pblock_there rfl ?_ | refine PWp.ret ?_ | refine PWp.exit ?_ | refine PWp.skip ?_)
          | ((with_reducible refine hK _ ?_); clear hK K)
          | ((with_reducible refine PWp.condI ?_); refine ⟨_, rfl, fun hg => ?_, fun hg => ?_⟩ <;> first | (exact absurd hg (by decide)) | ((try simp only [Bool.not_true, Bool.not_false] at hg); (try simp only [hg]); (try simp only [push_cast] at hg); (try exact absurd trivial hg); (try (exfalso; omega))))
          | ((first | ((with_reducible refine pops_guard0 ?_); refine ⟨_, rfl, fun K hK => ⟨rfl, ?_⟩⟩) | ((with_reducible refine pD_g0 ?_); refine ⟨_, rfl, rfl, ?_⟩)); (try simp (disch := omega) only [push_cast, seval, hx, he]))
          | ((with_reducible refine pany_I ?_); refine ⟨_, rfl, fun K hK => ?_⟩)
          | ((with_reducible refine pops_plain fun K hK => popO_build ?_); refine ⟨_, rfl, _, rfl, ?_⟩; simp (disch := omega) only [push_cast, seval, hx, he])
          | ((with_reducible refine pD_y ?_ (py_build ?_)); exact rfl; refine ⟨_, rfl, _, rfl, ?_⟩; simp (disch := omega) only [push_cast, seval, hx, he])
          | ((with_reducible refine pbuild_cs ?_); refine ⟨_, rfl, _, rfl, ?_⟩; simp (disch := omega) only [push_cast, seval, hx, he])
          | ((with_reducible refine pops_plain fun K hK => ?_); simp (disch := omega) only [push_cast, seval, hx, he])
          | ((first | ((with_reducible refine pD_y ?_ ?_); exact rfl) | ((with_reducible refine pD_x ?_ ?_); exact rfl)); simp (disch := omega) only [push_cast, seval, hx, he])
          | ((first | ((with_reducible refine pops_guard ?_); refine ⟨_, rfl, fun K hK => ⟨_, rfl, fun hg => ?_, fun hg => ?_⟩⟩) | ((first | ((with_reducible refine pD_gy ?_ ?_); exact rfl) | ((with_reducible refine pD_gx ?_ ?_); exact rfl)); refine ⟨_, rfl, _, rfl, fun hg => ?_, fun hg => ?_⟩)) <;> first | (exact absurd hg (by decide)) | ((try simp only [Bool.not_true, Bool.not_false] at hg); (try simp only [hg]); (try simp only [push_cast] at hg); (try exact absurd trivial hg); (try (exfalso; omega)); (try simp (disch := omega) only [push_cast, seval, hx, he])))
          | ((with_reducible show pcall _ _ _ _ _ _); refine pcall_RV (g := 46) (callable_of Tryd.func46 rfl rfl) (iStoreOk_p ⟨_, _⟩ (by (first | assumption | omega | (simp; omega) | (simp_all; done) | (simp_all; omega)))) rfl (by (repeat' (first | exact trivial | exact rfl | exact vwOk_clo rfl | exact rowsC fun _ => rfl | exact rowsC2 fun _ => rfl | exact rowsC1 (fun _ => rfl) rfl | refine And.intro ?_ ?_ | refine vwOk_ag ?_ | refine vwOk_cl ?_))) ?_; (try simp (disch := omega) only [push_cast, seval, hx, he]))
          | ((with_reducible refine And.intro ?_ ?_); omega))
      ((first | with_reducible (first | refine pendH1 [] ?_ ?_ ?_ ?_ ?_ | refine pendH2 [] ?_ ?_ ?_ ?_ ?_ | refine pendH3 [] ?_ ?_ ?_ ?_ ?_ | refine pendH0 [] ?_ ?_ ?_ ?_ ?_) | refine pendHG [] ?_ ?_ ?_ ?_ ?_); rotate_left 0; (· (first | exact .inl rfl | exact .inr rfl)); (· ((try (apply Exists.intro; apply And.intro; (· repeat' (first | exact presults_nil | apply presults_tmp | (apply presults_agg; (· exact rfl); (· exact rfl); (· exact rfl); (· exact rfl); (· exact rfl); (· first | exact Nat.le_refl _ | decide | simp)) | (apply presults_one; (· exact rfl); (· exact rfl); (· exact rfl); (· exact rfl); (· exact rfl)))))); (try simp (disch := omega) only [push_cast, seval]); (repeat' (first | exact trivial | exact rfl | refine And.intro ?_ ?_ | omega)))); (· ((try simp (disch := omega) only [push_cast, seval]); (repeat' (first | exact trivial | exact rfl | refine And.intro ?_ ?_ | omega)))); (· exact rfl); (· first | exact trivial | exact ⟨rfl, trivial⟩ | exact ⟨rfl, rfl, trivial⟩))
    ·
      repeat' (first
          | with_reducible refine PWp.seq ?_
          | with_reducible refine PWp.block ?_
          | with_reducible refine PWp.region okP true ?_
          | with_reducible (first | refine pops_nil ?_ | refine pany_nil ?_ | refine pthen_normal ?_ | refine pblock_normal ?_ | refine pthen_ret ?_ | refine pblock_ret ?_ | refine pthen_exit ?_ | refine pblock_here ?_ | refine pblock_there rfl ?_ | refine PWp.ret ?_ | refine PWp.exit ?_ | refine PWp.skip ?_)
          | ((with_reducible refine hK _ ?_); clear hK K)
          | ((with_reducible refine PWp.condI ?_); refine ⟨_, rfl, fun hg => ?_, fun hg => ?_⟩ <;> first | (exact absurd hg (by decide)) | ((try simp only [Bool.not_true, Bool.not_false] at hg); (try simp only [hg]); (try simp only [push_cast] at hg); (try exact absurd trivial hg); (try (exfalso; omega))))
          | ((first | ((with_reducible refine pops_guard0 ?_); refine ⟨_, rfl, fun K hK => ⟨rfl, ?_⟩⟩) | ((with_reducible refine pD_g0 ?_); refine ⟨_, rfl, rfl, ?_⟩)); (try simp (disch := omega) only [push_cast, seval, hx]))
          | ((with_reducible refine pany_I ?_); refine ⟨_, rfl, fun K hK => ?_⟩)
          | ((with_reducible refine pops_plain fun K hK => popO_build ?_); refine ⟨_, rfl, _, rfl, ?_⟩; simp (disch := omega) only [push_cast, seval, hx])
          | ((with_reducible refine pD_y ?_ (py_build ?_)); exact rfl; refine ⟨_, rfl, _, rfl, ?_⟩; simp (disch := omega) only [push_cast, seval, hx])
          | ((with_reducible refine pbuild_cs ?_); refine ⟨_, rfl, _, rfl, ?_⟩; simp (disch := omega) only [push_cast, seval, hx])
          | ((with_reducible refine pops_plain fun K hK => ?_); simp (disch := omega) only [push_cast, seval, hx])
          | ((first | ((with_reducible refine pD_y ?_ ?_); exact rfl) | ((with_reducible refine pD_x ?_ ?_); exact rfl)); simp (disch := omega) only [push_cast, seval, hx])
          | ((first | ((with_reducible refine pops_guard ?_); refine ⟨_, rfl, fun K hK => ⟨_, rfl, fun hg => ?_, fun hg => ?_⟩⟩) | ((first | ((with_reducible refine pD_gy ?_ ?_); exact rfl) | ((with_reducible refine pD_gx ?_ ?_); exact rfl)); refine ⟨_, rfl, _, rfl, fun hg => ?_, fun hg => ?_⟩)) <;> first | (exact absurd hg (by decide)) | ((try simp only [Bool.not_true, Bool.not_false] at hg); (try simp only [hg]); (try simp only [push_cast] at hg); (try exact absurd trivial hg); (try (exfalso; omega)); (try simp (disch := omega) only [push_cast, seval, hx])))
          | ((with_reducible show pcall _ _ _ _ _ _); refine pcall_RV (g := 46) (callable_of Tryd.func46 rfl rfl) (iStoreOk_p ⟨_, _⟩ (by (first | assumption | omega | (simp; omega) | (simp_all; done) | (simp_all; omega)))) rfl (by (repeat' (first | exact trivial | exact rfl | exact vwOk_clo rfl | exact rowsC fun _ => rfl | exact rowsC2 fun _ => rfl | exact rowsC1 (fun _ => rfl) rfl | refine And.intro ?_ ?_ | refine vwOk_ag ?_ | refine vwOk_cl ?_))) ?_; (try simp (disch := omega) only [push_cast, seval, hx]))
          | ((with_reducible refine And.intro ?_ ?_); omega))
      (refine ⟨k + 1, by ((try dsimp only); omega), ?_, by (refine ⟨[?_], ?_, ?_, ?_, ?_⟩; rotate_left 1; (· ((try simp (disch := omega) only [push_cast, seval]); (repeat' (first | exact trivial | exact rfl | refine And.intro ?_ ?_ | omega)))); (· ((try simp (disch := omega) only [push_cast, seval]); (repeat' (first | exact trivial | exact rfl | refine And.intro ?_ ?_ | omega)))); (· exact rfl); (· (first | exact trivial | exact ⟨rfl, trivial⟩ | exact ⟨rfl, rfl, trivial⟩)))⟩)
      exact ⟨hlt, noneTo_succ hA hx (by simpa using he)⟩
  obtain rfl : k = s.fHeads.length := by omega
  rw [storeGet_none ok hA]
  repeat' (first
      | with_reducible refine PWp.seq ?_
      | with_reducible refine PWp.block ?_
      | with_reducible refine PWp.region okP true ?_
      | with_reducible (first | refine pops_nil ?_ | refine pany_nil ?_ | refine pthen_normal ?_ | refine pblock_normal ?_ | refine pthen_ret ?_ | refine pblock_ret ?_ | refine pthen_exit ?_ | refine pblock_here ?_ | refine pblock_there rfl ?_ | refine PWp.ret ?_ | refine PWp.exit ?_ | refine PWp.skip ?_)
      | ((with_reducible refine hK _ ?_); clear hK K)
      | ((with_reducible refine PWp.condI ?_); refine ⟨_, rfl, fun hg => ?_, fun hg => ?_⟩ <;> first | (exact absurd hg (by decide)) | ((try simp only [Bool.not_true, Bool.not_false] at hg); (try simp only [hg]); (try simp only [push_cast] at hg); (try exact absurd trivial hg); (try (exfalso; omega))))
      | ((first | ((with_reducible refine pops_guard0 ?_); refine ⟨_, rfl, fun K hK => ⟨rfl, ?_⟩⟩) | ((with_reducible refine pD_g0 ?_); refine ⟨_, rfl, rfl, ?_⟩)); (try simp (disch := omega) only [push_cast, seval]))
      | ((with_reducible refine pany_I ?_); refine ⟨_, rfl, fun K hK => ?_⟩)
      | ((with_reducible refine pops_plain fun K hK => popO_build ?_); refine ⟨_, rfl, _, rfl, ?_⟩; simp (disch := omega) only [push_cast, seval])
      | ((with_reducible refine pD_y ?_ (py_build ?_)); exact rfl; refine ⟨_, rfl, _, rfl, ?_⟩; simp (disch := omega) only [push_cast, seval])
      | ((with_reducible refine pbuild_cs ?_); refine ⟨_, rfl, _, rfl, ?_⟩; simp (disch := omega) only [push_cast, seval])
      | ((with_reducible refine pops_plain fun K hK => ?_); simp (disch := omega) only [push_cast, seval])
      | ((first | ((with_reducible refine pD_y ?_ ?_); exact rfl) | ((with_reducible refine pD_x ?_ ?_); exact rfl)); simp (disch := omega) only [push_cast, seval])
      | ((first | ((with_reducible refine pops_guard ?_); refine ⟨_, rfl, fun K hK => ⟨_, rfl, fun hg => ?_, fun hg => ?_⟩⟩) | ((first | ((with_reducible refine pD_gy ?_ ?_); exact rfl) | ((with_reducible refine pD_gx ?_ ?_); exact rfl)); refine ⟨_, rfl, _, rfl, fun hg => ?_, fun hg => ?_⟩)) <;> first | (exact absurd hg (by decide)) | ((try simp only [Bool.not_true, Bool.not_false] at hg); (try simp only [hg]); (try simp only [push_cast] at hg); (try exact absurd trivial hg); (try (exfalso; omega)); (try simp (disch := omega) only [push_cast, seval])))
      | ((with_reducible show pcall _ _ _ _ _ _); refine pcall_RV (g := 46) (callable_of Tryd.func46 rfl rfl) (iStoreOk_p ⟨_, _⟩ (by (first | assumption | omega | (simp; omega) | (simp_all; done) | (simp_all; omega)))) rfl (by (repeat' (first | exact trivial | exact rfl | exact vwOk_clo rfl | exact rowsC fun _ => rfl | exact rowsC2 fun _ => rfl | exact rowsC1 (fun _ => rfl) rfl | refine And.intro ?_ ?_ | refine vwOk_ag ?_ | refine vwOk_cl ?_))) ?_; (try simp (disch := omega) only [push_cast, seval]))
      | ((with_reducible refine And.intro ?_ ?_); omega))
  all_goals ((first | with_reducible (first | refine pendH1 [] ?_ ?_ ?_ ?_ ?_ | refine pendH2 [] ?_ ?_ ?_ ?_ ?_ | refine pendH3 [] ?_ ?_ ?_ ?_ ?_ | refine pendH0 [] ?_ ?_ ?_ ?_ ?_) | refine pendHG [] ?_ ?_ ?_ ?_ ?_); rotate_left 0; (· (first | exact .inl rfl | exact .inr rfl)); (· ((try (apply Exists.intro; apply And.intro; (· repeat' (first | exact presults_nil | apply presults_tmp | (apply presults_agg; (· exact rfl); (· exact rfl); (· exact rfl); (· exact rfl); (· exact rfl); (· first | exact Nat.le_refl _ | decide | simp)) | (apply presults_one; (· exact rfl); (· exact rfl); (· exact rfl); (· exact rfl); (· exact rfl)))))); (try simp (disch := omega) only [push_cast, seval]); (repeat' (first | exact trivial | exact rfl | refine And.intro ?_ ?_ | omega)))); (· ((try simp (disch := omega) only [push_cast, seval]); (repeat' (first | exact trivial | exact rfl | refine And.intro ?_ ?_ | omega)))); (· exact rfl); (· first | exact trivial | exact ⟨rfl, trivial⟩ | exact ⟨rfl, rfl, trivial⟩))
set_option maxHeartbeats 1000000 in
theorem sStoreGet_p (s : GStore) (height : Int) (hl : s.fHeads.length ≤ 2000000) : PCalls Tryd.prog 54 [.agg (pStore s), .val (.int .i64 height)] [] (RH (.tup [.agg (pHeader (storeGet s height).1), .val (.bool (storeGet s height).2)]) []) := by
  cases ok : storeOk s with
  | false =>
    rw [storeGet_no ok]
    refine pcalls_ofR okP Tryd.func54 rfl ?_
    simp only [Tryd.f54, List.length_cons, List.length_nil, Nat.reduceAdd, Nat.reduceSub, List.replicate_succ, List.replicate_zero, List.cons_append, List.nil_append, List.length_map]
    repeat' (first
        | with_reducible refine PWp.seq ?_
        | with_reducible refine PWp.block ?_
        | with_reducible refine PWp.region okP true ?_
        | with_reducible (first | refine pops_nil ?_ | refine pany_nil ?_ | refine pthen_normal ?_ | refine pblock_normal ?_ | refine pthen_ret ?_ | refine pblock_ret ?_ | refine pthen_exit ?_ | refine pblock_here ?_ | refine pblock_there rfl ?_ | refine PWp.ret ?_ | refine PWp.exit ?_ | refine PWp.skip ?_)
        | ((with_reducible refine hK _ ?_); clear hK K)
        | ((with_reducible refine PWp.condI ?_); refine ⟨_, rfl, fun hg => ?_, fun hg => ?_⟩ <;> first | (exact absurd hg (by decide)) | ((try simp only [Bool.not_true, Bool.not_false] at hg); (try simp only [hg]); (try simp only [push_cast] at hg); (try exact absurd trivial hg); (try (exfalso; omega))))
        | ((first | ((with_reducible refine pops_guard0 ?_); refine ⟨_, rfl, fun K hK => ⟨rfl, ?_⟩⟩) | ((with_reducible refine pD_g0 ?_); refine ⟨_, rfl, rfl, ?_⟩)); (try simp (disch := omega) only [push_cast, seval]))
        | ((with_reducible refine pany_I ?_); refine ⟨_, rfl, fun K hK => ?_⟩)
        | ((with_reducible refine pops_plain fun K hK => popO_build ?_); refine ⟨_, rfl, _, rfl, ?_⟩; simp (disch := omega) only [push_cast, seval])
        | ((with_reducible refine pD_y ?_ (py_build ?_)); exact rfl; refine ⟨_, rfl, _, rfl, ?_⟩; simp (disch := omega) only [push_cast, seval])
        | ((with_reducible refine pbuild_cs ?_); refine ⟨_, rfl, _, rfl, ?_⟩; simp (disch := omega) only [push_cast, seval])
        | ((with_reducible refine pops_plain fun K hK => ?_); simp (disch := omega) only [push_cast, seval])
        | ((first | ((with_reducible refine pD_y ?_ ?_); exact rfl) | ((with_reducible refine pD_x ?_ ?_); exact rfl)); simp (disch := omega) only [push_cast, seval])
        | ((first | ((with_reducible refine pops_guard ?_); refine ⟨_, rfl, fun K hK => ⟨_, rfl, fun hg => ?_, fun hg => ?_⟩⟩) | ((first | ((with_reducible refine pD_gy ?_ ?_); exact rfl) | ((with_reducible refine pD_gx ?_ ?_); exact rfl)); refine ⟨_, rfl, _, rfl, fun hg => ?_, fun hg => ?_⟩)) <;> first | (exact absurd hg (by decide)) | ((try simp only [Bool.not_true, Bool.not_false] at hg); (try simp only [hg]); (try simp only [push_cast] at hg); (try exact absurd trivial hg); (try (exfalso; omega)); (try simp (disch := omega) only [push_cast, seval])))
        | ((with_reducible show pcall _ _ _ _ _ _); refine pcall_RV (g := 36) (callable_of Tryd.func36 rfl rfl) (sStoreOk_p ⟨_, _⟩ (by (first | assumption | omega | (simp; omega) | (simp_all; done) | (simp_all; omega)))) rfl (by (repeat' (first | exact trivial | exact rfl | exact vwOk_clo rfl | exact rowsC fun _ => rfl | exact rowsC2 fun _ => rfl | exact rowsC1 (fun _ => rfl) rfl | refine And.intro ?_ ?_ | refine vwOk_ag ?_ | refine vwOk_cl ?_))) ?_; (try simp (disch := omega) only [push_cast, seval]))
        | ((with_reducible refine And.intro ?_ ?_); omega))
    refine PWp.loopK (α := Nat) (fun k => [(1, .val (.int .i64 height)), (2, .ptr 0 0), (4, .ptr 1 0), (6, .val (.int .i64 (k : Int)))]) [0, 3, 5, 7, 8, 9, 10, 11, 12, 13, 14, 15, 16, 17, 18, 19, 20, 21, 22, 23, 24, 25, 26, 27, 28, 29, 30] (fun k => [some (.box (pStore s)), some (.box [.val (.int .i64 0), .val (.int .i64 0), .val (.string ⟨#[]⟩), .val (.string ⟨#[]⟩), .val (.string ⟨#[]⟩), .val (.string ⟨#[]⟩)])]) (fun k => k ≤ s.fHeads.length) (fun k => s.fHeads.length - k) (0) (Nat.zero_le _) (by (refine ⟨[?_, ?_], ?_, ?_, ?_, ?_⟩; rotate_left 2; (· ((try simp (disch := omega) only [push_cast, seval]); (repeat' (first | exact trivial | exact rfl | refine And.intro ?_ ?_ | omega)))); (· ((try simp (disch := omega) only [push_cast, seval]); (repeat' (first | exact trivial | exact rfl | refine And.intro ?_ ?_ | omega)))); (· exact rfl); (· (first | exact trivial | exact ⟨rfl, trivial⟩ | exact ⟨rfl, rfl, trivial⟩)))) ?_
    intro k ρ hI
    (try dsimp only at hI)
    refine PWp.at (tm' := ?_) (H' := ?_) ?_ ?_ ?_; rotate_left 2; (· ((try simp only [push_cast, seval]); exact rfl)); (· ((try dsimp only); exact rfl))
    by_cases hlt : k < s.fHeads.length
    all_goals
      repeat' (first
          | with_reducible refine PWp.seq ?_
          | with_reducible refine PWp.block ?_
          | with_reducible refine PWp.region okP true ?_
          | with_reducible (first | refine pops_nil ?_ | refine pany_nil ?_ | refine pthen_normal ?_ | refine pblock_normal ?_ | refine pthen_ret ?_ | refine pblock_ret ?_ | refine pthen_exit ?_ | refine pblock_here ?_ | refine pblock_there rfl ?_ | refine PWp.ret ?_ | refine PWp.exit ?_ | refine PWp.skip ?_)
          | ((with_reducible refine hK _ ?_); clear hK K)
          | ((with_reducible refine PWp.condI ?_); refine ⟨_, rfl, fun hg => ?_, fun hg => ?_⟩ <;> first | (exact absurd hg (by decide)) | ((try simp only [Bool.not_true, Bool.not_false] at hg); (try simp only [hg]); (try simp only [push_cast] at hg); (try exact absurd trivial hg); (try (exfalso; omega))))
          | ((first | ((with_reducible refine pops_guard0 ?_); refine ⟨_, rfl, fun K hK => ⟨rfl, ?_⟩⟩) | ((with_reducible refine pD_g0 ?_); refine ⟨_, rfl, rfl, ?_⟩)); (try simp (disch := omega) only [push_cast, seval, ok]))
          | ((with_reducible refine pany_I ?_); refine ⟨_, rfl, fun K hK => ?_⟩)
          | ((with_reducible refine pops_plain fun K hK => popO_build ?_); refine ⟨_, rfl, _, rfl, ?_⟩; simp (disch := omega) only [push_cast, seval, ok])
          | ((with_reducible refine pD_y ?_ (py_build ?_)); exact rfl; refine ⟨_, rfl, _, rfl, ?_⟩; simp (disch := omega) only [push_cast, seval, ok])
          | ((with_reducible refine pbuild_cs ?_); refine ⟨_, rfl, _, rfl, ?_⟩; simp (disch := omega) only [push_cast, seval, ok])
          | ((with_reducible refine pops_plain fun K hK => ?_); simp (disch := omega) only [push_cast, seval, ok])
          | ((first | ((with_reducible refine pD_y ?_ ?_); exact rfl) | ((with_reducible refine pD_x ?_ ?_); exact rfl)); simp (disch := omega) only [push_cast, seval, ok])
          | ((first | ((with_reducible refine pops_guard ?_); refine ⟨_, rfl, fun K hK => ⟨_, rfl, fun hg => ?_, fun hg => ?_⟩⟩) | ((first | ((with_reducible refine pD_gy ?_ ?_); exact rfl) | ((with_reducible refine pD_gx ?_ ?_); exact rfl)); refine ⟨_, rfl, _, rfl, fun hg => ?_, fun hg => ?_⟩)) <;> first | (exact absurd hg (by decide)) | ((try simp only [Bool.not_true, Bool.not_false] at hg); (try simp only [hg]); (try simp only [push_cast] at hg); (try exact absurd trivial hg); (try (exfalso; omega)); (try simp (disch := omega) only [push_cast, seval, ok])))
          | ((with_reducible show pcall _ _ _ _ _ _); refine pcall_RV (g := 36) (callable_of Tryd.func36 rfl rfl) (sStoreOk_p ⟨_, _⟩ (by (first | assumption | omega | (simp; omega) | (simp_all; done) | (simp_all; omega)))) rfl (by (repeat' (first | exact trivial | exact rfl | exact vwOk_clo rfl | exact rowsC fun _ => rfl | exact rowsC2 fun _ => rfl | exact rowsC1 (fun _ => rfl) rfl | refine And.intro ?_ ?_ | refine vwOk_ag ?_ | refine vwOk_cl ?_))) ?_; (try simp (disch := omega) only [push_cast, seval, ok]))
          | ((with_reducible refine And.intro ?_ ?_); omega))
      all_goals ((first | with_reducible (first | refine pendH1 [] ?_ ?_ ?_ ?_ ?_ | refine pendH2 [] ?_ ?_ ?_ ?_ ?_ | refine pendH3 [] ?_ ?_ ?_ ?_ ?_ | refine pendH0 [] ?_ ?_ ?_ ?_ ?_) | refine pendHG [] ?_ ?_ ?_ ?_ ?_); rotate_left 0; (· (first | exact .inl rfl | exact .inr rfl)); (· ((try (apply Exists.intro; apply And.intro; (· repeat' (first | exact presults_nil | apply presults_tmp | (apply presults_agg; (· exact rfl); (· exact rfl); (· exact rfl); (· exact rfl); (· exact rfl); (· first | exact Nat.le_refl _ | decide | simp)) | (apply presults_one; (· exact rfl); (· exact rfl); (· exact rfl); (· exact rfl); (· exact rfl)))))); (try simp (disch := omega) only [push_cast, seval]); (repeat' (first | exact trivial | exact rfl | refine And.intro ?_ ?_ | omega)))); (· ((try simp (disch := omega) only [push_cast, seval]); (repeat' (first | exact trivial | exact rfl | refine And.intro ?_ ?_ | omega)))); (· exact rfl); (· first | exact trivial | exact ⟨rfl, trivial⟩ | exact ⟨rfl, rfl, trivial⟩))
  | true =>
  refine pcalls_ofR okP Tryd.func54 rfl ?_
  simp only [Tryd.f54, List.length_cons, List.length_nil, Nat.reduceAdd, Nat.reduceSub, List.replicate_succ, List.replicate_zero, List.cons_append, List.nil_append, List.length_map]
  repeat' (first
      | with_reducible refine PWp.seq ?_
      | with_reducible refine PWp.block ?_
      | with_reducible refine PWp.region okP true ?_
      | with_reducible (first | refine pops_nil ?_ | refine pany_nil ?_ | refine pthen_normal ?_ | refine pblock_normal ?_ | refine pthen_ret ?_ | refine pblock_ret ?_ | refine pthen_exit ?_ | refine pblock_here ?_ | refine pblock_there rfl ?_ | refine PWp.ret ?_ | refine PWp.exit ?_ | refine PWp.skip ?_)
      | ((with_reducible refine hK _ ?_); clear hK K)
      | ((with_reducible refine PWp.condI ?_); refine ⟨_, rfl, fun hg => ?_, fun hg => ?_⟩ <;> first | (exact absurd hg (by decide)) | ((try simp only [Bool.not_true, Bool.not_false] at hg); (try simp only [hg]); (try simp only [push_cast] at hg); (try exact absurd trivial hg); (try (exfalso; omega))))
      | ((first | ((with_reducible refine pops_guard0 ?_); refine ⟨_, rfl, fun K hK => ⟨rfl, ?_⟩⟩) | ((with_reducible refine pD_g0 ?_); refine ⟨_, rfl, rfl, ?_⟩)); (try simp (disch := omega) only [push_cast, seval]))
      | ((with_reducible refine pany_I ?_); refine ⟨_, rfl, fun K hK => ?_⟩)
      | ((with_reducible refine pops_plain fun K hK => popO_build ?_); refine ⟨_, rfl, _, rfl, ?_⟩; simp (disch := omega) only [push_cast, seval])
      | ((with_reducible refine pD_y ?_ (py_build ?_)); exact rfl; refine ⟨_, rfl, _, rfl, ?_⟩; simp (disch := omega) only [push_cast, seval])
      | ((with_reducible refine pbuild_cs ?_); refine ⟨_, rfl, _, rfl, ?_⟩; simp (disch := omega) only [push_cast, seval])
      | ((with_reducible refine pops_plain fun K hK => ?_); simp (disch := omega) only [push_cast, seval])
      | ((first | ((with_reducible refine pD_y ?_ ?_); exact rfl) | ((with_reducible refine pD_x ?_ ?_); exact rfl)); simp (disch := omega) only [push_cast, seval])
      | ((first | ((with_reducible refine pops_guard ?_); refine ⟨_, rfl, fun K hK => ⟨_, rfl, fun hg => ?_, fun hg => ?_⟩⟩) | ((first | ((with_reducible refine pD_gy ?_ ?_); exact rfl) | ((with_reducible refine pD_gx ?_ ?_); exact rfl)); refine ⟨_, rfl, _, rfl, fun hg => ?_, fun hg => ?_⟩)) <;> first | (exact absurd hg (by decide)) | ((try simp only [Bool.not_true, Bool.not_false] at hg); (try simp only [hg]); (try simp only [push_cast] at hg); (try exact absurd trivial hg); (try (exfalso; omega)); (try simp (disch := omega) only [push_cast, seval])))
      | ((with_reducible show pcall _ _ _ _ _ _); refine pcall_RV (g := 36) (callable_of Tryd.func36 rfl rfl) (sStoreOk_p ⟨_, _⟩ (by (first | assumption | omega | (simp; omega) | (simp_all; done) | (simp_all; omega)))) rfl (by (repeat' (first | exact trivial | exact rfl | exact vwOk_clo rfl | exact rowsC fun _ => rfl | exact rowsC2 fun _ => rfl | exact rowsC1 (fun _ => rfl) rfl | refine And.intro ?_ ?_ | refine vwOk_ag ?_ | refine vwOk_cl ?_))) ?_; (try simp (disch := omega) only [push_cast, seval]))
      | ((with_reducible refine And.intro ?_ ?_); omega))
  refine PWp.loopK (α := Nat) (fun k => [(1, .val (.int .i64 height)), (2, .ptr 0 0), (4, .ptr 1 0), (6, .val (.int .i64 (k : Int)))]) [0, 3, 5, 7, 8, 9, 10, 11, 12, 13, 14, 15, 16, 17, 18, 19, 20, 21, 22, 23, 24, 25, 26, 27, 28, 29, 30] (fun k => [some (.box (pStore s)), some (.box [.val (.int .i64 0), .val (.int .i64 0), .val (.string ⟨#[]⟩), .val (.string ⟨#[]⟩), .val (.string ⟨#[]⟩), .val (.string ⟨#[]⟩)])]) (fun k => k ≤ s.fHeads.length ∧ noneTo (fun h => decide (h.fHeight = height)) s.fHeads k) (fun k => s.fHeads.length - k) (0) (⟨Nat.zero_le _, noneTo_zero⟩) (by (refine ⟨[?_, ?_], ?_, ?_, ?_, ?_⟩; rotate_left 2; (· ((try simp (disch := omega) only [push_cast, seval]); (repeat' (first | exact trivial | exact rfl | refine And.intro ?_ ?_ | omega)))); (· ((try simp (disch := omega) only [push_cast, seval]); (repeat' (first | exact trivial | exact rfl | refine And.intro ?_ ?_ | omega)))); (· exact rfl); (· (first | exact trivial | exact ⟨rfl, trivial⟩ | exact ⟨rfl, rfl, trivial⟩)))) ?_
  intro k ρ hI
  (try dsimp only at hI)
  refine PWp.at (tm' := ?_) (H' := ?_) ?_ ?_ ?_; rotate_left 2; (· ((try simp only [push_cast, seval]); exact rfl)); (· ((try dsimp only); exact rfl))
  obtain ⟨hk, hA⟩ := hI
  by_cases hlt : k < s.fHeads.length
  · obtain ⟨x, hx⟩ : ∃ x, s.fHeads[k]? = some x := ⟨_, List.getElem?_eq_getElem hlt⟩
    by_cases he : x.fHeight = height
    · rw [storeGet_hit ok hx he hA]
      repeat' (first
          | with_reducible refine PWp.seq ?_
          | with_reducible refine PWp.block ?_
          | with_reducible refine PWp.region okP true ?_
          | with_reducible (first | refine pops_nil ?_ | refine pany_nil ?_ | refine pthen_normal ?_ | refine pblock_normal ?_ | refine pthen_ret ?_ | refine pblock_ret ?_ | refine pthen_exit ?_ | refine pblock_here ?_ | refine pblock_there rfl ?_ | refine PWp.ret ?_ | refine PWp.exit ?_ | refine PWp.skip ?_)
          | ((with_reducible refine hK _ ?_); clear hK K)
          | ((with_reducible refine PWp.condI ?_); refine ⟨_, rfl, fun hg => ?_, fun hg => ?_⟩ <;> first | (exact absurd hg (by decide)) | ((try simp only [Bool.not_true, Bool.not_false] at hg); (try simp only [hg]); (try simp only [push_cast] at hg); (try exact absurd trivial hg); (try (exfalso; omega))))
          | ((first | ((with_reducible refine pops_guard0 ?_); refine ⟨_, rfl, fun K hK => ⟨rfl, ?_⟩⟩) | ((with_reducible refine pD_g0 ?_); refine ⟨_, rfl, rfl, ?_⟩)); (try simp (disch := omega) only [push_cast, seval, hx, he, ok]))
          | ((with_reducible refine pany_I ?_); refine ⟨_, rfl, fun K hK => ?_⟩)
          | ((with_reducible refine pops_plain fun K hK => popO_build ?_); refine ⟨_, rfl, _, rfl, ?_⟩; simp (disch := omega) only [push_cast, seval, hx, he, ok])
          | ((with_reducible refine pD_y ?_ (py_build ?_)); exact rfl; refine ⟨_, rfl, _, rfl, ?_⟩; simp (disch := omega) only [push_cast, seval, hx, he, ok])
          | ((with_reducible refine pbuild_cs ?_); refine ⟨_, rfl, _, rfl, ?_⟩; simp (disch := omega) only [push_cast, seval, hx, he, ok])
          | ((with_reducible refine pops_plain fun K hK => ?_); simp (disch := omega) only [push_cast, seval, hx, he, ok])
          | ((first | ((with_reducible refine pD_y ?_ ?_); exact rfl) | ((with_reducible refine pD_x ?_ ?_); exact rfl)); simp (disch := omega) only [push_cast, seval, hx, he, ok])
          | ((first | ((with_reducible refine pops_guard ?_); refine ⟨_, rfl, fun K hK => ⟨_, rfl, fun hg => ?_, fun hg => ?_⟩⟩) | ((first | ((with_reducible refine pD_gy ?_ ?_); exact rfl) | ((with_reducible refine pD_gx ?_ ?_); exact rfl)); refine ⟨_, rfl, _, rfl, fun hg => ?_, fun hg => ?_⟩)) <;> first | (exact absurd hg (by decide)) | ((try simp only [Bool.not_true, Bool.not_false] at hg); (try simp only [hg]); (try simp only [push_cast] at hg); (try exact absurd trivial hg); (try (exfalso; omega)); (try simp (disch := omega) only [push_cast, seval, hx, he, ok])))
          | ((with_reducible show pcall _ _ _ _ _ _); refine pcall_RV (g := 36) (callable_of Tryd.func36 rfl rfl) (sStoreOk_p ⟨_, _⟩ (by (first | assumption | omega | (simp; omega) | (simp_all; done) | (simp_all; omega)))) rfl (by (repeat' (first | exact trivial | exact rfl | exact vwOk_clo rfl | exact rowsC fun _ => rfl | exact rowsC2 fun _ => rfl | exact rowsC1 (fun _ => rfl) rfl | refine And.intro ?_ ?_ | refine vwOk_ag ?_ | refine vwOk_cl ?_))) ?_; (try simp (disch := omega) only [push_cast, seval, hx, he, ok]))
          | ((with_reducible refine And.intro ?_ ?_); omega))
      ((first | with_reducible (first | refine pendH1 [] ?_ ?_ ?_ ?_ ?_ | refine pendH2 [] ?_ ?_ ?_ ?_ ?_ | refine pendH3 [] ?_ ?_ ?_ ?_ ?_ | refine pendH0 [] ?_ ?_ ?_ ?_ ?_) | refine pendHG [] ?_ ?_ ?_ ?_ ?_); rotate_left 0; (· (first | exact .inl rfl | exact .inr rfl)); (· ((try (apply Exists.intro; apply And.intro; (· repeat' (first | exact presults_nil | apply presults_tmp | (apply presults_agg; (· exact rfl); (· exact rfl); (· exact rfl); (· exact rfl); (· exact rfl); (· first | exact Nat.le_refl _ | decide | simp)) | (apply presults_one; (· exact rfl); (· exact rfl); (· exact rfl); (· exact rfl); (· exact rfl)))))); (try simp (disch := omega) only [push_cast, seval]); (repeat' (first | exact trivial | exact rfl | refine And.intro ?_ ?_ | omega)))); (· ((try simp (disch := omega) only [push_cast, seval]); (repeat' (first | exact trivial | exact rfl | refine And.intro ?_ ?_ | omega)))); (· exact rfl); (· first | exact trivial | exact ⟨rfl, trivial⟩ | exact ⟨rfl, rfl, trivial⟩))
    ·
      repeat' (first
          | with_reducible refine PWp.seq ?_
          | with_reducible refine PWp.block ?_
          | with_reducible refine PWp.region okP true ?_
          | with_reducible (first | refine pops_nil ?_ | refine pany_nil ?_ | refine pthen_normal ?_ | refine pblock_normal ?_ | refine pthen_ret ?_ | refine pblock_ret ?_ | refine pthen_exit ?_ | refine pblock_here ?_ | refine pblock_there rfl ?_ | refine PWp.ret ?_ | refine PWp.exit ?_ | refine PWp.skip ?_)
          | ((with_reducible refine hK _ ?_); clear hK K)
          | ((with_reducible refine PWp.condI ?_); refine ⟨_, rfl, fun hg => ?_, fun hg => ?_⟩ <;> first | (exact absurd hg (by decide)) | ((try simp only [Bool.not_true, Bool.not_false] at hg); (try simp only [hg]); (try simp only [push_cast] at hg); (try exact absurd trivial hg); (try (exfalso; omega))))
          | ((first | ((with_reducible refine pops_guard0 ?_); refine ⟨_, rfl, fun K hK => ⟨rfl, ?_⟩⟩) | ((with_reducible refine pD_g0 ?_); refine ⟨_, rfl, rfl, ?_⟩)); (try simp (disch := omega) only [push_cast, seval, hx, ok]))
          | ((with_reducible refine pany_I ?_); refine ⟨_, rfl, fun K hK => ?_⟩)
          | ((with_reducible refine pops_plain fun K hK => popO_build ?_); refine ⟨_, rfl, _, rfl, ?_⟩; simp (disch := omega) only [push_cast, seval, hx, ok])
          | ((with_reducible refine pD_y ?_ (py_build ?_)); exact rfl; refine ⟨_, rfl, _, rfl, ?_⟩; simp (disch := omega) only [push_cast, seval, hx, ok])
          | ((with_reducible refine pbuild_cs ?_); refine ⟨_, rfl, _, rfl, ?_⟩; simp (disch := omega) only [push_cast, seval, hx, ok])
          | ((with_reducible refine pops_plain fun K hK => ?_); simp (disch := omega) only [push_cast, seval, hx, ok])
          | ((first | ((with_reducible refine pD_y ?_ ?_); exact rfl) | ((with_reducible refine pD_x ?_ ?_); exact rfl)); simp (disch := omega) only [push_cast, seval, hx, ok])
          | ((first | ((with_reducible refine pops_guard ?_); refine ⟨_, rfl, fun K hK => ⟨_, rfl, fun hg => ?_, fun hg => ?_⟩⟩) | ((first | ((with_reducible refine pD_gy ?_ ?_); exact rfl) | ((with_reducible refine pD_gx ?_ ?_); exact rfl)); refine ⟨_, rfl, _, rfl, fun hg => ?_, fun hg => ?_⟩)) <;> first | (exact absurd hg (by decide)) | ((try simp only [Bool.not_true, Bool.not_false] at hg); (try simp only [hg]); (try simp only [push_cast] at hg); (try exact absurd trivial hg); (try (exfalso; omega)); (try simp (disch := omega) only [push_cast, seval, hx, ok])))
          | ((with_reducible show pcall _ _ _ _ _ _); refine pcall_RV (g := 36) (callable_of Tryd.func36 rfl rfl) (sStoreOk_p ⟨_, _⟩ (by (first | assumption | omega | (simp; omega) | (simp_all; done) | (simp_all; omega)))) rfl (by (repeat' (first | exact trivial | exact rfl | exact vwOk_clo rfl | exact rowsC fun _ => rfl | exact rowsC2 fun _ => rfl | exact rowsC1 (fun _ => rfl) rfl | refine And.intro ?_ ?_ | refine vwOk_ag ?_ | refine vwOk_cl ?_))) ?_; (try simp (disch := omega) only [push_cast, seval, hx, ok]))
          | ((with_reducible refine And.intro ?_ ?_); omega))
      (refine ⟨k + 1, by ((try dsimp only); omega), ?_, by (refine ⟨[?_, ?_], ?_, ?_, ?_, ?_⟩; rotate_left 2; (· ((try simp (disch := omega) only [push_cast, seval]); (repeat' (first | exact trivial | exact rfl | refine And.intro ?_ ?_ | omega)))); (· ((try simp (disch := omega) only [push_cast, seval]); (repeat' (first | exact trivial | exact rfl | refine And.intro ?_ ?_ | omega)))); (· exact rfl); (· (first | exact trivial | exact ⟨rfl, trivial⟩ | exact ⟨rfl, rfl, trivial⟩)))⟩)
      exact ⟨hlt, noneTo_succ hA hx (by simpa using he)⟩
  obtain rfl : k = s.fHeads.length := by omega
  rw [storeGet_none ok hA]
  repeat' (first
      | with_reducible refine PWp.seq ?_
      | with_reducible refine PWp.block ?_
      | with_reducible refine PWp.region okP true ?_
      | with_reducible (first | refine pops_nil ?_ | refine pany_nil ?_ | refine pthen_normal ?_ | refine pblock_normal ?_ | refine pthen_ret ?_ | refine pblock_ret ?_ | refine pthen_exit ?_ | refine pblock_here ?_ | refine pblock_there rfl ?_ | refine PWp.ret ?_ | refine PWp.exit ?_ | refine PWp.skip ?_)
      | ((with_reducible refine hK _ ?_); clear hK K)
      | ((with_reducible refine PWp.condI ?_); refine ⟨_, rfl, fun hg => ?_, fun hg => ?_⟩ <;> first | (exact absurd hg (by decide)) | ((try simp only [Bool.not_true, Bool.not_false] at hg); (try simp only [hg]); (try simp only [push_cast] at hg); (try exact absurd trivial hg); (try (exfalso; omega))))
      | ((first | ((with_reducible refine pops_guard0 ?_); refine ⟨_, rfl, fun K hK => ⟨rfl, ?_⟩⟩) | ((with_reducible refine pD_g0 ?_); refine ⟨_, rfl, rfl, ?_⟩)); (try simp (disch := omega) only [push_cast, seval]))
      | ((with_reducible refine pany_I ?_); refine ⟨_, rfl, fun K hK => ?_⟩)
      | ((with_reducible refine pops_plain fun K hK => popO_build ?_); refine ⟨_, rfl, _, rfl, ?_⟩; simp (disch := omega) only [push_cast, seval])
      | ((with_reducible refine pD_y ?_ (py_build ?_)); exact rfl; refine ⟨_, rfl, _, rfl, ?_⟩; simp (disch := omega) only [push_cast, seval])
      | ((with_reducible refine pbuild_cs ?_); refine ⟨_, rfl, _, rfl, ?_⟩; simp (disch := omega) only [push_cast, seval])
      | ((with_reducible refine pops_plain fun K hK => ?_); simp (disch := omega) only [push_cast, seval])
      | ((first | ((with_reducible refine pD_y ?_ ?_); exact rfl) | ((with_reducible refine pD_x ?_ ?_); exact rfl)); simp (disch := omega) only [push_cast, seval])
      | ((first | ((with_reducible refine pops_guard ?_); refine ⟨_, rfl, fun K hK => ⟨_, rfl, fun hg => ?_, fun hg => ?_⟩⟩) | ((first | ((with_reducible refine pD_gy ?_ ?_); exact rfl) | ((with_reducible refine pD_gx ?_ ?_); exact rfl)); refine ⟨_, rfl, _, rfl, fun hg => ?_, fun hg => ?_⟩)) <;> first | (exact absurd hg (by decide)) | ((try simp only [Bool.not_true, Bool.not_false] at hg); (try simp only [hg]); (try simp only [push_cast] at hg); (try exact absurd trivial hg); (try (exfalso; omega)); (try simp (disch := omega) only [push_cast, seval])))
      | ((with_reducible show pcall _ _ _ _ _ _); refine pcall_RV (g := 36) (callable_of Tryd.func36 rfl rfl) (sStoreOk_p ⟨_, _⟩ (by (first | assumption | omega | (simp; omega) | (simp_all; done) | (simp_all; omega)))) rfl (by (repeat' (first | exact trivial | exact rfl | exact vwOk_clo rfl | exact rowsC fun _ => rfl | exact rowsC2 fun _ => rfl | exact rowsC1 (fun _ => rfl) rfl | refine And.intro ?_ ?_ | refine vwOk_ag ?_ | refine vwOk_cl ?_))) ?_; (try simp (disch := omega) only [push_cast, seval]))
      | ((with_reducible refine And.intro ?_ ?_); omega))
  all_goals ((first | with_reducible (first | refine pendH1 [] ?_ ?_ ?_ ?_ ?_ | refine pendH2 [] ?_ ?_ ?_ ?_ ?_ | refine pendH3 [] ?_ ?_ ?_ ?_ ?_ | refine pendH0 [] ?_ ?_ ?_ ?_ ?_) | refine pendHG [] ?_ ?_ ?_ ?_ ?_); rotate_left 0; (· (first | exact .inl rfl | exact .inr rfl)); (· ((try (apply Exists.intro; apply And.intro; (· repeat' (first | exact presults_nil | apply presults_tmp | (apply presults_agg; (· exact rfl); (· exact rfl); (· exact rfl); (· exact rfl); (· exact rfl); (· first | exact Nat.le_refl _ | decide | simp)) | (apply presults_one; (· exact rfl); (· exact rfl); (· exact rfl); (· exact rfl); (· exact rfl)))))); (try simp (disch := omega) only [push_cast, seval]); (repeat' (first | exact trivial | exact rfl | refine And.intro ?_ ?_ | omega)))); (· ((try simp (disch := omega) only [push_cast, seval]); (repeat' (first | exact trivial | exact rfl | refine And.intro ?_ ?_ | omega)))); (· exact rfl); (· first | exact trivial | exact ⟨rfl, trivial⟩ | exact ⟨rfl, rfl, trivial⟩))
def lightSeen (c : GLight) (height : Int) : GHeader × Bool := if lightOk c then storeGet c.fStore height else (header0, false)
set_option maxHeartbeats 1000000 in
theorem iLightSeen_p (c : GLight) (height : Int) (h1 : c.fAnchor.fNext.length ≤ 2000000) (h2 : c.fStore.fHeads.length ≤ 2000000) (h3 : c.fPeers.fPeers.length ≤ 2000000) : PCalls Tryd.prog 19 [.agg (pLight c), .val (.int .i64 height)] [] (RH (.tup [.agg (pHeader (lightSeen c height).1), .val (.bool (lightSeen c height).2)]) []) := by
  cases ok : lightOk c with
  | false =>
    have e : lightSeen c height = (header0, false) := by unfold lightSeen; rw [ok]; rfl
    rw [e]
    refine pcalls_ofR okP Tryd.func19 rfl ?_
    simp only [Tryd.f19, List.length_cons, List.length_nil, Nat.reduceAdd, Nat.reduceSub, List.replicate_succ, List.replicate_zero, List.cons_append, List.nil_append, List.length_map]
    repeat' (first
        | with_reducible refine PWp.seq ?_
        | with_reducible refine PWp.block ?_
        | with_reducible refine PWp.region okP true ?_
        | with_reducible (first | refine pops_nil ?_ | refine pany_nil ?_ | refine pthen_normal ?_ | refine pblock_normal ?_ | refine pthen_ret ?_ | refine pblock_ret ?_ | refine pthen_exit ?_ | refine pblock_here ?_ | refine pblock_there rfl ?_ | refine PWp.ret ?_ | refine PWp.exit ?_ | refine PWp.skip ?_)
        | ((with_reducible refine hK _ ?_); clear hK K)
        | ((with_reducible refine PWp.condI ?_); refine ⟨_, rfl, fun hg => ?_, fun hg => ?_⟩ <;> first | (exact absurd hg (by decide)) | ((try simp only [Bool.not_true, Bool.not_false] at hg); (try simp only [hg]); (try simp only [push_cast] at hg); (try exact absurd trivial hg); (try (exfalso; omega))))
        | ((first | ((with_reducible refine pops_guard0 ?_); refine ⟨_, rfl, fun K hK => ⟨rfl, ?_⟩⟩) | ((with_reducible refine pD_g0 ?_); refine ⟨_, rfl, rfl, ?_⟩)); (try simp (disch := omega) only [push_cast, seval, ok]))
        | ((with_reducible refine pany_I ?_); refine ⟨_, rfl, fun K hK => ?_⟩)
        | ((with_reducible refine pops_plain fun K hK => popO_build ?_); refine ⟨_, rfl, _, rfl, ?_⟩; simp (disch := omega) only [push_cast, seval, ok])
        | ((with_reducible refine pD_y ?_ (py_build ?_)); exact rfl; refine ⟨_, rfl, _, rfl, ?_⟩; simp (disch := omega) only [push_cast, seval, ok])
        | ((with_reducible refine pbuild_cs ?_); refine ⟨_, rfl, _, rfl, ?_⟩; simp (disch := omega) only [push_cast, seval, ok])
        | ((with_reducible refine pops_plain fun K hK => ?_); simp (disch := omega) only [push_cast, seval, ok])
        | ((first | ((with_reducible refine pD_y ?_ ?_); exact rfl) | ((with_reducible refine pD_x ?_ ?_); exact rfl)); simp (disch := omega) only [push_cast, seval, ok])
        | ((first | ((with_reducible refine pops_guard ?_); refine ⟨_, rfl, fun K hK => ⟨_, rfl, fun hg => ?_, fun hg => ?_⟩⟩) | ((first | ((with_reducible refine pD_gy ?_ ?_); exact rfl) | ((with_reducible refine pD_gx ?_ ?_); exact rfl)); refine ⟨_, rfl, _, rfl, fun hg => ?_, fun hg => ?_⟩)) <;> first | (exact absurd hg (by decide)) | ((try simp only [Bool.not_true, Bool.not_false] at hg); (try simp only [hg]); (try simp only [push_cast] at hg); (try exact absurd trivial hg); (try (exfalso; omega)); (try simp (disch := omega) only [push_cast, seval, ok])))
        | ((with_reducible show pcall _ _ _ _ _ _); refine pcall_RV (g := 16) (callable_of Tryd.func16 rfl rfl) (iLightOk_p ⟨⟨_, _⟩, _, ⟨⟨_, _, _, _, _, _⟩, _⟩, ⟨_, _⟩, ⟨_, _⟩, _⟩ (by (first | assumption | omega | (simp; omega) | (simp_all; done) | (simp_all; omega))) (by (first | assumption | omega | (simp; omega) | (simp_all; done) | (simp_all; omega))) (by (first | assumption | omega | (simp; omega) | (simp_all; done) | (simp_all; omega)))) rfl (by (repeat' (first | exact trivial | exact rfl | exact vwOk_clo rfl | exact rowsC fun _ => rfl | exact rowsC2 fun _ => rfl | exact rowsC1 (fun _ => rfl) rfl | refine And.intro ?_ ?_ | refine vwOk_ag ?_ | refine vwOk_cl ?_))) ?_; (try simp (disch := omega) only [push_cast, seval, ok]))
        | ((with_reducible show pcall _ _ _ _ _ _); refine pcall_H1 (g := 55) (callable_of Tryd.func55 rfl rfl) (by ((try simp (disch := omega) only [push_cast, seval]); first | done | exact rfl)) (iStoreGet_p ⟨_, _⟩ _ (by (first | assumption | omega | (simp; omega) | (simp_all; done) | (simp_all; omega)))) ?_; (try simp (disch := omega) only [push_cast, seval, ok]))
        | ((with_reducible refine And.intro ?_ ?_); omega))
    all_goals ((first | with_reducible (first | refine pendH1 [] ?_ ?_ ?_ ?_ ?_ | refine pendH2 [] ?_ ?_ ?_ ?_ ?_ | refine pendH3 [] ?_ ?_ ?_ ?_ ?_ | refine pendH0 [] ?_ ?_ ?_ ?_ ?_) | refine pendHG [] ?_ ?_ ?_ ?_ ?_); rotate_left 0; (· (first | exact .inl rfl | exact .inr rfl)); (· ((try (apply Exists.intro; apply And.intro; (· repeat' (first | exact presults_nil | apply presults_tmp | (apply presults_agg; (· exact rfl); (· exact rfl); (· exact rfl); (· exact rfl); (· exact rfl); (· first | exact Nat.le_refl _ | decide | simp)) | (apply presults_one; (· exact rfl); (· exact rfl); (· exact rfl); (· exact rfl); (· exact rfl)))))); (try simp (disch := omega) only [push_cast, seval]); (repeat' (first | exact trivial | exact rfl | refine And.intro ?_ ?_ | omega)))); (· ((try simp (disch := omega) only [push_cast, seval]); (repeat' (first | exact trivial | exact rfl | refine And.intro ?_ ?_ | omega)))); (· exact rfl); (· first | exact trivial | exact ⟨rfl, trivial⟩ | exact ⟨rfl, rfl, trivial⟩))
  | true =>
    have e : lightSeen c height = storeGet c.fStore height := by unfold lightSeen; rw [if_pos ok]
    rw [e]
    refine pcalls_ofR okP Tryd.func19 rfl ?_
    simp only [Tryd.f19, List.length_cons, List.length_nil, Nat.reduceAdd, Nat.reduceSub, List.replicate_succ, List.replicate_zero, List.cons_append, List.nil_append, List.length_map]
    repeat' (first
        | with_reducible refine PWp.seq ?_
        | with_reducible refine PWp.block ?_
        | with_reducible refine PWp.region okP true ?_
        | with_reducible (first | refine pops_nil ?_ | refine pany_nil ?_ | refine pthen_normal ?_ | refine pblock_normal ?_ | refine pthen_ret ?_ | refine pblock_ret ?_ | refine pthen_exit ?_ | refine pblock_here ?_ | refine pblock_there rfl ?_ | refine PWp.ret ?_ | refine PWp.exit ?_ | refine PWp.skip ?_)
        | ((with_reducible refine hK _ ?_); clear hK K)
        | ((with_reducible refine PWp.condI ?_); refine ⟨_, rfl, fun hg => ?_, fun hg => ?_⟩ <;> first | (exact absurd hg (by decide)) | ((try simp only [Bool.not_true, Bool.not_false] at hg); (try simp only [hg]); (try simp only [push_cast] at hg); (try exact absurd trivial hg); (try (exfalso; omega))))
        | ((first | ((with_reducible refine pops_guard0 ?_); refine ⟨_, rfl, fun K hK => ⟨rfl, ?_⟩⟩) | ((with_reducible refine pD_g0 ?_); refine ⟨_, rfl, rfl, ?_⟩)); (try simp (disch := omega) only [push_cast, seval, ok]))
        | ((with_reducible refine pany_I ?_); refine ⟨_, rfl, fun K hK => ?_⟩)
        | ((with_reducible refine pops_plain fun K hK => popO_build ?_); refine ⟨_, rfl, _, rfl, ?_⟩; simp (disch := omega) only [push_cast, seval, ok])
        | ((with_reducible refine pD_y ?_ (py_build ?_)); exact rfl; refine ⟨_, rfl, _, rfl, ?_⟩; simp (disch := omega) only [push_cast, seval, ok])
        | ((with_reducible refine pbuild_cs ?_); refine ⟨_, rfl, _, rfl, ?_⟩; simp (disch := omega) only [push_cast, seval, ok])
        | ((with_reducible refine pops_plain fun K hK => ?_); simp (disch := omega) only [push_cast, seval, ok])
        | ((first | ((with_reducible refine pD_y ?_ ?_); exact rfl) | ((with_reducible refine pD_x ?_ ?_); exact rfl)); simp (disch := omega) only [push_cast, seval, ok])
        | ((first | ((with_reducible refine pops_guard ?_); refine ⟨_, rfl, fun K hK => ⟨_, rfl, fun hg => ?_, fun hg => ?_⟩⟩) | ((first | ((with_reducible refine pD_gy ?_ ?_); exact rfl) | ((with_reducible refine pD_gx ?_ ?_); exact rfl)); refine ⟨_, rfl, _, rfl, fun hg => ?_, fun hg => ?_⟩)) <;> first | (exact absurd hg (by decide)) | ((try simp only [Bool.not_true, Bool.not_false] at hg); (try simp only [hg]); (try simp only [push_cast] at hg); (try exact absurd trivial hg); (try (exfalso; omega)); (try simp (disch := omega) only [push_cast, seval, ok])))
        | ((with_reducible show pcall _ _ _ _ _ _); refine pcall_RV (g := 16) (callable_of Tryd.func16 rfl rfl) (iLightOk_p ⟨⟨_, _⟩, _, ⟨⟨_, _, _, _, _, _⟩, _⟩, ⟨_, _⟩, ⟨_, _⟩, _⟩ (by (first | assumption | omega | (simp; omega) | (simp_all; done) | (simp_all; omega))) (by (first | assumption | omega | (simp; omega) | (simp_all; done) | (simp_all; omega))) (by (first | assumption | omega | (simp; omega) | (simp_all; done) | (simp_all; omega)))) rfl (by (repeat' (first | exact trivial | exact rfl | exact vwOk_clo rfl | exact rowsC fun _ => rfl | exact rowsC2 fun _ => rfl | exact rowsC1 (fun _ => rfl) rfl | refine And.intro ?_ ?_ | refine vwOk_ag ?_ | refine vwOk_cl ?_))) ?_; (try simp (disch := omega) only [push_cast, seval, ok]))
        | ((with_reducible show pcall _ _ _ _ _ _); refine pcall_H1 (g := 55) (callable_of Tryd.func55 rfl rfl) (by ((try simp (disch := omega) only [push_cast, seval]); first | done | exact rfl)) (iStoreGet_p ⟨_, _⟩ _ (by (first | assumption | omega | (simp; omega) | (simp_all; done) | (simp_all; omega)))) ?_; (try simp (disch := omega) only [push_cast, seval, ok]))
        | ((with_reducible refine And.intro ?_ ?_); omega))
    all_goals ((first | with_reducible (first | refine pendH1 [] ?_ ?_ ?_ ?_ ?_ | refine pendH2 [] ?_ ?_ ?_ ?_ ?_ | refine pendH3 [] ?_ ?_ ?_ ?_ ?_ | refine pendH0 [] ?_ ?_ ?_ ?_ ?_) | refine pendHG [] ?_ ?_ ?_ ?_ ?_); rotate_left 0; (· (first | exact .inl rfl | exact .inr rfl)); (· ((try (apply Exists.intro; apply And.intro; (· repeat' (first | exact presults_nil | apply presults_tmp | (apply presults_agg; (· exact rfl); (· exact rfl); (· exact rfl); (· exact rfl); (· exact rfl); (· first | exact Nat.le_refl _ | decide | simp)) | (apply presults_one; (· exact rfl); (· exact rfl); (· exact rfl); (· exact rfl); (· exact rfl)))))); (try simp (disch := omega) only [push_cast, seval]); (repeat' (first | exact trivial | exact rfl | refine And.intro ?_ ?_ | omega)))); (· ((try simp (disch := omega) only [push_cast, seval]); (repeat' (first | exact trivial | exact rfl | refine And.intro ?_ ?_ | omega)))); (· exact rfl); (· first | exact trivial | exact ⟨rfl, trivial⟩ | exact ⟨rfl, rfl, trivial⟩))
set_option maxHeartbeats 1000000 in
theorem sLightSeen_p (c : GLight) (height : Int) (h1 : c.fAnchor.fNext.length ≤ 2000000) (h2 : c.fStore.fHeads.length ≤ 2000000) (h3 : c.fPeers.fPeers.length ≤ 2000000) : PCalls Tryd.prog 18 [.agg (pLight c), .val (.int .i64 height)] [] (RH (.tup [.agg (pHeader (lightSeen c height).1), .val (.bool (lightSeen c height).2)]) []) := by
  cases ok : lightOk c with
  | false =>
    have e : lightSeen c height = (header0, false) := by unfold lightSeen; rw [ok]; rfl
    rw [e]
    refine pcalls_ofR okP Tryd.func18 rfl ?_
    simp only [Tryd.f18, List.length_cons, List.length_nil, Nat.reduceAdd, Nat.reduceSub, List.replicate_succ, List.replicate_zero, List.cons_append, List.nil_append, List.length_map]
    repeat' (first
        | with_reducible refine PWp.seq ?_
        | with_reducible refine PWp.block ?_
        | with_reducible refine PWp.region okP true ?_
        | with_reducible (first | refine pops_nil ?_ | refine pany_nil ?_ | refine pthen_normal ?_ | refine pblock_normal ?_ | refine pthen_ret ?_ | refine pblock_ret ?_ | refine pthen_exit ?_ | refine pblock_here ?_ | refine pblock_there rfl ?_ | refine PWp.ret ?_ | refine PWp.exit ?_ | refine PWp.skip ?_)
        | ((with_reducible refine hK _ ?_); clear hK K)
        | ((with_reducible refine PWp.condI ?_); refine ⟨_, rfl, fun hg => ?_, fun hg => ?_⟩ <;> first | (exact absurd hg (by decide)) | ((try simp only [Bool.not_true, Bool.not_false] at hg); (try simp only [hg]); (try simp only [push_cast] at hg); (try exact absurd trivial hg); (try (exfalso; omega))))
        | ((first | ((with_reducible refine pops_guard0 ?_); refine ⟨_, rfl, fun K hK => ⟨rfl, ?_⟩⟩) | ((with_reducible refine pD_g0 ?_); refine ⟨_, rfl, rfl, ?_⟩)); (try simp (disch := omega) only [push_cast, seval, ok]))
        | ((with_reducible refine pany_I ?_); refine ⟨_, rfl, fun K hK => ?_⟩)
        | ((with_reducible refine pops_plain fun K hK => popO_build ?_); refine ⟨_, rfl, _, rfl, ?_⟩; simp (disch := omega) only [push_cast, seval, ok])
        | ((with_reducible refine pD_y ?_ (py_build ?_)); exact rfl; refine ⟨_, rfl, _, rfl, ?_⟩; simp (disch := omega) only [push_cast, seval, ok])
        | ((with_reducible refine pbuild_cs ?_); refine ⟨_, rfl, _, rfl, ?_⟩; simp (disch := omega) only [push_cast, seval, ok])
        | ((with_reducible refine pops_plain fun K hK => ?_); simp (disch := omega) only [push_cast, seval, ok])
        | ((first | ((with_reducible refine pD_y ?_ ?_); exact rfl) | ((with_reducible refine pD_x ?_ ?_); exact rfl)); simp (disch := omega) only [push_cast, seval, ok])
        | ((first | ((with_reducible refine pops_guard ?_); refine ⟨_, rfl, fun K hK => ⟨_, rfl, fun hg => ?_, fun hg => ?_⟩⟩) | ((first | ((with_reducible refine pD_gy ?_ ?_); exact rfl) | ((with_reducible refine pD_gx ?_ ?_); exact rfl)); refine ⟨_, rfl, _, rfl, fun hg => ?_, fun hg => ?_⟩)) <;> first | (exact absurd hg (by decide)) | ((try simp only [Bool.not_true, Bool.not_false] at hg); (try simp only [hg]); (try simp only [push_cast] at hg); (try exact absurd trivial hg); (try (exfalso; omega)); (try simp (disch := omega) only [push_cast, seval, ok])))
        | ((with_reducible show pcall _ _ _ _ _ _); refine pcall_RV (g := 14) (callable_of Tryd.func14 rfl rfl) (sLightOk_p ⟨⟨_, _⟩, _, ⟨⟨_, _, _, _, _, _⟩, _⟩, ⟨_, _⟩, ⟨_, _⟩, _⟩ (by (first | assumption | omega | (simp; omega) | (simp_all; done) | (simp_all; omega))) (by (first | assumption | omega | (simp; omega) | (simp_all; done) | (simp_all; omega))) (by (first | assumption | omega | (simp; omega) | (simp_all; done) | (simp_all; omega)))) rfl (by (repeat' (first | exact trivial | exact rfl | exact vwOk_clo rfl | exact rowsC fun _ => rfl | exact rowsC2 fun _ => rfl | exact rowsC1 (fun _ => rfl) rfl | refine And.intro ?_ ?_ | refine vwOk_ag ?_ | refine vwOk_cl ?_))) ?_; (try simp (disch := omega) only [push_cast, seval, ok]))
        | ((with_reducible show pcall _ _ _ _ _ _); refine pcall_H1 (g := 54) (callable_of Tryd.func54 rfl rfl) (by ((try simp (disch := omega) only [push_cast, seval]); first | done | exact rfl)) (sStoreGet_p ⟨_, _⟩ _ (by (first | assumption | omega | (simp; omega) | (simp_all; done) | (simp_all; omega)))) ?_; (try simp (disch := omega) only [push_cast, seval, ok]))
        | ((with_reducible refine And.intro ?_ ?_); omega))
    all_goals ((first | with_reducible (first | refine pendH1 [] ?_ ?_ ?_ ?_ ?_ | refine pendH2 [] ?_ ?_ ?_ ?_ ?_ | refine pendH3 [] ?_ ?_ ?_ ?_ ?_ | refine pendH0 [] ?_ ?_ ?_ ?_ ?_) | refine pendHG [] ?_ ?_ ?_ ?_ ?_); rotate_left 0; (· (first | exact .inl rfl | exact .inr rfl)); (· ((try (apply Exists.intro; apply And.intro; (· repeat' (first | exact presults_nil | apply presults_tmp | (apply presults_agg; (· exact rfl); (· exact rfl); (· exact rfl); (· exact rfl); (· exact rfl); (· first | exact Nat.le_refl _ | decide | simp)) | (apply presults_one; (· exact rfl); (· exact rfl); (· exact rfl); (· exact rfl); (· exact rfl)))))); (try simp (disch := omega) only [push_cast, seval]); (repeat' (first | exact trivial | exact rfl | refine And.intro ?_ ?_ | omega)))); (· ((try simp (disch := omega) only [push_cast, seval]); (repeat' (first | exact trivial | exact rfl | refine And.intro ?_ ?_ | omega)))); (· exact rfl); (· first | exact trivial | exact ⟨rfl, trivial⟩ | exact ⟨rfl, rfl, trivial⟩))
  | true =>
    have e : lightSeen c height = storeGet c.fStore height := by unfold lightSeen; rw [if_pos ok]
    rw [e]
    refine pcalls_ofR okP Tryd.func18 rfl ?_
    simp only [Tryd.f18, List.length_cons, List.length_nil, Nat.reduceAdd, Nat.reduceSub, List.replicate_succ, List.replicate_zero, List.cons_append, List.nil_append, List.length_map]
    repeat' (first
        | with_reducible refine PWp.seq ?_
        | with_reducible refine PWp.block ?_
        | with_reducible refine PWp.region okP true ?_
        | with_reducible (first | refine pops_nil ?_ | refine pany_nil ?_ | refine pthen_normal ?_ | refine pblock_normal ?_ | refine pthen_ret ?_ | refine pblock_ret ?_ | refine pthen_exit ?_ | refine pblock_here ?_ | refine pblock_there rfl ?_ | refine PWp.ret ?_ | refine PWp.exit ?_ | refine PWp.skip ?_)
        | ((with_reducible refine hK _ ?_); clear hK K)
        | ((with_reducible refine PWp.condI ?_); refine ⟨_, rfl, fun hg => ?_, fun hg => ?_⟩ <;> first | (exact absurd hg (by decide)) | ((try simp only [Bool.not_true, Bool.not_false] at hg); (try simp only [hg]); (try simp only [push_cast] at hg); (try exact absurd trivial hg); (try (exfalso; omega))))
        | ((first | ((with_reducible refine pops_guard0 ?_); refine ⟨_, rfl, fun K hK => ⟨rfl, ?_⟩⟩) | ((with_reducible refine pD_g0 ?_); refine ⟨_, rfl, rfl, ?_⟩)); (try simp (disch := omega) only [push_cast, seval, ok]))
        | ((with_reducible refine pany_I ?_); refine ⟨_, rfl, fun K hK => ?_⟩)
        | ((with_reducible refine pops_plain fun K hK => popO_build ?_); refine ⟨_, rfl, _, rfl, ?_⟩; simp (disch := omega) only [push_cast, seval, ok])
        | ((with_reducible refine pD_y ?_ (py_build ?_)); exact rfl; refine ⟨_, rfl, _, rfl, ?_⟩; simp (disch := omega) only [push_cast, seval, ok])
        | ((with_reducible refine pbuild_cs ?_); refine ⟨_, rfl, _, rfl, ?_⟩; simp (disch := omega) only [push_cast, seval, ok])
        | ((with_reducible refine pops_plain fun K hK => ?_); simp (disch := omega) only [push_cast, seval, ok])
        | ((first | ((with_reducible refine pD_y ?_ ?_); exact rfl) | ((with_reducible refine pD_x ?_ ?_); exact rfl)); simp (disch := omega) only [push_cast, seval, ok])
        | ((first | ((with_reducible refine pops_guard ?_); refine ⟨_, rfl, fun K hK => ⟨_, rfl, fun hg => ?_, fun hg => ?_⟩⟩) | ((first | ((with_reducible refine pD_gy ?_ ?_); exact rfl) | ((with_reducible refine pD_gx ?_ ?_); exact rfl)); refine ⟨_, rfl, _, rfl, fun hg => ?_, fun hg => ?_⟩)) <;> first | (exact absurd hg (by decide)) | ((try simp only [Bool.not_true, Bool.not_false] at hg); (try simp only [hg]); (try simp only [push_cast] at hg); (try exact absurd trivial hg); (try (exfalso; omega)); (try simp (disch := omega) only [push_cast, seval, ok])))
        | ((with_reducible show pcall _ _ _ _ _ _); refine pcall_RV (g := 14) (callable_of Tryd.func14 rfl rfl) (sLightOk_p ⟨⟨_, _⟩, _, ⟨⟨_, _, _, _, _, _⟩, _⟩, ⟨_, _⟩, ⟨_, _⟩, _⟩ (by (first | assumption | omega | (simp; omega) | (simp_all; done) | (simp_all; omega))) (by (first | assumption | omega | (simp; omega) | (simp_all; done) | (simp_all; omega))) (by (first | assumption | omega | (simp; omega) | (simp_all; done) | (simp_all; omega)))) rfl (by (repeat' (first | exact trivial | exact rfl | exact vwOk_clo rfl | exact rowsC fun _ => rfl | exact rowsC2 fun _ => rfl | exact rowsC1 (fun _ => rfl) rfl | refine And.intro ?_ ?_ | refine vwOk_ag ?_ | refine vwOk_cl ?_))) ?_; (try simp (disch := omega) only [push_cast, seval, ok]))
        | ((with_reducible show pcall _ _ _ _ _ _); refine pcall_H1 (g := 54) (callable_of Tryd.func54 rfl rfl) (by ((try simp (disch := omega) only [push_cast, seval]); first | done | exact rfl)) (sStoreGet_p ⟨_, _⟩ _ (by (first | assumption | omega | (simp; omega) | (simp_all; done) | (simp_all; omega)))) ?_; (try simp (disch := omega) only [push_cast, seval, ok]))
        | ((with_reducible refine And.intro ?_ ?_); omega))
    all_goals ((first | with_reducible (first | refine pendH1 [] ?_ ?_ ?_ ?_ ?_ | refine pendH2 [] ?_ ?_ ?_ ?_ ?_ | refine pendH3 [] ?_ ?_ ?_ ?_ ?_ | refine pendH0 [] ?_ ?_ ?_ ?_ ?_) | refine pendHG [] ?_ ?_ ?_ ?_ ?_); rotate_left 0; (· (first | exact .inl rfl | exact .inr rfl)); (· ((try (apply Exists.intro; apply And.intro; (· repeat' (first | exact presults_nil | apply presults_tmp | (apply presults_agg; (· exact rfl); (· exact rfl); (· exact rfl); (· exact rfl); (· exact rfl); (· first | exact Nat.le_refl _ | decide | simp)) | (apply presults_one; (· exact rfl); (· exact rfl); (· exact rfl); (· exact rfl); (· exact rfl)))))); (try simp (disch := omega) only [push_cast, seval]); (repeat' (first | exact trivial | exact rfl | refine And.intro ?_ ?_ | omega)))); (· ((try simp (disch := omega) only [push_cast, seval]); (repeat' (first | exact trivial | exact rfl | refine And.intro ?_ ?_ | omega)))); (· exact rfl); (· first | exact trivial | exact ⟨rfl, trivial⟩ | exact ⟨rfl, rfl, trivial⟩))
end Go.Proofs.YtgcelmnmalfpcaaDoor
namespace Go.Proofs.YtgcelmnmalfpcaaDoor
set_option linter.unusedSimpArgs false
set_option linter.unusedVariables false
open Go.RowKit
def encTrust (x : GTrust) : List D := [.int x.fPeriod, .int x.fSlack]
set_option maxRecDepth 100000 in
set_option maxHeartbeats 4000000 in
theorem toTrust_any (x : GTrust) (w : World) :
    Calls Tryd.prog 40 #[.agg #[.int .i64 x.fPeriod, .int .i64 x.fSlack]] w fun e w' => e = .returned (.agg #[.int .i64 x.fPeriod, .int .i64 x.fSlack]) ∧ Ext w w' := by
  go_enter Tryd.func40, Tryd.ntmps40
  go_wp2
  exact bodyPost_ret (v := .agg #[.int .i64 x.fPeriod, .int .i64 x.fSlack]) (by simp [results, Tryd.results40, go_sem]) rfl ⟨rfl, by (repeat (first | (with_reducible exact Ext.refl _) | (with_reducible assumption) | (with_reducible refine Ext.alloc ?_ _) | (with_reducible refine Ext.drew ?_) | (with_reducible refine Ext.drewN ?_ _) | ((with_reducible apply Ext.setCell); (case hp => first | omega | (simp; done) | (simp; omega))) | (with_reducible refine Ext.trans ?_ (by assumption))))⟩
set_option maxRecDepth 100000 in
set_option maxHeartbeats 4000000 in
theorem eqTrust_any (x : GTrust) (w : World) (_h1 : Rds w (encTrust x) [.int .i64 x.fPeriod, .int .i64 x.fSlack]) (_h2 : Rds w (encTrust x) [.int .i64 x.fPeriod, .int .i64 x.fSlack]) :
    Calls Tryd.prog 50 #[.agg #[.int .i64 x.fPeriod, .int .i64 x.fSlack], .agg #[.int .i64 x.fPeriod, .int .i64 x.fSlack]] w fun e w' => e = .returned (.bool true) ∧ Ext w w' := by
  go_enter Tryd.func50, Tryd.ntmps50
  go_wp2
  go_ret
  exact ⟨rfl, by (repeat (first | (with_reducible exact Ext.refl _) | (with_reducible assumption) | (with_reducible refine Ext.alloc ?_ _) | (with_reducible refine Ext.drew ?_) | (with_reducible refine Ext.drewN ?_ _) | ((with_reducible apply Ext.setCell); (case hp => first | omega | (simp; done) | (simp; omega))) | (with_reducible refine Ext.trans ?_ (by assumption))))⟩
end Go.Proofs.YtgcelmnmalfpcaaDoor
namespace Go.Proofs.YtgcelmnmalfpcaaDoor
set_option linter.unusedSimpArgs false
set_option linter.unusedVariables false
open Go.RowKit
def encHeader (x : GHeader) : List D := [.int x.fHeight, .int x.fTime, .str x.fLast, .str x.fVals, .str x.fNext, .str x.fData]
theorem dec_Header : Dec [.int .i64, .int .i64, .str, .str, .str, .str] encHeader := by
  intro n W vs h
  match vs, h with
  | [_, _, _, _, _, _], ⟨k0, k1, k2, k3, k4, k5, _⟩ =>
    obtain ⟨a0, rfl, h0⟩ := cell_int k0
    obtain ⟨a1, rfl, h1⟩ := cell_int k1
    obtain ⟨a2, rfl, h2⟩ := cell_str k2
    obtain ⟨a3, rfl, h3⟩ := cell_str k3
    obtain ⟨a4, rfl, h4⟩ := cell_str k4
    obtain ⟨a5, rfl, h5⟩ := cell_str k5
    exact ⟨⟨a0, a1, a2, a3, a4, a5⟩, (Rds.int _ (Rds.int _ (Rds.str _ (Rds.str _ (Rds.str _ (Rds.str _ Rds.nil)))))), (okL_int h0 (okL_int h1 (okL_str h2 (okL_str h3 (okL_str h4 (okL_str h5 okL_nil))))))⟩
theorem pv_Header (x : GHeader) : toPVL (encHeader x) = pHeader x := by
  simp only [encHeader, pHeader, toPVL, toPV]
theorem pvs_Header (e : TypeId) (xs : List GHeader) : toPV (slD e 6 encHeader xs) = .sl 6 (xs.map pHeader) := by rw [toPV_slD (enc := encHeader) (sz := 6) (fun _ => rfl)]; simp only [pv_Header]
theorem cnt_Header (x : GHeader) : cnt (encHeader x) ≤ 64 + 64 * szL (encHeader x) := by
  simp [encHeader, cnt, szL]
  omega
set_option maxRecDepth 100000 in
set_option maxHeartbeats 4000000 in
theorem toHeader_any (x : GHeader) (w : World) :
    Calls Tryd.prog 61 #[.agg #[.int .i64 x.fHeight, .int .i64 x.fTime, .string x.fLast, .string x.fVals, .string x.fNext, .string x.fData]] w fun e w' => e = .returned (.agg #[.int .i64 x.fHeight, .int .i64 x.fTime, .string x.fLast, .string x.fVals, .string x.fNext, .string x.fData]) ∧ Ext w w' := by
  go_enter Tryd.func61, Tryd.ntmps61
  go_wp2
  exact bodyPost_ret (v := .agg #[.int .i64 x.fHeight, .int .i64 x.fTime, .string x.fLast, .string x.fVals, .string x.fNext, .string x.fData]) (by simp [results, Tryd.results61, go_sem]) rfl ⟨rfl, by (repeat (first | (with_reducible exact Ext.refl _) | (with_reducible assumption) | (with_reducible refine Ext.alloc ?_ _) | (with_reducible refine Ext.drew ?_) | (with_reducible refine Ext.drewN ?_ _) | ((with_reducible apply Ext.setCell); (case hp => first | omega | (simp; done) | (simp; omega))) | (with_reducible refine Ext.trans ?_ (by assumption))))⟩
set_option maxRecDepth 100000 in
set_option maxHeartbeats 4000000 in
theorem szHeader_any (x : GHeader) (left : Int) (w : World) (_h : Rds w (encHeader x) [.int .i64 x.fHeight, .int .i64 x.fTime, .string x.fLast, .string x.fVals, .string x.fNext, .string x.fData]) (hok : okL (encHeader x)) (h0 : 0 ≤ left) (h1 : left ≤ 1048576) :
    Calls Tryd.prog 56 #[.agg #[.int .i64 x.fHeight, .int .i64 x.fTime, .string x.fLast, .string x.fVals, .string x.fNext, .string x.fData], .int .i64 left] w fun e w' => e = .returned (.int .i64 (szR left (szL (encHeader x)))) ∧ Ext w w' := by
  have k2 : x.fLast.size ≤ 9223372036854775807 := by have h : okL [.str x.fLast] := okL_cut (ds := encHeader x) 2 1 hok; simp only [okL] at h; exact h.1
  have k3 : x.fVals.size ≤ 9223372036854775807 := by have h : okL [.str x.fVals] := okL_cut (ds := encHeader x) 3 1 hok; simp only [okL] at h; exact h.1
  have k4 : x.fNext.size ≤ 9223372036854775807 := by have h : okL [.str x.fNext] := okL_cut (ds := encHeader x) 4 1 hok; simp only [okL] at h; exact h.1
  have k5 : x.fData.size ≤ 9223372036854775807 := by have h : okL [.str x.fData] := okL_cut (ds := encHeader x) 5 1 hok; simp only [okL] at h; exact h.1
  have hT : szL (encHeader x) = x.fLast.size + x.fVals.size + x.fNext.size + x.fData.size := by simp [encHeader, szL, slD]; try omega
  rw [hT]
  clear hT hok
  by_cases h2 : left < (x.fLast.size : Nat)
  · have R0 := Lib.hid (szR_no h2)
    go_enter Tryd.func56, Tryd.ntmps56
    go_wp2
    go_ret
    exact ⟨ret_int (szR_no (by omega)), by (repeat (first | (with_reducible exact Ext.refl _) | (with_reducible assumption) | (with_reducible refine Ext.alloc ?_ _) | (with_reducible refine Ext.drew ?_) | (with_reducible refine Ext.drewN ?_ _) | ((with_reducible apply Ext.setCell); (case hp => first | omega | (simp; done) | (simp; omega))) | (with_reducible refine Ext.trans ?_ (by assumption))))⟩
  · have R0 := Lib.hid (szR_yes h2)
    by_cases h3 : left - x.fLast.size < (x.fVals.size : Nat)
    · have R1 := Lib.hid (szR_no h3)
      go_enter Tryd.func56, Tryd.ntmps56
      go_wp2
      go_ret
      exact ⟨ret_int (szR_no (by omega)), by (repeat (first | (with_reducible exact Ext.refl _) | (with_reducible assumption) | (with_reducible refine Ext.alloc ?_ _) | (with_reducible refine Ext.drew ?_) | (with_reducible refine Ext.drewN ?_ _) | ((with_reducible apply Ext.setCell); (case hp => first | omega | (simp; done) | (simp; omega))) | (with_reducible refine Ext.trans ?_ (by assumption))))⟩
    · have R1 := Lib.hid (szR_yes h3)
      by_cases h4 : left - x.fLast.size - x.fVals.size < (x.fNext.size : Nat)
      · have R2 := Lib.hid (szR_no h4)
        go_enter Tryd.func56, Tryd.ntmps56
        go_wp2
        go_ret
        exact ⟨ret_int (szR_no (by omega)), by (repeat (first | (with_reducible exact Ext.refl _) | (with_reducible assumption) | (with_reducible refine Ext.alloc ?_ _) | (with_reducible refine Ext.drew ?_) | (with_reducible refine Ext.drewN ?_ _) | ((with_reducible apply Ext.setCell); (case hp => first | omega | (simp; done) | (simp; omega))) | (with_reducible refine Ext.trans ?_ (by assumption))))⟩
      · have R2 := Lib.hid (szR_yes h4)
        by_cases h5 : left - x.fLast.size - x.fVals.size - x.fNext.size < (x.fData.size : Nat)
        · have R3 := Lib.hid (szR_no h5)
          go_enter Tryd.func56, Tryd.ntmps56
          go_wp2
          go_ret
          exact ⟨ret_int (szR_no (by omega)), by (repeat (first | (with_reducible exact Ext.refl _) | (with_reducible assumption) | (with_reducible refine Ext.alloc ?_ _) | (with_reducible refine Ext.drew ?_) | (with_reducible refine Ext.drewN ?_ _) | ((with_reducible apply Ext.setCell); (case hp => first | omega | (simp; done) | (simp; omega))) | (with_reducible refine Ext.trans ?_ (by assumption))))⟩
        · have R3 := Lib.hid (szR_yes h5)
          go_enter Tryd.func56, Tryd.ntmps56
          go_wp2
          go_ret
          exact ⟨ret_int ((szR_yes (by omega)).trans (by omega)), by (repeat (first | (with_reducible exact Ext.refl _) | (with_reducible assumption) | (with_reducible refine Ext.alloc ?_ _) | (with_reducible refine Ext.drew ?_) | (with_reducible refine Ext.drewN ?_ _) | ((with_reducible apply Ext.setCell); (case hp => first | omega | (simp; done) | (simp; omega))) | (with_reducible refine Ext.trans ?_ (by assumption))))⟩
set_option maxRecDepth 100000 in
set_option maxHeartbeats 4000000 in
theorem eqHeader_any (x : GHeader) (w : World) (_h1 : Rds w (encHeader x) [.int .i64 x.fHeight, .int .i64 x.fTime, .string x.fLast, .string x.fVals, .string x.fNext, .string x.fData]) (_h2 : Rds w (encHeader x) [.int .i64 x.fHeight, .int .i64 x.fTime, .string x.fLast, .string x.fVals, .string x.fNext, .string x.fData]) :
    Calls Tryd.prog 20 #[.agg #[.int .i64 x.fHeight, .int .i64 x.fTime, .string x.fLast, .string x.fVals, .string x.fNext, .string x.fData], .agg #[.int .i64 x.fHeight, .int .i64 x.fTime, .string x.fLast, .string x.fVals, .string x.fNext, .string x.fData]] w fun e w' => e = .returned (.bool true) ∧ Ext w w' := by
  go_enter Tryd.func20, Tryd.ntmps20
  go_wp2
  go_ret
  exact ⟨rfl, by (repeat (first | (with_reducible exact Ext.refl _) | (with_reducible assumption) | (with_reducible refine Ext.alloc ?_ _) | (with_reducible refine Ext.drew ?_) | (with_reducible refine Ext.drewN ?_ _) | ((with_reducible apply Ext.setCell); (case hp => first | omega | (simp; done) | (simp; omega))) | (with_reducible refine Ext.trans ?_ (by assumption))))⟩
theorem infoHeaderS : (Tryd.prog.info? 50).map (fun i => (i.zero, i.size, i.bytes)) = some (some (.agg #[.int .i64 0, .int .i64 0, .string ByteArray.empty, .string ByteArray.empty, .string ByteArray.empty, .string ByteArray.empty]), 6, 80) := by kernel_rfl
set_option maxRecDepth 100000 in
set_option maxHeartbeats 4000000 in
theorem toHeaderS_any (v : Value) (xs : List GHeader) (w : World) (h : RL 50 6 encHeader w v xs) (hz : szL [slD 50 6 encHeader xs] ≤ 1048576) :
    Calls Tryd.prog 75 #[v] w fun e w' => ∃ (p : Option Addr) (q : Nat), e = .returned (.slice p xs.length q) ∧ Obj w' w.heap.size w'.heap.size [slD 50 6 encHeader xs] [.slice p xs.length q] ∧ Ext w w' := by
  obtain ⟨i0, hi, hz0, hz1, hz2⟩ := info_parts infoHeaderS
  have hzero : ∀ w, Ows w [.int 0, .int 0, .str ByteArray.empty, .str ByteArray.empty, .str ByteArray.empty, .str ByteArray.empty] #[.int .i64 0, .int .i64 0, .string ByteArray.empty, .string ByteArray.empty, .string ByteArray.empty, .string ByteArray.empty].toList [] := fun w => (Ows.int _ (Ows.int _ (Ows.str _ (Ows.str _ (Ows.str _ (Ows.str _ Ows.nil))))))
  have HZ := Lib.hid hzero; clear hzero
  have hn : xs.length ≤ 1048576 := by simp only [szL, slD] at hz; omega
  rcases RS.cases h with ⟨hn0, _, o1, c1, rfl⟩ | ⟨b1, o1, c1, rfl, hp, _, hm, hx⟩
  · obtain rfl := List.eq_nil_of_length_eq_zero hn0
    clear h hn0 hz hn
    go_enter Tryd.func75, Tryd.ntmps75
    go_wp2_with (at_make; refine wpList_make_full _ rfl (.tmp 6) (.tmp 6) 54 rfl w.heap.size 50 i0 _ 6 Tryd.underlying54 hi hz0 hz1 .i64 .i64 _ _ 0 rfl rfl rfl rfl (by omega) (by omega) (Nat.le_refl _) ?_; intro w1 hown hgrow)
    have hE := Ext.of_grownBy hgrow
    have hO := Lib.hid (Obj.made (n := 0) HZ.out rfl (by decide) hown)
    clear hgrow hown
    refine wp_loop_rounds 1 ?_
    rw [rounds_succ]
    go_wp2
    go_ret
    exact ⟨_, _, rfl, hO.out, hE⟩
  · have HSZ := Lib.hid hz
    clear h hm hz
    go_enter Tryd.func75, Tryd.ntmps75
    go_wp2_with (at_make; refine wpList_make_full _ rfl (.tmp 6) (.tmp 6) 54 rfl w.heap.size 50 i0 _ 6 Tryd.underlying54 hi hz0 hz1 .i64 .i64 _ _ xs.length rfl rfl rfl rfl (by rw [hz2]; omega) (by unfold maxLen; omega) (Nat.le_refl _) ?_; intro w1 hown hgrow)
    have hE := Ext.of_grownBy hgrow
    have hO : Obj w1 w.heap.size w1.heap.size [.sl 50 6 xs.length (fillE encHeader [.int 0, .int 0, .str ByteArray.empty, .str ByteArray.empty, .str ByteArray.empty, .str ByteArray.empty] xs 0)] [.slice (some ⟨w.heap.size, 0, none⟩) xs.length xs.length] := by rw [fillE_zero]; exact Obj.made HZ.out rfl (by decide) hown
    clear hgrow hown
    go_loopg [4] xs.length (fun g i wr => ∃ k : Nat, k ≤ xs.length ∧ g = xs.length - k ∧ i = .int .i64 k ∧ Ext w wr ∧ Obj wr w.heap.size wr.heap.size [.sl 50 6 xs.length (fillE encHeader [.int 0, .int 0, .str ByteArray.empty, .str ByteArray.empty, .str ByteArray.empty, .str ByteArray.empty] xs k)] [.slice (some ⟨w.heap.size, 0, none⟩) xs.length xs.length])
    case atStart => exact ⟨0, by omega, by omega, rfl, hE, hO⟩
    case round =>
      clear hE hO
      obtain ⟨k, hk, hg, rfl, hE, hO⟩ := hrel
      have HG := Lib.hid hg; clear hg
      by_cases hlt : k < xs.length
      · obtain ⟨x, hxk⟩ : ∃ x, xs[k]? = some x := ⟨_, List.getElem?_eq_getElem hlt⟩
        have e1 := (RAt.elem (enc := encHeader) (sz := 6) (fun _ => rfl) hx hxk).ext hE
        have HX := Lib.hid hxk
        have HM := Lib.hid (List.mem_of_getElem? hxk)
        clear hxk
        have q0 : wr.cell? ⟨b1, o1 + k * 6, none⟩ = some (.int .i64 x.fHeight) := e1.int (j := 0) rfl
        have q1 : wr.cell? ⟨b1, o1 + k * 6 + 1, none⟩ = some (.int .i64 x.fTime) := e1.int (j := 1) rfl
        have q2 : wr.cell? ⟨b1, o1 + k * 6 + 2, none⟩ = some (.string x.fLast) := e1.str (j := 2) rfl
        have q3 : wr.cell? ⟨b1, o1 + k * 6 + 3, none⟩ = some (.string x.fVals) := e1.str (j := 3) rfl
        have q4 : wr.cell? ⟨b1, o1 + k * 6 + 4, none⟩ = some (.string x.fNext) := e1.str (j := 4) rfl
        have q5 : wr.cell? ⟨b1, o1 + k * 6 + 5, none⟩ = some (.string x.fData) := e1.str (j := 5) rfl
        clear e1
        go_wp2_with fail
        (refine (toHeader_any x _).mono ?_); rintro e w2 ⟨rfl, hb⟩
        have hR : Obj w2 w2.heap.size w2.heap.size (encHeader x) [.int .i64 x.fHeight, .int .i64 x.fTime, .string x.fLast, .string x.fVals, .string x.fNext, .string x.fData] := (Obj.int (Obj.int (Obj.str (Obj.str (Obj.str (Obj.str obj_nil))))))
        have hO2 := hO.ext hb
        have hsz := hb.size
        obtain ⟨F, f1, f2, f3⟩ := hO2
        obtain ⟨v0, x0⟩ := f1.cellAt (o := k * 6 + 0) f2 (by rw [RS.len f1.read]; omega)
        have y0 := f1.frozenAt f2 (k * 6 + 0)
        obtain ⟨v1, x1⟩ := f1.cellAt (o := k * 6 + 1) f2 (by rw [RS.len f1.read]; omega)
        have y1 := f1.frozenAt f2 (k * 6 + 1)
        obtain ⟨v2, x2⟩ := f1.cellAt (o := k * 6 + 2) f2 (by rw [RS.len f1.read]; omega)
        have y2 := f1.frozenAt f2 (k * 6 + 2)
        obtain ⟨v3, x3⟩ := f1.cellAt (o := k * 6 + 3) f2 (by rw [RS.len f1.read]; omega)
        have y3 := f1.frozenAt f2 (k * 6 + 3)
        obtain ⟨v4, x4⟩ := f1.cellAt (o := k * 6 + 4) f2 (by rw [RS.len f1.read]; omega)
        have y4 := f1.frozenAt f2 (k * 6 + 4)
        obtain ⟨v5, x5⟩ := f1.cellAt (o := k * 6 + 5) f2 (by rw [RS.len f1.read]; omega)
        have y5 := f1.frozenAt f2 (k * 6 + 5)
        simp only [Nat.add_zero] at x0 y0
        have hO3 := Lib.hid (Obj.fill (enc := encHeader) (z := [.int 0, .int 0, .str ByteArray.empty, .str ByteArray.empty, .str ByteArray.empty, .str ByteArray.empty]) (sz := 6) (hi := w2.heap.size) (fun _ => rfl) rfl ⟨F, f1, f2, f3⟩ HX.out hR (by omega) (by omega))
        clear f1 f2 f3 hR
        go_wp2
        go_roundg (xs.length - (k + 1))
        case measure => rw [HG.out]; omega
        case rel => exact ⟨k + 1, by omega, rfl, by go_num, by (repeat (first | (with_reducible exact Ext.refl _) | (with_reducible assumption) | (with_reducible refine Ext.alloc ?_ _) | (with_reducible refine Ext.drew ?_) | (with_reducible refine Ext.drewN ?_ _) | ((with_reducible apply Ext.setCell); (case hp => first | omega | (simp; done) | (simp; omega))) | (with_reducible refine Ext.trans ?_ (by assumption)))), Obj.mono (by have h := hO3.out; (try simp only [Nat.mul_one] at h); exact h) (Nat.le_refl _) (by (first | omega | (simp; done) | (simp; omega)))⟩
      · obtain rfl : k = xs.length := by omega
        rw [fillE_end] at hO
        go_wp2
        go_ret
        exact ⟨_, _, rfl, hO, hE⟩
set_option maxRecDepth 100000 in
set_option maxHeartbeats 4000000 in
theorem szHeaderS_any (v : Value) (xs : List GHeader) (left : Int) (w : World) (h : RL 50 6 encHeader w v xs) (hok : okL [slD 50 6 encHeader xs]) (h0 : 0 ≤ left) (h1 : left ≤ 1048576) :
    Calls Tryd.prog 70 #[v, .int .i64 left] w fun e w' => e = .returned (.int .i64 (szR left (szL [slD 50 6 encHeader xs]))) ∧ Ext w w' := by
  have hm := RS.bd h
  replace hm : xs.length ≤ 9223372036854775807 := by unfold maxLen at hm; omega
  have hT : szL [slD 50 6 encHeader xs] = xs.length + szL (xs.flatMap encHeader) := by simp [slD, szL]
  rw [hT]
  clear hT
  have hokE : ∀ x ∈ xs, okL (encHeader x) := fun x hx => by simp only [slD, okL] at hok; exact okL_elem hok.2.1 hx
  have HOK := Lib.hid hokE
  clear hok hokE
  by_cases hl : left < xs.length
  · obtain ⟨o1, c1, rfl⟩ := RS.val h
    have HR := Lib.hid (szR_out (b := szL (xs.flatMap encHeader)) hl)
    clear h
    go_enter Tryd.func70, Tryd.ntmps70
    go_wp2
    go_ret
    exact ⟨ret_int HR.out, by (repeat (first | (with_reducible exact Ext.refl _) | (with_reducible assumption) | (with_reducible refine Ext.alloc ?_ _) | (with_reducible refine Ext.drew ?_) | (with_reducible refine Ext.drewN ?_ _) | ((with_reducible apply Ext.setCell); (case hp => first | omega | (simp; done) | (simp; omega))) | (with_reducible refine Ext.trans ?_ (by assumption))))⟩
  · rcases RS.cases h with ⟨hn0, _, o1, c1, rfl⟩ | ⟨b1, o1, c1, rfl, hp, _, _, hx⟩
    · obtain rfl := List.eq_nil_of_length_eq_zero hn0
      have HR := Lib.hid (szR_zero h0)
      clear h hn0 hl
      go_enter Tryd.func70, Tryd.ntmps70
      go_wp2
      refine wp_loop_rounds 1 ?_
      rw [rounds_succ]
      go_wp2
      go_ret
      exact ⟨ret_int (by simpa [szL] using HR.out), by (repeat (first | (with_reducible exact Ext.refl _) | (with_reducible assumption) | (with_reducible refine Ext.alloc ?_ _) | (with_reducible refine Ext.drew ?_) | (with_reducible refine Ext.drewN ?_ _) | ((with_reducible apply Ext.setCell); (case hp => first | omega | (simp; done) | (simp; omega))) | (with_reducible refine Ext.trans ?_ (by assumption))))⟩
    · clear h hp
      have hl' : (xs.length : Int) ≤ left := by omega
      clear hl
      go_enter Tryd.func70, Tryd.ntmps70
      go_wp2
      go_loopg [1, 5] xs.length (fun g s i wr => ∃ (k : Nat) (t : Int), k ≤ xs.length ∧ g = xs.length - k ∧ i = .int .i64 k ∧ s = .int .i64 t ∧ 0 ≤ t ∧ t ≤ 1048576 ∧ Hid (t = left - xs.length - szL ((xs.take k).flatMap encHeader)) ∧ Ext w wr)
      case atStart => exact ⟨0, left - xs.length, by omega, by omega, rfl, rfl, by omega, by omega, Lib.hid (by simp [szL]), Ext.refl _⟩
      case round =>
        obtain ⟨k, t, hk, hg, rfl, rfl, ht0, ht1, HT, hE⟩ := hrel
        have HG := Lib.hid hg; clear hg
        by_cases hlt : k < xs.length
        · obtain ⟨x, hxk⟩ : ∃ x, xs[k]? = some x := ⟨_, List.getElem?_eq_getElem hlt⟩
          have e1 := (RAt.elem (enc := encHeader) (sz := 6) (fun _ => rfl) hx hxk).ext hE
          have hok := HOK.out x (List.mem_of_getElem? hxk)
          have HS := Lib.hid (szL_next (enc := encHeader) hxk)
          clear hxk
          have q0 : wr.cell? ⟨b1, o1 + k * 6, none⟩ = some (.int .i64 x.fHeight) := e1.int (j := 0) rfl
          have q1 : wr.cell? ⟨b1, o1 + k * 6 + 1, none⟩ = some (.int .i64 x.fTime) := e1.int (j := 1) rfl
          have q2 : wr.cell? ⟨b1, o1 + k * 6 + 2, none⟩ = some (.string x.fLast) := e1.str (j := 2) rfl
          have q3 : wr.cell? ⟨b1, o1 + k * 6 + 3, none⟩ = some (.string x.fVals) := e1.str (j := 3) rfl
          have q4 : wr.cell? ⟨b1, o1 + k * 6 + 4, none⟩ = some (.string x.fNext) := e1.str (j := 4) rfl
          have q5 : wr.cell? ⟨b1, o1 + k * 6 + 5, none⟩ = some (.string x.fData) := e1.str (j := 5) rfl
          have d1 : Rds wr (encHeader x) [.int .i64 x.fHeight, .int .i64 x.fTime, .string x.fLast, .string x.fVals, .string x.fNext, .string x.fData] := (Rds.int _ (Rds.int _ (Rds.str _ (Rds.str _ (Rds.str _ (Rds.str _ Rds.nil))))))
          clear e1
          have OKX := Lib.hid hok; clear hok
          obtain ⟨a, ha⟩ : ∃ a, a = szL (encHeader x) := ⟨_, rfl⟩
          have HA := Lib.hid ha; clear ha
          by_cases hs : t < a
          · have HR := Lib.hid (szR_no hs)
            go_wp2_with fail
            (refine (szHeader_any x t _ d1 OKX.out ht0 ht1).mono ?_); rw [show szL (encHeader x) = a from HA.out.symm, HR.out]; rintro e w1 ⟨rfl, hb⟩
            go_wp2
            go_ret
            exact ⟨ret_int (by have h1 := HT.out; have h2 : szL ((xs.take (k + 1)).flatMap encHeader) = szL ((xs.take k).flatMap encHeader) + szL (encHeader x) := HS.out; have h3 := HA.out; have h4 := szL_take (enc := encHeader) xs (k + 1); exact szR_no (by omega)), by (repeat (first | (with_reducible exact Ext.refl _) | (with_reducible assumption) | (with_reducible refine Ext.alloc ?_ _) | (with_reducible refine Ext.drew ?_) | (with_reducible refine Ext.drewN ?_ _) | ((with_reducible apply Ext.setCell); (case hp => first | omega | (simp; done) | (simp; omega))) | (with_reducible refine Ext.trans ?_ (by assumption))))⟩
          · have HR := Lib.hid (szR_yes hs)
            go_wp2_with fail
            (refine (szHeader_any x t _ d1 OKX.out ht0 ht1).mono ?_); rw [show szL (encHeader x) = a from HA.out.symm, HR.out]; rintro e w1 ⟨rfl, hb⟩
            go_wp2
            go_roundg (xs.length - (k + 1))
            case measure => rw [HG.out]; omega
            case rel => exact ⟨k + 1, _, by omega, rfl, by go_num, rfl, by omega, by omega, Lib.hid (by have h1 := HT.out; have h2 : szL ((xs.take (k + 1)).flatMap encHeader) = szL ((xs.take k).flatMap encHeader) + szL (encHeader x) := HS.out; have h3 := HA.out; have h4 := szL_take (enc := encHeader) xs (k + 1); omega), by (repeat (first | (with_reducible exact Ext.refl _) | (with_reducible assumption) | (with_reducible refine Ext.alloc ?_ _) | (with_reducible refine Ext.drew ?_) | (with_reducible refine Ext.drewN ?_ _) | ((with_reducible apply Ext.setCell); (case hp => first | omega | (simp; done) | (simp; omega))) | (with_reducible refine Ext.trans ?_ (by assumption))))⟩
        · obtain rfl : k = xs.length := by omega
          go_wp2
          go_ret
          exact ⟨ret_int (by have h1 := HT.out; rw [List.take_length] at h1; rw [szR_yes (by omega)]; omega), by (repeat (first | (with_reducible exact Ext.refl _) | (with_reducible assumption) | (with_reducible refine Ext.alloc ?_ _) | (with_reducible refine Ext.drew ?_) | (with_reducible refine Ext.drewN ?_ _) | ((with_reducible apply Ext.setCell); (case hp => first | omega | (simp; done) | (simp; omega))) | (with_reducible refine Ext.trans ?_ (by assumption))))⟩
set_option maxRecDepth 100000 in
set_option maxHeartbeats 4000000 in
theorem eqHeaderS_any (v1 v2 : Value) (xs : List GHeader) (w : World) (h1 : RL 50 6 encHeader w v1 xs) (h2 : RL 50 6 encHeader w v2 xs) :
    Calls Tryd.prog 79 #[v1, v2] w fun e w' => e = .returned (.bool true) ∧ Ext w w' := by
  rcases RS.cases h1 with ⟨hn, _, o1, c1, rfl⟩ | ⟨b1, o1, c1, rfl, hp, _, hm, hx⟩
  · rcases RS.cases h2 with ⟨_, _, o2, c2, rfl⟩ | ⟨b2, o2, c2, rfl, hp, _⟩
    · clear h1 h2 hn
      go_enter Tryd.func79, Tryd.ntmps79
      go_wp2
      refine wp_loop_rounds 1 ?_
      rw [rounds_succ]
      go_wp2
      go_ret
      exact ⟨rfl, by (repeat (first | (with_reducible exact Ext.refl _) | (with_reducible assumption) | (with_reducible refine Ext.alloc ?_ _) | (with_reducible refine Ext.drew ?_) | (with_reducible refine Ext.drewN ?_ _) | ((with_reducible apply Ext.setCell); (case hp => first | omega | (simp; done) | (simp; omega))) | (with_reducible refine Ext.trans ?_ (by assumption))))⟩
    · omega
  · rcases RS.cases h2 with ⟨hn, _⟩ | ⟨b2, o2, c2, rfl, _, _, _, hy⟩
    · omega
    · have hn : xs.length ≤ 9223372036854775807 := by unfold maxLen at hm; omega
      clear h1 h2 hp hm
      go_enter Tryd.func79, Tryd.ntmps79
      go_wp2
      go_loopg [5] xs.length (fun g i wr => ∃ k : Nat, k ≤ xs.length ∧ g = xs.length - k ∧ i = .int .i64 k ∧ Ext w wr)
      case atStart => exact ⟨0, by omega, by omega, rfl, Ext.refl _⟩
      case round =>
        obtain ⟨k, hk, hg, rfl, hE⟩ := hrel
        have HG := Lib.hid hg; clear hg
        by_cases hlt : k < xs.length
        · obtain ⟨x, hxk⟩ : ∃ x, xs[k]? = some x := ⟨_, List.getElem?_eq_getElem hlt⟩
          have e1 := (RAt.elem (enc := encHeader) (sz := 6) (fun _ => rfl) hx hxk).ext hE
          have e2 := (RAt.elem (enc := encHeader) (sz := 6) (fun _ => rfl) hy hxk).ext hE
          clear hxk
          have i0 : (0 : Int) ≤ (k : Int) := by omega
          have i1 : (k : Int) < (xs.length : Int) := by omega
          have q0 : wr.cell? ⟨b1, o1 + k * 6, none⟩ = some (.int .i64 x.fHeight) := e1.int (j := 0) rfl
          have q1 : wr.cell? ⟨b1, o1 + k * 6 + 1, none⟩ = some (.int .i64 x.fTime) := e1.int (j := 1) rfl
          have q2 : wr.cell? ⟨b1, o1 + k * 6 + 2, none⟩ = some (.string x.fLast) := e1.str (j := 2) rfl
          have q3 : wr.cell? ⟨b1, o1 + k * 6 + 3, none⟩ = some (.string x.fVals) := e1.str (j := 3) rfl
          have q4 : wr.cell? ⟨b1, o1 + k * 6 + 4, none⟩ = some (.string x.fNext) := e1.str (j := 4) rfl
          have q5 : wr.cell? ⟨b1, o1 + k * 6 + 5, none⟩ = some (.string x.fData) := e1.str (j := 5) rfl
          have m0 : wr.cell? ⟨b2, o2 + k * 6, none⟩ = some (.int .i64 x.fHeight) := e2.int (j := 0) rfl
          have m1 : wr.cell? ⟨b2, o2 + k * 6 + 1, none⟩ = some (.int .i64 x.fTime) := e2.int (j := 1) rfl
          have m2 : wr.cell? ⟨b2, o2 + k * 6 + 2, none⟩ = some (.string x.fLast) := e2.str (j := 2) rfl
          have m3 : wr.cell? ⟨b2, o2 + k * 6 + 3, none⟩ = some (.string x.fVals) := e2.str (j := 3) rfl
          have m4 : wr.cell? ⟨b2, o2 + k * 6 + 4, none⟩ = some (.string x.fNext) := e2.str (j := 4) rfl
          have m5 : wr.cell? ⟨b2, o2 + k * 6 + 5, none⟩ = some (.string x.fData) := e2.str (j := 5) rfl
          have d1 : Rds wr (encHeader x) [.int .i64 x.fHeight, .int .i64 x.fTime, .string x.fLast, .string x.fVals, .string x.fNext, .string x.fData] := (Rds.int _ (Rds.int _ (Rds.str _ (Rds.str _ (Rds.str _ (Rds.str _ Rds.nil))))))
          have d2 : Rds wr (encHeader x) [.int .i64 x.fHeight, .int .i64 x.fTime, .string x.fLast, .string x.fVals, .string x.fNext, .string x.fData] := (Rds.int _ (Rds.int _ (Rds.str _ (Rds.str _ (Rds.str _ (Rds.str _ Rds.nil))))))
          clear e1 e2
          go_wp2_with fail
          go_region_held3 (fun w' => w'.cell? ⟨b1, o1 + k * 6, none⟩ = some (.int .i64 x.fHeight) ∧ w'.cell? ⟨b1, o1 + k * 6 + 1, none⟩ = some (.int .i64 x.fTime) ∧ w'.cell? ⟨b1, o1 + k * 6 + 2, none⟩ = some (.string x.fLast) ∧ w'.cell? ⟨b1, o1 + k * 6 + 3, none⟩ = some (.string x.fVals) ∧ w'.cell? ⟨b1, o1 + k * 6 + 4, none⟩ = some (.string x.fNext) ∧ w'.cell? ⟨b1, o1 + k * 6 + 5, none⟩ = some (.string x.fData) ∧ w'.cell? ⟨b2, o2 + k * 6, none⟩ = some (.int .i64 x.fHeight) ∧ w'.cell? ⟨b2, o2 + k * 6 + 1, none⟩ = some (.int .i64 x.fTime) ∧ w'.cell? ⟨b2, o2 + k * 6 + 2, none⟩ = some (.string x.fLast) ∧ w'.cell? ⟨b2, o2 + k * 6 + 3, none⟩ = some (.string x.fVals) ∧ w'.cell? ⟨b2, o2 + k * 6 + 4, none⟩ = some (.string x.fNext) ∧ w'.cell? ⟨b2, o2 + k * 6 + 5, none⟩ = some (.string x.fData)) ((first | go_keep | ((try dsimp only); (try go_split_ands); (repeat' apply And.intro) <;> exact hb.cellSome (by assumption))))
            ((go_at_call 20; refine (eqHeader_any x _ (d1.ext (by (repeat (first | (with_reducible exact Ext.refl _) | (with_reducible assumption) | (with_reducible refine Ext.alloc ?_ _) | (with_reducible refine Ext.drew ?_) | (with_reducible refine Ext.drewN ?_ _) | ((with_reducible apply Ext.setCell); (case hp => first | omega | (simp; done) | (simp; omega))) | (with_reducible refine Ext.trans ?_ (by assumption)))))) (d2.ext (by (repeat (first | (with_reducible exact Ext.refl _) | (with_reducible assumption) | (with_reducible refine Ext.alloc ?_ _) | (with_reducible refine Ext.drew ?_) | (with_reducible refine Ext.drewN ?_ _) | ((with_reducible apply Ext.setCell); (case hp => first | omega | (simp; done) | (simp; omega))) | (with_reducible refine Ext.trans ?_ (by assumption))))))).mono ?_; rintro e w1 ⟨rfl, hb⟩))
          go_wp2
          go_roundg (xs.length - (k + 1))
          case measure => rw [HG.out]; omega
          case rel => exact ⟨k + 1, by omega, rfl, by go_num, by (repeat (first | (with_reducible exact Ext.refl _) | (with_reducible assumption) | (with_reducible refine Ext.alloc ?_ _) | (with_reducible refine Ext.drew ?_) | (with_reducible refine Ext.drewN ?_ _) | ((with_reducible apply Ext.setCell); (case hp => first | omega | (simp; done) | (simp; omega))) | (with_reducible refine Ext.trans ?_ (by assumption))))⟩
        · go_wp2
          go_ret
          exact ⟨rfl, by (repeat (first | (with_reducible exact Ext.refl _) | (with_reducible assumption) | (with_reducible refine Ext.alloc ?_ _) | (with_reducible refine Ext.drew ?_) | (with_reducible refine Ext.drewN ?_ _) | ((with_reducible apply Ext.setCell); (case hp => first | omega | (simp; done) | (simp; omega))) | (with_reducible refine Ext.trans ?_ (by assumption))))⟩
end Go.Proofs.YtgcelmnmalfpcaaDoor
namespace Go.Proofs.YtgcelmnmalfpcaaDoor
set_option linter.unusedSimpArgs false
set_option linter.unusedVariables false
open Go.RowKit
def encVal (x : GVal) : List D := [.int x.fId, .int x.fPower]
theorem dec_Val : Dec [.int .i64, .int .i64] encVal := by
  intro n W vs h
  match vs, h with
  | [_, _], ⟨k0, k1, _⟩ =>
    obtain ⟨a0, rfl, h0⟩ := cell_int k0
    obtain ⟨a1, rfl, h1⟩ := cell_int k1
    exact ⟨⟨a0, a1⟩, (Rds.int _ (Rds.int _ Rds.nil)), (okL_int h0 (okL_int h1 okL_nil))⟩
theorem pv_Val (x : GVal) : toPVL (encVal x) = pVal x := by
  simp only [encVal, pVal, toPVL, toPV]
theorem pvs_Val (e : TypeId) (xs : List GVal) : toPV (slD e 2 encVal xs) = .sl 2 (xs.map pVal) := by rw [toPV_slD (enc := encVal) (sz := 2) (fun _ => rfl)]; simp only [pv_Val]
theorem cnt_Val (x : GVal) : cnt (encVal x) ≤ 64 + 64 * szL (encVal x) := by
  simp [encVal, cnt, szL]
set_option maxRecDepth 100000 in
set_option maxHeartbeats 4000000 in
theorem toVal_any (x : GVal) (w : World) :
    Calls Tryd.prog 84 #[.agg #[.int .i64 x.fId, .int .i64 x.fPower]] w fun e w' => e = .returned (.agg #[.int .i64 x.fId, .int .i64 x.fPower]) ∧ Ext w w' := by
  go_enter Tryd.func84, Tryd.ntmps84
  go_wp2
  exact bodyPost_ret (v := .agg #[.int .i64 x.fId, .int .i64 x.fPower]) (by simp [results, Tryd.results84, go_sem]) rfl ⟨rfl, by (repeat (first | (with_reducible exact Ext.refl _) | (with_reducible assumption) | (with_reducible refine Ext.alloc ?_ _) | (with_reducible refine Ext.drew ?_) | (with_reducible refine Ext.drewN ?_ _) | ((with_reducible apply Ext.setCell); (case hp => first | omega | (simp; done) | (simp; omega))) | (with_reducible refine Ext.trans ?_ (by assumption))))⟩
set_option maxRecDepth 100000 in
set_option maxHeartbeats 4000000 in
theorem eqVal_any (x : GVal) (w : World) (_h1 : Rds w (encVal x) [.int .i64 x.fId, .int .i64 x.fPower]) (_h2 : Rds w (encVal x) [.int .i64 x.fId, .int .i64 x.fPower]) :
    Calls Tryd.prog 91 #[.agg #[.int .i64 x.fId, .int .i64 x.fPower], .agg #[.int .i64 x.fId, .int .i64 x.fPower]] w fun e w' => e = .returned (.bool true) ∧ Ext w w' := by
  go_enter Tryd.func91, Tryd.ntmps91
  go_wp2
  go_ret
  exact ⟨rfl, by (repeat (first | (with_reducible exact Ext.refl _) | (with_reducible assumption) | (with_reducible refine Ext.alloc ?_ _) | (with_reducible refine Ext.drew ?_) | (with_reducible refine Ext.drewN ?_ _) | ((with_reducible apply Ext.setCell); (case hp => first | omega | (simp; done) | (simp; omega))) | (with_reducible refine Ext.trans ?_ (by assumption))))⟩
theorem infoValS : (Tryd.prog.info? 120).map (fun i => (i.zero, i.size, i.bytes)) = some (some (.agg #[.int .i64 0, .int .i64 0]), 2, 16) := by kernel_rfl
set_option maxRecDepth 100000 in
set_option maxHeartbeats 4000000 in
theorem toValS_any (v : Value) (xs : List GVal) (w : World) (h : RL 120 2 encVal w v xs) (hz : szL [slD 120 2 encVal xs] ≤ 1048576) :
    Calls Tryd.prog 62 #[v] w fun e w' => ∃ (p : Option Addr) (q : Nat), e = .returned (.slice p xs.length q) ∧ Obj w' w.heap.size w'.heap.size [slD 120 2 encVal xs] [.slice p xs.length q] ∧ Ext w w' := by
  obtain ⟨i0, hi, hz0, hz1, hz2⟩ := info_parts infoValS
  have hzero : ∀ w, Ows w [.int 0, .int 0] #[.int .i64 0, .int .i64 0].toList [] := fun w => (Ows.int _ (Ows.int _ Ows.nil))
  have HZ := Lib.hid hzero; clear hzero
  have hn : xs.length ≤ 1048576 := by simp only [szL, slD] at hz; omega
  rcases RS.cases h with ⟨hn0, _, o1, c1, rfl⟩ | ⟨b1, o1, c1, rfl, hp, _, hm, hx⟩
  · obtain rfl := List.eq_nil_of_length_eq_zero hn0
    clear h hn0 hz hn
    go_enter Tryd.func62, Tryd.ntmps62
    go_wp2_with (at_make; refine wpList_make_full _ rfl (.tmp 6) (.tmp 6) 51 rfl w.heap.size 120 i0 _ 2 Tryd.underlying51 hi hz0 hz1 .i64 .i64 _ _ 0 rfl rfl rfl rfl (by omega) (by omega) (Nat.le_refl _) ?_; intro w1 hown hgrow)
    have hE := Ext.of_grownBy hgrow
    have hO := Lib.hid (Obj.made (n := 0) HZ.out rfl (by decide) hown)
    clear hgrow hown
    refine wp_loop_rounds 1 ?_
    rw [rounds_succ]
    go_wp2
    go_ret
    exact ⟨_, _, rfl, hO.out, hE⟩
  · have HSZ := Lib.hid hz
    clear h hm hz
    go_enter Tryd.func62, Tryd.ntmps62
    go_wp2_with (at_make; refine wpList_make_full _ rfl (.tmp 6) (.tmp 6) 51 rfl w.heap.size 120 i0 _ 2 Tryd.underlying51 hi hz0 hz1 .i64 .i64 _ _ xs.length rfl rfl rfl rfl (by rw [hz2]; omega) (by unfold maxLen; omega) (Nat.le_refl _) ?_; intro w1 hown hgrow)
    have hE := Ext.of_grownBy hgrow
    have hO : Obj w1 w.heap.size w1.heap.size [.sl 120 2 xs.length (fillE encVal [.int 0, .int 0] xs 0)] [.slice (some ⟨w.heap.size, 0, none⟩) xs.length xs.length] := by rw [fillE_zero]; exact Obj.made HZ.out rfl (by decide) hown
    clear hgrow hown
    go_loopg [4] xs.length (fun g i wr => ∃ k : Nat, k ≤ xs.length ∧ g = xs.length - k ∧ i = .int .i64 k ∧ Ext w wr ∧ Obj wr w.heap.size wr.heap.size [.sl 120 2 xs.length (fillE encVal [.int 0, .int 0] xs k)] [.slice (some ⟨w.heap.size, 0, none⟩) xs.length xs.length])
    case atStart => exact ⟨0, by omega, by omega, rfl, hE, hO⟩
    case round =>
      clear hE hO
      obtain ⟨k, hk, hg, rfl, hE, hO⟩ := hrel
      have HG := Lib.hid hg; clear hg
      by_cases hlt : k < xs.length
      · obtain ⟨x, hxk⟩ : ∃ x, xs[k]? = some x := ⟨_, List.getElem?_eq_getElem hlt⟩
        have e1 := (RAt.elem (enc := encVal) (sz := 2) (fun _ => rfl) hx hxk).ext hE
        have HX := Lib.hid hxk
        have HM := Lib.hid (List.mem_of_getElem? hxk)
        clear hxk
        have q0 : wr.cell? ⟨b1, o1 + k * 2, none⟩ = some (.int .i64 x.fId) := e1.int (j := 0) rfl
        have q1 : wr.cell? ⟨b1, o1 + k * 2 + 1, none⟩ = some (.int .i64 x.fPower) := e1.int (j := 1) rfl
        clear e1
        go_wp2_with fail
        (refine (toVal_any x _).mono ?_); rintro e w2 ⟨rfl, hb⟩
        have hR : Obj w2 w2.heap.size w2.heap.size (encVal x) [.int .i64 x.fId, .int .i64 x.fPower] := (Obj.int (Obj.int obj_nil))
        have hO2 := hO.ext hb
        have hsz := hb.size
        obtain ⟨F, f1, f2, f3⟩ := hO2
        obtain ⟨v0, x0⟩ := f1.cellAt (o := k * 2 + 0) f2 (by rw [RS.len f1.read]; omega)
        have y0 := f1.frozenAt f2 (k * 2 + 0)
        obtain ⟨v1, x1⟩ := f1.cellAt (o := k * 2 + 1) f2 (by rw [RS.len f1.read]; omega)
        have y1 := f1.frozenAt f2 (k * 2 + 1)
        simp only [Nat.add_zero] at x0 y0
        have hO3 := Lib.hid (Obj.fill (enc := encVal) (z := [.int 0, .int 0]) (sz := 2) (hi := w2.heap.size) (fun _ => rfl) rfl ⟨F, f1, f2, f3⟩ HX.out hR (by omega) (by omega))
        clear f1 f2 f3 hR
        go_wp2
        go_roundg (xs.length - (k + 1))
        case measure => rw [HG.out]; omega
        case rel => exact ⟨k + 1, by omega, rfl, by go_num, by (repeat (first | (with_reducible exact Ext.refl _) | (with_reducible assumption) | (with_reducible refine Ext.alloc ?_ _) | (with_reducible refine Ext.drew ?_) | (with_reducible refine Ext.drewN ?_ _) | ((with_reducible apply Ext.setCell); (case hp => first | omega | (simp; done) | (simp; omega))) | (with_reducible refine Ext.trans ?_ (by assumption)))), Obj.mono (by have h := hO3.out; (try simp only [Nat.mul_one] at h); exact h) (Nat.le_refl _) (by (first | omega | (simp; done) | (simp; omega)))⟩
      · obtain rfl : k = xs.length := by omega
        rw [fillE_end] at hO
        go_wp2
        go_ret
        exact ⟨_, _, rfl, hO, hE⟩
set_option maxRecDepth 100000 in
set_option maxHeartbeats 4000000 in
theorem szValS_any (v : Value) (xs : List GVal) (left : Int) (w : World) (h : RL 120 2 encVal w v xs) (_hok : okL [slD 120 2 encVal xs]) (h0 : 0 ≤ left) (h1 : left ≤ 1048576) :
    Calls Tryd.prog 57 #[v, .int .i64 left] w fun e w' => e = .returned (.int .i64 (szR left (szL [slD 120 2 encVal xs]))) ∧ Ext w w' := by
  have hm := RS.bd h
  replace hm : xs.length ≤ 9223372036854775807 := by unfold maxLen at hm; omega
  have hs : szL [slD 120 2 encVal xs] = xs.length := by
    have : szL (xs.flatMap encVal) = 0 := szL_zero (fun x => by simp [encVal, szL]) xs
    simp [slD, szL, this]
  obtain ⟨o1, c1, rfl⟩ := RS.val h
  rw [hs]
  clear h hs
  go_enter Tryd.func57, Tryd.ntmps57
  go_wp2
  all_goals
    go_ret
    exact ⟨ret_int (by first | exact szR_no (by omega) | exact szR_yes (by omega)), by (repeat (first | (with_reducible exact Ext.refl _) | (with_reducible assumption) | (with_reducible refine Ext.alloc ?_ _) | (with_reducible refine Ext.drew ?_) | (with_reducible refine Ext.drewN ?_ _) | ((with_reducible apply Ext.setCell); (case hp => first | omega | (simp; done) | (simp; omega))) | (with_reducible refine Ext.trans ?_ (by assumption))))⟩
set_option maxRecDepth 100000 in
set_option maxHeartbeats 4000000 in
theorem eqValS_any (v1 v2 : Value) (xs : List GVal) (w : World) (h1 : RL 120 2 encVal w v1 xs) (h2 : RL 120 2 encVal w v2 xs) :
    Calls Tryd.prog 69 #[v1, v2] w fun e w' => e = .returned (.bool true) ∧ Ext w w' := by
  rcases RS.cases h1 with ⟨hn, _, o1, c1, rfl⟩ | ⟨b1, o1, c1, rfl, hp, _, hm, hx⟩
  · rcases RS.cases h2 with ⟨_, _, o2, c2, rfl⟩ | ⟨b2, o2, c2, rfl, hp, _⟩
    · clear h1 h2 hn
      go_enter Tryd.func69, Tryd.ntmps69
      go_wp2
      refine wp_loop_rounds 1 ?_
      rw [rounds_succ]
      go_wp2
      go_ret
      exact ⟨rfl, by (repeat (first | (with_reducible exact Ext.refl _) | (with_reducible assumption) | (with_reducible refine Ext.alloc ?_ _) | (with_reducible refine Ext.drew ?_) | (with_reducible refine Ext.drewN ?_ _) | ((with_reducible apply Ext.setCell); (case hp => first | omega | (simp; done) | (simp; omega))) | (with_reducible refine Ext.trans ?_ (by assumption))))⟩
    · omega
  · rcases RS.cases h2 with ⟨hn, _⟩ | ⟨b2, o2, c2, rfl, _, _, _, hy⟩
    · omega
    · have hn : xs.length ≤ 9223372036854775807 := by unfold maxLen at hm; omega
      clear h1 h2 hp hm
      go_enter Tryd.func69, Tryd.ntmps69
      go_wp2
      go_loopg [5] xs.length (fun g i wr => ∃ k : Nat, k ≤ xs.length ∧ g = xs.length - k ∧ i = .int .i64 k ∧ Ext w wr)
      case atStart => exact ⟨0, by omega, by omega, rfl, Ext.refl _⟩
      case round =>
        obtain ⟨k, hk, hg, rfl, hE⟩ := hrel
        have HG := Lib.hid hg; clear hg
        by_cases hlt : k < xs.length
        · obtain ⟨x, hxk⟩ : ∃ x, xs[k]? = some x := ⟨_, List.getElem?_eq_getElem hlt⟩
          have e1 := (RAt.elem (enc := encVal) (sz := 2) (fun _ => rfl) hx hxk).ext hE
          have e2 := (RAt.elem (enc := encVal) (sz := 2) (fun _ => rfl) hy hxk).ext hE
          clear hxk
          have i0 : (0 : Int) ≤ (k : Int) := by omega
          have i1 : (k : Int) < (xs.length : Int) := by omega
          have q0 : wr.cell? ⟨b1, o1 + k * 2, none⟩ = some (.int .i64 x.fId) := e1.int (j := 0) rfl
          have q1 : wr.cell? ⟨b1, o1 + k * 2 + 1, none⟩ = some (.int .i64 x.fPower) := e1.int (j := 1) rfl
          have m0 : wr.cell? ⟨b2, o2 + k * 2, none⟩ = some (.int .i64 x.fId) := e2.int (j := 0) rfl
          have m1 : wr.cell? ⟨b2, o2 + k * 2 + 1, none⟩ = some (.int .i64 x.fPower) := e2.int (j := 1) rfl
          have d1 : Rds wr (encVal x) [.int .i64 x.fId, .int .i64 x.fPower] := (Rds.int _ (Rds.int _ Rds.nil))
          have d2 : Rds wr (encVal x) [.int .i64 x.fId, .int .i64 x.fPower] := (Rds.int _ (Rds.int _ Rds.nil))
          clear e1 e2
          go_wp2_with fail
          go_region_held3 (fun w' => w'.cell? ⟨b1, o1 + k * 2, none⟩ = some (.int .i64 x.fId) ∧ w'.cell? ⟨b1, o1 + k * 2 + 1, none⟩ = some (.int .i64 x.fPower) ∧ w'.cell? ⟨b2, o2 + k * 2, none⟩ = some (.int .i64 x.fId) ∧ w'.cell? ⟨b2, o2 + k * 2 + 1, none⟩ = some (.int .i64 x.fPower)) ((first | go_keep | ((try dsimp only); (try go_split_ands); (repeat' apply And.intro) <;> exact hb.cellSome (by assumption))))
            ((go_at_call 91; refine (eqVal_any x _ (d1.ext (by (repeat (first | (with_reducible exact Ext.refl _) | (with_reducible assumption) | (with_reducible refine Ext.alloc ?_ _) | (with_reducible refine Ext.drew ?_) | (with_reducible refine Ext.drewN ?_ _) | ((with_reducible apply Ext.setCell); (case hp => first | omega | (simp; done) | (simp; omega))) | (with_reducible refine Ext.trans ?_ (by assumption)))))) (d2.ext (by (repeat (first | (with_reducible exact Ext.refl _) | (with_reducible assumption) | (with_reducible refine Ext.alloc ?_ _) | (with_reducible refine Ext.drew ?_) | (with_reducible refine Ext.drewN ?_ _) | ((with_reducible apply Ext.setCell); (case hp => first | omega | (simp; done) | (simp; omega))) | (with_reducible refine Ext.trans ?_ (by assumption))))))).mono ?_; rintro e w1 ⟨rfl, hb⟩))
          go_wp2
          go_roundg (xs.length - (k + 1))
          case measure => rw [HG.out]; omega
          case rel => exact ⟨k + 1, by omega, rfl, by go_num, by (repeat (first | (with_reducible exact Ext.refl _) | (with_reducible assumption) | (with_reducible refine Ext.alloc ?_ _) | (with_reducible refine Ext.drew ?_) | (with_reducible refine Ext.drewN ?_ _) | ((with_reducible apply Ext.setCell); (case hp => first | omega | (simp; done) | (simp; omega))) | (with_reducible refine Ext.trans ?_ (by assumption))))⟩
        · go_wp2
          go_ret
          exact ⟨rfl, by (repeat (first | (with_reducible exact Ext.refl _) | (with_reducible assumption) | (with_reducible refine Ext.alloc ?_ _) | (with_reducible refine Ext.drew ?_) | (with_reducible refine Ext.drewN ?_ _) | ((with_reducible apply Ext.setCell); (case hp => first | omega | (simp; done) | (simp; omega))) | (with_reducible refine Ext.trans ?_ (by assumption))))⟩
end Go.Proofs.YtgcelmnmalfpcaaDoor
namespace Go.Proofs.YtgcelmnmalfpcaaDoor
set_option linter.unusedSimpArgs false
set_option linter.unusedVariables false
open Go.RowKit
def encAnchor (x : GAnchor) : List D := [.int x.fHead.fHeight, .int x.fHead.fTime, .str x.fHead.fLast, .str x.fHead.fVals, .str x.fHead.fNext, .str x.fHead.fData, slD 120 2 encVal x.fNext]
set_option maxRecDepth 100000 in
set_option maxHeartbeats 4000000 in
theorem toAnchor_any (x : GAnchor) (o1 : Option Addr) (c1 : Nat) (w : World) (h : Rds w (encAnchor x) [.int .i64 x.fHead.fHeight, .int .i64 x.fHead.fTime, .string x.fHead.fLast, .string x.fHead.fVals, .string x.fHead.fNext, .string x.fHead.fData, .slice o1 x.fNext.length c1]) (hz : szL (encAnchor x) ≤ 1048576) :
    Calls Tryd.prog 41 #[.agg #[.int .i64 x.fHead.fHeight, .int .i64 x.fHead.fTime, .string x.fHead.fLast, .string x.fHead.fVals, .string x.fHead.fNext, .string x.fHead.fData, .slice o1 x.fNext.length c1]] w fun e w' => ∃ (p1 : Option Addr) (q1 : Nat), e = .returned (.agg #[.int .i64 x.fHead.fHeight, .int .i64 x.fHead.fTime, .string x.fHead.fLast, .string x.fHead.fVals, .string x.fHead.fNext, .string x.fHead.fData, .slice p1 x.fNext.length q1]) ∧ Obj w' w.heap.size w'.heap.size (encAnchor x) [.int .i64 x.fHead.fHeight, .int .i64 x.fHead.fTime, .string x.fHead.fLast, .string x.fHead.fVals, .string x.fHead.fNext, .string x.fHead.fData, .slice p1 x.fNext.length q1] ∧ Ext w w' := by
  have r1 : RL 120 2 encVal w (.slice o1 x.fNext.length c1) x.fNext := h.cut 6 1
  have z1 : szL [slD 120 2 encVal x.fNext] ≤ 1048576 := Nat.le_trans (szL_cut (encAnchor x) 6 1) hz
  have Z1 := Lib.hid z1; clear z1
  clear h hz
  go_enter Tryd.func41, Tryd.ntmps41
  go_wp2_with fail
  (refine (toHeader_any x.fHead _).mono ?_); rintro e w1 ⟨rfl, hb⟩; (obtain ⟨B0, c0, f0, l0⟩ := Box.after (k := w.heap.size) hb (by (repeat (first | (with_reducible assumption) | ((with_reducible apply Box.new); (first | (with_reducible rfl) | (simp; done) | (simp; omega))) | (with_reducible apply Box.alloc) | (with_reducible apply Box.drew) | (with_reducible apply Box.drewN) | (with_reducible apply Box.set) | ((with_reducible apply Box.set_ne); (case hne => first | omega | (simp; done) | (simp; omega))))))); (obtain ⟨B1, c1, f1, l1⟩ := Box.after (k := w.heap.size + 1) hb (by (repeat (first | (with_reducible assumption) | ((with_reducible apply Box.new); (first | (with_reducible rfl) | (simp; done) | (simp; omega))) | (with_reducible apply Box.alloc) | (with_reducible apply Box.drew) | (with_reducible apply Box.drewN) | (with_reducible apply Box.set) | ((with_reducible apply Box.set_ne); (case hne => first | omega | (simp; done) | (simp; omega))))))); (obtain ⟨B2, c2, f2, l2⟩ := Box.after (k := w.heap.size + 2) hb (by (repeat (first | (with_reducible assumption) | ((with_reducible apply Box.new); (first | (with_reducible rfl) | (simp; done) | (simp; omega))) | (with_reducible apply Box.alloc) | (with_reducible apply Box.drew) | (with_reducible apply Box.drewN) | (with_reducible apply Box.set) | ((with_reducible apply Box.set_ne); (case hne => first | omega | (simp; done) | (simp; omega)))))))
  have hz := hb.size; simp at hz
  have A : Obj w1 (w.heap.size + 3) (w.heap.size + 3) [] [] := obj_nil
  have O : Obj w1 w1.heap.size w1.heap.size [.int x.fHead.fHeight, .int x.fHead.fTime, .str x.fHead.fLast, .str x.fHead.fVals, .str x.fHead.fNext, .str x.fHead.fData] [.int .i64 x.fHead.fHeight, .int .i64 x.fHead.fTime, .string x.fHead.fLast, .string x.fHead.fVals, .string x.fHead.fNext, .string x.fHead.fData] := (Obj.int (Obj.int (Obj.str (Obj.str (Obj.str (Obj.str obj_nil))))))
  replace A : Obj w1 (w.heap.size + 3) w1.heap.size [.int x.fHead.fHeight, .int x.fHead.fTime, .str x.fHead.fLast, .str x.fHead.fVals, .str x.fHead.fNext, .str x.fHead.fData] [.int .i64 x.fHead.fHeight, .int .i64 x.fHead.fTime, .string x.fHead.fLast, .string x.fHead.fVals, .string x.fHead.fNext, .string x.fHead.fData] := Obj.more A O (by (first | omega | (simp; done) | (simp; omega))) (by (first | omega | (simp; done) | (simp; omega))) (by (first | omega | (simp; done) | (simp; omega)))
  have E1 : Ext w w1 := by (repeat (first | (with_reducible exact Ext.refl _) | (with_reducible assumption) | (with_reducible refine Ext.alloc ?_ _) | (with_reducible refine Ext.drew ?_) | (with_reducible refine Ext.drewN ?_ _) | ((with_reducible apply Ext.setCell); (case hp => first | omega | (simp; done) | (simp; omega))) | (with_reducible refine Ext.trans ?_ (by assumption))))
  clear hb O hz
  go_wp2_with fail
  (refine (toValS_any _ x.fNext _ (r1.ext (by (repeat (first | (with_reducible exact Ext.refl _) | (with_reducible assumption) | (with_reducible refine Ext.alloc ?_ _) | (with_reducible refine Ext.drew ?_) | (with_reducible refine Ext.drewN ?_ _) | ((with_reducible apply Ext.setCell); (case hp => first | omega | (simp; done) | (simp; omega))) | (with_reducible refine Ext.trans ?_ (by assumption)))))) Z1.out).mono ?_); rintro e w2 ⟨p1, q1, rfl, O, hb⟩; (obtain ⟨B0, c0, f0, l0⟩ := Box.after (k := w.heap.size) hb (by (repeat (first | (with_reducible assumption) | ((with_reducible apply Box.new); (first | (with_reducible rfl) | (simp; done) | (simp; omega))) | (with_reducible apply Box.alloc) | (with_reducible apply Box.drew) | (with_reducible apply Box.drewN) | (with_reducible apply Box.set) | ((with_reducible apply Box.set_ne); (case hne => first | omega | (simp; done) | (simp; omega))))))); (obtain ⟨B1, c1, f1, l1⟩ := Box.after (k := w.heap.size + 1) hb (by (repeat (first | (with_reducible assumption) | ((with_reducible apply Box.new); (first | (with_reducible rfl) | (simp; done) | (simp; omega))) | (with_reducible apply Box.alloc) | (with_reducible apply Box.drew) | (with_reducible apply Box.drewN) | (with_reducible apply Box.set) | ((with_reducible apply Box.set_ne); (case hne => first | omega | (simp; done) | (simp; omega))))))); (obtain ⟨B2, c2, f2, l2⟩ := Box.after (k := w.heap.size + 2) hb (by (repeat (first | (with_reducible assumption) | ((with_reducible apply Box.new); (first | (with_reducible rfl) | (simp; done) | (simp; omega))) | (with_reducible apply Box.alloc) | (with_reducible apply Box.drew) | (with_reducible apply Box.drewN) | (with_reducible apply Box.set) | ((with_reducible apply Box.set_ne); (case hne => first | omega | (simp; done) | (simp; omega)))))))
  have hz := hb.size; simp at hz
  replace A : Obj w2 (w.heap.size + 3) w1.heap.size [.int x.fHead.fHeight, .int x.fHead.fTime, .str x.fHead.fLast, .str x.fHead.fVals, .str x.fHead.fNext, .str x.fHead.fData] [.int .i64 x.fHead.fHeight, .int .i64 x.fHead.fTime, .string x.fHead.fLast, .string x.fHead.fVals, .string x.fHead.fNext, .string x.fHead.fData] := by (repeat (first | (with_reducible assumption) | (with_reducible apply Obj.alloc) | (with_reducible apply Obj.drew) | (with_reducible apply Obj.drewN) | ((with_reducible apply Obj.set); (case hk => first | omega | (simp; done) | (simp; omega) | (left; simp; omega) | (right; simp; omega))) | (with_reducible refine Obj.ext ?_ (by assumption))))
  replace A : Obj w2 (w.heap.size + 3) w2.heap.size [.int x.fHead.fHeight, .int x.fHead.fTime, .str x.fHead.fLast, .str x.fHead.fVals, .str x.fHead.fNext, .str x.fHead.fData, slD 120 2 encVal x.fNext] [.int .i64 x.fHead.fHeight, .int .i64 x.fHead.fTime, .string x.fHead.fLast, .string x.fHead.fVals, .string x.fHead.fNext, .string x.fHead.fData, .slice p1 x.fNext.length q1] := Obj.more A O (by (first | omega | (simp; done) | (simp; omega))) (by (first | omega | (simp; done) | (simp; omega))) (by (first | omega | (simp; done) | (simp; omega)))
  have E2 : Ext w w2 := by (repeat (first | (with_reducible exact Ext.refl _) | (with_reducible assumption) | (with_reducible refine Ext.alloc ?_ _) | (with_reducible refine Ext.drew ?_) | (with_reducible refine Ext.drewN ?_ _) | ((with_reducible apply Ext.setCell); (case hp => first | omega | (simp; done) | (simp; omega))) | (with_reducible refine Ext.trans ?_ (by assumption))))
  clear hb O hz E1
  have AS := A.read
  have HA := Lib.hid A; clear A AS
  go_wp2
  exact bodyPost_ret (v := .agg #[.int .i64 x.fHead.fHeight, .int .i64 x.fHead.fTime, .string x.fHead.fLast, .string x.fHead.fVals, .string x.fHead.fNext, .string x.fHead.fData, .slice p1 x.fNext.length q1]) (by simp [results, Tryd.results41, go_sem, c1]) rfl ⟨_, _, rfl, Obj.mono (lo := w.heap.size + 3) (hi := w2.heap.size) (show Obj _ _ _ [.int x.fHead.fHeight, .int x.fHead.fTime, .str x.fHead.fLast, .str x.fHead.fVals, .str x.fHead.fNext, .str x.fHead.fData, slD 120 2 encVal x.fNext] _ from by have A := HA.out; (repeat (first | (with_reducible assumption) | (with_reducible apply Obj.alloc) | (with_reducible apply Obj.drew) | (with_reducible apply Obj.drewN) | ((with_reducible apply Obj.set); (case hk => first | omega | (simp; done) | (simp; omega) | (left; simp; omega) | (right; simp; omega))) | (with_reducible refine Obj.ext ?_ (by assumption))))) (by (first | omega | (simp; done) | (simp; omega))) (by (first | omega | (simp; done) | (simp; omega))), by (repeat (first | (with_reducible exact Ext.refl _) | (with_reducible assumption) | (with_reducible refine Ext.alloc ?_ _) | (with_reducible refine Ext.drew ?_) | (with_reducible refine Ext.drewN ?_ _) | ((with_reducible apply Ext.setCell); (case hp => first | omega | (simp; done) | (simp; omega))) | (with_reducible refine Ext.trans ?_ (by assumption))))⟩
set_option maxRecDepth 100000 in
set_option maxHeartbeats 4000000 in
theorem szAnchor_any (x : GAnchor) (o1 : Option Addr) (c1 : Nat) (left : Int) (w : World) (h : Rds w (encAnchor x) [.int .i64 x.fHead.fHeight, .int .i64 x.fHead.fTime, .string x.fHead.fLast, .string x.fHead.fVals, .string x.fHead.fNext, .string x.fHead.fData, .slice o1 x.fNext.length c1]) (hok : okL (encAnchor x)) (h0 : 0 ≤ left) (h1 : left ≤ 1048576) :
    Calls Tryd.prog 31 #[.agg #[.int .i64 x.fHead.fHeight, .int .i64 x.fHead.fTime, .string x.fHead.fLast, .string x.fHead.fVals, .string x.fHead.fNext, .string x.fHead.fData, .slice o1 x.fNext.length c1], .int .i64 left] w fun e w' => e = .returned (.int .i64 (szR left (szL (encAnchor x)))) ∧ Ext w w' := by
  have r0 : Rds w (encHeader x.fHead) [.int .i64 x.fHead.fHeight, .int .i64 x.fHead.fTime, .string x.fHead.fLast, .string x.fHead.fVals, .string x.fHead.fNext, .string x.fHead.fData] := h.cut 0 6
  have k0 : okL (encHeader x.fHead) := okL_cut (ds := encAnchor x) 0 6 hok
  have K0 := Lib.hid k0; clear k0
  have r1 : RL 120 2 encVal w (.slice o1 x.fNext.length c1) x.fNext := h.cut 6 1
  have k1 : okL [slD 120 2 encVal x.fNext] := okL_cut (ds := encAnchor x) 6 1 hok
  have K1 := Lib.hid k1; clear k1
  have hT : szL (encAnchor x) = szL (encHeader x.fHead) + szL [slD 120 2 encVal x.fNext] := by simp [encAnchor, encHeader, szL, slD]; try omega
  rw [hT]
  clear hT hok h
  obtain ⟨a0, ha0⟩ : ∃ a, a = szL (encHeader x.fHead) := ⟨_, rfl⟩
  rw [← ha0]
  have HA0 := Lib.hid ha0; clear ha0
  obtain ⟨a1, ha1⟩ : ∃ a, a = szL [slD 120 2 encVal x.fNext] := ⟨_, rfl⟩
  rw [← ha1]
  have HA1 := Lib.hid ha1; clear ha1
  by_cases h2 : left < (a0 : Nat)
  · have R0 := Lib.hid (szR_no h2)
    go_enter Tryd.func31, Tryd.ntmps31
    go_wp2_with fail
    (refine (szHeader_any x.fHead _ _ (r0.ext (by (repeat (first | (with_reducible exact Ext.refl _) | (with_reducible assumption) | (with_reducible refine Ext.alloc ?_ _) | (with_reducible refine Ext.drew ?_) | (with_reducible refine Ext.drewN ?_ _) | ((with_reducible apply Ext.setCell); (case hp => first | omega | (simp; done) | (simp; omega))) | (with_reducible refine Ext.trans ?_ (by assumption)))))) K0.out (by omega) (by omega)).mono ?_); rw [show szL (encHeader x.fHead) = a0 from HA0.out.symm, R0.out]; rintro e w0 ⟨rfl, hb⟩; (obtain ⟨B0, c0, f0, l0⟩ := Box.after (k := w.heap.size) hb (by (repeat (first | (with_reducible assumption) | ((with_reducible apply Box.new); (first | (with_reducible rfl) | (simp; done) | (simp; omega))) | (with_reducible apply Box.alloc) | (with_reducible apply Box.drew) | (with_reducible apply Box.drewN) | (with_reducible apply Box.set) | ((with_reducible apply Box.set_ne); (case hne => first | omega | (simp; done) | (simp; omega)))))))
    have E0 : Ext w w0 := by (repeat (first | (with_reducible exact Ext.refl _) | (with_reducible assumption) | (with_reducible refine Ext.alloc ?_ _) | (with_reducible refine Ext.drew ?_) | (with_reducible refine Ext.drewN ?_ _) | ((with_reducible apply Ext.setCell); (case hp => first | omega | (simp; done) | (simp; omega))) | (with_reducible refine Ext.trans ?_ (by assumption))))
    clear hb
    go_wp2
    go_ret
    exact ⟨ret_int (szR_no (by omega)), by (repeat (first | (with_reducible exact Ext.refl _) | (with_reducible assumption) | (with_reducible refine Ext.alloc ?_ _) | (with_reducible refine Ext.drew ?_) | (with_reducible refine Ext.drewN ?_ _) | ((with_reducible apply Ext.setCell); (case hp => first | omega | (simp; done) | (simp; omega))) | (with_reducible refine Ext.trans ?_ (by assumption))))⟩
  · have R0 := Lib.hid (szR_yes h2)
    by_cases h3 : left - a0 < (a1 : Nat)
    · have R1 := Lib.hid (szR_no h3)
      go_enter Tryd.func31, Tryd.ntmps31
      go_wp2_with fail
      (refine (szHeader_any x.fHead _ _ (r0.ext (by (repeat (first | (with_reducible exact Ext.refl _) | (with_reducible assumption) | (with_reducible refine Ext.alloc ?_ _) | (with_reducible refine Ext.drew ?_) | (with_reducible refine Ext.drewN ?_ _) | ((with_reducible apply Ext.setCell); (case hp => first | omega | (simp; done) | (simp; omega))) | (with_reducible refine Ext.trans ?_ (by assumption)))))) K0.out (by omega) (by omega)).mono ?_); rw [show szL (encHeader x.fHead) = a0 from HA0.out.symm, R0.out]; rintro e w0 ⟨rfl, hb⟩; (obtain ⟨B0, c0, f0, l0⟩ := Box.after (k := w.heap.size) hb (by (repeat (first | (with_reducible assumption) | ((with_reducible apply Box.new); (first | (with_reducible rfl) | (simp; done) | (simp; omega))) | (with_reducible apply Box.alloc) | (with_reducible apply Box.drew) | (with_reducible apply Box.drewN) | (with_reducible apply Box.set) | ((with_reducible apply Box.set_ne); (case hne => first | omega | (simp; done) | (simp; omega)))))))
      have E0 : Ext w w0 := by (repeat (first | (with_reducible exact Ext.refl _) | (with_reducible assumption) | (with_reducible refine Ext.alloc ?_ _) | (with_reducible refine Ext.drew ?_) | (with_reducible refine Ext.drewN ?_ _) | ((with_reducible apply Ext.setCell); (case hp => first | omega | (simp; done) | (simp; omega))) | (with_reducible refine Ext.trans ?_ (by assumption))))
      clear hb
      go_wp2_with fail
      (refine (szValS_any _ x.fNext _ _ (r1.ext (by (repeat (first | (with_reducible exact Ext.refl _) | (with_reducible assumption) | (with_reducible refine Ext.alloc ?_ _) | (with_reducible refine Ext.drew ?_) | (with_reducible refine Ext.drewN ?_ _) | ((with_reducible apply Ext.setCell); (case hp => first | omega | (simp; done) | (simp; omega))) | (with_reducible refine Ext.trans ?_ (by assumption)))))) K1.out (by omega) (by omega)).mono ?_); rw [show szL [slD 120 2 encVal x.fNext] = a1 from HA1.out.symm, R1.out]; rintro e w1 ⟨rfl, hb⟩; (obtain ⟨B0, c0, f0, l0⟩ := Box.after (k := w.heap.size) hb (by (repeat (first | (with_reducible assumption) | ((with_reducible apply Box.new); (first | (with_reducible rfl) | (simp; done) | (simp; omega))) | (with_reducible apply Box.alloc) | (with_reducible apply Box.drew) | (with_reducible apply Box.drewN) | (with_reducible apply Box.set) | ((with_reducible apply Box.set_ne); (case hne => first | omega | (simp; done) | (simp; omega)))))))
      have E1 : Ext w w1 := by (repeat (first | (with_reducible exact Ext.refl _) | (with_reducible assumption) | (with_reducible refine Ext.alloc ?_ _) | (with_reducible refine Ext.drew ?_) | (with_reducible refine Ext.drewN ?_ _) | ((with_reducible apply Ext.setCell); (case hp => first | omega | (simp; done) | (simp; omega))) | (with_reducible refine Ext.trans ?_ (by assumption))))
      clear hb
      go_wp2
      go_ret
      exact ⟨ret_int (szR_no (by omega)), by (repeat (first | (with_reducible exact Ext.refl _) | (with_reducible assumption) | (with_reducible refine Ext.alloc ?_ _) | (with_reducible refine Ext.drew ?_) | (with_reducible refine Ext.drewN ?_ _) | ((with_reducible apply Ext.setCell); (case hp => first | omega | (simp; done) | (simp; omega))) | (with_reducible refine Ext.trans ?_ (by assumption))))⟩
    · have R1 := Lib.hid (szR_yes h3)
      go_enter Tryd.func31, Tryd.ntmps31
      go_wp2_with fail
      (refine (szHeader_any x.fHead _ _ (r0.ext (by (repeat (first | (with_reducible exact Ext.refl _) | (with_reducible assumption) | (with_reducible refine Ext.alloc ?_ _) | (with_reducible refine Ext.drew ?_) | (with_reducible refine Ext.drewN ?_ _) | ((with_reducible apply Ext.setCell); (case hp => first | omega | (simp; done) | (simp; omega))) | (with_reducible refine Ext.trans ?_ (by assumption)))))) K0.out (by omega) (by omega)).mono ?_); rw [show szL (encHeader x.fHead) = a0 from HA0.out.symm, R0.out]; rintro e w0 ⟨rfl, hb⟩; (obtain ⟨B0, c0, f0, l0⟩ := Box.after (k := w.heap.size) hb (by (repeat (first | (with_reducible assumption) | ((with_reducible apply Box.new); (first | (with_reducible rfl) | (simp; done) | (simp; omega))) | (with_reducible apply Box.alloc) | (with_reducible apply Box.drew) | (with_reducible apply Box.drewN) | (with_reducible apply Box.set) | ((with_reducible apply Box.set_ne); (case hne => first | omega | (simp; done) | (simp; omega)))))))
      have E0 : Ext w w0 := by (repeat (first | (with_reducible exact Ext.refl _) | (with_reducible assumption) | (with_reducible refine Ext.alloc ?_ _) | (with_reducible refine Ext.drew ?_) | (with_reducible refine Ext.drewN ?_ _) | ((with_reducible apply Ext.setCell); (case hp => first | omega | (simp; done) | (simp; omega))) | (with_reducible refine Ext.trans ?_ (by assumption))))
      clear hb
      go_wp2_with fail
      (refine (szValS_any _ x.fNext _ _ (r1.ext (by (repeat (first | (with_reducible exact Ext.refl _) | (with_reducible assumption) | (with_reducible refine Ext.alloc ?_ _) | (with_reducible refine Ext.drew ?_) | (with_reducible refine Ext.drewN ?_ _) | ((with_reducible apply Ext.setCell); (case hp => first | omega | (simp; done) | (simp; omega))) | (with_reducible refine Ext.trans ?_ (by assumption)))))) K1.out (by omega) (by omega)).mono ?_); rw [show szL [slD 120 2 encVal x.fNext] = a1 from HA1.out.symm, R1.out]; rintro e w1 ⟨rfl, hb⟩; (obtain ⟨B0, c0, f0, l0⟩ := Box.after (k := w.heap.size) hb (by (repeat (first | (with_reducible assumption) | ((with_reducible apply Box.new); (first | (with_reducible rfl) | (simp; done) | (simp; omega))) | (with_reducible apply Box.alloc) | (with_reducible apply Box.drew) | (with_reducible apply Box.drewN) | (with_reducible apply Box.set) | ((with_reducible apply Box.set_ne); (case hne => first | omega | (simp; done) | (simp; omega)))))))
      have E1 : Ext w w1 := by (repeat (first | (with_reducible exact Ext.refl _) | (with_reducible assumption) | (with_reducible refine Ext.alloc ?_ _) | (with_reducible refine Ext.drew ?_) | (with_reducible refine Ext.drewN ?_ _) | ((with_reducible apply Ext.setCell); (case hp => first | omega | (simp; done) | (simp; omega))) | (with_reducible refine Ext.trans ?_ (by assumption))))
      clear hb
      go_wp2
      go_ret
      exact ⟨ret_int ((szR_yes (by omega)).trans (by omega)), by (repeat (first | (with_reducible exact Ext.refl _) | (with_reducible assumption) | (with_reducible refine Ext.alloc ?_ _) | (with_reducible refine Ext.drew ?_) | (with_reducible refine Ext.drewN ?_ _) | ((with_reducible apply Ext.setCell); (case hp => first | omega | (simp; done) | (simp; omega))) | (with_reducible refine Ext.trans ?_ (by assumption))))⟩
set_option maxRecDepth 100000 in
set_option maxHeartbeats 4000000 in
theorem eqAnchor_any (x : GAnchor) (o1 : Option Addr) (c1 : Nat) (p1 : Option Addr) (q1 : Nat) (w : World) (h1 : Rds w (encAnchor x) [.int .i64 x.fHead.fHeight, .int .i64 x.fHead.fTime, .string x.fHead.fLast, .string x.fHead.fVals, .string x.fHead.fNext, .string x.fHead.fData, .slice o1 x.fNext.length c1]) (h2 : Rds w (encAnchor x) [.int .i64 x.fHead.fHeight, .int .i64 x.fHead.fTime, .string x.fHead.fLast, .string x.fHead.fVals, .string x.fHead.fNext, .string x.fHead.fData, .slice p1 x.fNext.length q1]) :
    Calls Tryd.prog 51 #[.agg #[.int .i64 x.fHead.fHeight, .int .i64 x.fHead.fTime, .string x.fHead.fLast, .string x.fHead.fVals, .string x.fHead.fNext, .string x.fHead.fData, .slice o1 x.fNext.length c1], .agg #[.int .i64 x.fHead.fHeight, .int .i64 x.fHead.fTime, .string x.fHead.fLast, .string x.fHead.fVals, .string x.fHead.fNext, .string x.fHead.fData, .slice p1 x.fNext.length q1]] w fun e w' => e = .returned (.bool true) ∧ Ext w w' := by
  have r0_0 : Rds w (encHeader x.fHead) [.int .i64 x.fHead.fHeight, .int .i64 x.fHead.fTime, .string x.fHead.fLast, .string x.fHead.fVals, .string x.fHead.fNext, .string x.fHead.fData] := h1.cut 0 6
  have r0_1 : Rds w (encHeader x.fHead) [.int .i64 x.fHead.fHeight, .int .i64 x.fHead.fTime, .string x.fHead.fLast, .string x.fHead.fVals, .string x.fHead.fNext, .string x.fHead.fData] := h2.cut 0 6
  have r1_0 : RL 120 2 encVal w (.slice o1 x.fNext.length c1) x.fNext := h1.cut 6 1
  have r1_1 : RL 120 2 encVal w (.slice p1 x.fNext.length q1) x.fNext := h2.cut 6 1
  clear h1 h2
  go_enter Tryd.func51, Tryd.ntmps51
  go_wp2_with fail
  (refine (eqHeader_any x.fHead _ (r0_0.ext (by (repeat (first | (with_reducible exact Ext.refl _) | (with_reducible assumption) | (with_reducible refine Ext.alloc ?_ _) | (with_reducible refine Ext.drew ?_) | (with_reducible refine Ext.drewN ?_ _) | ((with_reducible apply Ext.setCell); (case hp => first | omega | (simp; done) | (simp; omega))) | (with_reducible refine Ext.trans ?_ (by assumption)))))) (r0_1.ext (by (repeat (first | (with_reducible exact Ext.refl _) | (with_reducible assumption) | (with_reducible refine Ext.alloc ?_ _) | (with_reducible refine Ext.drew ?_) | (with_reducible refine Ext.drewN ?_ _) | ((with_reducible apply Ext.setCell); (case hp => first | omega | (simp; done) | (simp; omega))) | (with_reducible refine Ext.trans ?_ (by assumption))))))).mono ?_); rintro e w1 ⟨rfl, hb⟩; (obtain ⟨B0, c0, f0, l0⟩ := Box.after (k := w.heap.size) hb (by (repeat (first | (with_reducible assumption) | ((with_reducible apply Box.new); (first | (with_reducible rfl) | (simp; done) | (simp; omega))) | (with_reducible apply Box.alloc) | (with_reducible apply Box.drew) | (with_reducible apply Box.drewN) | (with_reducible apply Box.set) | ((with_reducible apply Box.set_ne); (case hne => first | omega | (simp; done) | (simp; omega))))))); (obtain ⟨B1, c1, f1, l1⟩ := Box.after (k := w.heap.size + 1) hb (by (repeat (first | (with_reducible assumption) | ((with_reducible apply Box.new); (first | (with_reducible rfl) | (simp; done) | (simp; omega))) | (with_reducible apply Box.alloc) | (with_reducible apply Box.drew) | (with_reducible apply Box.drewN) | (with_reducible apply Box.set) | ((with_reducible apply Box.set_ne); (case hne => first | omega | (simp; done) | (simp; omega)))))))
  have E1 : Ext w w1 := by (repeat (first | (with_reducible exact Ext.refl _) | (with_reducible assumption) | (with_reducible refine Ext.alloc ?_ _) | (with_reducible refine Ext.drew ?_) | (with_reducible refine Ext.drewN ?_ _) | ((with_reducible apply Ext.setCell); (case hp => first | omega | (simp; done) | (simp; omega))) | (with_reducible refine Ext.trans ?_ (by assumption))))
  clear hb
  go_wp2_with fail
  (refine (eqValS_any _ _ x.fNext _ (r1_0.ext (by (repeat (first | (with_reducible exact Ext.refl _) | (with_reducible assumption) | (with_reducible refine Ext.alloc ?_ _) | (with_reducible refine Ext.drew ?_) | (with_reducible refine Ext.drewN ?_ _) | ((with_reducible apply Ext.setCell); (case hp => first | omega | (simp; done) | (simp; omega))) | (with_reducible refine Ext.trans ?_ (by assumption)))))) (r1_1.ext (by (repeat (first | (with_reducible exact Ext.refl _) | (with_reducible assumption) | (with_reducible refine Ext.alloc ?_ _) | (with_reducible refine Ext.drew ?_) | (with_reducible refine Ext.drewN ?_ _) | ((with_reducible apply Ext.setCell); (case hp => first | omega | (simp; done) | (simp; omega))) | (with_reducible refine Ext.trans ?_ (by assumption))))))).mono ?_); rintro e w2 ⟨rfl, hb⟩; (obtain ⟨B0, c0, f0, l0⟩ := Box.after (k := w.heap.size) hb (by (repeat (first | (with_reducible assumption) | ((with_reducible apply Box.new); (first | (with_reducible rfl) | (simp; done) | (simp; omega))) | (with_reducible apply Box.alloc) | (with_reducible apply Box.drew) | (with_reducible apply Box.drewN) | (with_reducible apply Box.set) | ((with_reducible apply Box.set_ne); (case hne => first | omega | (simp; done) | (simp; omega))))))); (obtain ⟨B1, c1, f1, l1⟩ := Box.after (k := w.heap.size + 1) hb (by (repeat (first | (with_reducible assumption) | ((with_reducible apply Box.new); (first | (with_reducible rfl) | (simp; done) | (simp; omega))) | (with_reducible apply Box.alloc) | (with_reducible apply Box.drew) | (with_reducible apply Box.drewN) | (with_reducible apply Box.set) | ((with_reducible apply Box.set_ne); (case hne => first | omega | (simp; done) | (simp; omega)))))))
  have E2 : Ext w w2 := by (repeat (first | (with_reducible exact Ext.refl _) | (with_reducible assumption) | (with_reducible refine Ext.alloc ?_ _) | (with_reducible refine Ext.drew ?_) | (with_reducible refine Ext.drewN ?_ _) | ((with_reducible apply Ext.setCell); (case hp => first | omega | (simp; done) | (simp; omega))) | (with_reducible refine Ext.trans ?_ (by assumption))))
  clear hb E1
  go_wp2
  go_ret
  exact ⟨rfl, by (repeat (first | (with_reducible exact Ext.refl _) | (with_reducible assumption) | (with_reducible refine Ext.alloc ?_ _) | (with_reducible refine Ext.drew ?_) | (with_reducible refine Ext.drewN ?_ _) | ((with_reducible apply Ext.setCell); (case hp => first | omega | (simp; done) | (simp; omega))) | (with_reducible refine Ext.trans ?_ (by assumption))))⟩
end Go.Proofs.YtgcelmnmalfpcaaDoor
