/- Walks on the pure machine: tables of peers. -/
import Derived.Test.YtgcelmnmalfpcaaDoorPc3
import Derived.Test.YtgcelmnmalfpcaaDoorMc2
namespace Go.Proofs.YtgcelmnmalfpcaaDoor
set_option linter.unusedSimpArgs false
set_option linter.unusedVariables false
open Go.RowKit
set_option maxRecDepth 100000

theorem sL19At_p (t : GTable) (id : Int) (hl : t.fPeers.length ≤ 1099511627776) : PCalls Tryd.prog 74 [.agg (pTable t), .val (.int .i64 id)] [] (RV (.val (.int .i64 (peerIdx t.fPeers id)))) := by
  refine pcalls_ofR okP Tryd.func74 rfl ?_
  simp only [Tryd.f74, List.length_cons, List.length_nil, Nat.reduceAdd, Nat.reduceSub, List.replicate_succ, List.replicate_zero, List.cons_append, List.nil_append, List.length_map]
  repeat' (first
      | with_reducible refine PWp.seq ?_
      | with_reducible refine PWp.block ?_
      | with_reducible refine PWp.region okP true ?_
      | with_reducible (first | refine pops_nil ?_ | refine pany_nil ?_ | refine pthen_normal ?_ | refine pblock_normal ?_ | refine pthen_ret ?_ | refine pblock_ret ?_ | refine pthen_exit ?_ | refine pblock_here ?_ | refine pblock_there rfl ?_ | refine PWp.ret ?_ | refine PWp.exit ?_ | refine PWp.skip ?_)
      | ((with_reducible refine hK _ ?_); clear hK K)
      | ((with_reducible refine PWp.condI ?_); refine ⟨_, rfl, fun hg => ?_, fun hg => ?_⟩ <;> first | (exact absurd hg (by decide)) | ((try simp only [Bool.not_true, Bool.not_false] at hg); (try simp only [hg]); (try simp only [push_cast] at hg); (try exact absurd trivial hg); (try (exfalso; omega))))
      | ((first | ((with_reducible refine pops_guard0 ?_); refine ⟨_, rfl, fun K hK => ⟨rfl, ?_⟩⟩) | ((with_reducible refine pD_g0 ?_); refine ⟨_, rfl, rfl, ?_⟩)); (try simp (disch := omega) only [push_cast, seval]))
      | ((with_reducible refine pany_I ?_); refine ⟨_, rfl, fun K hK => ?_⟩)
      | ((with_reducible refine pops_plain fun K hK => ?_); simp (disch := omega) only [push_cast, seval])
      | ((first | ((with_reducible refine pD_y ?_ ?_); exact rfl) | ((with_reducible refine pD_x ?_ ?_); exact rfl)); simp (disch := omega) only [push_cast, seval])
      | ((first | ((with_reducible refine pops_guard ?_); refine ⟨_, rfl, fun K hK => ⟨_, rfl, fun hg => ?_, fun hg => ?_⟩⟩) | ((first | ((with_reducible refine pD_gy ?_ ?_); exact rfl) | ((with_reducible refine pD_gx ?_ ?_); exact rfl)); refine ⟨_, rfl, _, rfl, fun hg => ?_, fun hg => ?_⟩)) <;> first | (exact absurd hg (by decide)) | ((try simp only [Bool.not_true, Bool.not_false] at hg); (try simp only [hg]); (try simp only [push_cast] at hg); (try exact absurd trivial hg); (try (exfalso; omega)); (try simp (disch := omega) only [push_cast, seval])))
      | ((with_reducible refine And.intro ?_ ?_); omega))
  refine PWp.loopK (α := Nat) (fun k => [(1, .val (.int .i64 id)), (2, .ptr 0 0), (5, .val (.int .i64 (k : Int)))]) [0, 3, 4, 6, 7, 8, 9, 10, 11, 12, 13, 14, 15, 16, 17, 18, 19, 20, 21] (fun k => [some (.box (pTable t))]) (fun k => k ≤ t.fPeers.length ∧ noneTo (fun p => decide (p.fId = id)) t.fPeers k) (fun k => t.fPeers.length - k) (0) (⟨Nat.zero_le _, noneTo_zero⟩) (by (refine ⟨[?_], ?_, ?_, ?_, ?_⟩; rotate_left 1; (· ((try simp (disch := omega) only [push_cast, seval]); (repeat' (first | exact trivial | exact rfl | refine And.intro ?_ ?_ | omega)))); (· ((try simp (disch := omega) only [push_cast, seval]); (repeat' (first | exact trivial | exact rfl | refine And.intro ?_ ?_ | omega)))); (· exact rfl); (· (first | exact trivial | exact ⟨rfl, trivial⟩ | exact ⟨rfl, rfl, trivial⟩)))) ?_
  intro k ρ hI
  (try dsimp only at hI)
  refine PWp.at (tm' := ?_) (H' := ?_) ?_ ?_ ?_; rotate_left 2; (· ((try simp only [push_cast, seval]); exact rfl)); (· ((try dsimp only); exact rfl))
  obtain ⟨hk, hA⟩ := hI
  by_cases hlt : k < t.fPeers.length
  · obtain ⟨x, hx⟩ : ∃ x, t.fPeers[k]? = some x := ⟨_, List.getElem?_eq_getElem hlt⟩
    by_cases he : x.fId = id
    · have e : peerIdx t.fPeers id = k := idx_some hx (by simpa using he) hA
      repeat' (first
          | with_reducible refine PWp.seq ?_
          | with_reducible refine PWp.block ?_
          | with_reducible refine PWp.region okP true ?_
          | with_reducible (first | refine pops_nil ?_ | refine pany_nil ?_ | refine pthen_normal ?_ | refine pblock_normal ?_ | refine pthen_ret ?_ | refine pblock_ret ?_ | refine pthen_exit ?_ | refine pblock_here ?_ | refine pblock_there rfl ?_ | refine PWp.ret ?_ | refine PWp.exit ?_ | refine PWp.skip ?_)
          | ((with_reducible refine hK _ ?_); clear hK K)
          | ((with_reducible refine PWp.condI ?_); refine ⟨_, rfl, fun hg => ?_, fun hg => ?_⟩ <;> first | (exact absurd hg (by decide)) | ((try simp only [Bool.not_true, Bool.not_false] at hg); (try simp only [hg]); (try simp only [push_cast] at hg); (try exact absurd trivial hg); (try (exfalso; omega))))
          | ((first | ((with_reducible refine pops_guard0 ?_); refine ⟨_, rfl, fun K hK => ⟨rfl, ?_⟩⟩) | ((with_reducible refine pD_g0 ?_); refine ⟨_, rfl, rfl, ?_⟩)); (try simp (disch := omega) only [push_cast, seval, hx, he]))
          | ((with_reducible refine pany_I ?_); refine ⟨_, rfl, fun K hK => ?_⟩)
          | ((with_reducible refine pops_plain fun K hK => ?_); simp (disch := omega) only [push_cast, seval, hx, he])
          | ((first | ((with_reducible refine pD_y ?_ ?_); exact rfl) | ((with_reducible refine pD_x ?_ ?_); exact rfl)); simp (disch := omega) only [push_cast, seval, hx, he])
          | ((first | ((with_reducible refine pops_guard ?_); refine ⟨_, rfl, fun K hK => ⟨_, rfl, fun hg => ?_, fun hg => ?_⟩⟩) | ((first | ((with_reducible refine pD_gy ?_ ?_); exact rfl) | ((with_reducible refine pD_gx ?_ ?_); exact rfl)); refine ⟨_, rfl, _, rfl, fun hg => ?_, fun hg => ?_⟩)) <;> first | (exact absurd hg (by decide)) | ((try simp only [Bool.not_true, Bool.not_false] at hg); (try simp only [hg]); (try simp only [push_cast] at hg); (try exact absurd trivial hg); (try (exfalso; omega)); (try simp (disch := omega) only [push_cast, seval, hx, he])))
          | ((with_reducible refine And.intro ?_ ?_); omega))
      ((first | with_reducible (first | refine pendV1 ?_ ?_ ?_ | refine pendV2 ?_ ?_ ?_ | refine pendV3 ?_ ?_ ?_ | refine pendV0 ?_ ?_ ?_) | refine pendVG ?_ ?_ ?_); (· (first | exact .inl rfl | exact .inr rfl)); rotate_left 1; (· exact rfl); (try (apply Exists.intro; apply And.intro; (· repeat' (first | exact presults_nil | apply presults_tmp | (apply presults_agg; (· exact rfl); (· exact rfl); (· exact rfl); (· exact rfl); (· exact rfl); (· first | exact Nat.le_refl _ | decide | simp)) | (apply presults_one; (· exact rfl); (· exact rfl); (· exact rfl); (· exact rfl); (· exact rfl)))))); (try simp only [push_cast, seval]))
      rw [e]
    ·
      repeat' (first
          | with_reducible refine PWp.seq ?_
          | with_reducible refine PWp.block ?_
          | with_reducible refine PWp.region okP true ?_
          | with_reducible (first | refine pops_nil ?_ | refine pany_nil ?_ | refine pthen_normal ?_ | refine pblock_normal ?_ | refine pthen_ret ?_ | refine pblock_ret ?_ | refine pthen_exit ?_ | refine pblock_here ?_ | refine pblock_there rfl ?_ | refine PWp.ret ?_ | refine PWp.exit ?_ | refine PWp.skip ?_)
          | ((with_reducible refine hK _ ?_); clear hK K)
          | ((with_reducible refine PWp.condI ?_); refine ⟨_, rfl, fun hg => ?_, fun hg => ?_⟩ <;> first | (exact absurd hg (by decide)) | ((try simp only [Bool.not_true, Bool.not_false] at hg); (try simp only [hg]); (try simp only [push_cast] at hg); (try exact absurd trivial hg); (try (exfalso; omega))))
          | ((first | ((with_reducible refine pops_guard0 ?_); refine ⟨_, rfl, fun K hK => ⟨rfl, ?_⟩⟩) | ((with_reducible refine pD_g0 ?_); refine ⟨_, rfl, rfl, ?_⟩)); (try simp (disch := omega) only [push_cast, seval, hx]))
          | ((with_reducible refine pany_I ?_); refine ⟨_, rfl, fun K hK => ?_⟩)
          | ((with_reducible refine pops_plain fun K hK => ?_); simp (disch := omega) only [push_cast, seval, hx])
          | ((first | ((with_reducible refine pD_y ?_ ?_); exact rfl) | ((with_reducible refine pD_x ?_ ?_); exact rfl)); simp (disch := omega) only [push_cast, seval, hx])
          | ((first | ((with_reducible refine pops_guard ?_); refine ⟨_, rfl, fun K hK => ⟨_, rfl, fun hg => ?_, fun hg => ?_⟩⟩) | ((first | ((with_reducible refine pD_gy ?_ ?_); exact rfl) | ((with_reducible refine pD_gx ?_ ?_); exact rfl)); refine ⟨_, rfl, _, rfl, fun hg => ?_, fun hg => ?_⟩)) <;> first | (exact absurd hg (by decide)) | ((try simp only [Bool.not_true, Bool.not_false] at hg); (try simp only [hg]); (try simp only [push_cast] at hg); (try exact absurd trivial hg); (try (exfalso; omega)); (try simp (disch := omega) only [push_cast, seval, hx])))
          | ((with_reducible refine And.intro ?_ ?_); omega))
      (refine ⟨k + 1, by ((try dsimp only); omega), ?_, by (refine ⟨[?_], ?_, ?_, ?_, ?_⟩; rotate_left 1; (· ((try simp (disch := omega) only [push_cast, seval]); (repeat' (first | exact trivial | exact rfl | refine And.intro ?_ ?_ | omega)))); (· ((try simp (disch := omega) only [push_cast, seval]); (repeat' (first | exact trivial | exact rfl | refine And.intro ?_ ?_ | omega)))); (· exact rfl); (· (first | exact trivial | exact ⟨rfl, trivial⟩ | exact ⟨rfl, rfl, trivial⟩)))⟩)
      exact ⟨hlt, noneTo_succ hA hx (by simpa using he)⟩
  obtain rfl : k = t.fPeers.length := by omega
  have e : peerIdx t.fPeers id = -1 := noneTo_end hA
  repeat' (first
      | with_reducible refine PWp.seq ?_
      | with_reducible refine PWp.block ?_
      | with_reducible refine PWp.region okP true ?_
      | with_reducible (first | refine pops_nil ?_ | refine pany_nil ?_ | refine pthen_normal ?_ | refine pblock_normal ?_ | refine pthen_ret ?_ | refine pblock_ret ?_ | refine pthen_exit ?_ | refine pblock_here ?_ | refine pblock_there rfl ?_ | refine PWp.ret ?_ | refine PWp.exit ?_ | refine PWp.skip ?_)
      | ((with_reducible refine hK _ ?_); clear hK K)
      | ((with_reducible refine PWp.condI ?_); refine ⟨_, rfl, fun hg => ?_, fun hg => ?_⟩ <;> first | (exact absurd hg (by decide)) | ((try simp only [Bool.not_true, Bool.not_false] at hg); (try simp only [hg]); (try simp only [push_cast] at hg); (try exact absurd trivial hg); (try (exfalso; omega))))
      | ((first | ((with_reducible refine pops_guard0 ?_); refine ⟨_, rfl, fun K hK => ⟨rfl, ?_⟩⟩) | ((with_reducible refine pD_g0 ?_); refine ⟨_, rfl, rfl, ?_⟩)); (try simp (disch := omega) only [push_cast, seval]))
      | ((with_reducible refine pany_I ?_); refine ⟨_, rfl, fun K hK => ?_⟩)
      | ((with_reducible refine pops_plain fun K hK => ?_); simp (disch := omega) only [push_cast, seval])
      | ((first | ((with_reducible refine pD_y ?_ ?_); exact rfl) | ((with_reducible refine pD_x ?_ ?_); exact rfl)); simp (disch := omega) only [push_cast, seval])
      | ((first | ((with_reducible refine pops_guard ?_); refine ⟨_, rfl, fun K hK => ⟨_, rfl, fun hg => ?_, fun hg => ?_⟩⟩) | ((first | ((with_reducible refine pD_gy ?_ ?_); exact rfl) | ((with_reducible refine pD_gx ?_ ?_); exact rfl)); refine ⟨_, rfl, _, rfl, fun hg => ?_, fun hg => ?_⟩)) <;> first | (exact absurd hg (by decide)) | ((try simp only [Bool.not_true, Bool.not_false] at hg); (try simp only [hg]); (try simp only [push_cast] at hg); (try exact absurd trivial hg); (try (exfalso; omega)); (try simp (disch := omega) only [push_cast, seval])))
      | ((with_reducible refine And.intro ?_ ?_); omega))
  ((first | with_reducible (first | refine pendV1 ?_ ?_ ?_ | refine pendV2 ?_ ?_ ?_ | refine pendV3 ?_ ?_ ?_ | refine pendV0 ?_ ?_ ?_) | refine pendVG ?_ ?_ ?_); (· (first | exact .inl rfl | exact .inr rfl)); rotate_left 1; (· exact rfl); (try (apply Exists.intro; apply And.intro; (· repeat' (first | exact presults_nil | apply presults_tmp | (apply presults_agg; (· exact rfl); (· exact rfl); (· exact rfl); (· exact rfl); (· exact rfl); (· first | exact Nat.le_refl _ | decide | simp)) | (apply presults_one; (· exact rfl); (· exact rfl); (· exact rfl); (· exact rfl); (· exact rfl)))))); (try simp only [push_cast, seval]))
  rw [e]
theorem at1_p (p : GPeer) (id : Int) : PCalls Tryd.prog 97 [.agg (pPeer p), .eptr [.val (.int .i64 id)] 0] [] (RV (.val (.bool (decide (p.fId = id))))) := by
  refine pcalls_ofR okP Tryd.func97 rfl ?_
  simp only [Tryd.f97, List.length_cons, List.length_nil, Nat.reduceAdd, Nat.reduceSub, List.replicate_succ, List.replicate_zero, List.cons_append, List.nil_append, List.length_map]
  repeat' (first
      | with_reducible refine PWp.seq ?_
      | with_reducible refine PWp.block ?_
      | with_reducible refine PWp.region okP true ?_
      | with_reducible (first | refine pops_nil ?_ | refine pany_nil ?_ | refine pthen_normal ?_ | refine pblock_normal ?_ | refine pthen_ret ?_ | refine pblock_ret ?_ | refine pthen_exit ?_ | refine pblock_here ?_ | refine pblock_there rfl ?_ | refine PWp.ret ?_ | refine PWp.exit ?_ | refine PWp.skip ?_)
      | ((with_reducible refine hK _ ?_); clear hK K)
      | ((with_reducible refine PWp.condI ?_); refine ⟨_, rfl, fun hg => ?_, fun hg => ?_⟩ <;> first | (exact absurd hg (by decide)) | ((try simp only [Bool.not_true, Bool.not_false] at hg); (try simp only [hg]); (try simp only [push_cast] at hg); (try exact absurd trivial hg); (try (exfalso; omega))))
      | ((first | ((with_reducible refine pops_guard0 ?_); refine ⟨_, rfl, fun K hK => ⟨rfl, ?_⟩⟩) | ((with_reducible refine pD_g0 ?_); refine ⟨_, rfl, rfl, ?_⟩)); (try simp (disch := omega) only [push_cast, seval]))
      | ((with_reducible refine pany_I ?_); refine ⟨_, rfl, fun K hK => ?_⟩)
      | ((with_reducible refine pops_plain fun K hK => ?_); simp (disch := omega) only [push_cast, seval])
      | ((first | ((with_reducible refine pD_y ?_ ?_); exact rfl) | ((with_reducible refine pD_x ?_ ?_); exact rfl)); simp (disch := omega) only [push_cast, seval])
      | ((first | ((with_reducible refine pops_guard ?_); refine ⟨_, rfl, fun K hK => ⟨_, rfl, fun hg => ?_, fun hg => ?_⟩⟩) | ((first | ((with_reducible refine pD_gy ?_ ?_); exact rfl) | ((with_reducible refine pD_gx ?_ ?_); exact rfl)); refine ⟨_, rfl, _, rfl, fun hg => ?_, fun hg => ?_⟩)) <;> first | (exact absurd hg (by decide)) | ((try simp only [Bool.not_true, Bool.not_false] at hg); (try simp only [hg]); (try simp only [push_cast] at hg); (try exact absurd trivial hg); (try (exfalso; omega)); (try simp (disch := omega) only [push_cast, seval])))
      | ((with_reducible refine And.intro ?_ ?_); omega))
  ((first | with_reducible (first | refine pendV1 ?_ ?_ ?_ | refine pendV2 ?_ ?_ ?_ | refine pendV3 ?_ ?_ ?_ | refine pendV0 ?_ ?_ ?_) | refine pendVG ?_ ?_ ?_); (· (first | exact .inl rfl | exact .inr rfl)); rotate_left 1; (· exact rfl); (try (apply Exists.intro; apply And.intro; (· repeat' (first | exact presults_nil | apply presults_tmp | (apply presults_agg; (· exact rfl); (· exact rfl); (· exact rfl); (· exact rfl); (· exact rfl); (· first | exact Nat.le_refl _ | decide | simp)) | (apply presults_one; (· exact rfl); (· exact rfl); (· exact rfl); (· exact rfl); (· exact rfl)))))); (try simp only [push_cast, seval]))
  exact eqI_B
theorem idxPeer_p (l : List GPeer) (id : Int) (hl : l.length ≤ 1099511627776) : PCalls Tryd.prog 96 [.sl 4 (l.map pPeer), .clo 97 [.eptr [.val (.int .i64 id)] 0]] [] (RV (.val (.int .i64 (peerIdx l id)))) := by
  have cloC : Callable Tryd.prog 97 := callable_of Tryd.func97 rfl rfl
  refine pcalls_ofR okP Tryd.func96 rfl ?_
  simp only [Tryd.f96, List.length_cons, List.length_nil, Nat.reduceAdd, Nat.reduceSub, List.replicate_succ, List.replicate_zero, List.cons_append, List.nil_append, List.length_map]
  repeat' (first
      | with_reducible refine PWp.seq ?_
      | with_reducible refine PWp.block ?_
      | with_reducible refine PWp.region okP true ?_
      | with_reducible (first | refine pops_nil ?_ | refine pany_nil ?_ | refine pthen_normal ?_ | refine pblock_normal ?_ | refine pthen_ret ?_ | refine pblock_ret ?_ | refine pthen_exit ?_ | refine pblock_here ?_ | refine pblock_there rfl ?_ | refine PWp.ret ?_ | refine PWp.exit ?_ | refine PWp.skip ?_)
      | ((with_reducible refine hK _ ?_); clear hK K)
      | ((with_reducible refine PWp.condI ?_); refine ⟨_, rfl, fun hg => ?_, fun hg => ?_⟩ <;> first | (exact absurd hg (by decide)) | ((try simp only [Bool.not_true, Bool.not_false] at hg); (try simp only [hg]); (try simp only [push_cast] at hg); (try exact absurd trivial hg); (try (exfalso; omega))))
      | ((first | ((with_reducible refine pops_guard0 ?_); refine ⟨_, rfl, fun K hK => ⟨rfl, ?_⟩⟩) | ((with_reducible refine pD_g0 ?_); refine ⟨_, rfl, rfl, ?_⟩)); (try simp (disch := omega) only [push_cast, seval]))
      | ((with_reducible refine pany_I ?_); refine ⟨_, rfl, fun K hK => ?_⟩)
      | ((with_reducible refine pops_plain fun K hK => ?_); simp (disch := omega) only [push_cast, seval])
      | ((first | ((with_reducible refine pD_y ?_ ?_); exact rfl) | ((with_reducible refine pD_x ?_ ?_); exact rfl)); simp (disch := omega) only [push_cast, seval])
      | ((first | ((with_reducible refine pops_guard ?_); refine ⟨_, rfl, fun K hK => ⟨_, rfl, fun hg => ?_, fun hg => ?_⟩⟩) | ((first | ((with_reducible refine pD_gy ?_ ?_); exact rfl) | ((with_reducible refine pD_gx ?_ ?_); exact rfl)); refine ⟨_, rfl, _, rfl, fun hg => ?_, fun hg => ?_⟩)) <;> first | (exact absurd hg (by decide)) | ((try simp only [Bool.not_true, Bool.not_false] at hg); (try simp only [hg]); (try simp only [push_cast] at hg); (try exact absurd trivial hg); (try (exfalso; omega)); (try simp (disch := omega) only [push_cast, seval])))
      | ((with_reducible show pcall _ _ _ _ _ _); refine pcall_RV (g := 97) cloC (at1_p ⟨_, _, _, _⟩ _) rfl (by (repeat' (first | exact trivial | exact rfl | exact vwOk_clo rfl | exact rowsC fun _ => rfl | exact rowsC2 fun _ => rfl | exact rowsC1 (fun _ => rfl) rfl | refine And.intro ?_ ?_ | refine vwOk_ag ?_ | refine vwOk_cl ?_))) ?_; (try simp (disch := omega) only [push_cast, seval]))
      | ((with_reducible refine And.intro ?_ ?_); omega))
  refine PWp.loopK (α := Nat) (fun k => [(8, .val (.int .i64 (k : Int)))]) [2, 3, 4, 5, 6, 9, 10, 11, 12, 13, 14, 15, 16, 17, 18] (fun k => []) (fun k => k ≤ l.length ∧ noneTo (fun p => decide (p.fId = id)) l k) (fun k => l.length - k) (0) (⟨Nat.zero_le _, noneTo_zero⟩) (by (refine ⟨[], ?_, ?_, ?_, ?_⟩; (· ((try simp (disch := omega) only [push_cast, seval]); (repeat' (first | exact trivial | exact rfl | refine And.intro ?_ ?_ | omega)))); (· ((try simp (disch := omega) only [push_cast, seval]); (repeat' (first | exact trivial | exact rfl | refine And.intro ?_ ?_ | omega)))); (· exact rfl); (· (first | exact trivial | exact ⟨rfl, trivial⟩ | exact ⟨rfl, rfl, trivial⟩)))) ?_
  intro k ρ hI
  (try dsimp only at hI)
  refine PWp.at (tm' := ?_) (H' := ?_) ?_ ?_ ?_; rotate_left 2; (· ((try simp only [push_cast, seval]); exact rfl)); (· ((try dsimp only); exact rfl))
  obtain ⟨hk, hA⟩ := hI
  by_cases hlt : k < l.length
  · obtain ⟨x, hx⟩ : ∃ x, l[k]? = some x := ⟨_, List.getElem?_eq_getElem hlt⟩
    by_cases he : x.fId = id
    · have e : peerIdx l id = k := idx_some hx (by simpa using he) hA
      repeat' (first
          | with_reducible refine PWp.seq ?_
          | with_reducible refine PWp.block ?_
          | with_reducible refine PWp.region okP true ?_
          | with_reducible (first | refine pops_nil ?_ | refine pany_nil ?_ | refine pthen_normal ?_ | refine pblock_normal ?_ | refine pthen_ret ?_ | refine pblock_ret ?_ | refine pthen_exit ?_ | refine pblock_here ?_ | refine pblock_there rfl ?_ | refine PWp.ret ?_ | refine PWp.exit ?_ | refine PWp.skip ?_)
          | ((with_reducible refine hK _ ?_); clear hK K)
          | ((with_reducible refine PWp.condI ?_); refine ⟨_, rfl, fun hg => ?_, fun hg => ?_⟩ <;> first | (exact absurd hg (by decide)) | ((try simp only [Bool.not_true, Bool.not_false] at hg); (try simp only [hg]); (try simp only [push_cast] at hg); (try exact absurd trivial hg); (try (exfalso; omega))))
          | ((first | ((with_reducible refine pops_guard0 ?_); refine ⟨_, rfl, fun K hK => ⟨rfl, ?_⟩⟩) | ((with_reducible refine pD_g0 ?_); refine ⟨_, rfl, rfl, ?_⟩)); (try simp (disch := omega) only [push_cast, seval, hx, he]))
          | ((with_reducible refine pany_I ?_); refine ⟨_, rfl, fun K hK => ?_⟩)
          | ((with_reducible refine pops_plain fun K hK => ?_); simp (disch := omega) only [push_cast, seval, hx, he])
          | ((first | ((with_reducible refine pD_y ?_ ?_); exact rfl) | ((with_reducible refine pD_x ?_ ?_); exact rfl)); simp (disch := omega) only [push_cast, seval, hx, he])
          | ((first | ((with_reducible refine pops_guard ?_); refine ⟨_, rfl, fun K hK => ⟨_, rfl, fun hg => ?_, fun hg => ?_⟩⟩) | ((first | ((with_reducible refine pD_gy ?_ ?_); exact rfl) | ((with_reducible refine pD_gx ?_ ?_); exact rfl)); refine ⟨_, rfl, _, rfl, fun hg => ?_, fun hg => ?_⟩)) <;> first | (exact absurd hg (by decide)) | ((try simp only [Bool.not_true, Bool.not_false] at hg); (try simp only [hg]); (try simp only [push_cast] at hg); (try exact absurd trivial hg); (try (exfalso; omega)); (try simp (disch := omega) only [push_cast, seval, hx, he])))
          | ((with_reducible show pcall _ _ _ _ _ _); refine pcall_RV (g := 97) cloC (at1_p ⟨_, _, _, _⟩ _) rfl (by (repeat' (first | exact trivial | exact rfl | exact vwOk_clo rfl | exact rowsC fun _ => rfl | exact rowsC2 fun _ => rfl | exact rowsC1 (fun _ => rfl) rfl | refine And.intro ?_ ?_ | refine vwOk_ag ?_ | refine vwOk_cl ?_))) ?_; (try simp (disch := omega) only [push_cast, seval, hx, he]))
          | ((with_reducible refine And.intro ?_ ?_); omega))
      ((first | with_reducible (first | refine pendV1 ?_ ?_ ?_ | refine pendV2 ?_ ?_ ?_ | refine pendV3 ?_ ?_ ?_ | refine pendV0 ?_ ?_ ?_) | refine pendVG ?_ ?_ ?_); (· (first | exact .inl rfl | exact .inr rfl)); rotate_left 1; (· exact rfl); (try (apply Exists.intro; apply And.intro; (· repeat' (first | exact presults_nil | apply presults_tmp | (apply presults_agg; (· exact rfl); (· exact rfl); (· exact rfl); (· exact rfl); (· exact rfl); (· first | exact Nat.le_refl _ | decide | simp)) | (apply presults_one; (· exact rfl); (· exact rfl); (· exact rfl); (· exact rfl); (· exact rfl)))))); (try simp only [push_cast, seval]))
      rw [e]
    ·
      repeat' (first
          | with_reducible refine PWp.seq ?_
          | with_reducible refine PWp.block ?_
          | with_reducible refine PWp.region okP true ?_
          | with_reducible (first | refine pops_nil ?_ | refine pany_nil ?_ | refine pthen_normal ?_ | refine pblock_normal ?_ | refine pthen_ret ?_ | refine pblock_ret ?_ | refine pthen_exit ?_ | refine pblock_here ?_ | refine pblock_there rfl ?_ | refine PWp.ret ?_ | refine PWp.exit ?_ | refine PWp.skip ?_)
          | ((with_reducible refine hK _ ?_); clear hK K)
          | ((with_reducible refine PWp.condI ?_); refine ⟨_, rfl, fun hg => ?_, fun hg => ?_⟩ <;> first | (exact absurd hg (by decide)) | ((try simp only [Bool.not_true, Bool.not_false] at hg); (try simp only [hg]); (try simp only [push_cast] at hg); (try exact absurd trivial hg); (try (exfalso; omega))))
          | ((first | ((with_reducible refine pops_guard0 ?_); refine ⟨_, rfl, fun K hK => ⟨rfl, ?_⟩⟩) | ((with_reducible refine pD_g0 ?_); refine ⟨_, rfl, rfl, ?_⟩)); (try simp (disch := omega) only [push_cast, seval, hx]))
          | ((with_reducible refine pany_I ?_); refine ⟨_, rfl, fun K hK => ?_⟩)
          | ((with_reducible refine pops_plain fun K hK => ?_); simp (disch := omega) only [push_cast, seval, hx])
          | ((first | ((with_reducible refine pD_y ?_ ?_); exact rfl) | ((with_reducible refine pD_x ?_ ?_); exact rfl)); simp (disch := omega) only [push_cast, seval, hx])
          | ((first | ((with_reducible refine pops_guard ?_); refine ⟨_, rfl, fun K hK => ⟨_, rfl, fun hg => ?_, fun hg => ?_⟩⟩) | ((first | ((with_reducible refine pD_gy ?_ ?_); exact rfl) | ((with_reducible refine pD_gx ?_ ?_); exact rfl)); refine ⟨_, rfl, _, rfl, fun hg => ?_, fun hg => ?_⟩)) <;> first | (exact absurd hg (by decide)) | ((try simp only [Bool.not_true, Bool.not_false] at hg); (try simp only [hg]); (try simp only [push_cast] at hg); (try exact absurd trivial hg); (try (exfalso; omega)); (try simp (disch := omega) only [push_cast, seval, hx])))
          | ((with_reducible show pcall _ _ _ _ _ _); refine pcall_RV (g := 97) cloC (at1_p ⟨_, _, _, _⟩ _) rfl (by (repeat' (first | exact trivial | exact rfl | exact vwOk_clo rfl | exact rowsC fun _ => rfl | exact rowsC2 fun _ => rfl | exact rowsC1 (fun _ => rfl) rfl | refine And.intro ?_ ?_ | refine vwOk_ag ?_ | refine vwOk_cl ?_))) ?_; (try simp (disch := omega) only [push_cast, seval, hx]))
          | ((with_reducible refine And.intro ?_ ?_); omega))
      (refine ⟨k + 1, by ((try dsimp only); omega), ?_, by (refine ⟨[], ?_, ?_, ?_, ?_⟩; (· ((try simp (disch := omega) only [push_cast, seval]); (repeat' (first | exact trivial | exact rfl | refine And.intro ?_ ?_ | omega)))); (· ((try simp (disch := omega) only [push_cast, seval]); (repeat' (first | exact trivial | exact rfl | refine And.intro ?_ ?_ | omega)))); (· exact rfl); (· (first | exact trivial | exact ⟨rfl, trivial⟩ | exact ⟨rfl, rfl, trivial⟩)))⟩)
      exact ⟨hlt, noneTo_succ hA hx (by simpa using he)⟩
  obtain rfl : k = l.length := by omega
  have e : peerIdx l id = -1 := noneTo_end hA
  repeat' (first
      | with_reducible refine PWp.seq ?_
      | with_reducible refine PWp.block ?_
      | with_reducible refine PWp.region okP true ?_
      | with_reducible (first | refine pops_nil ?_ | refine pany_nil ?_ | refine pthen_normal ?_ | refine pblock_normal ?_ | refine pthen_ret ?_ | refine pblock_ret ?_ | refine pthen_exit ?_ | refine pblock_here ?_ | refine pblock_there rfl ?_ | refine PWp.ret ?_ | refine PWp.exit ?_ | refine PWp.skip ?_)
      | ((with_reducible refine hK _ ?_); clear hK K)
      | ((with_reducible refine PWp.condI ?_); refine ⟨_, rfl, fun hg => ?_, fun hg => ?_⟩ <;> first | (exact absurd hg (by decide)) | ((try simp only [Bool.not_true, Bool.not_false] at hg); (try simp only [hg]); (try simp only [push_cast] at hg); (try exact absurd trivial hg); (try (exfalso; omega))))
      | ((first | ((with_reducible refine pops_guard0 ?_); refine ⟨_, rfl, fun K hK => ⟨rfl, ?_⟩⟩) | ((with_reducible refine pD_g0 ?_); refine ⟨_, rfl, rfl, ?_⟩)); (try simp (disch := omega) only [push_cast, seval]))
      | ((with_reducible refine pany_I ?_); refine ⟨_, rfl, fun K hK => ?_⟩)
      | ((with_reducible refine pops_plain fun K hK => ?_); simp (disch := omega) only [push_cast, seval])
      | ((first | ((with_reducible refine pD_y ?_ ?_); exact rfl) | ((with_reducible refine pD_x ?_ ?_); exact rfl)); simp (disch := omega) only [push_cast, seval])
      | ((first | ((with_reducible refine pops_guard ?_); refine ⟨_, rfl, fun K hK => ⟨_, rfl, fun hg => ?_, fun hg => ?_⟩⟩) | ((first | ((with_reducible refine pD_gy ?_ ?_); exact rfl) | ((with_reducible refine pD_gx ?_ ?_); exact rfl)); refine ⟨_, rfl, _, rfl, fun hg => ?_, fun hg => ?_⟩)) <;> first | (exact absurd hg (by decide)) | ((try simp only [Bool.not_true, Bool.not_false] at hg); (try simp only [hg]); (try simp only [push_cast] at hg); (try exact absurd trivial hg); (try (exfalso; omega)); (try simp (disch := omega) only [push_cast, seval])))
      | ((with_reducible show pcall _ _ _ _ _ _); refine pcall_RV (g := 97) cloC (at1_p ⟨_, _, _, _⟩ _) rfl (by (repeat' (first | exact trivial | exact rfl | exact vwOk_clo rfl | exact rowsC fun _ => rfl | exact rowsC2 fun _ => rfl | exact rowsC1 (fun _ => rfl) rfl | refine And.intro ?_ ?_ | refine vwOk_ag ?_ | refine vwOk_cl ?_))) ?_; (try simp (disch := omega) only [push_cast, seval]))
      | ((with_reducible refine And.intro ?_ ?_); omega))
  ((first | with_reducible (first | refine pendV1 ?_ ?_ ?_ | refine pendV2 ?_ ?_ ?_ | refine pendV3 ?_ ?_ ?_ | refine pendV0 ?_ ?_ ?_) | refine pendVG ?_ ?_ ?_); (· (first | exact .inl rfl | exact .inr rfl)); rotate_left 1; (· exact rfl); (try (apply Exists.intro; apply And.intro; (· repeat' (first | exact presults_nil | apply presults_tmp | (apply presults_agg; (· exact rfl); (· exact rfl); (· exact rfl); (· exact rfl); (· exact rfl); (· first | exact Nat.le_refl _ | decide | simp)) | (apply presults_one; (· exact rfl); (· exact rfl); (· exact rfl); (· exact rfl); (· exact rfl)))))); (try simp only [push_cast, seval]))
  rw [e]
theorem iAt_p (t : GTable) (id : Int) (hl : t.fPeers.length ≤ 1099511627776) : PCalls Tryd.prog 78 [.agg (pTable t), .val (.int .i64 id)] [] (RV (.val (.int .i64 (peerIdx t.fPeers id)))) := by
  refine pcalls_ofR okP Tryd.func78 rfl ?_
  simp only [Tryd.f78, List.length_cons, List.length_nil, Nat.reduceAdd, Nat.reduceSub, List.replicate_succ, List.replicate_zero, List.cons_append, List.nil_append, List.length_map]
  repeat' (first
      | with_reducible refine PWp.seq ?_
      | with_reducible refine PWp.block ?_
      | with_reducible refine PWp.region okP true ?_
      | with_reducible (first | refine pops_nil ?_ | refine pany_nil ?_ | refine pthen_normal ?_ | refine pblock_normal ?_ | refine pthen_ret ?_ | refine pblock_ret ?_ | refine pthen_exit ?_ | refine pblock_here ?_ | refine pblock_there rfl ?_ | refine PWp.ret ?_ | refine PWp.exit ?_ | refine PWp.skip ?_)
      | ((with_reducible refine hK _ ?_); clear hK K)
      | ((with_reducible refine PWp.condI ?_); refine ⟨_, rfl, fun hg => ?_, fun hg => ?_⟩ <;> first | (exact absurd hg (by decide)) | ((try simp only [Bool.not_true, Bool.not_false] at hg); (try simp only [hg]); (try simp only [push_cast] at hg); (try exact absurd trivial hg); (try (exfalso; omega))))
      | ((first | ((with_reducible refine pops_guard0 ?_); refine ⟨_, rfl, fun K hK => ⟨rfl, ?_⟩⟩) | ((with_reducible refine pD_g0 ?_); refine ⟨_, rfl, rfl, ?_⟩)); (try simp (disch := omega) only [push_cast, seval]))
      | ((with_reducible refine pany_I ?_); refine ⟨_, rfl, fun K hK => ?_⟩)
      | ((with_reducible refine pops_plain fun K hK => ?_); simp (disch := omega) only [push_cast, seval])
      | ((first | ((with_reducible refine pD_y ?_ ?_); exact rfl) | ((with_reducible refine pD_x ?_ ?_); exact rfl)); simp (disch := omega) only [push_cast, seval])
      | ((first | ((with_reducible refine pops_guard ?_); refine ⟨_, rfl, fun K hK => ⟨_, rfl, fun hg => ?_, fun hg => ?_⟩⟩) | ((first | ((with_reducible refine pD_gy ?_ ?_); exact rfl) | ((with_reducible refine pD_gx ?_ ?_); exact rfl)); refine ⟨_, rfl, _, rfl, fun hg => ?_, fun hg => ?_⟩)) <;> first | (exact absurd hg (by decide)) | ((try simp only [Bool.not_true, Bool.not_false] at hg); (try simp only [hg]); (try simp only [push_cast] at hg); (try exact absurd trivial hg); (try (exfalso; omega)); (try simp (disch := omega) only [push_cast, seval])))
      | ((with_reducible show pcall _ _ _ _ _ _); refine pcall_RV (g := 96) (callable_of Tryd.func96 rfl rfl) (idxPeer_p _ _ (by (first | assumption | omega | (simp; omega) | (simp_all; done) | (simp_all; omega)))) rfl (by (repeat' (first | exact trivial | exact rfl | exact vwOk_clo rfl | exact rowsC fun _ => rfl | exact rowsC2 fun _ => rfl | exact rowsC1 (fun _ => rfl) rfl | refine And.intro ?_ ?_ | refine vwOk_ag ?_ | refine vwOk_cl ?_))) ?_; (try simp (disch := omega) only [push_cast, seval]))
      | ((with_reducible refine And.intro ?_ ?_); omega))
  ((first | with_reducible (first | refine pendV1 ?_ ?_ ?_ | refine pendV2 ?_ ?_ ?_ | refine pendV3 ?_ ?_ ?_ | refine pendV0 ?_ ?_ ?_) | refine pendVG ?_ ?_ ?_); (· (first | exact .inl rfl | exact .inr rfl)); rotate_left 1; (· exact rfl); (try (apply Exists.intro; apply And.intro; (· repeat' (first | exact presults_nil | apply presults_tmp | (apply presults_agg; (· exact rfl); (· exact rfl); (· exact rfl); (· exact rfl); (· exact rfl); (· first | exact Nat.le_refl _ | decide | simp)) | (apply presults_one; (· exact rfl); (· exact rfl); (· exact rfl); (· exact rfl); (· exact rfl)))))); (try simp only [push_cast, seval]))
theorem table_bad {t : GTable} {k : Nat} (hlt : k < t.fPeers.length) (h : peerAt t.fPeers k = false) : tableOk t = false := by
  unfold tableOk
  rw [allN_no hlt h]
  rfl
set_option maxHeartbeats 1000000 in
theorem iTableOk_p (t : GTable) (hl : t.fPeers.length ≤ 1099511627776) : PCalls Tryd.prog 47 [.agg (pTable t)] [] (RV (.val (.bool (tableOk t)))) := by
  refine pcalls_ofR okP Tryd.func47 rfl ?_
  simp only [Tryd.f47, List.length_cons, List.length_nil, Nat.reduceAdd, Nat.reduceSub, List.replicate_succ, List.replicate_zero, List.cons_append, List.nil_append, List.length_map]
  repeat' (first
      | with_reducible refine PWp.seq ?_
      | with_reducible refine PWp.block ?_
      | with_reducible refine PWp.region okP true ?_
      | with_reducible (first | refine pops_nil ?_ | refine pany_nil ?_ | refine pthen_normal ?_ | refine pblock_normal ?_ | refine pthen_ret ?_ | refine pblock_ret ?_ | refine pthen_exit ?_ | refine pblock_here ?_ | refine pblock_there rfl ?_ | refine PWp.ret ?_ | refine PWp.exit ?_ | refine PWp.skip ?_)
      | ((with_reducible refine hK _ ?_); clear hK K)
      | ((with_reducible refine PWp.condI ?_); refine ⟨_, rfl, fun hg => ?_, fun hg => ?_⟩ <;> first | (exact absurd hg (by decide)) | ((try simp only [Bool.not_true, Bool.not_false] at hg); (try simp only [hg]); (try simp only [push_cast] at hg); (try exact absurd trivial hg); (try (exfalso; omega))))
      | ((first | ((with_reducible refine pops_guard0 ?_); refine ⟨_, rfl, fun K hK => ⟨rfl, ?_⟩⟩) | ((with_reducible refine pD_g0 ?_); refine ⟨_, rfl, rfl, ?_⟩)); (try simp (disch := omega) only [push_cast, seval]))
      | ((with_reducible refine pany_I ?_); refine ⟨_, rfl, fun K hK => ?_⟩)
      | ((with_reducible refine pops_plain fun K hK => ?_); simp (disch := omega) only [push_cast, seval])
      | ((first | ((with_reducible refine pD_y ?_ ?_); exact rfl) | ((with_reducible refine pD_x ?_ ?_); exact rfl)); simp (disch := omega) only [push_cast, seval])
      | ((first | ((with_reducible refine pops_guard ?_); refine ⟨_, rfl, fun K hK => ⟨_, rfl, fun hg => ?_, fun hg => ?_⟩⟩) | ((first | ((with_reducible refine pD_gy ?_ ?_); exact rfl) | ((with_reducible refine pD_gx ?_ ?_); exact rfl)); refine ⟨_, rfl, _, rfl, fun hg => ?_, fun hg => ?_⟩)) <;> first | (exact absurd hg (by decide)) | ((try simp only [Bool.not_true, Bool.not_false] at hg); (try simp only [hg]); (try simp only [push_cast] at hg); (try exact absurd trivial hg); (try (exfalso; omega)); (try simp (disch := omega) only [push_cast, seval])))
      | ((with_reducible show pcall _ _ _ _ _ _); refine pcall_RV (g := 48) (callable_of Tryd.func48 rfl rfl) (within_p _ _ _) rfl (by (repeat' (first | exact trivial | exact rfl | exact vwOk_clo rfl | exact rowsC fun _ => rfl | exact rowsC2 fun _ => rfl | exact rowsC1 (fun _ => rfl) rfl | refine And.intro ?_ ?_ | refine vwOk_ag ?_ | refine vwOk_cl ?_))) ?_; (try simp (disch := omega) only [push_cast, seval]))
      | ((with_reducible show pcall _ _ _ _ _ _); refine pcall_RV (g := 49) (callable_of Tryd.func49 rfl rfl) (isTime_p _) rfl (by (repeat' (first | exact trivial | exact rfl | exact vwOk_clo rfl | exact rowsC fun _ => rfl | exact rowsC2 fun _ => rfl | exact rowsC1 (fun _ => rfl) rfl | refine And.intro ?_ ?_ | refine vwOk_ag ?_ | refine vwOk_cl ?_))) ?_; (try simp (disch := omega) only [push_cast, seval]))
      | ((with_reducible show pcall _ _ _ _ _ _); refine pcall_RV (g := 78) (callable_of Tryd.func78 rfl rfl) (iAt_p ⟨_, _⟩ _ (by (first | assumption | omega | (simp; omega) | (simp_all; done) | (simp_all; omega)))) rfl (by (repeat' (first | exact trivial | exact rfl | exact vwOk_clo rfl | exact rowsC fun _ => rfl | exact rowsC2 fun _ => rfl | exact rowsC1 (fun _ => rfl) rfl | refine And.intro ?_ ?_ | refine vwOk_ag ?_ | refine vwOk_cl ?_))) ?_; (try simp (disch := omega) only [push_cast, seval]))
      | ((with_reducible refine And.intro ?_ ?_); omega))
  refine PWp.loopK (α := Nat) (fun k => [(1, .ptr 0 0), (8, .val (.int .i64 (k : Int)))]) [0, 2, 3, 4, 5, 9, 10, 11, 12, 13, 14, 15, 16, 17, 18, 19, 20, 21, 22, 23, 24, 25, 26, 27, 28, 29, 30, 31, 32, 33, 34, 35, 36, 37] (fun k => [some (.box (pTable t))]) (fun k => k ≤ t.fPeers.length ∧ allTo (peerAt t.fPeers) k) (fun k => t.fPeers.length - k) (0) (⟨Nat.zero_le _, allTo_zero⟩) (by (refine ⟨[?_], ?_, ?_, ?_, ?_⟩; rotate_left 1; (· ((try simp (disch := omega) only [push_cast, seval]); (repeat' (first | exact trivial | exact rfl | refine And.intro ?_ ?_ | omega)))); (· ((try simp (disch := omega) only [push_cast, seval]); (repeat' (first | exact trivial | exact rfl | refine And.intro ?_ ?_ | omega)))); (· exact rfl); (· (first | exact trivial | exact ⟨rfl, trivial⟩ | exact ⟨rfl, rfl, trivial⟩)))) ?_
  intro k ρ hI
  (try dsimp only at hI)
  refine PWp.at (tm' := ?_) (H' := ?_) ?_ ?_ ?_; rotate_left 2; (· ((try simp only [push_cast, seval]); exact rfl)); (· ((try dsimp only); exact rfl))
  obtain ⟨hk, hA⟩ := hI
  by_cases hlt : k < t.fPeers.length
  · obtain ⟨x, hx⟩ : ∃ x, t.fPeers[k]? = some x := ⟨_, List.getElem?_eq_getElem hlt⟩
    have bad := table_bad hlt
    have e : peerAt t.fPeers k = (inB x.fId 1 99 && inB x.fUntil 0 1000320 && inB x.fBans 0 20 && decide (peerIdx t.fPeers x.fId = (k : Int))) := by unfold peerAt; rw [hx]
    repeat' (first
        | with_reducible refine PWp.seq ?_
        | with_reducible refine PWp.block ?_
        | with_reducible refine PWp.region okP true ?_
        | with_reducible (first | refine pops_nil ?_ | refine pany_nil ?_ | refine pthen_normal ?_ | refine pblock_normal ?_ | refine pthen_ret ?_ | refine pblock_ret ?_ | refine pthen_exit ?_ | refine pblock_here ?_ | refine pblock_there rfl ?_ | refine PWp.ret ?_ | refine PWp.exit ?_ | refine PWp.skip ?_)
        | ((with_reducible refine hK _ ?_); clear hK K)
        | ((with_reducible refine PWp.condI ?_); refine ⟨_, rfl, fun hg => ?_, fun hg => ?_⟩ <;> first | (exact absurd hg (by decide)) | ((try simp only [Bool.not_true, Bool.not_false] at hg); (try simp only [hg]); (try simp only [push_cast] at hg); (try exact absurd trivial hg); (try (exfalso; omega))))
        | ((first | ((with_reducible refine pops_guard0 ?_); refine ⟨_, rfl, fun K hK => ⟨rfl, ?_⟩⟩) | ((with_reducible refine pD_g0 ?_); refine ⟨_, rfl, rfl, ?_⟩)); (try simp (disch := omega) only [push_cast, seval, hx]))
        | ((with_reducible refine pany_I ?_); refine ⟨_, rfl, fun K hK => ?_⟩)
        | ((with_reducible refine pops_plain fun K hK => ?_); simp (disch := omega) only [push_cast, seval, hx])
        | ((first | ((with_reducible refine pD_y ?_ ?_); exact rfl) | ((with_reducible refine pD_x ?_ ?_); exact rfl)); simp (disch := omega) only [push_cast, seval, hx])
        | ((first | ((with_reducible refine pops_guard ?_); refine ⟨_, rfl, fun K hK => ⟨_, rfl, fun hg => ?_, fun hg => ?_⟩⟩) | ((first | ((with_reducible refine pD_gy ?_ ?_); exact rfl) | ((with_reducible refine pD_gx ?_ ?_); exact rfl)); refine ⟨_, rfl, _, rfl, fun hg => ?_, fun hg => ?_⟩)) <;> first | (exact absurd hg (by decide)) | ((try simp only [Bool.not_true, Bool.not_false] at hg); (try simp only [hg]); (try simp only [push_cast] at hg); (try exact absurd trivial hg); (try (exfalso; omega)); (try simp (disch := omega) only [push_cast, seval, hx])))
        | ((with_reducible show pcall _ _ _ _ _ _); refine pcall_RV (g := 48) (callable_of Tryd.func48 rfl rfl) (within_p _ _ _) rfl (by (repeat' (first | exact trivial | exact rfl | exact vwOk_clo rfl | exact rowsC fun _ => rfl | exact rowsC2 fun _ => rfl | exact rowsC1 (fun _ => rfl) rfl | refine And.intro ?_ ?_ | refine vwOk_ag ?_ | refine vwOk_cl ?_))) ?_; (try simp (disch := omega) only [push_cast, seval, hx]))
        | ((with_reducible show pcall _ _ _ _ _ _); refine pcall_RV (g := 49) (callable_of Tryd.func49 rfl rfl) (isTime_p _) rfl (by (repeat' (first | exact trivial | exact rfl | exact vwOk_clo rfl | exact rowsC fun _ => rfl | exact rowsC2 fun _ => rfl | exact rowsC1 (fun _ => rfl) rfl | refine And.intro ?_ ?_ | refine vwOk_ag ?_ | refine vwOk_cl ?_))) ?_; (try simp (disch := omega) only [push_cast, seval, hx]))
        | ((with_reducible show pcall _ _ _ _ _ _); refine pcall_RV (g := 78) (callable_of Tryd.func78 rfl rfl) (iAt_p ⟨_, _⟩ _ (by (first | assumption | omega | (simp; omega) | (simp_all; done) | (simp_all; omega)))) rfl (by (repeat' (first | exact trivial | exact rfl | exact vwOk_clo rfl | exact rowsC fun _ => rfl | exact rowsC2 fun _ => rfl | exact rowsC1 (fun _ => rfl) rfl | refine And.intro ?_ ?_ | refine vwOk_ag ?_ | refine vwOk_cl ?_))) ?_; (try simp (disch := omega) only [push_cast, seval, hx]))
        | ((with_reducible refine And.intro ?_ ?_); omega))
    all_goals first
      | (((first | with_reducible (first | refine pendV1 ?_ ?_ ?_ | refine pendV2 ?_ ?_ ?_ | refine pendV3 ?_ ?_ ?_ | refine pendV0 ?_ ?_ ?_) | refine pendVG ?_ ?_ ?_); (· (first | exact .inl rfl | exact .inr rfl)); rotate_left 1; (· exact rfl); (try (apply Exists.intro; apply And.intro; (· repeat' (first | exact presults_nil | apply presults_tmp | (apply presults_agg; (· exact rfl); (· exact rfl); (· exact rfl); (· exact rfl); (· exact rfl); (· first | exact Nat.le_refl _ | decide | simp)) | (apply presults_one; (· exact rfl); (· exact rfl); (· exact rfl); (· exact rfl); (· exact rfl)))))); (try simp only [push_cast, seval])); rw [bad (by rw [e]; simp_all)])
      | ((refine ⟨k + 1, by ((try dsimp only); omega), ?_, by (refine ⟨[?_], ?_, ?_, ?_, ?_⟩; rotate_left 1; (· ((try simp (disch := omega) only [push_cast, seval]); (repeat' (first | exact trivial | exact rfl | refine And.intro ?_ ?_ | omega)))); (· ((try simp (disch := omega) only [push_cast, seval]); (repeat' (first | exact trivial | exact rfl | refine And.intro ?_ ?_ | omega)))); (· exact rfl); (· (first | exact trivial | exact ⟨rfl, trivial⟩ | exact ⟨rfl, rfl, trivial⟩)))⟩); exact ⟨by omega, allTo_succ hA (by rw [e]; simp_all)⟩)
  obtain rfl : k = t.fPeers.length := by omega
  have e : tableOk t = (decide ((t.fPeers.length : Int) ≤ 6) && isTime t.fTurn) := by unfold tableOk; rw [allTo_end hA, Bool.true_and]
  repeat' (first
      | with_reducible refine PWp.seq ?_
      | with_reducible refine PWp.block ?_
      | with_reducible refine PWp.region okP true ?_
      | with_reducible (first | refine pops_nil ?_ | refine pany_nil ?_ | refine pthen_normal ?_ | refine pblock_normal ?_ | refine pthen_ret ?_ | refine pblock_ret ?_ | refine pthen_exit ?_ | refine pblock_here ?_ | refine pblock_there rfl ?_ | refine PWp.ret ?_ | refine PWp.exit ?_ | refine PWp.skip ?_)
      | ((with_reducible refine hK _ ?_); clear hK K)
      | ((with_reducible refine PWp.condI ?_); refine ⟨_, rfl, fun hg => ?_, fun hg => ?_⟩ <;> first | (exact absurd hg (by decide)) | ((try simp only [Bool.not_true, Bool.not_false] at hg); (try simp only [hg]); (try simp only [push_cast] at hg); (try exact absurd trivial hg); (try (exfalso; omega))))
      | ((first | ((with_reducible refine pops_guard0 ?_); refine ⟨_, rfl, fun K hK => ⟨rfl, ?_⟩⟩) | ((with_reducible refine pD_g0 ?_); refine ⟨_, rfl, rfl, ?_⟩)); (try simp (disch := omega) only [push_cast, seval]))
      | ((with_reducible refine pany_I ?_); refine ⟨_, rfl, fun K hK => ?_⟩)
      | ((with_reducible refine pops_plain fun K hK => ?_); simp (disch := omega) only [push_cast, seval])
      | ((first | ((with_reducible refine pD_y ?_ ?_); exact rfl) | ((with_reducible refine pD_x ?_ ?_); exact rfl)); simp (disch := omega) only [push_cast, seval])
      | ((first | ((with_reducible refine pops_guard ?_); refine ⟨_, rfl, fun K hK => ⟨_, rfl, fun hg => ?_, fun hg => ?_⟩⟩) | ((first | ((with_reducible refine pD_gy ?_ ?_); exact rfl) | ((with_reducible refine pD_gx ?_ ?_); exact rfl)); refine ⟨_, rfl, _, rfl, fun hg => ?_, fun hg => ?_⟩)) <;> first | (exact absurd hg (by decide)) | ((try simp only [Bool.not_true, Bool.not_false] at hg); (try simp only [hg]); (try simp only [push_cast] at hg); (try exact absurd trivial hg); (try (exfalso; omega)); (try simp (disch := omega) only [push_cast, seval])))
      | ((with_reducible show pcall _ _ _ _ _ _); refine pcall_RV (g := 48) (callable_of Tryd.func48 rfl rfl) (within_p _ _ _) rfl (by (repeat' (first | exact trivial | exact rfl | exact vwOk_clo rfl | exact rowsC fun _ => rfl | exact rowsC2 fun _ => rfl | exact rowsC1 (fun _ => rfl) rfl | refine And.intro ?_ ?_ | refine vwOk_ag ?_ | refine vwOk_cl ?_))) ?_; (try simp (disch := omega) only [push_cast, seval]))
      | ((with_reducible show pcall _ _ _ _ _ _); refine pcall_RV (g := 49) (callable_of Tryd.func49 rfl rfl) (isTime_p _) rfl (by (repeat' (first | exact trivial | exact rfl | exact vwOk_clo rfl | exact rowsC fun _ => rfl | exact rowsC2 fun _ => rfl | exact rowsC1 (fun _ => rfl) rfl | refine And.intro ?_ ?_ | refine vwOk_ag ?_ | refine vwOk_cl ?_))) ?_; (try simp (disch := omega) only [push_cast, seval]))
      | ((with_reducible show pcall _ _ _ _ _ _); refine pcall_RV (g := 78) (callable_of Tryd.func78 rfl rfl) (iAt_p ⟨_, _⟩ _ (by (first | assumption | omega | (simp; omega) | (simp_all; done) | (simp_all; omega)))) rfl (by (repeat' (first | exact trivial | exact rfl | exact vwOk_clo rfl | exact rowsC fun _ => rfl | exact rowsC2 fun _ => rfl | exact rowsC1 (fun _ => rfl) rfl | refine And.intro ?_ ?_ | refine vwOk_ag ?_ | refine vwOk_cl ?_))) ?_; (try simp (disch := omega) only [push_cast, seval]))
      | ((with_reducible refine And.intro ?_ ?_); omega))
  all_goals
    ((first | with_reducible (first | refine pendV1 ?_ ?_ ?_ | refine pendV2 ?_ ?_ ?_ | refine pendV3 ?_ ?_ ?_ | refine pendV0 ?_ ?_ ?_) | refine pendVG ?_ ?_ ?_); (· (first | exact .inl rfl | exact .inr rfl)); rotate_left 1; (· exact rfl); (try (apply Exists.intro; apply And.intro; (· repeat' (first | exact presults_nil | apply presults_tmp | (apply presults_agg; (· exact rfl); (· exact rfl); (· exact rfl); (· exact rfl); (· exact rfl); (· first | exact Nat.le_refl _ | decide | simp)) | (apply presults_one; (· exact rfl); (· exact rfl); (· exact rfl); (· exact rfl); (· exact rfl)))))); (try simp only [push_cast, seval]))
    rw [e]
    first
      | (simp_all; done)
      | (simp_all; intros; omega)
set_option maxHeartbeats 1000000 in
theorem sTableOk_p (t : GTable) (hl : t.fPeers.length ≤ 1099511627776) : PCalls Tryd.prog 37 [.agg (pTable t)] [] (RV (.val (.bool (tableOk t)))) := by
  by_cases h6 : (t.fPeers.length : Int) ≤ 6
  case neg =>
    have e : tableOk t = false := by unfold tableOk; rw [decide_eq_false h6, Bool.and_false]; rfl
    rw [e]
    refine pcalls_ofR okP Tryd.func37 rfl ?_
    simp only [Tryd.f37, List.length_cons, List.length_nil, Nat.reduceAdd, Nat.reduceSub, List.replicate_succ, List.replicate_zero, List.cons_append, List.nil_append, List.length_map]
    repeat' (first
        | with_reducible refine PWp.seq ?_
        | with_reducible refine PWp.block ?_
        | with_reducible refine PWp.region okP true ?_
        | with_reducible (first | refine pops_nil ?_ | refine pany_nil ?_ | refine pthen_normal ?_ | refine pblock_normal ?_ | refine pthen_ret ?_ | refine pblock_ret ?_ | refine pthen_exit ?_ | refine pblock_here ?_ | refine pblock_there rfl ?_ | refine PWp.ret ?_ | refine PWp.exit ?_ | refine PWp.skip ?_)
        | ((with_reducible refine hK _ ?_); clear hK K)
        | ((with_reducible refine PWp.condI ?_); refine ⟨_, rfl, fun hg => ?_, fun hg => ?_⟩ <;> first | (exact absurd hg (by decide)) | ((try simp only [Bool.not_true, Bool.not_false] at hg); (try simp only [hg]); (try simp only [push_cast] at hg); (try exact absurd trivial hg); (try (exfalso; omega))))
        | ((first | ((with_reducible refine pops_guard0 ?_); refine ⟨_, rfl, fun K hK => ⟨rfl, ?_⟩⟩) | ((with_reducible refine pD_g0 ?_); refine ⟨_, rfl, rfl, ?_⟩)); (try simp (disch := omega) only [push_cast, seval]))
        | ((with_reducible refine pany_I ?_); refine ⟨_, rfl, fun K hK => ?_⟩)
        | ((with_reducible refine pops_plain fun K hK => ?_); simp (disch := omega) only [push_cast, seval])
        | ((first | ((with_reducible refine pD_y ?_ ?_); exact rfl) | ((with_reducible refine pD_x ?_ ?_); exact rfl)); simp (disch := omega) only [push_cast, seval])
        | ((first | ((with_reducible refine pops_guard ?_); refine ⟨_, rfl, fun K hK => ⟨_, rfl, fun hg => ?_, fun hg => ?_⟩⟩) | ((first | ((with_reducible refine pD_gy ?_ ?_); exact rfl) | ((with_reducible refine pD_gx ?_ ?_); exact rfl)); refine ⟨_, rfl, _, rfl, fun hg => ?_, fun hg => ?_⟩)) <;> first | (exact absurd hg (by decide)) | ((try simp only [Bool.not_true, Bool.not_false] at hg); (try simp only [hg]); (try simp only [push_cast] at hg); (try exact absurd trivial hg); (try (exfalso; omega)); (try simp (disch := omega) only [push_cast, seval])))
        | ((with_reducible show pcall _ _ _ _ _ _); refine pcall_RV (g := 38) (callable_of Tryd.func38 rfl rfl) (l1In_p _ _ _) rfl (by (repeat' (first | exact trivial | exact rfl | exact vwOk_clo rfl | exact rowsC fun _ => rfl | exact rowsC2 fun _ => rfl | exact rowsC1 (fun _ => rfl) rfl | refine And.intro ?_ ?_ | refine vwOk_ag ?_ | refine vwOk_cl ?_))) ?_; (try simp (disch := omega) only [push_cast, seval]))
        | ((with_reducible show pcall _ _ _ _ _ _); refine pcall_RV (g := 39) (callable_of Tryd.func39 rfl rfl) (l10Time_p _) rfl (by (repeat' (first | exact trivial | exact rfl | exact vwOk_clo rfl | exact rowsC fun _ => rfl | exact rowsC2 fun _ => rfl | exact rowsC1 (fun _ => rfl) rfl | refine And.intro ?_ ?_ | refine vwOk_ag ?_ | refine vwOk_cl ?_))) ?_; (try simp (disch := omega) only [push_cast, seval]))
        | ((with_reducible show pcall _ _ _ _ _ _); refine pcall_RV (g := 74) (callable_of Tryd.func74 rfl rfl) (sL19At_p ⟨_, _⟩ _ (by (first | assumption | omega | (simp; omega) | (simp_all; done) | (simp_all; omega)))) rfl (by (repeat' (first | exact trivial | exact rfl | exact vwOk_clo rfl | exact rowsC fun _ => rfl | exact rowsC2 fun _ => rfl | exact rowsC1 (fun _ => rfl) rfl | refine And.intro ?_ ?_ | refine vwOk_ag ?_ | refine vwOk_cl ?_))) ?_; (try simp (disch := omega) only [push_cast, seval]))
        | ((with_reducible refine And.intro ?_ ?_); omega))
    ((first | with_reducible (first | refine pendV1 ?_ ?_ ?_ | refine pendV2 ?_ ?_ ?_ | refine pendV3 ?_ ?_ ?_ | refine pendV0 ?_ ?_ ?_) | refine pendVG ?_ ?_ ?_); (· (first | exact .inl rfl | exact .inr rfl)); rotate_left 1; (· exact rfl); (try (apply Exists.intro; apply And.intro; (· repeat' (first | exact presults_nil | apply presults_tmp | (apply presults_agg; (· exact rfl); (· exact rfl); (· exact rfl); (· exact rfl); (· exact rfl); (· first | exact Nat.le_refl _ | decide | simp)) | (apply presults_one; (· exact rfl); (· exact rfl); (· exact rfl); (· exact rfl); (· exact rfl)))))); (try simp only [push_cast, seval]))
  cases ht : isTime t.fTurn with
  | false =>
    have e : tableOk t = false := by unfold tableOk; rw [ht, Bool.and_false]
    rw [e]
    refine pcalls_ofR okP Tryd.func37 rfl ?_
    simp only [Tryd.f37, List.length_cons, List.length_nil, Nat.reduceAdd, Nat.reduceSub, List.replicate_succ, List.replicate_zero, List.cons_append, List.nil_append, List.length_map]
    repeat' (first
        | with_reducible refine PWp.seq ?_
        | with_reducible refine PWp.block ?_
        | with_reducible refine PWp.region okP true ?_
        | with_reducible (first | refine pops_nil ?_ | refine pany_nil ?_ | refine pthen_normal ?_ | refine pblock_normal ?_ | refine pthen_ret ?_ | refine pblock_ret ?_ | refine pthen_exit ?_ | refine pblock_here ?_ | refine pblock_there rfl ?_ | refine PWp.ret ?_ | refine PWp.exit ?_ | refine PWp.skip ?_)
        | ((with_reducible refine hK _ ?_); clear hK K)
        | ((with_reducible refine PWp.condI ?_); refine ⟨_, rfl, fun hg => ?_, fun hg => ?_⟩ <;> first | (exact absurd hg (by decide)) | ((try simp only [Bool.not_true, Bool.not_false] at hg); (try simp only [hg]); (try simp only [push_cast] at hg); (try exact absurd trivial hg); (try (exfalso; omega))))
        | ((first | ((with_reducible refine pops_guard0 ?_); refine ⟨_, rfl, fun K hK => ⟨rfl, ?_⟩⟩) | ((with_reducible refine pD_g0 ?_); refine ⟨_, rfl, rfl, ?_⟩)); (try simp (disch := omega) only [push_cast, seval, ht]))
        | ((with_reducible refine pany_I ?_); refine ⟨_, rfl, fun K hK => ?_⟩)
        | ((with_reducible refine pops_plain fun K hK => ?_); simp (disch := omega) only [push_cast, seval, ht])
        | ((first | ((with_reducible refine pD_y ?_ ?_); exact rfl) | ((with_reducible refine pD_x ?_ ?_); exact rfl)); simp (disch := omega) only [push_cast, seval, ht])
        | ((first | ((with_reducible refine pops_guard ?_); refine ⟨_, rfl, fun K hK => ⟨_, rfl, fun hg => ?_, fun hg => ?_⟩⟩) | ((first | ((with_reducible refine pD_gy ?_ ?_); exact rfl) | ((with_reducible refine pD_gx ?_ ?_); exact rfl)); refine ⟨_, rfl, _, rfl, fun hg => ?_, fun hg => ?_⟩)) <;> first | (exact absurd hg (by decide)) | ((try simp only [Bool.not_true, Bool.not_false] at hg); (try simp only [hg]); (try simp only [push_cast] at hg); (try exact absurd trivial hg); (try (exfalso; omega)); (try simp (disch := omega) only [push_cast, seval, ht])))
        | ((with_reducible show pcall _ _ _ _ _ _); refine pcall_RV (g := 38) (callable_of Tryd.func38 rfl rfl) (l1In_p _ _ _) rfl (by (repeat' (first | exact trivial | exact rfl | exact vwOk_clo rfl | exact rowsC fun _ => rfl | exact rowsC2 fun _ => rfl | exact rowsC1 (fun _ => rfl) rfl | refine And.intro ?_ ?_ | refine vwOk_ag ?_ | refine vwOk_cl ?_))) ?_; (try simp (disch := omega) only [push_cast, seval, ht]))
        | ((with_reducible show pcall _ _ _ _ _ _); refine pcall_RV (g := 39) (callable_of Tryd.func39 rfl rfl) (l10Time_p _) rfl (by (repeat' (first | exact trivial | exact rfl | exact vwOk_clo rfl | exact rowsC fun _ => rfl | exact rowsC2 fun _ => rfl | exact rowsC1 (fun _ => rfl) rfl | refine And.intro ?_ ?_ | refine vwOk_ag ?_ | refine vwOk_cl ?_))) ?_; (try simp (disch := omega) only [push_cast, seval, ht]))
        | ((with_reducible show pcall _ _ _ _ _ _); refine pcall_RV (g := 74) (callable_of Tryd.func74 rfl rfl) (sL19At_p ⟨_, _⟩ _ (by (first | assumption | omega | (simp; omega) | (simp_all; done) | (simp_all; omega)))) rfl (by (repeat' (first | exact trivial | exact rfl | exact vwOk_clo rfl | exact rowsC fun _ => rfl | exact rowsC2 fun _ => rfl | exact rowsC1 (fun _ => rfl) rfl | refine And.intro ?_ ?_ | refine vwOk_ag ?_ | refine vwOk_cl ?_))) ?_; (try simp (disch := omega) only [push_cast, seval, ht]))
        | ((with_reducible refine And.intro ?_ ?_); omega))
    ((first | with_reducible (first | refine pendV1 ?_ ?_ ?_ | refine pendV2 ?_ ?_ ?_ | refine pendV3 ?_ ?_ ?_ | refine pendV0 ?_ ?_ ?_) | refine pendVG ?_ ?_ ?_); (· (first | exact .inl rfl | exact .inr rfl)); rotate_left 1; (· exact rfl); (try (apply Exists.intro; apply And.intro; (· repeat' (first | exact presults_nil | apply presults_tmp | (apply presults_agg; (· exact rfl); (· exact rfl); (· exact rfl); (· exact rfl); (· exact rfl); (· first | exact Nat.le_refl _ | decide | simp)) | (apply presults_one; (· exact rfl); (· exact rfl); (· exact rfl); (· exact rfl); (· exact rfl)))))); (try simp only [push_cast, seval]))
  | true =>
  refine pcalls_ofR okP Tryd.func37 rfl ?_
  simp only [Tryd.f37, List.length_cons, List.length_nil, Nat.reduceAdd, Nat.reduceSub, List.replicate_succ, List.replicate_zero, List.cons_append, List.nil_append, List.length_map]
  repeat' (first
      | with_reducible refine PWp.seq ?_
      | with_reducible refine PWp.block ?_
      | with_reducible refine PWp.region okP true ?_
      | with_reducible (first | refine pops_nil ?_ | refine pany_nil ?_ | refine pthen_normal ?_ | refine pblock_normal ?_ | refine pthen_ret ?_ | refine pblock_ret ?_ | refine pthen_exit ?_ | refine pblock_here ?_ | refine pblock_there rfl ?_ | refine PWp.ret ?_ | refine PWp.exit ?_ | refine PWp.skip ?_)
      | ((with_reducible refine hK _ ?_); clear hK K)
      | ((with_reducible refine PWp.condI ?_); refine ⟨_, rfl, fun hg => ?_, fun hg => ?_⟩ <;> first | (exact absurd hg (by decide)) | ((try simp only [Bool.not_true, Bool.not_false] at hg); (try simp only [hg]); (try simp only [push_cast] at hg); (try exact absurd trivial hg); (try (exfalso; omega))))
      | ((first | ((with_reducible refine pops_guard0 ?_); refine ⟨_, rfl, fun K hK => ⟨rfl, ?_⟩⟩) | ((with_reducible refine pD_g0 ?_); refine ⟨_, rfl, rfl, ?_⟩)); (try simp (disch := omega) only [push_cast, seval, ht]))
      | ((with_reducible refine pany_I ?_); refine ⟨_, rfl, fun K hK => ?_⟩)
      | ((with_reducible refine pops_plain fun K hK => ?_); simp (disch := omega) only [push_cast, seval, ht])
      | ((first | ((with_reducible refine pD_y ?_ ?_); exact rfl) | ((with_reducible refine pD_x ?_ ?_); exact rfl)); simp (disch := omega) only [push_cast, seval, ht])
      | ((first | ((with_reducible refine pops_guard ?_); refine ⟨_, rfl, fun K hK => ⟨_, rfl, fun hg => ?_, fun hg => ?_⟩⟩) | ((first | ((with_reducible refine pD_gy ?_ ?_); exact rfl) | ((with_reducible refine pD_gx ?_ ?_); exact rfl)); refine ⟨_, rfl, _, rfl, fun hg => ?_, fun hg => ?_⟩)) <;> first | (exact absurd hg (by decide)) | ((try simp only [Bool.not_true, Bool.not_false] at hg); (try simp only [hg]); (try simp only [push_cast] at hg); (try exact absurd trivial hg); (try (exfalso; omega)); (try simp (disch := omega) only [push_cast, seval, ht])))
      | ((with_reducible show pcall _ _ _ _ _ _); refine pcall_RV (g := 38) (callable_of Tryd.func38 rfl rfl) (l1In_p _ _ _) rfl (by (repeat' (first | exact trivial | exact rfl | exact vwOk_clo rfl | exact rowsC fun _ => rfl | exact rowsC2 fun _ => rfl | exact rowsC1 (fun _ => rfl) rfl | refine And.intro ?_ ?_ | refine vwOk_ag ?_ | refine vwOk_cl ?_))) ?_; (try simp (disch := omega) only [push_cast, seval, ht]))
      | ((with_reducible show pcall _ _ _ _ _ _); refine pcall_RV (g := 39) (callable_of Tryd.func39 rfl rfl) (l10Time_p _) rfl (by (repeat' (first | exact trivial | exact rfl | exact vwOk_clo rfl | exact rowsC fun _ => rfl | exact rowsC2 fun _ => rfl | exact rowsC1 (fun _ => rfl) rfl | refine And.intro ?_ ?_ | refine vwOk_ag ?_ | refine vwOk_cl ?_))) ?_; (try simp (disch := omega) only [push_cast, seval, ht]))
      | ((with_reducible show pcall _ _ _ _ _ _); refine pcall_RV (g := 74) (callable_of Tryd.func74 rfl rfl) (sL19At_p ⟨_, _⟩ _ (by (first | assumption | omega | (simp; omega) | (simp_all; done) | (simp_all; omega)))) rfl (by (repeat' (first | exact trivial | exact rfl | exact vwOk_clo rfl | exact rowsC fun _ => rfl | exact rowsC2 fun _ => rfl | exact rowsC1 (fun _ => rfl) rfl | refine And.intro ?_ ?_ | refine vwOk_ag ?_ | refine vwOk_cl ?_))) ?_; (try simp (disch := omega) only [push_cast, seval, ht]))
      | ((with_reducible refine And.intro ?_ ?_); omega))
  refine PWp.loopK (α := Nat) (fun k => [(1, .ptr 0 0), (3, .val (.int .i64 (k : Int)))]) [0, 2, 4, 5, 6, 7, 8, 9, 10, 11, 12, 13, 14, 15, 16, 17, 18, 19, 20, 21, 22, 23, 24, 25, 26, 27, 28, 29, 30, 31, 32, 33, 34, 35, 36, 37, 38, 39, 40, 41, 42, 43, 44, 45, 46, 47, 48, 49, 50] (fun k => [some (.box (pTable t))]) (fun k => k ≤ t.fPeers.length ∧ allTo (peerAt t.fPeers) k) (fun k => t.fPeers.length - k) (0) (⟨Nat.zero_le _, allTo_zero⟩) (by (refine ⟨[?_], ?_, ?_, ?_, ?_⟩; rotate_left 1; (· ((try simp (disch := omega) only [push_cast, seval]); (repeat' (first | exact trivial | exact rfl | refine And.intro ?_ ?_ | omega)))); (· ((try simp (disch := omega) only [push_cast, seval]); (repeat' (first | exact trivial | exact rfl | refine And.intro ?_ ?_ | omega)))); (· exact rfl); (· (first | exact trivial | exact ⟨rfl, trivial⟩ | exact ⟨rfl, rfl, trivial⟩)))) ?_
  intro k ρ hI
  (try dsimp only at hI)
  refine PWp.at (tm' := ?_) (H' := ?_) ?_ ?_ ?_; rotate_left 2; (· ((try simp only [push_cast, seval]); exact rfl)); (· ((try dsimp only); exact rfl))
  obtain ⟨hk, hA⟩ := hI
  by_cases hlt : k < t.fPeers.length
  · obtain ⟨x, hx⟩ : ∃ x, t.fPeers[k]? = some x := ⟨_, List.getElem?_eq_getElem hlt⟩
    have bad := table_bad hlt
    have e : peerAt t.fPeers k = (inB x.fId 1 99 && inB x.fUntil 0 1000320 && inB x.fBans 0 20 && decide (peerIdx t.fPeers x.fId = (k : Int))) := by unfold peerAt; rw [hx]
    repeat' (first
        | with_reducible refine PWp.seq ?_
        | with_reducible refine PWp.block ?_
        | with_reducible refine PWp.region okP true ?_
        | with_reducible (first | refine pops_nil ?_ | refine pany_nil ?_ | refine pthen_normal ?_ | refine pblock_normal ?_ | refine pthen_ret ?_ | refine pblock_ret ?_ | refine pthen_exit ?_ | refine pblock_here ?_ | refine pblock_there rfl ?_ | refine PWp.ret ?_ | refine PWp.exit ?_ | refine PWp.skip ?_)
        | ((with_reducible refine hK _ ?_); clear hK K)
        | ((with_reducible refine PWp.condI ?_); refine ⟨_, rfl, fun hg => ?_, fun hg => ?_⟩ <;> first | (exact absurd hg (by decide)) | ((try simp only [Bool.not_true, Bool.not_false] at hg); (try simp only [hg]); (try simp only [push_cast] at hg); (try exact absurd trivial hg); (try (exfalso; omega))))
        | ((first | ((with_reducible refine pops_guard0 ?_); refine ⟨_, rfl, fun K hK => ⟨rfl, ?_⟩⟩) | ((with_reducible refine pD_g0 ?_); refine ⟨_, rfl, rfl, ?_⟩)); (try simp (disch := omega) only [push_cast, seval, hx]))
        | ((with_reducible refine pany_I ?_); refine ⟨_, rfl, fun K hK => ?_⟩)
        | ((with_reducible refine pops_plain fun K hK => ?_); simp (disch := omega) only [push_cast, seval, hx])
        | ((first | ((with_reducible refine pD_y ?_ ?_); exact rfl) | ((with_reducible refine pD_x ?_ ?_); exact rfl)); simp (disch := omega) only [push_cast, seval, hx])
        | ((first | ((with_reducible refine pops_guard ?_); refine ⟨_, rfl, fun K hK => ⟨_, rfl, fun hg => ?_, fun hg => ?_⟩⟩) | ((first | ((with_reducible refine pD_gy ?_ ?_); exact rfl) | ((with_reducible refine pD_gx ?_ ?_); exact rfl)); refine ⟨_, rfl, _, rfl, fun hg => ?_, fun hg => ?_⟩)) <;> first | (exact absurd hg (by decide)) | ((try simp only [Bool.not_true, Bool.not_false] at hg); (try simp only [hg]); (try simp only [push_cast] at hg); (try exact absurd trivial hg); (try (exfalso; omega)); (try simp (disch := omega) only [push_cast, seval, hx])))
        | ((with_reducible show pcall _ _ _ _ _ _); refine pcall_RV (g := 38) (callable_of Tryd.func38 rfl rfl) (l1In_p _ _ _) rfl (by (repeat' (first | exact trivial | exact rfl | exact vwOk_clo rfl | exact rowsC fun _ => rfl | exact rowsC2 fun _ => rfl | exact rowsC1 (fun _ => rfl) rfl | refine And.intro ?_ ?_ | refine vwOk_ag ?_ | refine vwOk_cl ?_))) ?_; (try simp (disch := omega) only [push_cast, seval, hx]))
        | ((with_reducible show pcall _ _ _ _ _ _); refine pcall_RV (g := 39) (callable_of Tryd.func39 rfl rfl) (l10Time_p _) rfl (by (repeat' (first | exact trivial | exact rfl | exact vwOk_clo rfl | exact rowsC fun _ => rfl | exact rowsC2 fun _ => rfl | exact rowsC1 (fun _ => rfl) rfl | refine And.intro ?_ ?_ | refine vwOk_ag ?_ | refine vwOk_cl ?_))) ?_; (try simp (disch := omega) only [push_cast, seval, hx]))
        | ((with_reducible show pcall _ _ _ _ _ _); refine pcall_RV (g := 74) (callable_of Tryd.func74 rfl rfl) (sL19At_p ⟨_, _⟩ _ (by (first | assumption | omega | (simp; omega) | (simp_all; done) | (simp_all; omega)))) rfl (by (repeat' (first | exact trivial | exact rfl | exact vwOk_clo rfl | exact rowsC fun _ => rfl | exact rowsC2 fun _ => rfl | exact rowsC1 (fun _ => rfl) rfl | refine And.intro ?_ ?_ | refine vwOk_ag ?_ | refine vwOk_cl ?_))) ?_; (try simp (disch := omega) only [push_cast, seval, hx]))
        | ((with_reducible refine And.intro ?_ ?_); omega))
    all_goals first
      | (((first | with_reducible (first | refine pendV1 ?_ ?_ ?_ | refine pendV2 ?_ ?_ ?_ | refine pendV3 ?_ ?_ ?_ | refine pendV0 ?_ ?_ ?_) | refine pendVG ?_ ?_ ?_); (· (first | exact .inl rfl | exact .inr rfl)); rotate_left 1; (· exact rfl); (try (apply Exists.intro; apply And.intro; (· repeat' (first | exact presults_nil | apply presults_tmp | (apply presults_agg; (· exact rfl); (· exact rfl); (· exact rfl); (· exact rfl); (· exact rfl); (· first | exact Nat.le_refl _ | decide | simp)) | (apply presults_one; (· exact rfl); (· exact rfl); (· exact rfl); (· exact rfl); (· exact rfl)))))); (try simp only [push_cast, seval])); rw [bad (by rw [e]; simp_all)])
      | ((refine ⟨k + 1, by ((try dsimp only); omega), ?_, by (refine ⟨[?_], ?_, ?_, ?_, ?_⟩; rotate_left 1; (· ((try simp (disch := omega) only [push_cast, seval]); (repeat' (first | exact trivial | exact rfl | refine And.intro ?_ ?_ | omega)))); (· ((try simp (disch := omega) only [push_cast, seval]); (repeat' (first | exact trivial | exact rfl | refine And.intro ?_ ?_ | omega)))); (· exact rfl); (· (first | exact trivial | exact ⟨rfl, trivial⟩ | exact ⟨rfl, rfl, trivial⟩)))⟩); exact ⟨by omega, allTo_succ hA (by rw [e]; simp_all)⟩)
  obtain rfl : k = t.fPeers.length := by omega
  have e : tableOk t = true := by unfold tableOk; rw [allTo_end hA, decide_eq_true h6, ht]; rfl
  repeat' (first
      | with_reducible refine PWp.seq ?_
      | with_reducible refine PWp.block ?_
      | with_reducible refine PWp.region okP true ?_
      | with_reducible (first | refine pops_nil ?_ | refine pany_nil ?_ | refine pthen_normal ?_ | refine pblock_normal ?_ | refine pthen_ret ?_ | refine pblock_ret ?_ | refine pthen_exit ?_ | refine pblock_here ?_ | refine pblock_there rfl ?_ | refine PWp.ret ?_ | refine PWp.exit ?_ | refine PWp.skip ?_)
      | ((with_reducible refine hK _ ?_); clear hK K)
      | ((with_reducible refine PWp.condI ?_); refine ⟨_, rfl, fun hg => ?_, fun hg => ?_⟩ <;> first | (exact absurd hg (by decide)) | ((try simp only [Bool.not_true, Bool.not_false] at hg); (try simp only [hg]); (try simp only [push_cast] at hg); (try exact absurd trivial hg); (try (exfalso; omega))))
      | ((first | ((with_reducible refine pops_guard0 ?_); refine ⟨_, rfl, fun K hK => ⟨rfl, ?_⟩⟩) | ((with_reducible refine pD_g0 ?_); refine ⟨_, rfl, rfl, ?_⟩)); (try simp (disch := omega) only [push_cast, seval]))
      | ((with_reducible refine pany_I ?_); refine ⟨_, rfl, fun K hK => ?_⟩)
      | ((with_reducible refine pops_plain fun K hK => ?_); simp (disch := omega) only [push_cast, seval])
      | ((first | ((with_reducible refine pD_y ?_ ?_); exact rfl) | ((with_reducible refine pD_x ?_ ?_); exact rfl)); simp (disch := omega) only [push_cast, seval])
      | ((first | ((with_reducible refine pops_guard ?_); refine ⟨_, rfl, fun K hK => ⟨_, rfl, fun hg => ?_, fun hg => ?_⟩⟩) | ((first | ((with_reducible refine pD_gy ?_ ?_); exact rfl) | ((with_reducible refine pD_gx ?_ ?_); exact rfl)); refine ⟨_, rfl, _, rfl, fun hg => ?_, fun hg => ?_⟩)) <;> first | (exact absurd hg (by decide)) | ((try simp only [Bool.not_true, Bool.not_false] at hg); (try simp only [hg]); (try simp only [push_cast] at hg); (try exact absurd trivial hg); (try (exfalso; omega)); (try simp (disch := omega) only [push_cast, seval])))
      | ((with_reducible show pcall _ _ _ _ _ _); refine pcall_RV (g := 38) (callable_of Tryd.func38 rfl rfl) (l1In_p _ _ _) rfl (by (repeat' (first | exact trivial | exact rfl | exact vwOk_clo rfl | exact rowsC fun _ => rfl | exact rowsC2 fun _ => rfl | exact rowsC1 (fun _ => rfl) rfl | refine And.intro ?_ ?_ | refine vwOk_ag ?_ | refine vwOk_cl ?_))) ?_; (try simp (disch := omega) only [push_cast, seval]))
      | ((with_reducible show pcall _ _ _ _ _ _); refine pcall_RV (g := 39) (callable_of Tryd.func39 rfl rfl) (l10Time_p _) rfl (by (repeat' (first | exact trivial | exact rfl | exact vwOk_clo rfl | exact rowsC fun _ => rfl | exact rowsC2 fun _ => rfl | exact rowsC1 (fun _ => rfl) rfl | refine And.intro ?_ ?_ | refine vwOk_ag ?_ | refine vwOk_cl ?_))) ?_; (try simp (disch := omega) only [push_cast, seval]))
      | ((with_reducible show pcall _ _ _ _ _ _); refine pcall_RV (g := 74) (callable_of Tryd.func74 rfl rfl) (sL19At_p ⟨_, _⟩ _ (by (first | assumption | omega | (simp; omega) | (simp_all; done) | (simp_all; omega)))) rfl (by (repeat' (first | exact trivial | exact rfl | exact vwOk_clo rfl | exact rowsC fun _ => rfl | exact rowsC2 fun _ => rfl | exact rowsC1 (fun _ => rfl) rfl | refine And.intro ?_ ?_ | refine vwOk_ag ?_ | refine vwOk_cl ?_))) ?_; (try simp (disch := omega) only [push_cast, seval]))
      | ((with_reducible refine And.intro ?_ ?_); omega))
  ((first | with_reducible (first | refine pendV1 ?_ ?_ ?_ | refine pendV2 ?_ ?_ ?_ | refine pendV3 ?_ ?_ ?_ | refine pendV0 ?_ ?_ ?_) | refine pendVG ?_ ?_ ?_); (· (first | exact .inl rfl | exact .inr rfl)); rotate_left 1; (· exact rfl); (try (apply Exists.intro; apply And.intro; (· repeat' (first | exact presults_nil | apply presults_tmp | (apply presults_agg; (· exact rfl); (· exact rfl); (· exact rfl); (· exact rfl); (· exact rfl); (· first | exact Nat.le_refl _ | decide | simp)) | (apply presults_one; (· exact rfl); (· exact rfl); (· exact rfl); (· exact rfl); (· exact rfl)))))); (try simp only [push_cast, seval]))
  rw [e]
def pTbO (t : GTable) : List PV := [.own 0, .val (.int .i64 t.fTurn)]
def bTb (t : GTable) : Hp := [some (.row 111 4 (t.fPeers.map pPeer))]
attribute [push_cast] pTbO bTb
/-! ### Peers that told the truth, peers that lied -/
theorem modify_set {α : Type} {l : List α} {k : Nat} {x : α} {f : α → α} (h : l[k]? = some x) : l.modify k f = l.set k (f x) := by
  apply List.ext_getElem?
  intro i
  rw [List.getElem?_modify, List.getElem?_set]
  by_cases e : k = i
  · subst e
    have hlt := (List.getElem?_eq_some_iff.1 h).1
    rw [h]
    simp [hlt]
  · simp [e]
attribute [push_cast] List.map_set
end Go.Proofs.YtgcelmnmalfpcaaDoor
