/- What the proof leans on, part 6. -/
import Derived.Test.YtiboajlnjldalaaGreatDoorQN5
namespace Go.Proofs.YtiboajlnjldalaaGreatDoor
set_option linter.unusedSimpArgs false
set_option linter.unusedVariables false
open Go.RowKit
set_option maxRecDepth 100000
theorem sL19At_p (t : GTable) (id : Int) (hl : t.fPeers.length ≤ 1099511627776) : PCalls Tryz.prog 170 [.agg (pTable t), .val (.int .i64 id)] [] (RV (.val (.int .i64 (peerIdx t.fPeers id)))) := by
  refine pcalls_ofR okP Tryz.func170 rfl ?_
  simp only [Tryz.f170, List.length_cons, List.length_nil, Nat.reduceAdd, Nat.reduceSub, List.replicate_succ, List.replicate_zero, List.cons_append, List.nil_append, List.length_map]
  repeat' (first | with_reducible (first | refine wA ?_ | refine wB ?_ | refine wC ?_ | refine w1 ?_ | refine w2 ?_ | refine w3 ?_ | refine w4 ?_ | refine w5 ?_ | refine w6 ?_ | refine w7 ?_ | refine w8 ?_ | refine wT ?_ | refine w9 ?_ | refine wE ?_ | refine wS ?_) | ((with_reducible refine hK _ ?_); clear hK K) | ((with_reducible refine PWp.condI ?_); refine ⟨_, rfl, fun hg => ?_, fun hg => ?_⟩ <;> first | (exact absurd hg (by decide)) | ((try simp only [Bool.not_true, Bool.not_false] at hg); (try simp only [hg]); (try simp only [push_cast] at hg); (try exact absurd trivial hg); (try (exfalso; omega)))) | ((with_reducible refine pops_plain fun K hK => ?_); simp (disch := omega) only [push_cast, seval]) | ((with_reducible refine And.intro ?_ ?_); omega))
  refine PWp.loopK (α := Nat) (fun k => [(1, .val (.int .i64 id)), (2, .ptr 0 0), (5, .val (.int .i64 (k : Int)))]) [0, 3, 4, 6, 7, 8, 9, 10, 11, 12, 13, 14, 15, 16, 17, 18, 19, 20, 21] (fun k => [some (.box (pTable t))]) (fun k => k ≤ t.fPeers.length ∧ noneTo (fun p => decide (p.fId = id)) t.fPeers k) (fun k => t.fPeers.length - k) (0) (⟨Nat.zero_le _, noneTo_zero⟩) (by (refine ⟨[?_], ?_, ?_, ?_, ?_⟩; rotate_left 1; (· ((try simp (disch := omega) only [push_cast, seval]); (repeat' (first | exact trivial | exact rfl | refine And.intro ?_ ?_ | omega)))); (· ((try simp (disch := omega) only [push_cast, seval]); (repeat' (first | exact trivial | exact rfl | refine And.intro ?_ ?_ | omega)))); (· exact rfl); (· (first | exact trivial | exact ⟨rfl, trivial⟩ | exact ⟨rfl, rfl, trivial⟩)))) ?_
  intro k ρ hI
  (try dsimp only at hI)
  refine PWp.at (tm' := ?_) (H' := ?_) ?_ ?_ ?_; rotate_left 2; (· ((try simp only [push_cast, seval]); exact rfl)); (· ((try dsimp only); exact rfl))
  obtain ⟨hk, hA⟩ := hI
  by_cases hlt : k < t.fPeers.length
  · obtain ⟨x, hx⟩ : ∃ x, t.fPeers[k]? = some x := ⟨_, List.getElem?_eq_getElem hlt⟩
    by_cases he : x.fId = id
    · have e : peerIdx t.fPeers id = k := idx_some hx (by simpa using he) hA
      repeat' (first | with_reducible (first | refine wA ?_ | refine wB ?_ | refine wC ?_ | refine w1 ?_ | refine w2 ?_ | refine w3 ?_ | refine w4 ?_ | refine w5 ?_ | refine w6 ?_ | refine w7 ?_ | refine w8 ?_ | refine wT ?_ | refine w9 ?_ | refine wE ?_ | refine wS ?_) | ((with_reducible refine hK _ ?_); clear hK K) | ((with_reducible refine PWp.condI ?_); refine ⟨_, rfl, fun hg => ?_, fun hg => ?_⟩ <;> first | (exact absurd hg (by decide)) | ((try simp only [Bool.not_true, Bool.not_false] at hg); (try simp only [hg]); (try simp only [push_cast] at hg); (try exact absurd trivial hg); (try (exfalso; omega)))) | ((with_reducible refine pops_plain fun K hK => ?_); simp (disch := omega) only [push_cast, seval, hx, he]) | ((with_reducible refine And.intro ?_ ?_); omega))
      ((with_reducible show PPostR _ _ _ _ _ _); refine finV ?_; (try simp only [push_cast, seval]))
      rw [e]
    ·
      repeat' (first | with_reducible (first | refine wA ?_ | refine wB ?_ | refine wC ?_ | refine w1 ?_ | refine w2 ?_ | refine w3 ?_ | refine w4 ?_ | refine w5 ?_ | refine w6 ?_ | refine w7 ?_ | refine w8 ?_ | refine wT ?_ | refine w9 ?_ | refine wE ?_ | refine wS ?_) | ((with_reducible refine hK _ ?_); clear hK K) | ((with_reducible refine PWp.condI ?_); refine ⟨_, rfl, fun hg => ?_, fun hg => ?_⟩ <;> first | (exact absurd hg (by decide)) | ((try simp only [Bool.not_true, Bool.not_false] at hg); (try simp only [hg]); (try simp only [push_cast] at hg); (try exact absurd trivial hg); (try (exfalso; omega)))) | ((with_reducible refine pops_plain fun K hK => ?_); simp (disch := omega) only [push_cast, seval, hx]) | ((with_reducible refine And.intro ?_ ?_); omega))
      (refine ⟨k + 1, by ((try dsimp only); omega), ?_, by (refine ⟨[?_], ?_, ?_, ?_, ?_⟩; rotate_left 1; (· ((try simp (disch := omega) only [push_cast, seval]); (repeat' (first | exact trivial | exact rfl | refine And.intro ?_ ?_ | omega)))); (· ((try simp (disch := omega) only [push_cast, seval]); (repeat' (first | exact trivial | exact rfl | refine And.intro ?_ ?_ | omega)))); (· exact rfl); (· (first | exact trivial | exact ⟨rfl, trivial⟩ | exact ⟨rfl, rfl, trivial⟩)))⟩)
      exact ⟨hlt, noneTo_succ hA hx (by simpa using he)⟩
  obtain rfl : k = t.fPeers.length := by omega
  have e : peerIdx t.fPeers id = -1 := noneTo_end hA
  repeat' (first | with_reducible (first | refine wA ?_ | refine wB ?_ | refine wC ?_ | refine w1 ?_ | refine w2 ?_ | refine w3 ?_ | refine w4 ?_ | refine w5 ?_ | refine w6 ?_ | refine w7 ?_ | refine w8 ?_ | refine wT ?_ | refine w9 ?_ | refine wE ?_ | refine wS ?_) | ((with_reducible refine hK _ ?_); clear hK K) | ((with_reducible refine PWp.condI ?_); refine ⟨_, rfl, fun hg => ?_, fun hg => ?_⟩ <;> first | (exact absurd hg (by decide)) | ((try simp only [Bool.not_true, Bool.not_false] at hg); (try simp only [hg]); (try simp only [push_cast] at hg); (try exact absurd trivial hg); (try (exfalso; omega)))) | ((with_reducible refine pops_plain fun K hK => ?_); simp (disch := omega) only [push_cast, seval]) | ((with_reducible refine And.intro ?_ ?_); omega))
  ((with_reducible show PPostR _ _ _ _ _ _); refine finV ?_; (try simp only [push_cast, seval]))
  rw [e]
theorem at1_p (p : GPeer) (id : Int) : PCalls Tryz.prog 228 [.agg (pPeer p), .eptr [.val (.int .i64 id)] 0] [] (RV (.val (.bool (decide (p.fId = id))))) := by
  refine pcalls_ofR okP Tryz.func228 rfl ?_
  simp only [Tryz.f228, List.length_cons, List.length_nil, Nat.reduceAdd, Nat.reduceSub, List.replicate_succ, List.replicate_zero, List.cons_append, List.nil_append, List.length_map]
  repeat' (first | with_reducible (first | refine wA ?_ | refine wB ?_ | refine wC ?_ | refine w1 ?_ | refine w2 ?_ | refine w3 ?_ | refine w4 ?_ | refine w5 ?_ | refine w6 ?_ | refine w7 ?_ | refine w8 ?_ | refine wT ?_ | refine w9 ?_ | refine wE ?_ | refine wS ?_) | ((with_reducible refine hK _ ?_); clear hK K) | ((with_reducible refine pops_plain fun K hK => ?_); simp (disch := omega) only [push_cast, seval]) | ((with_reducible refine And.intro ?_ ?_); omega))
  ((with_reducible show PPostR _ _ _ _ _ _); refine finV ?_; (try simp only [push_cast, seval]))
  exact eqI_B
theorem idxPeer_p (l : List GPeer) (id : Int) (hl : l.length ≤ 1099511627776) : PCalls Tryz.prog 227 [.sl 4 (l.map pPeer), .clo 228 [.eptr [.val (.int .i64 id)] 0]] [] (RV (.val (.int .i64 (peerIdx l id)))) := by
  have cloC : Callable Tryz.prog 228 := callable_of Tryz.func228 rfl rfl
  refine pcalls_ofR okP Tryz.func227 rfl ?_
  simp only [Tryz.f227, List.length_cons, List.length_nil, Nat.reduceAdd, Nat.reduceSub, List.replicate_succ, List.replicate_zero, List.cons_append, List.nil_append, List.length_map]
  repeat' (first | with_reducible (first | refine wA ?_ | refine wB ?_ | refine wC ?_ | refine w1 ?_ | refine w2 ?_ | refine w3 ?_ | refine w4 ?_ | refine w5 ?_ | refine w6 ?_ | refine w7 ?_ | refine w8 ?_ | refine wT ?_ | refine w9 ?_ | refine wE ?_ | refine wS ?_) | ((with_reducible refine hK _ ?_); clear hK K) | ((with_reducible refine PWp.condI ?_); refine ⟨_, rfl, fun hg => ?_, fun hg => ?_⟩ <;> first | (exact absurd hg (by decide)) | ((try simp only [Bool.not_true, Bool.not_false] at hg); (try simp only [hg]); (try simp only [push_cast] at hg); (try exact absurd trivial hg); (try (exfalso; omega)))) | ((with_reducible refine pops_plain fun K hK => ?_); simp (disch := omega) only [push_cast, seval]) | ((with_reducible show pcall _ _ _ _ _ _); (first | (refine pcV (g := 228) cloC (at1_p ⟨_, _, _, _⟩ _) ?_)); (try simp (disch := omega) only [push_cast, seval])) | ((with_reducible refine And.intro ?_ ?_); omega))
  refine PWp.loopK (α := Nat) (fun k => [(8, .val (.int .i64 (k : Int)))]) [2, 3, 4, 5, 6, 9, 10, 11, 12, 13, 14, 15, 16, 17, 18] (fun k => []) (fun k => k ≤ l.length ∧ noneTo (fun p => decide (p.fId = id)) l k) (fun k => l.length - k) (0) (⟨Nat.zero_le _, noneTo_zero⟩) (by (refine ⟨[], ?_, ?_, ?_, ?_⟩; (· ((try simp (disch := omega) only [push_cast, seval]); (repeat' (first | exact trivial | exact rfl | refine And.intro ?_ ?_ | omega)))); (· ((try simp (disch := omega) only [push_cast, seval]); (repeat' (first | exact trivial | exact rfl | refine And.intro ?_ ?_ | omega)))); (· exact rfl); (· (first | exact trivial | exact ⟨rfl, trivial⟩ | exact ⟨rfl, rfl, trivial⟩)))) ?_
  intro k ρ hI
  (try dsimp only at hI)
  refine PWp.at (tm' := ?_) (H' := ?_) ?_ ?_ ?_; rotate_left 2; (· ((try simp only [push_cast, seval]); exact rfl)); (· ((try dsimp only); exact rfl))
  obtain ⟨hk, hA⟩ := hI
  by_cases hlt : k < l.length
  · obtain ⟨x, hx⟩ : ∃ x, l[k]? = some x := ⟨_, List.getElem?_eq_getElem hlt⟩
    by_cases he : x.fId = id
    · have e : peerIdx l id = k := idx_some hx (by simpa using he) hA
      repeat' (first | with_reducible (first | refine wA ?_ | refine wB ?_ | refine wC ?_ | refine w1 ?_ | refine w2 ?_ | refine w3 ?_ | refine w4 ?_ | refine w5 ?_ | refine w6 ?_ | refine w7 ?_ | refine w8 ?_ | refine wT ?_ | refine w9 ?_ | refine wE ?_ | refine wS ?_) | ((with_reducible refine hK _ ?_); clear hK K) | ((with_reducible refine PWp.condI ?_); refine ⟨_, rfl, fun hg => ?_, fun hg => ?_⟩ <;> first | (exact absurd hg (by decide)) | ((try simp only [Bool.not_true, Bool.not_false] at hg); (try simp only [hg]); (try simp only [push_cast] at hg); (try exact absurd trivial hg); (try (exfalso; omega)))) | ((with_reducible refine pops_plain fun K hK => ?_); simp (disch := omega) only [push_cast, seval, hx, he]) | ((with_reducible show pcall _ _ _ _ _ _); (first | (refine pcV (g := 228) cloC (at1_p ⟨_, _, _, _⟩ _) ?_)); (try simp (disch := omega) only [push_cast, seval, hx, he])) | ((with_reducible refine And.intro ?_ ?_); omega))
      ((with_reducible show PPostR _ _ _ _ _ _); refine finV ?_; (try simp only [push_cast, seval]))
      rw [e]
    ·
      repeat' (first | with_reducible (first | refine wA ?_ | refine wB ?_ | refine wC ?_ | refine w1 ?_ | refine w2 ?_ | refine w3 ?_ | refine w4 ?_ | refine w5 ?_ | refine w6 ?_ | refine w7 ?_ | refine w8 ?_ | refine wT ?_ | refine w9 ?_ | refine wE ?_ | refine wS ?_) | ((with_reducible refine hK _ ?_); clear hK K) | ((with_reducible refine PWp.condI ?_); refine ⟨_, rfl, fun hg => ?_, fun hg => ?_⟩ <;> first | (exact absurd hg (by decide)) | ((try simp only [Bool.not_true, Bool.not_false] at hg); (try simp only [hg]); (try simp only [push_cast] at hg); (try exact absurd trivial hg); (try (exfalso; omega)))) | ((with_reducible refine pops_plain fun K hK => ?_); simp (disch := omega) only [push_cast, seval, hx]) | ((with_reducible show pcall _ _ _ _ _ _); (first | (refine pcV (g := 228) cloC (at1_p ⟨_, _, _, _⟩ _) ?_)); (try simp (disch := omega) only [push_cast, seval, hx])) | ((with_reducible refine And.intro ?_ ?_); omega))
      (refine ⟨k + 1, by ((try dsimp only); omega), ?_, by (refine ⟨[], ?_, ?_, ?_, ?_⟩; (· ((try simp (disch := omega) only [push_cast, seval]); (repeat' (first | exact trivial | exact rfl | refine And.intro ?_ ?_ | omega)))); (· ((try simp (disch := omega) only [push_cast, seval]); (repeat' (first | exact trivial | exact rfl | refine And.intro ?_ ?_ | omega)))); (· exact rfl); (· (first | exact trivial | exact ⟨rfl, trivial⟩ | exact ⟨rfl, rfl, trivial⟩)))⟩)
      exact ⟨hlt, noneTo_succ hA hx (by simpa using he)⟩
  obtain rfl : k = l.length := by omega
  have e : peerIdx l id = -1 := noneTo_end hA
  repeat' (first | with_reducible (first | refine wA ?_ | refine wB ?_ | refine wC ?_ | refine w1 ?_ | refine w2 ?_ | refine w3 ?_ | refine w4 ?_ | refine w5 ?_ | refine w6 ?_ | refine w7 ?_ | refine w8 ?_ | refine wT ?_ | refine w9 ?_ | refine wE ?_ | refine wS ?_) | ((with_reducible refine hK _ ?_); clear hK K) | ((with_reducible refine PWp.condI ?_); refine ⟨_, rfl, fun hg => ?_, fun hg => ?_⟩ <;> first | (exact absurd hg (by decide)) | ((try simp only [Bool.not_true, Bool.not_false] at hg); (try simp only [hg]); (try simp only [push_cast] at hg); (try exact absurd trivial hg); (try (exfalso; omega)))) | ((with_reducible refine pops_plain fun K hK => ?_); simp (disch := omega) only [push_cast, seval]) | ((with_reducible show pcall _ _ _ _ _ _); (first | (refine pcV (g := 228) cloC (at1_p ⟨_, _, _, _⟩ _) ?_)); (try simp (disch := omega) only [push_cast, seval])) | ((with_reducible refine And.intro ?_ ?_); omega))
  ((with_reducible show PPostR _ _ _ _ _ _); refine finV ?_; (try simp only [push_cast, seval]))
  rw [e]
theorem iAt_p (t : GTable) (id : Int) (hl : t.fPeers.length ≤ 1099511627776) : PCalls Tryz.prog 146 [.agg (pTable t), .val (.int .i64 id)] [] (RV (.val (.int .i64 (peerIdx t.fPeers id)))) := by
  refine pcalls_ofR okP Tryz.func146 rfl ?_
  simp only [Tryz.f146, List.length_cons, List.length_nil, Nat.reduceAdd, Nat.reduceSub, List.replicate_succ, List.replicate_zero, List.cons_append, List.nil_append, List.length_map]
  repeat' (first | with_reducible (first | refine wA ?_ | refine wB ?_ | refine wC ?_ | refine w1 ?_ | refine w2 ?_ | refine w3 ?_ | refine w4 ?_ | refine w5 ?_ | refine w6 ?_ | refine w7 ?_ | refine w8 ?_ | refine wT ?_ | refine w9 ?_ | refine wE ?_ | refine wS ?_) | ((with_reducible refine hK _ ?_); clear hK K) | ((with_reducible refine pops_plain fun K hK => ?_); simp (disch := omega) only [push_cast, seval]) | ((with_reducible show pcall _ _ _ _ _ _); (first | (refine pcV (cf Tryz.func227) (idxFree_p _ sd) ?_) | (refine pcV (cf Tryz.func227) (idxPeer_p _ _ sd) ?_)); (try simp (disch := omega) only [push_cast, seval])) | ((with_reducible refine And.intro ?_ ?_); omega))
  ((with_reducible show PPostR _ _ _ _ _ _); refine finV ?_; (try simp only [push_cast, seval]))
theorem table_bad {t : GTable} {k : Nat} (hlt : k < t.fPeers.length) (h : peerAt t.fPeers k = false) : tableOk t = false := by
  unfold tableOk
  rw [allN_no hlt h]
  rfl
set_option maxHeartbeats 1000000 in
theorem iTableOk_p (t : GTable) (hl : t.fPeers.length ≤ 1099511627776) : PCalls Tryz.prog 207 [.agg (pTable t)] [] (RV (.val (.bool (tableOk t)))) := by
  refine pcalls_ofR okP Tryz.func207 rfl ?_
  simp only [Tryz.f207, List.length_cons, List.length_nil, Nat.reduceAdd, Nat.reduceSub, List.replicate_succ, List.replicate_zero, List.cons_append, List.nil_append, List.length_map]
  repeat' (first | with_reducible (first | refine wA ?_ | refine wB ?_ | refine wC ?_ | refine w1 ?_ | refine w2 ?_ | refine w3 ?_ | refine w4 ?_ | refine w5 ?_ | refine w6 ?_ | refine w7 ?_ | refine w8 ?_ | refine wT ?_ | refine w9 ?_ | refine wE ?_ | refine wS ?_) | ((with_reducible refine hK _ ?_); clear hK K) | ((with_reducible refine PWp.condI ?_); refine ⟨_, rfl, fun hg => ?_, fun hg => ?_⟩ <;> first | (exact absurd hg (by decide)) | ((try simp only [Bool.not_true, Bool.not_false] at hg); (try simp only [hg]); (try simp only [push_cast] at hg); (try exact absurd trivial hg); (try (exfalso; omega)))) | ((with_reducible refine pops_guard0 ?_); refine ⟨_, rfl, fun K hK => ⟨rfl, ?_⟩⟩; (try simp (disch := omega) only [push_cast, seval])) | ((with_reducible refine pops_plain fun K hK => ?_); simp (disch := omega) only [push_cast, seval]) | ((with_reducible refine pops_guard ?_); refine ⟨_, rfl, fun K hK => ⟨_, rfl, fun hg => ?_, fun hg => ?_⟩⟩ <;> first | (exact absurd hg (by decide)) | ((try simp only [Bool.not_true, Bool.not_false] at hg); (try simp only [hg]); (try simp only [push_cast] at hg); (try exact absurd trivial hg); (try (exfalso; omega)); (try simp (disch := omega) only [push_cast, seval]))) | ((with_reducible show pcall _ _ _ _ _ _); (first | (refine pcV (cf Tryz.func77) (within_p _ _ _) ?_) | (refine pcV (cf Tryz.func146) (iAt_p ⟨_, _⟩ _ sd) ?_) | (refine pcV (cf Tryz.func167) (isTime_p _) ?_)); (try simp (disch := omega) only [push_cast, seval])) | ((with_reducible refine And.intro ?_ ?_); omega))
  refine PWp.loopK (α := Nat) (fun k => [(1, .ptr 0 0), (8, .val (.int .i64 (k : Int)))]) [0, 2, 3, 4, 5, 9, 10, 11, 12, 13, 14, 15, 16, 17, 18, 19, 20, 21, 22, 23, 24, 25, 26, 27, 28, 29, 30, 31, 32, 33, 34, 35, 36, 37] (fun k => [some (.box (pTable t))]) (fun k => k ≤ t.fPeers.length ∧ allTo (peerAt t.fPeers) k) (fun k => t.fPeers.length - k) (0) (⟨Nat.zero_le _, allTo_zero⟩) (by (refine ⟨[?_], ?_, ?_, ?_, ?_⟩; rotate_left 1; (· ((try simp (disch := omega) only [push_cast, seval]); (repeat' (first | exact trivial | exact rfl | refine And.intro ?_ ?_ | omega)))); (· ((try simp (disch := omega) only [push_cast, seval]); (repeat' (first | exact trivial | exact rfl | refine And.intro ?_ ?_ | omega)))); (· exact rfl); (· (first | exact trivial | exact ⟨rfl, trivial⟩ | exact ⟨rfl, rfl, trivial⟩)))) ?_
  intro k ρ hI
  (try dsimp only at hI)
  refine PWp.at (tm' := ?_) (H' := ?_) ?_ ?_ ?_; rotate_left 2; (· ((try simp only [push_cast, seval]); exact rfl)); (· ((try dsimp only); exact rfl))
  obtain ⟨hk, hA⟩ := hI
  by_cases hlt : k < t.fPeers.length
  · obtain ⟨x, hx⟩ : ∃ x, t.fPeers[k]? = some x := ⟨_, List.getElem?_eq_getElem hlt⟩
    have bad := table_bad hlt
    have e : peerAt t.fPeers k = (inB x.fId 1 99 && inB x.fUntil 0 1000320 && inB x.fBans 0 20 && decide (peerIdx t.fPeers x.fId = (k : Int))) := by unfold peerAt; rw [hx]
    repeat' (first | with_reducible (first | refine wA ?_ | refine wB ?_ | refine wC ?_ | refine w1 ?_ | refine w2 ?_ | refine w3 ?_ | refine w4 ?_ | refine w5 ?_ | refine w6 ?_ | refine w7 ?_ | refine w8 ?_ | refine wT ?_ | refine w9 ?_ | refine wE ?_ | refine wS ?_) | ((with_reducible refine hK _ ?_); clear hK K) | ((with_reducible refine PWp.condI ?_); refine ⟨_, rfl, fun hg => ?_, fun hg => ?_⟩ <;> first | (exact absurd hg (by decide)) | ((try simp only [Bool.not_true, Bool.not_false] at hg); (try simp only [hg]); (try simp only [push_cast] at hg); (try exact absurd trivial hg); (try (exfalso; omega)))) | ((with_reducible refine pops_guard0 ?_); refine ⟨_, rfl, fun K hK => ⟨rfl, ?_⟩⟩; (try simp (disch := omega) only [push_cast, seval, hx])) | ((with_reducible refine pops_plain fun K hK => ?_); simp (disch := omega) only [push_cast, seval, hx]) | ((with_reducible refine pops_guard ?_); refine ⟨_, rfl, fun K hK => ⟨_, rfl, fun hg => ?_, fun hg => ?_⟩⟩ <;> first | (exact absurd hg (by decide)) | ((try simp only [Bool.not_true, Bool.not_false] at hg); (try simp only [hg]); (try simp only [push_cast] at hg); (try exact absurd trivial hg); (try (exfalso; omega)); (try simp (disch := omega) only [push_cast, seval, hx]))) | ((with_reducible show pcall _ _ _ _ _ _); (first | (refine pcV (cf Tryz.func77) (within_p _ _ _) ?_) | (refine pcV (cf Tryz.func146) (iAt_p ⟨_, _⟩ _ sd) ?_) | (refine pcV (cf Tryz.func167) (isTime_p _) ?_)); (try simp (disch := omega) only [push_cast, seval, hx])) | ((with_reducible refine And.intro ?_ ?_); omega))
    all_goals first
      | (((with_reducible show PPostR _ _ _ _ _ _); refine finV ?_; (try simp only [push_cast, seval])); rw [bad (by rw [e]; simp_all)])
      | ((refine ⟨k + 1, by ((try dsimp only); omega), ?_, by (refine ⟨[?_], ?_, ?_, ?_, ?_⟩; rotate_left 1; (· ((try simp (disch := omega) only [push_cast, seval]); (repeat' (first | exact trivial | exact rfl | refine And.intro ?_ ?_ | omega)))); (· ((try simp (disch := omega) only [push_cast, seval]); (repeat' (first | exact trivial | exact rfl | refine And.intro ?_ ?_ | omega)))); (· exact rfl); (· (first | exact trivial | exact ⟨rfl, trivial⟩ | exact ⟨rfl, rfl, trivial⟩)))⟩); exact ⟨by omega, allTo_succ hA (by rw [e]; simp_all)⟩)
  obtain rfl : k = t.fPeers.length := by omega
  have e : tableOk t = (decide ((t.fPeers.length : Int) ≤ 6) && isTime t.fTurn) := by unfold tableOk; rw [allTo_end hA, Bool.true_and]
  repeat' (first | with_reducible (first | refine wA ?_ | refine wB ?_ | refine wC ?_ | refine w1 ?_ | refine w2 ?_ | refine w3 ?_ | refine w4 ?_ | refine w5 ?_ | refine w6 ?_ | refine w7 ?_ | refine w8 ?_ | refine wT ?_ | refine w9 ?_ | refine wE ?_ | refine wS ?_) | ((with_reducible refine hK _ ?_); clear hK K) | ((with_reducible refine PWp.condI ?_); refine ⟨_, rfl, fun hg => ?_, fun hg => ?_⟩ <;> first | (exact absurd hg (by decide)) | ((try simp only [Bool.not_true, Bool.not_false] at hg); (try simp only [hg]); (try simp only [push_cast] at hg); (try exact absurd trivial hg); (try (exfalso; omega)))) | ((with_reducible refine pops_guard0 ?_); refine ⟨_, rfl, fun K hK => ⟨rfl, ?_⟩⟩; (try simp (disch := omega) only [push_cast, seval])) | ((with_reducible refine pops_plain fun K hK => ?_); simp (disch := omega) only [push_cast, seval]) | ((with_reducible refine pops_guard ?_); refine ⟨_, rfl, fun K hK => ⟨_, rfl, fun hg => ?_, fun hg => ?_⟩⟩ <;> first | (exact absurd hg (by decide)) | ((try simp only [Bool.not_true, Bool.not_false] at hg); (try simp only [hg]); (try simp only [push_cast] at hg); (try exact absurd trivial hg); (try (exfalso; omega)); (try simp (disch := omega) only [push_cast, seval]))) | ((with_reducible show pcall _ _ _ _ _ _); (first | (refine pcV (cf Tryz.func77) (within_p _ _ _) ?_) | (refine pcV (cf Tryz.func146) (iAt_p ⟨_, _⟩ _ sd) ?_) | (refine pcV (cf Tryz.func167) (isTime_p _) ?_)); (try simp (disch := omega) only [push_cast, seval])) | ((with_reducible refine And.intro ?_ ?_); omega))
  all_goals
    ((with_reducible show PPostR _ _ _ _ _ _); refine finV ?_; (try simp only [push_cast, seval]))
    rw [e]
    first
      | (simp_all; done)
      | (simp_all; intros; omega)
set_option maxHeartbeats 1000000 in
theorem sTableOk_p (t : GTable) (hl : t.fPeers.length ≤ 1099511627776) : PCalls Tryz.prog 165 [.agg (pTable t)] [] (RV (.val (.bool (tableOk t)))) := by
  by_cases h6 : (t.fPeers.length : Int) ≤ 6
  case neg =>
    have e : tableOk t = false := by unfold tableOk; rw [decide_eq_false h6, Bool.and_false]; rfl
    rw [e]
    refine pcalls_ofR okP Tryz.func165 rfl ?_
    simp only [Tryz.f165, List.length_cons, List.length_nil, Nat.reduceAdd, Nat.reduceSub, List.replicate_succ, List.replicate_zero, List.cons_append, List.nil_append, List.length_map]
    repeat' (first | with_reducible (first | refine wA ?_ | refine wB ?_ | refine wC ?_ | refine w1 ?_ | refine w2 ?_ | refine w3 ?_ | refine w4 ?_ | refine w5 ?_ | refine w6 ?_ | refine w7 ?_ | refine w8 ?_ | refine wT ?_ | refine w9 ?_ | refine wE ?_ | refine wS ?_) | ((with_reducible refine hK _ ?_); clear hK K) | ((with_reducible refine PWp.condI ?_); refine ⟨_, rfl, fun hg => ?_, fun hg => ?_⟩ <;> first | (exact absurd hg (by decide)) | ((try simp only [Bool.not_true, Bool.not_false] at hg); (try simp only [hg]); (try simp only [push_cast] at hg); (try exact absurd trivial hg); (try (exfalso; omega)))) | ((with_reducible refine pops_guard0 ?_); refine ⟨_, rfl, fun K hK => ⟨rfl, ?_⟩⟩; (try simp (disch := omega) only [push_cast, seval])) | ((with_reducible refine pops_plain fun K hK => ?_); simp (disch := omega) only [push_cast, seval]) | ((with_reducible refine pops_guard ?_); refine ⟨_, rfl, fun K hK => ⟨_, rfl, fun hg => ?_, fun hg => ?_⟩⟩ <;> first | (exact absurd hg (by decide)) | ((try simp only [Bool.not_true, Bool.not_false] at hg); (try simp only [hg]); (try simp only [push_cast] at hg); (try exact absurd trivial hg); (try (exfalso; omega)); (try simp (disch := omega) only [push_cast, seval]))) | ((with_reducible show pcall _ _ _ _ _ _); (first | (refine pcV (cf Tryz.func79) (l1In_p _ _ _) ?_) | (refine pcV (cf Tryz.func166) (l10Time_p _) ?_) | (refine pcV (cf Tryz.func170) (sL19At_p ⟨_, _⟩ _ sd) ?_)); (try simp (disch := omega) only [push_cast, seval])) | ((with_reducible refine And.intro ?_ ?_); omega))
    ((with_reducible show PPostR _ _ _ _ _ _); refine finV ?_; (try simp only [push_cast, seval]))
  cases ht : isTime t.fTurn with
  | false =>
    have e : tableOk t = false := by unfold tableOk; rw [ht, Bool.and_false]
    rw [e]
    refine pcalls_ofR okP Tryz.func165 rfl ?_
    simp only [Tryz.f165, List.length_cons, List.length_nil, Nat.reduceAdd, Nat.reduceSub, List.replicate_succ, List.replicate_zero, List.cons_append, List.nil_append, List.length_map]
    repeat' (first | with_reducible (first | refine wA ?_ | refine wB ?_ | refine wC ?_ | refine w1 ?_ | refine w2 ?_ | refine w3 ?_ | refine w4 ?_ | refine w5 ?_ | refine w6 ?_ | refine w7 ?_ | refine w8 ?_ | refine wT ?_ | refine w9 ?_ | refine wE ?_ | refine wS ?_) | ((with_reducible refine hK _ ?_); clear hK K) | ((with_reducible refine PWp.condI ?_); refine ⟨_, rfl, fun hg => ?_, fun hg => ?_⟩ <;> first | (exact absurd hg (by decide)) | ((try simp only [Bool.not_true, Bool.not_false] at hg); (try simp only [hg]); (try simp only [push_cast] at hg); (try exact absurd trivial hg); (try (exfalso; omega)))) | ((with_reducible refine pops_guard0 ?_); refine ⟨_, rfl, fun K hK => ⟨rfl, ?_⟩⟩; (try simp (disch := omega) only [push_cast, seval, ht])) | ((with_reducible refine pops_plain fun K hK => ?_); simp (disch := omega) only [push_cast, seval, ht]) | ((with_reducible refine pops_guard ?_); refine ⟨_, rfl, fun K hK => ⟨_, rfl, fun hg => ?_, fun hg => ?_⟩⟩ <;> first | (exact absurd hg (by decide)) | ((try simp only [Bool.not_true, Bool.not_false] at hg); (try simp only [hg]); (try simp only [push_cast] at hg); (try exact absurd trivial hg); (try (exfalso; omega)); (try simp (disch := omega) only [push_cast, seval, ht]))) | ((with_reducible show pcall _ _ _ _ _ _); (first | (refine pcV (cf Tryz.func79) (l1In_p _ _ _) ?_) | (refine pcV (cf Tryz.func166) (l10Time_p _) ?_) | (refine pcV (cf Tryz.func170) (sL19At_p ⟨_, _⟩ _ sd) ?_)); (try simp (disch := omega) only [push_cast, seval, ht])) | ((with_reducible refine And.intro ?_ ?_); omega))
    ((with_reducible show PPostR _ _ _ _ _ _); refine finV ?_; (try simp only [push_cast, seval]))
  | true =>
  refine pcalls_ofR okP Tryz.func165 rfl ?_
  simp only [Tryz.f165, List.length_cons, List.length_nil, Nat.reduceAdd, Nat.reduceSub, List.replicate_succ, List.replicate_zero, List.cons_append, List.nil_append, List.length_map]
  repeat' (first | with_reducible (first | refine wA ?_ | refine wB ?_ | refine wC ?_ | refine w1 ?_ | refine w2 ?_ | refine w3 ?_ | refine w4 ?_ | refine w5 ?_ | refine w6 ?_ | refine w7 ?_ | refine w8 ?_ | refine wT ?_ | refine w9 ?_ | refine wE ?_ | refine wS ?_) | ((with_reducible refine hK _ ?_); clear hK K) | ((with_reducible refine PWp.condI ?_); refine ⟨_, rfl, fun hg => ?_, fun hg => ?_⟩ <;> first | (exact absurd hg (by decide)) | ((try simp only [Bool.not_true, Bool.not_false] at hg); (try simp only [hg]); (try simp only [push_cast] at hg); (try exact absurd trivial hg); (try (exfalso; omega)))) | ((with_reducible refine pops_guard0 ?_); refine ⟨_, rfl, fun K hK => ⟨rfl, ?_⟩⟩; (try simp (disch := omega) only [push_cast, seval, ht])) | ((with_reducible refine pops_plain fun K hK => ?_); simp (disch := omega) only [push_cast, seval, ht]) | ((with_reducible refine pops_guard ?_); refine ⟨_, rfl, fun K hK => ⟨_, rfl, fun hg => ?_, fun hg => ?_⟩⟩ <;> first | (exact absurd hg (by decide)) | ((try simp only [Bool.not_true, Bool.not_false] at hg); (try simp only [hg]); (try simp only [push_cast] at hg); (try exact absurd trivial hg); (try (exfalso; omega)); (try simp (disch := omega) only [push_cast, seval, ht]))) | ((with_reducible show pcall _ _ _ _ _ _); (first | (refine pcV (cf Tryz.func79) (l1In_p _ _ _) ?_) | (refine pcV (cf Tryz.func166) (l10Time_p _) ?_) | (refine pcV (cf Tryz.func170) (sL19At_p ⟨_, _⟩ _ sd) ?_)); (try simp (disch := omega) only [push_cast, seval, ht])) | ((with_reducible refine And.intro ?_ ?_); omega))
  refine PWp.loopK (α := Nat) (fun k => [(1, .ptr 0 0), (3, .val (.int .i64 (k : Int)))]) [0, 2, 4, 5, 6, 7, 8, 9, 10, 11, 12, 13, 14, 15, 16, 17, 18, 19, 20, 21, 22, 23, 24, 25, 26, 27, 28, 29, 30, 31, 32, 33, 34, 35, 36, 37, 38, 39, 40, 41, 42, 43, 44, 45, 46, 47, 48, 49, 50] (fun k => [some (.box (pTable t))]) (fun k => k ≤ t.fPeers.length ∧ allTo (peerAt t.fPeers) k) (fun k => t.fPeers.length - k) (0) (⟨Nat.zero_le _, allTo_zero⟩) (by (refine ⟨[?_], ?_, ?_, ?_, ?_⟩; rotate_left 1; (· ((try simp (disch := omega) only [push_cast, seval]); (repeat' (first | exact trivial | exact rfl | refine And.intro ?_ ?_ | omega)))); (· ((try simp (disch := omega) only [push_cast, seval]); (repeat' (first | exact trivial | exact rfl | refine And.intro ?_ ?_ | omega)))); (· exact rfl); (· (first | exact trivial | exact ⟨rfl, trivial⟩ | exact ⟨rfl, rfl, trivial⟩)))) ?_
  intro k ρ hI
  (try dsimp only at hI)
  refine PWp.at (tm' := ?_) (H' := ?_) ?_ ?_ ?_; rotate_left 2; (· ((try simp only [push_cast, seval]); exact rfl)); (· ((try dsimp only); exact rfl))
  obtain ⟨hk, hA⟩ := hI
  by_cases hlt : k < t.fPeers.length
  · obtain ⟨x, hx⟩ : ∃ x, t.fPeers[k]? = some x := ⟨_, List.getElem?_eq_getElem hlt⟩
    have bad := table_bad hlt
    have e : peerAt t.fPeers k = (inB x.fId 1 99 && inB x.fUntil 0 1000320 && inB x.fBans 0 20 && decide (peerIdx t.fPeers x.fId = (k : Int))) := by unfold peerAt; rw [hx]
    repeat' (first | with_reducible (first | refine wA ?_ | refine wB ?_ | refine wC ?_ | refine w1 ?_ | refine w2 ?_ | refine w3 ?_ | refine w4 ?_ | refine w5 ?_ | refine w6 ?_ | refine w7 ?_ | refine w8 ?_ | refine wT ?_ | refine w9 ?_ | refine wE ?_ | refine wS ?_) | ((with_reducible refine hK _ ?_); clear hK K) | ((with_reducible refine PWp.condI ?_); refine ⟨_, rfl, fun hg => ?_, fun hg => ?_⟩ <;> first | (exact absurd hg (by decide)) | ((try simp only [Bool.not_true, Bool.not_false] at hg); (try simp only [hg]); (try simp only [push_cast] at hg); (try exact absurd trivial hg); (try (exfalso; omega)))) | ((with_reducible refine pops_guard0 ?_); refine ⟨_, rfl, fun K hK => ⟨rfl, ?_⟩⟩; (try simp (disch := omega) only [push_cast, seval, hx])) | ((with_reducible refine pops_plain fun K hK => ?_); simp (disch := omega) only [push_cast, seval, hx]) | ((with_reducible refine pops_guard ?_); refine ⟨_, rfl, fun K hK => ⟨_, rfl, fun hg => ?_, fun hg => ?_⟩⟩ <;> first | (exact absurd hg (by decide)) | ((try simp only [Bool.not_true, Bool.not_false] at hg); (try simp only [hg]); (try simp only [push_cast] at hg); (try exact absurd trivial hg); (try (exfalso; omega)); (try simp (disch := omega) only [push_cast, seval, hx]))) | ((with_reducible show pcall _ _ _ _ _ _); (first | (refine pcV (cf Tryz.func79) (l1In_p _ _ _) ?_) | (refine pcV (cf Tryz.func166) (l10Time_p _) ?_) | (refine pcV (cf Tryz.func170) (sL19At_p ⟨_, _⟩ _ sd) ?_)); (try simp (disch := omega) only [push_cast, seval, hx])) | ((with_reducible refine And.intro ?_ ?_); omega))
    all_goals first
      | (((with_reducible show PPostR _ _ _ _ _ _); refine finV ?_; (try simp only [push_cast, seval])); rw [bad (by rw [e]; simp_all)])
      | ((refine ⟨k + 1, by ((try dsimp only); omega), ?_, by (refine ⟨[?_], ?_, ?_, ?_, ?_⟩; rotate_left 1; (· ((try simp (disch := omega) only [push_cast, seval]); (repeat' (first | exact trivial | exact rfl | refine And.intro ?_ ?_ | omega)))); (· ((try simp (disch := omega) only [push_cast, seval]); (repeat' (first | exact trivial | exact rfl | refine And.intro ?_ ?_ | omega)))); (· exact rfl); (· (first | exact trivial | exact ⟨rfl, trivial⟩ | exact ⟨rfl, rfl, trivial⟩)))⟩); exact ⟨by omega, allTo_succ hA (by rw [e]; simp_all)⟩)
  obtain rfl : k = t.fPeers.length := by omega
  have e : tableOk t = true := by unfold tableOk; rw [allTo_end hA, decide_eq_true h6, ht]; rfl
  repeat' (first | with_reducible (first | refine wA ?_ | refine wB ?_ | refine wC ?_ | refine w1 ?_ | refine w2 ?_ | refine w3 ?_ | refine w4 ?_ | refine w5 ?_ | refine w6 ?_ | refine w7 ?_ | refine w8 ?_ | refine wT ?_ | refine w9 ?_ | refine wE ?_ | refine wS ?_) | ((with_reducible refine hK _ ?_); clear hK K) | ((with_reducible refine PWp.condI ?_); refine ⟨_, rfl, fun hg => ?_, fun hg => ?_⟩ <;> first | (exact absurd hg (by decide)) | ((try simp only [Bool.not_true, Bool.not_false] at hg); (try simp only [hg]); (try simp only [push_cast] at hg); (try exact absurd trivial hg); (try (exfalso; omega)))) | ((with_reducible refine pops_guard0 ?_); refine ⟨_, rfl, fun K hK => ⟨rfl, ?_⟩⟩; (try simp (disch := omega) only [push_cast, seval])) | ((with_reducible refine pops_plain fun K hK => ?_); simp (disch := omega) only [push_cast, seval]) | ((with_reducible refine pops_guard ?_); refine ⟨_, rfl, fun K hK => ⟨_, rfl, fun hg => ?_, fun hg => ?_⟩⟩ <;> first | (exact absurd hg (by decide)) | ((try simp only [Bool.not_true, Bool.not_false] at hg); (try simp only [hg]); (try simp only [push_cast] at hg); (try exact absurd trivial hg); (try (exfalso; omega)); (try simp (disch := omega) only [push_cast, seval]))) | ((with_reducible show pcall _ _ _ _ _ _); (first | (refine pcV (cf Tryz.func79) (l1In_p _ _ _) ?_) | (refine pcV (cf Tryz.func166) (l10Time_p _) ?_) | (refine pcV (cf Tryz.func170) (sL19At_p ⟨_, _⟩ _ sd) ?_)); (try simp (disch := omega) only [push_cast, seval])) | ((with_reducible refine And.intro ?_ ?_); omega))
  ((with_reducible show PPostR _ _ _ _ _ _); refine finV ?_; (try simp only [push_cast, seval]))
  rw [e]
def pTbO (t : GTable) : List PV := [.own 0, .val (.int .i64 t.fTurn)]
def bTb (t : GTable) : Hp := [some (.row 211 4 (t.fPeers.map pPeer))]
attribute [push_cast] pTbO bTb
attribute [push_cast] List.map_set
end Go.Proofs.YtiboajlnjldalaaGreatDoor
namespace Go.Proofs.YtiboajlnjldalaaGreatDoor
set_option linter.unusedSimpArgs false
set_option linter.unusedVariables false
open Go.RowKit
set_option maxRecDepth 100000
attribute [push_cast] List.set_set List.length_set
end Go.Proofs.YtiboajlnjldalaaGreatDoor
namespace Go.Proofs.YtiboajlnjldalaaGreatDoor
set_option linter.unusedSimpArgs false
set_option linter.unusedVariables false
open Go.RowKit
set_option maxRecDepth 100000
set_option maxHeartbeats 2000000 in
theorem iLightOk_p (c : GLight) (h1 : c.fAnchor.fNext.length ≤ 2000000) (h2 : c.fStore.fHeads.length ≤ 2000000) (h3 : c.fPeers.fPeers.length ≤ 2000000) : PCalls Tryz.prog 121 [.agg (pLight c)] [] (RV (.val (.bool (lightOk c)))) := by
  obtain ⟨tr, st, ⟨hh, nx⟩, ⟨hs, sy⟩, ⟨ps, tu⟩, now⟩ := c
  dsimp only at h1 h2 h3
  have hd : lightOk ⟨tr, st, ⟨hh, nx⟩, ⟨hs, sy⟩, ⟨ps, tu⟩, now⟩ = (trustOk tr && anchorOk ⟨hh, nx⟩ && storeOk ⟨hs, sy⟩ && tableOk ⟨ps, tu⟩ && inB st 1 2 && isTime now && (match lastHead hs with | some h => headEq h hh | none => false)) := rfl
  by_cases hlen : hs.length = 0
  · have e : lastHead hs = none := by unfold lastHead; exact List.getElem?_eq_none (by omega)
    rw [e] at hd
    refine pcalls_ofR okP Tryz.func121 rfl ?_
    simp only [Tryz.f121, List.length_cons, List.length_nil, Nat.reduceAdd, Nat.reduceSub, List.replicate_succ, List.replicate_zero, List.cons_append, List.nil_append, List.length_map]
    repeat' (first | with_reducible (first | refine wA ?_ | refine wB ?_ | refine wC ?_) | with_reducible refine PWp.draw (id := 4) okP true [0, 1, 2, 3, 4, 5, 6, 7, 8, 9, 10, 11, 12, 13, 14, 15, 16, 17, 18, 19, 20, 21, 22, 23, 24, 25] (by kernel_rfl) ?_ | with_reducible (first | refine w1 ?_ | refine w2 ?_ | refine w3 ?_ | refine w4 ?_ | refine w5 ?_ | refine w6 ?_ | refine w7 ?_ | refine w8 ?_ | refine wT ?_ | refine w9 ?_ | refine wE ?_ | refine wS ?_) | ((with_reducible refine hK _ ?_); clear hK K) | ((with_reducible refine PWp.condI ?_); refine ⟨_, rfl, fun hg => ?_, fun hg => ?_⟩ <;> first | (exact absurd hg (by decide)) | ((try simp only [Bool.not_true, Bool.not_false] at hg); (try simp only [hg]); (try simp only [push_cast] at hg); (try exact absurd trivial hg); (try (exfalso; omega)))) | ((first | ((with_reducible refine pops_guard0 ?_); refine ⟨_, rfl, fun K hK => ⟨rfl, ?_⟩⟩) | ((with_reducible refine pD_g0 ?_); refine ⟨_, rfl, rfl, ?_⟩)); (try simp (disch := omega) only [push_cast, seval])) | ((with_reducible refine pany_I ?_); refine ⟨_, rfl, fun K hK => ?_⟩) | ((with_reducible refine pops_plain fun K hK => ?_); simp (disch := omega) only [push_cast, seval]) | ((first | ((with_reducible refine pD_y ?_ ?_); exact rfl) | ((with_reducible refine pD_x ?_ ?_); exact rfl)); simp (disch := omega) only [push_cast, seval]) | ((first | ((with_reducible refine pops_guard ?_); refine ⟨_, rfl, fun K hK => ⟨_, rfl, fun hg => ?_, fun hg => ?_⟩⟩) | ((first | ((with_reducible refine pD_gy ?_ ?_); exact rfl) | ((with_reducible refine pD_gx ?_ ?_); exact rfl)); refine ⟨_, rfl, _, rfl, fun hg => ?_, fun hg => ?_⟩)) <;> first | (exact absurd hg (by decide)) | ((try simp only [Bool.not_true, Bool.not_false] at hg); (try simp only [hg]); (try simp only [push_cast] at hg); (try exact absurd trivial hg); (try (exfalso; omega)); (try simp (disch := omega) only [push_cast, seval]))) | ((with_reducible show pcall _ _ _ _ _ _); (first | (refine pcV (cf Tryz.func77) (within_p _ _ _) ?_) | (refine pcV (cf Tryz.func167) (isTime_p _) ?_) | (refine pcV (cf Tryz.func204) (iTrustOk_p ⟨_, _⟩) ?_) | (refine pcV (cf Tryz.func205) (iAnchorOk_p ⟨⟨_, _, _, _, _, _⟩, _⟩ sd) ?_) | (refine pcV (cf Tryz.func206) (iStoreOk_p ⟨_, _⟩ sd) ?_) | (refine pcV (cf Tryz.func207) (iTableOk_p ⟨_, _⟩ sd) ?_)); (try simp (disch := omega) only [push_cast, seval])) | ((with_reducible refine And.intro ?_ ?_); omega))
    all_goals
      ((with_reducible show PPostR _ _ _ _ _ _); refine finV ?_; (try simp only [push_cast, seval]))
      simp_all
  · obtain ⟨x, hx⟩ : ∃ x, hs[hs.length - 1]? = some x := ⟨_, List.getElem?_eq_getElem (by omega)⟩
    have e : lastHead hs = some x := hx
    rw [e] at hd
    have e1 : ((hs.length : Int) - 1).toNat = hs.length - 1 := by omega
    refine pcalls_ofR okP Tryz.func121 rfl ?_
    simp only [Tryz.f121, List.length_cons, List.length_nil, Nat.reduceAdd, Nat.reduceSub, List.replicate_succ, List.replicate_zero, List.cons_append, List.nil_append, List.length_map]
    repeat' (first | with_reducible (first | refine wA ?_ | refine wB ?_ | refine wC ?_) | with_reducible refine PWp.draw (id := 4) okP true [0, 1, 2, 3, 4, 5, 6, 7, 8, 9, 10, 11, 12, 13, 14, 15, 16, 17, 18, 19, 20, 21, 22, 23, 24, 25] (by kernel_rfl) ?_ | with_reducible (first | refine w1 ?_ | refine w2 ?_ | refine w3 ?_ | refine w4 ?_ | refine w5 ?_ | refine w6 ?_ | refine w7 ?_ | refine w8 ?_ | refine wT ?_ | refine w9 ?_ | refine wE ?_ | refine wS ?_) | ((with_reducible refine hK _ ?_); clear hK K) | ((with_reducible refine PWp.condI ?_); refine ⟨_, rfl, fun hg => ?_, fun hg => ?_⟩ <;> first | (exact absurd hg (by decide)) | ((try simp only [Bool.not_true, Bool.not_false] at hg); (try simp only [hg]); (try simp only [push_cast] at hg); (try exact absurd trivial hg); (try (exfalso; omega)))) | ((first | ((with_reducible refine pops_guard0 ?_); refine ⟨_, rfl, fun K hK => ⟨rfl, ?_⟩⟩) | ((with_reducible refine pD_g0 ?_); refine ⟨_, rfl, rfl, ?_⟩)); (try simp (disch := omega) only [push_cast, seval, e1, hx])) | ((with_reducible refine pany_I ?_); refine ⟨_, rfl, fun K hK => ?_⟩) | ((with_reducible refine pops_plain fun K hK => ?_); simp (disch := omega) only [push_cast, seval, e1, hx]) | ((first | ((with_reducible refine pD_y ?_ ?_); exact rfl) | ((with_reducible refine pD_x ?_ ?_); exact rfl)); simp (disch := omega) only [push_cast, seval, e1, hx]) | ((first | ((with_reducible refine pops_guard ?_); refine ⟨_, rfl, fun K hK => ⟨_, rfl, fun hg => ?_, fun hg => ?_⟩⟩) | ((first | ((with_reducible refine pD_gy ?_ ?_); exact rfl) | ((with_reducible refine pD_gx ?_ ?_); exact rfl)); refine ⟨_, rfl, _, rfl, fun hg => ?_, fun hg => ?_⟩)) <;> first | (exact absurd hg (by decide)) | ((try simp only [Bool.not_true, Bool.not_false] at hg); (try simp only [hg]); (try simp only [push_cast] at hg); (try exact absurd trivial hg); (try (exfalso; omega)); (try simp (disch := omega) only [push_cast, seval, e1, hx]))) | ((with_reducible show pcall _ _ _ _ _ _); (first | (refine pcV (cf Tryz.func77) (within_p _ _ _) ?_) | (refine pcV (cf Tryz.func167) (isTime_p _) ?_) | (refine pcV (cf Tryz.func204) (iTrustOk_p ⟨_, _⟩) ?_) | (refine pcV (cf Tryz.func205) (iAnchorOk_p ⟨⟨_, _, _, _, _, _⟩, _⟩ sd) ?_) | (refine pcV (cf Tryz.func206) (iStoreOk_p ⟨_, _⟩ sd) ?_) | (refine pcV (cf Tryz.func207) (iTableOk_p ⟨_, _⟩ sd) ?_)); (try simp (disch := omega) only [push_cast, seval, e1, hx])) | ((with_reducible refine And.intro ?_ ?_); omega))
    all_goals
      ((with_reducible show PPostR _ _ _ _ _ _); refine finV ?_; (try simp only [push_cast, seval]))
      first
        | (simp_all [headEq]; done)
        | (simp_all [headEq]; omega)
set_option maxHeartbeats 2000000 in
theorem sLightOk_p (c : GLight) (h1 : c.fAnchor.fNext.length ≤ 2000000) (h2 : c.fStore.fHeads.length ≤ 2000000) (h3 : c.fPeers.fPeers.length ≤ 2000000) : PCalls Tryz.prog 62 [.agg (pLight c)] [] (RV (.val (.bool (lightOk c)))) := by
  obtain ⟨tr, st, ⟨hh, nx⟩, ⟨hs, sy⟩, ⟨ps, tu⟩, now⟩ := c
  dsimp only at h1 h2 h3
  have hd : lightOk ⟨tr, st, ⟨hh, nx⟩, ⟨hs, sy⟩, ⟨ps, tu⟩, now⟩ = (trustOk tr && anchorOk ⟨hh, nx⟩ && storeOk ⟨hs, sy⟩ && tableOk ⟨ps, tu⟩ && inB st 1 2 && isTime now && (match lastHead hs with | some h => headEq h hh | none => false)) := rfl
  by_cases hlen : hs.length = 0
  · have e : lastHead hs = none := by unfold lastHead; exact List.getElem?_eq_none (by omega)
    rw [e] at hd
    refine pcalls_ofR okP Tryz.func62 rfl ?_
    simp only [Tryz.f62, List.length_cons, List.length_nil, Nat.reduceAdd, Nat.reduceSub, List.replicate_succ, List.replicate_zero, List.cons_append, List.nil_append, List.length_map]
    repeat' (first | with_reducible (first | refine wA ?_ | refine wB ?_ | refine wC ?_) | with_reducible refine PWp.draw (id := 2) okP true [0, 1, 2, 3, 4, 5, 6, 7, 8, 9, 10, 11, 12, 13, 14, 15, 16, 17, 18, 19, 20, 21, 22, 23, 24, 25, 26, 27, 28, 29, 30, 31, 32, 33, 34, 35, 36, 37, 38, 39, 40, 41, 42, 43, 44, 45] (by kernel_rfl) ?_ | with_reducible (first | refine w1 ?_ | refine w2 ?_ | refine w3 ?_ | refine w4 ?_ | refine w5 ?_ | refine w6 ?_ | refine w7 ?_ | refine w8 ?_ | refine wT ?_ | refine w9 ?_ | refine wE ?_ | refine wS ?_) | ((with_reducible refine hK _ ?_); clear hK K) | ((first | ((with_reducible refine pops_guard0 ?_); refine ⟨_, rfl, fun K hK => ⟨rfl, ?_⟩⟩) | ((with_reducible refine pD_g0 ?_); refine ⟨_, rfl, rfl, ?_⟩)); (try simp (disch := omega) only [push_cast, seval])) | ((with_reducible refine pany_I ?_); refine ⟨_, rfl, fun K hK => ?_⟩) | ((with_reducible refine pops_plain fun K hK => ?_); simp (disch := omega) only [push_cast, seval]) | ((first | ((with_reducible refine pD_y ?_ ?_); exact rfl) | ((with_reducible refine pD_x ?_ ?_); exact rfl)); simp (disch := omega) only [push_cast, seval]) | ((first | ((with_reducible refine pops_guard ?_); refine ⟨_, rfl, fun K hK => ⟨_, rfl, fun hg => ?_, fun hg => ?_⟩⟩) | ((first | ((with_reducible refine pD_gy ?_ ?_); exact rfl) | ((with_reducible refine pD_gx ?_ ?_); exact rfl)); refine ⟨_, rfl, _, rfl, fun hg => ?_, fun hg => ?_⟩)) <;> first | (exact absurd hg (by decide)) | ((try simp only [Bool.not_true, Bool.not_false] at hg); (try simp only [hg]); (try simp only [push_cast] at hg); (try exact absurd trivial hg); (try (exfalso; omega)); (try simp (disch := omega) only [push_cast, seval]))) | ((with_reducible show pcall _ _ _ _ _ _); (first | (refine pcV (cf Tryz.func79) (l1In_p _ _ _) ?_) | (refine pcV (cf Tryz.func162) (sTrustOk_p ⟨_, _⟩) ?_) | (refine pcV (cf Tryz.func163) (sAnchorOk_p ⟨⟨_, _, _, _, _, _⟩, _⟩ sd) ?_) | (refine pcV (cf Tryz.func164) (sStoreOk_p ⟨_, _⟩ sd) ?_) | (refine pcV (cf Tryz.func165) (sTableOk_p ⟨_, _⟩ sd) ?_) | (refine pcV (cf Tryz.func166) (l10Time_p _) ?_)); (try simp (disch := omega) only [push_cast, seval])) | ((with_reducible refine And.intro ?_ ?_); omega))
    all_goals
      ((with_reducible show PPostR _ _ _ _ _ _); refine finV ?_; (try simp only [push_cast, seval]))
      simp_all
  · obtain ⟨x, hx⟩ : ∃ x, hs[hs.length - 1]? = some x := ⟨_, List.getElem?_eq_getElem (by omega)⟩
    have e : lastHead hs = some x := hx
    rw [e] at hd
    have e1 : ((hs.length : Int) - 1).toNat = hs.length - 1 := by omega
    refine pcalls_ofR okP Tryz.func62 rfl ?_
    simp only [Tryz.f62, List.length_cons, List.length_nil, Nat.reduceAdd, Nat.reduceSub, List.replicate_succ, List.replicate_zero, List.cons_append, List.nil_append, List.length_map]
    repeat' (first | with_reducible (first | refine wA ?_ | refine wB ?_ | refine wC ?_) | with_reducible refine PWp.draw (id := 2) okP true [0, 1, 2, 3, 4, 5, 6, 7, 8, 9, 10, 11, 12, 13, 14, 15, 16, 17, 18, 19, 20, 21, 22, 23, 24, 25, 26, 27, 28, 29, 30, 31, 32, 33, 34, 35, 36, 37, 38, 39, 40, 41, 42, 43, 44, 45] (by kernel_rfl) ?_ | with_reducible (first | refine w1 ?_ | refine w2 ?_ | refine w3 ?_ | refine w4 ?_ | refine w5 ?_ | refine w6 ?_ | refine w7 ?_ | refine w8 ?_ | refine wT ?_ | refine w9 ?_ | refine wE ?_ | refine wS ?_) | ((with_reducible refine hK _ ?_); clear hK K) | ((first | ((with_reducible refine pops_guard0 ?_); refine ⟨_, rfl, fun K hK => ⟨rfl, ?_⟩⟩) | ((with_reducible refine pD_g0 ?_); refine ⟨_, rfl, rfl, ?_⟩)); (try simp (disch := omega) only [push_cast, seval, e1, hx])) | ((with_reducible refine pany_I ?_); refine ⟨_, rfl, fun K hK => ?_⟩) | ((with_reducible refine pops_plain fun K hK => ?_); simp (disch := omega) only [push_cast, seval, e1, hx]) | ((first | ((with_reducible refine pD_y ?_ ?_); exact rfl) | ((with_reducible refine pD_x ?_ ?_); exact rfl)); simp (disch := omega) only [push_cast, seval, e1, hx]) | ((first | ((with_reducible refine pops_guard ?_); refine ⟨_, rfl, fun K hK => ⟨_, rfl, fun hg => ?_, fun hg => ?_⟩⟩) | ((first | ((with_reducible refine pD_gy ?_ ?_); exact rfl) | ((with_reducible refine pD_gx ?_ ?_); exact rfl)); refine ⟨_, rfl, _, rfl, fun hg => ?_, fun hg => ?_⟩)) <;> first | (exact absurd hg (by decide)) | ((try simp only [Bool.not_true, Bool.not_false] at hg); (try simp only [hg]); (try simp only [push_cast] at hg); (try exact absurd trivial hg); (try (exfalso; omega)); (try simp (disch := omega) only [push_cast, seval, e1, hx]))) | ((with_reducible show pcall _ _ _ _ _ _); (first | (refine pcV (cf Tryz.func79) (l1In_p _ _ _) ?_) | (refine pcV (cf Tryz.func162) (sTrustOk_p ⟨_, _⟩) ?_) | (refine pcV (cf Tryz.func163) (sAnchorOk_p ⟨⟨_, _, _, _, _, _⟩, _⟩ sd) ?_) | (refine pcV (cf Tryz.func164) (sStoreOk_p ⟨_, _⟩ sd) ?_) | (refine pcV (cf Tryz.func165) (sTableOk_p ⟨_, _⟩ sd) ?_) | (refine pcV (cf Tryz.func166) (l10Time_p _) ?_)); (try simp (disch := omega) only [push_cast, seval, e1, hx])) | ((with_reducible refine And.intro ?_ ?_); omega))
    all_goals
      ((with_reducible show PPostR _ _ _ _ _ _); refine finV ?_; (try simp only [push_cast, seval]))
      first
        | (simp_all [headEq]; done)
        | (simp_all [headEq]; omega)
end Go.Proofs.YtiboajlnjldalaaGreatDoor
namespace Go.Proofs.YtiboajlnjldalaaGreatDoor
set_option linter.unusedSimpArgs false
set_option linter.unusedVariables false
open Go.RowKit
set_option maxRecDepth 100000
structure SmC (c : GLight) : Prop where
  a : c.fAnchor.fNext.length ≤ 2000000
  s : c.fStore.fHeads.length ≤ 2000000
  p : c.fPeers.fPeers.length ≤ 2000000
end Go.Proofs.YtiboajlnjldalaaGreatDoor
namespace Go.Proofs.YtiboajlnjldalaaGreatDoor
set_option linter.unusedSimpArgs false
set_option linter.unusedVariables false
open Go.RowKit
set_option maxRecDepth 100000
def pLiO (c : GLight) : List PV := [.val (.int .i64 c.fTrust.fPeriod), .val (.int .i64 c.fTrust.fSlack), .val (.int .i64 c.fState), .val (.int .i64 c.fAnchor.fHead.fHeight), .val (.int .i64 c.fAnchor.fHead.fTime), .val (.string c.fAnchor.fHead.fLast), .val (.string c.fAnchor.fHead.fVals), .val (.string c.fAnchor.fHead.fNext), .val (.string c.fAnchor.fHead.fData), .own 0, .own 1, .val (.int .i64 c.fStore.fSynced), .own 2, .val (.int .i64 c.fPeers.fTurn), .val (.int .i64 c.fNow)]
def bLi (c : GLight) : Hp := [some (.row 141 2 (c.fAnchor.fNext.map pVal)), some (.row 30 6 (c.fStore.fHeads.map pHeader)), some (.row 211 4 (c.fPeers.fPeers.map pPeer))]
attribute [push_cast] pLiO bLi
end Go.Proofs.YtiboajlnjldalaaGreatDoor
namespace Go.Proofs.YtiboajlnjldalaaGreatDoor
set_option linter.unusedSimpArgs false
set_option linter.unusedVariables false
open Go.RowKit
end Go.Proofs.YtiboajlnjldalaaGreatDoor
namespace Go.Proofs.YtiboajlnjldalaaGreatDoor
set_option linter.unusedSimpArgs false
set_option linter.unusedVariables false
open Go.RowKit
def encTrust (x : GTrust) : List D := [.int x.fPeriod, .int x.fSlack]
theorem dec_Trust : Dec [.int .i64, .int .i64] encTrust := by
  intro n W vs h
  match vs, h with
  | [_, _], ⟨k0, k1, _⟩ =>
    obtain ⟨a0, rfl, h0⟩ := cell_int k0
    obtain ⟨a1, rfl, h1⟩ := cell_int k1
    exact ⟨⟨a0, a1⟩, (Rds.int _ (Rds.int _ Rds.nil)), (okL_int h0 (okL_int h1 okL_nil))⟩
theorem pv_Trust (x : GTrust) : toPVL (encTrust x) = pTrust x := by
  simp only [encTrust, pTrust, toPVL, toPV]
end Go.Proofs.YtiboajlnjldalaaGreatDoor
namespace Go.Proofs.YtiboajlnjldalaaGreatDoor
set_option linter.unusedSimpArgs false
set_option linter.unusedVariables false
open Go.RowKit
end Go.Proofs.YtiboajlnjldalaaGreatDoor
namespace Go.Proofs.YtiboajlnjldalaaGreatDoor
set_option linter.unusedSimpArgs false
set_option linter.unusedVariables false
open Go.RowKit
def encVal (x : GVal) : List D := [.int x.fId, .int x.fPower]
theorem dec_Val : Dec [.int .i64, .int .i64] encVal := by
  intro n W vs h
  match vs, h with
  | [_, _], ⟨k0, k1, _⟩ =>
    obtain ⟨a0, rfl, h0⟩ := cell_int k0
    obtain ⟨a1, rfl, h1⟩ := cell_int k1
    exact ⟨⟨a0, a1⟩, (Rds.int _ (Rds.int _ Rds.nil)), (okL_int h0 (okL_int h1 okL_nil))⟩
theorem pv_Val (x : GVal) : toPVL (encVal x) = pVal x := by
  simp only [encVal, pVal, toPVL, toPV]
theorem pvs_Val (e : TypeId) (xs : List GVal) : toPV (slD e 2 encVal xs) = .sl 2 (xs.map pVal) := by rw [toPV_slD (enc := encVal) (sz := 2) (fun _ => rfl)]; simp only [pv_Val]
end Go.Proofs.YtiboajlnjldalaaGreatDoor
namespace Go.Proofs.YtiboajlnjldalaaGreatDoor
set_option linter.unusedSimpArgs false
set_option linter.unusedVariables false
open Go.RowKit
end Go.Proofs.YtiboajlnjldalaaGreatDoor
namespace Go.Proofs.YtiboajlnjldalaaGreatDoor
set_option linter.unusedSimpArgs false
set_option linter.unusedVariables false
open Go.RowKit
end Go.Proofs.YtiboajlnjldalaaGreatDoor
namespace Go.Proofs.YtiboajlnjldalaaGreatDoor
set_option linter.unusedSimpArgs false
set_option linter.unusedVariables false
open Go.RowKit
end Go.Proofs.YtiboajlnjldalaaGreatDoor
namespace Go.Proofs.YtiboajlnjldalaaGreatDoor
set_option linter.unusedSimpArgs false
set_option linter.unusedVariables false
open Go.RowKit
end Go.Proofs.YtiboajlnjldalaaGreatDoor
namespace Go.Proofs.YtiboajlnjldalaaGreatDoor
set_option linter.unusedSimpArgs false
set_option linter.unusedVariables false
open Go.RowKit
end Go.Proofs.YtiboajlnjldalaaGreatDoor
namespace Go.Proofs.YtiboajlnjldalaaGreatDoor
set_option linter.unusedSimpArgs false
set_option linter.unusedVariables false
open Go.RowKit
set_option maxRecDepth 100000
structure TickFacts (c : GLight) : Prop where
  n1 : 0 ≤ c.fNow
  n2 : c.fNow ≤ 1000000
  h1 : 0 ≤ c.fAnchor.fHead.fTime
  h2 : c.fAnchor.fHead.fTime ≤ 1000000
  t1 : 1 ≤ c.fTrust.fPeriod
  t2 : c.fTrust.fPeriod ≤ 1000000
theorem tick_facts {c : GLight} (ok : lightOk c = true) : TickFacts c := by
  have f := lightOk_iff.1 ok
  have f1 := time_bd f.n
  have f4 := trust_bd f.t
  have f5 := headerOk_facts (anchor_vals f.a).1
  have f6 := f5.t0; have f7 := f5.t1
  constructor <;> omega
def light0 : GLight := ⟨⟨0, 0⟩, 0, ⟨header0, []⟩, ⟨[], 0⟩, ⟨[], 0⟩, 0⟩
end Go.Proofs.YtiboajlnjldalaaGreatDoor
namespace Go.Proofs.YtiboajlnjldalaaGreatDoor
set_option linter.unusedSimpArgs false
set_option linter.unusedVariables false
open Go.RowKit
set_option maxRecDepth 100000
theorem rowsC4 {r : List PV} (hr : r.all cloC = true) : ∀ row ∈ [r], row.all cloC = true := fun row hm => by rw [List.mem_singleton.1 hm]; exact hr
def lightAt (t : GTrust) (h : GHeader) (nx : List GVal) (now : Int) : GLight := ⟨t, 1, ⟨h, nx⟩, ⟨[h], 1⟩, ⟨[], 0⟩, now⟩
def mLightNew (t : GTrust) (b : GBlock) (now : Int) : GLight × Bool :=
  if blockOk b && lightOk (lightAt t b.fHead b.fNext now) && decide (now ≤ b.fHead.fTime + t.fPeriod) then (lightAt t b.fHead b.fNext now, true) else (light0, false)
def pLn (t : GTrust) (h : GHeader) (now : Int) (x y : PV) : List PV := [.val (.int .i64 t.fPeriod), .val (.int .i64 t.fSlack), .val (.int .i64 1), .val (.int .i64 h.fHeight), .val (.int .i64 h.fTime), .val (.string h.fLast), .val (.string h.fVals), .val (.string h.fNext), .val (.string h.fData), x, y, .val (.int .i64 1), .val (.slice none 0 0), .val (.int .i64 0), .val (.int .i64 now)]
def rHd (h : GHeader) : List PV := [.val (.int .i64 h.fHeight), .val (.int .i64 h.fTime), .val (.string h.fLast), .val (.string h.fVals), .val (.string h.fNext), .val (.string h.fData)]
def bLn (h : GHeader) (nx : List GVal) : Hp := [some (.row 141 2 (nx.map pVal)), some (.row 30 6 [rHd h])]
attribute [push_cast] pLn rHd bLn
theorem iLightOk_n (t : GTrust) (h : GHeader) (nx : List GVal) (now : Int) (h1 : nx.length ≤ 2000000) : PCalls Tryz.prog 121 [.agg [.val (.int .i64 t.fPeriod), .val (.int .i64 t.fSlack), .val (.int .i64 1), .val (.int .i64 h.fHeight), .val (.int .i64 h.fTime), .val (.string h.fLast), .val (.string h.fVals), .val (.string h.fNext), .val (.string h.fData), .sl 2 (nx.map pVal), .sl 6 [[.val (.int .i64 h.fHeight), .val (.int .i64 h.fTime), .val (.string h.fLast), .val (.string h.fVals), .val (.string h.fNext), .val (.string h.fData)]], .val (.int .i64 1), .val (.slice none 0 0), .val (.int .i64 0), .val (.int .i64 now)]] [] (RV (.val (.bool (lightOk (lightAt t h nx now))))) :=
  (iLightOk_p (lightAt t h nx now) h1 (by simp [lightAt]) (by simp [lightAt])).wkA (by (repeat' (first | exact Wk.rfl _ | exact Wk.nil _ | exact trivial | refine And.intro ?_ ?_ | refine wk_agg ?_ | refine wk_tup ?_)))
theorem sLightOk_n (t : GTrust) (h : GHeader) (nx : List GVal) (now : Int) (h1 : nx.length ≤ 2000000) : PCalls Tryz.prog 62 [.agg [.val (.int .i64 t.fPeriod), .val (.int .i64 t.fSlack), .val (.int .i64 1), .val (.int .i64 h.fHeight), .val (.int .i64 h.fTime), .val (.string h.fLast), .val (.string h.fVals), .val (.string h.fNext), .val (.string h.fData), .sl 2 (nx.map pVal), .sl 6 [[.val (.int .i64 h.fHeight), .val (.int .i64 h.fTime), .val (.string h.fLast), .val (.string h.fVals), .val (.string h.fNext), .val (.string h.fData)]], .val (.int .i64 1), .val (.slice none 0 0), .val (.int .i64 0), .val (.int .i64 now)]] [] (RV (.val (.bool (lightOk (lightAt t h nx now))))) :=
  (sLightOk_p (lightAt t h nx now) h1 (by simp [lightAt]) (by simp [lightAt])).wkA (by (repeat' (first | exact Wk.rfl _ | exact Wk.nil _ | exact trivial | refine And.intro ?_ ?_ | refine wk_agg ?_ | refine wk_tup ?_)))
theorem sL24At_p (t : GTrust) (h : GHeader) (nx : List GVal) (now : Int) (h1 : nx.length ≤ 2000000) : PCalls Tryz.prog 116 [.agg (pTrust t), .agg (pHeader h), .sl 2 (nx.map pVal), .val (.int .i64 now)] [] (RH (.agg (pLn t h now (.own 0) (.own 1))) (bLn h nx)) := by
  obtain ⟨tp, ts⟩ := t
  obtain ⟨hh, ht, hl, hv, hn, hd⟩ := h
  refine pcalls_ofR okP Tryz.func116 rfl ?_
  simp only [Tryz.f116, List.length_cons, List.length_nil, Nat.reduceAdd, Nat.reduceSub, List.replicate_succ, List.replicate_zero, List.cons_append, List.nil_append, List.length_map]
  repeat' (first | with_reducible (first | refine wA ?_ | refine wB ?_ | refine wC ?_ | refine w1 ?_ | refine w2 ?_ | refine w3 ?_ | refine w4 ?_ | refine w5 ?_ | refine w6 ?_ | refine w7 ?_ | refine w8 ?_ | refine wT ?_ | refine w9 ?_ | refine wE ?_ | refine wS ?_) | ((with_reducible refine hK _ ?_); clear hK K) | ((with_reducible refine pops_plain fun K hK => popO_row ?_); refine ⟨_, _, _, _, _, rfl, rfl, rfl, rfl, rfl, ?_⟩; simp (disch := omega) only [push_cast, seval]) | ((with_reducible refine pops_plain fun K hK => popO_build ?_); refine ⟨_, rfl, _, rfl, ?_⟩; simp (disch := omega) only [push_cast, seval]) | ((with_reducible refine pbuild_cs ?_); refine ⟨_, rfl, _, rfl, ?_⟩; simp (disch := omega) only [push_cast, seval]) | ((with_reducible refine pops_plain fun K hK => ?_); simp (disch := omega) only [push_cast, seval]) | ((with_reducible show pcall _ _ _ _ _ _); (first | (refine pcF (cf Tryz.func201) (sL11Copy_p ⟨⟨_, _, _, _, _, _⟩, _⟩ sd) ?_)); (try simp (disch := omega) only [push_cast, seval])) | ((with_reducible refine And.intro ?_ ?_); omega))
  all_goals ((with_reducible show PPostR _ _ _ _ _ _); exact finH [_, _])
structure NewFacts (t : GTrust) (h : GHeader) (now : Int) : Prop where
  t0 : 0 ≤ h.fTime
  t1 : h.fTime ≤ 1000000
  p0 : 1 ≤ t.fPeriod
  p1 : t.fPeriod ≤ 1000000
  e : expires t h.fTime = h.fTime + t.fPeriod
theorem new_facts {t : GTrust} {h : GHeader} {nx : List GVal} {now : Int} (ok : lightOk (lightAt t h nx now) = true) : NewFacts t h now := by
  have f := lightOk_iff.1 ok
  have g := tick_facts ok
  have f5 := headerOk_facts (anchor_vals f.a).1
  have f6 := f5.t0; have f7 := f5.t1
  have ht := f.t
  refine ⟨g.h1, g.h2, g.t1, g.t2, ?_⟩
  unfold expires isTime
  have ht' : trustOk t = true := ht
  rw [ht', Bool.true_and, if_pos (show inB h.fTime 0 1000000 = true from inB_iff.2 ⟨f6, f7⟩)]
set_option maxHeartbeats 2000000 in
theorem iLightNew_y (t : GTrust) (b : GBlock) (now : Int) (hb : SmB b) (okb : blockOk b = true) (okl : lightOk (lightAt t b.fHead b.fNext now) = true) (hx : now ≤ b.fHead.fTime + t.fPeriod) : PCalls Tryz.prog 40 [.agg (pTrust t), .agg (pBlock b), .val (.int .i64 now)] [] (RH (.tup [.agg (pLn t b.fHead now (.own 0) (.own 1)), .val (.bool true)]) (bLn b.fHead b.fNext)) := by
  obtain ⟨b1, b2, b3⟩ := hb
  obtain ⟨t0, t1, p0, p1, ee⟩ := new_facts okl
  obtain ⟨⟨y1, y2, y3, y4, y5, y6⟩, vs, nx, ⟨ch, cr, ci, cs⟩⟩ := b
  obtain ⟨tp, ts⟩ := t
  dsimp only at *
  refine pcalls_ofR okP Tryz.func40 rfl ?_
  simp only [Tryz.f40, List.length_cons, List.length_nil, Nat.reduceAdd, Nat.reduceSub, List.replicate_succ, List.replicate_zero, List.cons_append, List.nil_append, List.length_map]
  repeat' (first | with_reducible (first | refine wA ?_ | refine wB ?_ | refine wC ?_) | with_reducible refine PWp.drawT (id := 1) okP true (.step 0 (.step 1 (.step 2 (.step 3 (.step 4 (.step 7 (.step 8 (.step 11 (.fork (.alt 5 (.step 6 (.fork (.alt 9 (.step 10 (.step 12 (.step 13 (.step 14 .done)))) (.alt 13 (.step 9 (.step 10 (.step 12 (.step 14 .done)))) .stop)))) (.alt 9 (.step 10 (.fork (.alt 5 (.step 6 (.step 12 (.step 13 (.step 14 .done)))) (.alt 13 (.step 5 (.step 6 (.step 12 (.step 14 .done)))) .stop)))) (.alt 13 (.fork (.alt 5 (.step 6 (.step 9 (.step 10 (.step 12 (.step 14 .done))))) (.alt 9 (.step 10 (.step 5 (.step 6 (.step 12 (.step 14 .done))))) .stop))) .stop)))))))))))) (by kernel_rfl) ?_ | with_reducible (first | refine w1 ?_ | refine w2 ?_ | refine w3 ?_ | refine w4 ?_ | refine w5 ?_ | refine w6 ?_ | refine w7 ?_ | refine w8 ?_ | refine wT ?_ | refine w9 ?_ | refine wE ?_ | refine wS ?_) | ((with_reducible refine hK _ ?_); clear hK K) | ((with_reducible refine PWp.condI ?_); refine ⟨_, rfl, fun hg => ?_, fun hg => ?_⟩ <;> first | (exact absurd hg (by decide)) | ((try simp only [Bool.not_true, Bool.not_false] at hg); (try simp only [hg]); (try simp only [push_cast] at hg); (try exact absurd trivial hg); (try (exfalso; omega)))) | ((first | ((with_reducible refine pops_guard0 ?_); refine ⟨_, rfl, fun K hK => ⟨rfl, ?_⟩⟩) | ((with_reducible refine pD_g0 ?_); refine ⟨_, rfl, rfl, ?_⟩)); (try simp (disch := omega) only [push_cast, seval, okb, okl, ee])) | with_reducible (first | refine ptree_done ?_ | exact ptree_stop | refine ptree_fork ?_) | ((with_reducible refine ptree_I ?_); refine ⟨_, rfl, fun K hK => ?_⟩) | ((with_reducible refine ptree_A ?_ ?_); (refine ⟨_, rfl, fun K hK => ?_⟩)) | ((with_reducible refine pany_I ?_); refine ⟨_, rfl, fun K hK => ?_⟩) | ((with_reducible refine pops_plain fun K hK => popO_row ?_); refine ⟨_, _, _, _, _, rfl, rfl, rfl, rfl, rfl, ?_⟩; simp (disch := omega) only [push_cast, seval, okb, okl, ee]) | ((with_reducible refine pD_x ?_ (popO_row ?_)); exact rfl; refine ⟨_, _, _, _, _, rfl, rfl, rfl, rfl, rfl, ?_⟩; simp (disch := omega) only [push_cast, seval, okb, okl, ee]) | ((with_reducible refine pops_plain fun K hK => popO_build ?_); refine ⟨_, rfl, _, rfl, ?_⟩; simp (disch := omega) only [push_cast, seval, okb, okl, ee]) | ((with_reducible refine pD_y ?_ (py_build ?_)); exact rfl; refine ⟨_, rfl, _, rfl, ?_⟩; simp (disch := omega) only [push_cast, seval, okb, okl, ee]) | ((with_reducible refine pbuild_cs ?_); refine ⟨_, rfl, _, rfl, ?_⟩; simp (disch := omega) only [push_cast, seval, okb, okl, ee]) | ((with_reducible refine pops_plain fun K hK => ?_); simp (disch := omega) only [push_cast, seval, okb, okl, ee]) | ((first | ((with_reducible refine pD_y ?_ ?_); exact rfl) | ((with_reducible refine pD_x ?_ ?_); exact rfl)); simp (disch := omega) only [push_cast, seval, okb, okl, ee]) | ((first | ((with_reducible refine pops_guard ?_); refine ⟨_, rfl, fun K hK => ⟨_, rfl, fun hg => ?_, fun hg => ?_⟩⟩) | ((first | ((with_reducible refine pD_gy ?_ ?_); exact rfl) | ((with_reducible refine pD_gx ?_ ?_); exact rfl)); refine ⟨_, rfl, _, rfl, fun hg => ?_, fun hg => ?_⟩)) <;> first | (exact absurd hg (by decide)) | ((try simp only [Bool.not_true, Bool.not_false] at hg); (try simp only [hg]); (try simp only [push_cast] at hg); (try exact absurd trivial hg); (try (exfalso; omega)); (try simp (disch := omega) only [push_cast, seval, okb, okl, ee]))) | ((with_reducible show pcall _ _ _ _ _ _); (first | (refine pcV (cf Tryz.func17) (iBlockOk_p ⟨⟨_, _, _, _, _, _⟩, _, _, ⟨_, _, _, _⟩⟩ (by first | assumption | exact ⟨by (first | assumption | omega | (simp; omega) | (simp_all; done) | (simp_all; omega)), by (first | assumption | omega | (simp; omega) | (simp_all; done) | (simp_all; omega)), by (first | assumption | omega | (simp; omega) | (simp_all; done) | (simp_all; omega))⟩)) ?_) | (refine pcF (cf Tryz.func120) (copyVals_p _ sd) ?_) | (refine pcF (cf Tryz.func120) (iCopyVals_p _ sd) ?_) | (refine pcV (cf Tryz.func121) (iLightOk_n ⟨_, _⟩ ⟨_, _, _, _, _, _⟩ _ _ sd) (ha := by repeat' (first | exact trivial | exact rfl | exact rowsC4 rfl | exact rowsC fun _ => rfl | refine And.intro ?_ ?_ | refine vwOk_ag ?_)) ?_) | (refine pcV (cf Tryz.func122) (iExpires_p ⟨_, _⟩ _) ?_)); (try simp (disch := omega) only [push_cast, seval, okb, okl, ee])) | ((with_reducible refine And.intro ?_ ?_); omega))
  all_goals ((with_reducible show PPostR _ _ _ _ _ _); exact finH [_, _])
set_option maxHeartbeats 2000000 in
theorem sLightNew_y (t : GTrust) (b : GBlock) (now : Int) (hb : SmB b) (okb : blockOk b = true) (okl : lightOk (lightAt t b.fHead b.fNext now) = true) (hx : now ≤ b.fHead.fTime + t.fPeriod) : PCalls Tryz.prog 37 [.agg (pTrust t), .agg (pBlock b), .val (.int .i64 now)] [] (RH (.tup [.agg (pLn t b.fHead now (.own 0) (.own 1)), .val (.bool true)]) (bLn b.fHead b.fNext)) := by
  obtain ⟨b1, b2, b3⟩ := hb
  obtain ⟨t0, t1, p0, p1, ee⟩ := new_facts okl
  obtain ⟨⟨y1, y2, y3, y4, y5, y6⟩, vs, nx, ⟨ch, cr, ci, cs⟩⟩ := b
  obtain ⟨tp, ts⟩ := t
  dsimp only at *
  refine pcalls_ofR okP Tryz.func37 rfl ?_
  simp only [Tryz.f37, List.length_cons, List.length_nil, Nat.reduceAdd, Nat.reduceSub, List.replicate_succ, List.replicate_zero, List.cons_append, List.nil_append, List.length_map]
  repeat' (first | with_reducible (first | refine wA ?_ | refine wB ?_ | refine wC ?_ | refine w1 ?_ | refine w2 ?_ | refine w3 ?_ | refine w4 ?_ | refine w5 ?_ | refine w6 ?_ | refine w7 ?_ | refine w8 ?_ | refine wT ?_ | refine w9 ?_ | refine wE ?_ | refine wS ?_) | ((with_reducible refine hK _ ?_); clear hK K) | ((with_reducible refine PWp.condI ?_); refine ⟨_, rfl, fun hg => ?_, fun hg => ?_⟩ <;> first | (exact absurd hg (by decide)) | ((try simp only [Bool.not_true, Bool.not_false] at hg); (try simp only [hg]); (try simp only [push_cast] at hg); (try exact absurd trivial hg); (try (exfalso; omega)))) | ((with_reducible refine pops_guard0 ?_); refine ⟨_, rfl, fun K hK => ⟨rfl, ?_⟩⟩; (try simp (disch := omega) only [push_cast, seval, okb, okl, ee])) | ((with_reducible refine pops_plain fun K hK => popO_build ?_); refine ⟨_, rfl, _, rfl, ?_⟩; simp (disch := omega) only [push_cast, seval, okb, okl, ee]) | ((with_reducible refine pbuild_cs ?_); refine ⟨_, rfl, _, rfl, ?_⟩; simp (disch := omega) only [push_cast, seval, okb, okl, ee]) | ((with_reducible refine pops_plain fun K hK => ?_); simp (disch := omega) only [push_cast, seval, okb, okl, ee]) | ((with_reducible refine pops_guard ?_); refine ⟨_, rfl, fun K hK => ⟨_, rfl, fun hg => ?_, fun hg => ?_⟩⟩ <;> first | (exact absurd hg (by decide)) | ((try simp only [Bool.not_true, Bool.not_false] at hg); (try simp only [hg]); (try simp only [push_cast] at hg); (try exact absurd trivial hg); (try (exfalso; omega)); (try simp (disch := omega) only [push_cast, seval, okb, okl, ee]))) | ((with_reducible show pcall _ _ _ _ _ _); (first | (refine pcV (cf Tryz.func29) (sBlockOk_p ⟨⟨_, _, _, _, _, _⟩, _, _, ⟨_, _, _, _⟩⟩ (by first | assumption | exact ⟨by (first | assumption | omega | (simp; omega) | (simp_all; done) | (simp_all; omega)), by (first | assumption | omega | (simp; omega) | (simp_all; done) | (simp_all; omega)), by (first | assumption | omega | (simp; omega) | (simp_all; done) | (simp_all; omega))⟩)) ?_) | (refine pcV (cf Tryz.func62) (sLightOk_n ⟨_, _⟩ ⟨_, _, _, _, _, _⟩ _ _ sd) (ha := by repeat' (first | exact trivial | exact rfl | exact rowsC4 rfl | exact rowsC fun _ => rfl | refine And.intro ?_ ?_ | refine vwOk_ag ?_)) ?_) | (refine pcF (cf Tryz.func116) (sL24At_p ⟨_, _⟩ ⟨_, _, _, _, _, _⟩ _ _ sd) ?_)); (try simp (disch := omega) only [push_cast, seval, okb, okl, ee])) | ((with_reducible refine And.intro ?_ ?_); omega))
  all_goals ((with_reducible show PPostR _ _ _ _ _ _); exact finH [_, _])
end Go.Proofs.YtiboajlnjldalaaGreatDoor
namespace Go.Proofs.YtiboajlnjldalaaGreatDoor
set_option linter.unusedSimpArgs false
set_option linter.unusedVariables false
open Go.RowKit
set_option maxRecDepth 100000
def pLx (c : GLight) (x y z : PV) : List PV := [.val (.int .i64 c.fTrust.fPeriod), .val (.int .i64 c.fTrust.fSlack), .val (.int .i64 c.fState), .val (.int .i64 c.fAnchor.fHead.fHeight), .val (.int .i64 c.fAnchor.fHead.fTime), .val (.string c.fAnchor.fHead.fLast), .val (.string c.fAnchor.fHead.fVals), .val (.string c.fAnchor.fHead.fNext), .val (.string c.fAnchor.fHead.fData), x, y, .val (.int .i64 c.fStore.fSynced), z, .val (.int .i64 c.fPeers.fTurn), .val (.int .i64 c.fNow)]
attribute [push_cast] pLx
end Go.Proofs.YtiboajlnjldalaaGreatDoor
namespace Go.Proofs.YtiboajlnjldalaaGreatDoor
set_option linter.unusedSimpArgs false
set_option linter.unusedVariables false
open Go.RowKit
set_option maxRecDepth 100000
theorem iCopyVals_p (l : List GVal) (hl : l.length ≤ 1000000) : PCalls Tryz.prog 120 [.sl 2 (l.map pVal)] [] (RH (.own 0) [some (.row 141 2 (l.map pVal))]) := by
  refine pcalls_ofR okP Tryz.func120 rfl ?_
  simp only [Tryz.f120, List.length_cons, List.length_nil, Nat.reduceAdd, Nat.reduceSub, List.replicate_succ, List.replicate_zero, List.cons_append, List.nil_append, List.length_map]
  repeat' (first | with_reducible (first | refine wA ?_ | refine wB ?_ | refine wC ?_ | refine w1 ?_ | refine w2 ?_ | refine w3 ?_ | refine w4 ?_ | refine w5 ?_ | refine w6 ?_ | refine w7 ?_ | refine w8 ?_ | refine wT ?_ | refine w9 ?_ | refine wE ?_ | refine wS ?_) | ((with_reducible refine hK _ ?_); clear hK K) | ((with_reducible refine pops_plain fun K hK => ?_); simp (disch := omega) only [push_cast, seval]) | ((with_reducible refine And.intro ?_ ?_); omega))
  ((with_reducible show PPostR _ _ _ _ _ _); exact finH [_])
end Go.Proofs.YtiboajlnjldalaaGreatDoor
namespace Go.Proofs.YtiboajlnjldalaaGreatDoor
set_option linter.unusedSimpArgs false
set_option linter.unusedVariables false
open Go.RowKit
theorem nil_push {M : Mem} {h : Home} {H : Hp} {w : World} (I : Inv M h H w) (e : TypeId) (sz : Nat) : Step M h H w M (upd h H.length (.slice none 0 0)) (H ++ [some (.row e sz [])]) w :=
  Step.push I (Ext.refl w) (B := .row e sz []) (v := .slice none 0 0) ⟨⟨none, 0, 0, rfl⟩, [], ⟨by simp, .inl ⟨rfl, rfl⟩⟩, by simp, by simp, by simp⟩ fun k hk => by cases hk
end Go.Proofs.YtiboajlnjldalaaGreatDoor
namespace Go.Proofs.YtiboajlnjldalaaGreatDoor
set_option linter.unusedSimpArgs false
set_option linter.unusedVariables false
open Go.RowKit
set_option maxRecDepth 100000
def pBkO (b : GBlock) : List PV := [.val (.int .i64 b.fHead.fHeight), .val (.int .i64 b.fHead.fTime), .val (.string b.fHead.fLast), .val (.string b.fHead.fVals), .val (.string b.fHead.fNext), .val (.string b.fHead.fData), .own 0, .own 1, .val (.int .i64 b.fCommit.fHeight), .val (.int .i64 b.fCommit.fRound), .val (.string b.fCommit.fId), .own 2]
def bBk (b : GBlock) : Hp := [some (.row 141 2 (b.fVals.map pVal)), some (.row 141 2 (b.fNext.map pVal)), some (.row 227 2 (b.fCommit.fSigs.map pCSig))]
attribute [push_cast] pBkO bBk
end Go.Proofs.YtiboajlnjldalaaGreatDoor
namespace Go.Proofs.YtiboajlnjldalaaGreatDoor
set_option linter.unusedSimpArgs false
set_option linter.unusedVariables false
open Go.RowKit
set_option maxRecDepth 100000
def pCmO (c : GCommit) : List PV := [.val (.int .i64 c.fHeight), .val (.int .i64 c.fRound), .val (.string c.fId), .own 0]
attribute [push_cast] pCmO
def mkAnchor (k : Int) (a : GAnchor) : GAnchor := ⟨a.fHead, mkd (mkVal k) a.fNext a.fNext.length⟩
def mkStore (k : Int) (s : GStore) : GStore := ⟨mkd (mkHeader k) s.fHeads s.fHeads.length, s.fSynced⟩
def mkTable (k : Int) (t : GTable) : GTable := ⟨mkd (mkPeer k) t.fPeers t.fPeers.length, t.fTurn⟩
def mkCommitM (k : Int) (c : GCommit) : GCommit := ⟨c.fHeight, c.fRound, c.fId, mkd (mkCSig k) c.fSigs c.fSigs.length⟩
theorem lToTrust_p (x : GTrust) : PCalls Tryz.prog 38 [.agg (pTrust x)] [] (RH (.agg (pTrust x)) []) := by
  refine pcalls_ofR okP Tryz.func38 rfl ?_
  simp only [Tryz.f38, List.length_cons, List.length_nil, Nat.reduceAdd, Nat.reduceSub, List.replicate_succ, List.replicate_zero, List.cons_append, List.nil_append, List.length_map]
  repeat' (first | with_reducible (first | refine wA ?_ | refine wB ?_ | refine wC ?_ | refine w1 ?_ | refine w2 ?_ | refine w3 ?_ | refine w4 ?_ | refine w5 ?_ | refine w6 ?_ | refine w7 ?_ | refine w8 ?_ | refine wT ?_ | refine w9 ?_ | refine wE ?_ | refine wS ?_) | ((with_reducible refine hK _ ?_); clear hK K) | ((with_reducible refine pops_plain fun K hK => ?_); simp (disch := omega) only [push_cast, seval]) | ((with_reducible refine And.intro ?_ ?_); omega))
  all_goals ((with_reducible show PPostR _ _ _ _ _ _); exact finH [])
theorem lEqTrust_p (x : GTrust) : PCalls Tryz.prog 123 [.agg (pTrust x), .agg (pTrust x)] [] (RV (.val (.bool true))) := by
  refine pcalls_ofR okP Tryz.func123 rfl ?_
  simp only [Tryz.f123, List.length_cons, List.length_nil, Nat.reduceAdd, Nat.reduceSub, List.replicate_succ, List.replicate_zero, List.cons_append, List.nil_append, List.length_map]
  repeat' (first | with_reducible (first | refine wA ?_ | refine wB ?_ | refine wC ?_ | refine w1 ?_ | refine w2 ?_ | refine w3 ?_ | refine w4 ?_ | refine w5 ?_ | refine w6 ?_ | refine w7 ?_ | refine w8 ?_ | refine wT ?_ | refine w9 ?_ | refine wE ?_ | refine wS ?_) | ((with_reducible refine hK _ ?_); clear hK K) | ((with_reducible refine PWp.condI ?_); refine ⟨_, rfl, fun hg => ?_, fun hg => ?_⟩ <;> first | (exact absurd hg (by decide)) | ((try simp only [Bool.not_true, Bool.not_false] at hg); (try simp only [hg]); (try simp only [push_cast] at hg); (try exact absurd trivial hg); (try (exfalso; omega)))) | ((with_reducible refine pops_plain fun K hK => ?_); simp (disch := omega) only [push_cast, seval]) | ((with_reducible refine And.intro ?_ ?_); omega))
  all_goals ((with_reducible show PPostR _ _ _ _ _ _); refine finV ?_; (try simp only [push_cast, seval]))
theorem lEqAnchor_p (x : GAnchor) (hl : x.fNext.length ≤ 2000000) : PCalls Tryz.prog 124 [.agg (pAnchor x), .agg (pAnchor x)] [] (RV (.val (.bool true))) := by
  refine pcalls_ofR okP Tryz.func124 rfl ?_
  simp only [Tryz.f124, List.length_cons, List.length_nil, Nat.reduceAdd, Nat.reduceSub, List.replicate_succ, List.replicate_zero, List.cons_append, List.nil_append, List.length_map]
  repeat' (first | with_reducible (first | refine wA ?_ | refine wB ?_ | refine wC ?_ | refine w1 ?_ | refine w2 ?_ | refine w3 ?_ | refine w4 ?_ | refine w5 ?_ | refine w6 ?_ | refine w7 ?_ | refine w8 ?_ | refine wT ?_ | refine w9 ?_ | refine wE ?_ | refine wS ?_) | ((with_reducible refine hK _ ?_); clear hK K) | ((with_reducible refine PWp.condI ?_); refine ⟨_, rfl, fun hg => ?_, fun hg => ?_⟩ <;> first | (exact absurd hg (by decide)) | ((try simp only [Bool.not_true, Bool.not_false] at hg); (try simp only [hg]); (try simp only [push_cast] at hg); (try exact absurd trivial hg); (try (exfalso; omega)))) | ((with_reducible refine pops_plain fun K hK => ?_); simp (disch := omega) only [push_cast, seval, eqB_self]) | ((with_reducible show pcall _ _ _ _ _ _); (first | (refine pcV (cf Tryz.func127) (lEqHeader_p ⟨_, _, _, _, _, _⟩) ?_) | (refine pcV (cf Tryz.func128) (lEqValS_p _ sd) ?_)); (try simp (disch := omega) only [push_cast, seval, eqB_self])) | ((with_reducible refine And.intro ?_ ?_); omega))
  all_goals ((with_reducible show PPostR _ _ _ _ _ _); refine finV ?_; (try simp only [push_cast, seval]))
theorem lMarkAnchor_p (x : GAnchor) (k : Int) (hl : x.fNext.length ≤ 2000000) (hk : 0 ≤ k ∧ k ≤ 100000000) : PCalls Tryz.prog 131 [.agg (pAnO x), .val (.int .i64 k)] [some (.row 141 2 (x.fNext.map pVal))] (RH (.val (.int .i64 (k + 2 * (x.fNext.length : Int)))) [some (.row 141 2 ((mkAnchor k x).fNext.map pVal))]) := by
  refine pcalls_ofR okP Tryz.func131 rfl ?_
  simp only [Tryz.f131, List.length_cons, List.length_nil, Nat.reduceAdd, Nat.reduceSub, List.replicate_succ, List.replicate_zero, List.cons_append, List.nil_append, List.length_map]
  repeat' (first | with_reducible (first | refine wA ?_ | refine wB ?_ | refine wC ?_ | refine w1 ?_ | refine w2 ?_ | refine w3 ?_ | refine w4 ?_ | refine w5 ?_ | refine w6 ?_ | refine w7 ?_ | refine w8 ?_ | refine wT ?_ | refine w9 ?_ | refine wE ?_ | refine wS ?_) | ((with_reducible refine hK _ ?_); clear hK K) | ((with_reducible refine pops_plain fun K hK => ?_); simp (disch := omega) only [push_cast, seval]) | ((with_reducible show pcall _ _ _ _ _ _); (first | (refine pcall_RGf (cf Tryz.func99) [?_] ?_ ?_ ?_ (lMarkValS_p ?_ ?_ ?_ ?_) ?_; rotate_left 1; (· ((try simp (disch := omega) only [push_cast, seval]); (repeat' (first | exact trivial | exact rfl | refine And.intro ?_ ?_ | omega)))); (· (repeat' (first | exact trivial | refine And.intro ?_ ?_ | exact ⟨_, rfl⟩ | (simp (disch := omega) only [push_cast, seval]; done) | exact rfl))); (· exact rfl); rotate_right 1; rotate_left 1; (all_goals (try (first | omega | exact (show _ = _ by assumption)))))); (try simp (disch := omega) only [push_cast, seval])) | ((with_reducible refine And.intro ?_ ?_); omega))
  all_goals ((with_reducible show PPostR _ _ _ _ _ _); exact finH [0])
theorem lHeldAnchor_p (x : GAnchor) (k : Int) (hl : x.fNext.length ≤ 2000000) (hk : 0 ≤ k ∧ k ≤ 100000000) : PCalls Tryz.prog 134 [.agg (pAnchor (mkAnchor k x)), .val (.int .i64 k)] [] (RV (.val (.int .i64 (k + 2 * (x.fNext.length : Int))))) := by
  unfold mkAnchor
  refine pcalls_ofR okP Tryz.func134 rfl ?_
  simp only [Tryz.f134, List.length_cons, List.length_nil, Nat.reduceAdd, Nat.reduceSub, List.replicate_succ, List.replicate_zero, List.cons_append, List.nil_append, List.length_map]
  repeat' (first | with_reducible (first | refine wA ?_ | refine wB ?_ | refine wC ?_ | refine w1 ?_ | refine w2 ?_ | refine w3 ?_ | refine w4 ?_ | refine w5 ?_ | refine w6 ?_ | refine w7 ?_ | refine w8 ?_ | refine wT ?_ | refine w9 ?_ | refine wE ?_ | refine wS ?_) | ((with_reducible refine hK _ ?_); clear hK K) | ((with_reducible refine PWp.condI ?_); refine ⟨_, rfl, fun hg => ?_, fun hg => ?_⟩ <;> first | (exact absurd hg (by decide)) | ((try simp only [Bool.not_true, Bool.not_false] at hg); (try simp only [hg]); (try simp only [push_cast] at hg); (try exact absurd trivial hg); (try (exfalso; omega)))) | ((with_reducible refine pops_plain fun K hK => ?_); simp (disch := omega) only [push_cast, seval]) | ((with_reducible show pcall _ _ _ _ _ _); (first | (refine pcV (cf Tryz.func101) (lHeldValS_p _ _ sd sd) ?_)); (try simp (disch := omega) only [push_cast, seval])) | ((with_reducible refine And.intro ?_ ?_); omega))
  all_goals ((with_reducible show PPostR _ _ _ _ _ _); refine finV ?_; (try simp only [push_cast, seval]))
theorem lEqStore_p (x : GStore) (hl : x.fHeads.length ≤ 2000000) : PCalls Tryz.prog 125 [.agg (pStore x), .agg (pStore x)] [] (RV (.val (.bool true))) := by
  refine pcalls_ofR okP Tryz.func125 rfl ?_
  simp only [Tryz.f125, List.length_cons, List.length_nil, Nat.reduceAdd, Nat.reduceSub, List.replicate_succ, List.replicate_zero, List.cons_append, List.nil_append, List.length_map]
  repeat' (first | with_reducible (first | refine wA ?_ | refine wB ?_ | refine wC ?_ | refine w1 ?_ | refine w2 ?_ | refine w3 ?_ | refine w4 ?_ | refine w5 ?_ | refine w6 ?_ | refine w7 ?_ | refine w8 ?_ | refine wT ?_ | refine w9 ?_ | refine wE ?_ | refine wS ?_) | ((with_reducible refine hK _ ?_); clear hK K) | ((with_reducible refine PWp.condI ?_); refine ⟨_, rfl, fun hg => ?_, fun hg => ?_⟩ <;> first | (exact absurd hg (by decide)) | ((try simp only [Bool.not_true, Bool.not_false] at hg); (try simp only [hg]); (try simp only [push_cast] at hg); (try exact absurd trivial hg); (try (exfalso; omega)))) | ((with_reducible refine pops_plain fun K hK => ?_); simp (disch := omega) only [push_cast, seval, eqB_self]) | ((with_reducible show pcall _ _ _ _ _ _); (first | (refine pcV (cf Tryz.func208) (lEqHeaderS_p _ sd) ?_)); (try simp (disch := omega) only [push_cast, seval, eqB_self])) | ((with_reducible refine And.intro ?_ ?_); omega))
  all_goals ((with_reducible show PPostR _ _ _ _ _ _); refine finV ?_; (try simp only [push_cast, seval]))
theorem lMarkStore_p (x : GStore) (k : Int) (hl : x.fHeads.length ≤ 2000000) (hk : 0 ≤ k ∧ k ≤ 100000000) : PCalls Tryz.prog 132 [.agg (pStO x), .val (.int .i64 k)] [some (.row 30 6 (x.fHeads.map pHeader))] (RH (.val (.int .i64 (k + 6 * (x.fHeads.length : Int)))) [some (.row 30 6 ((mkStore k x).fHeads.map pHeader))]) := by
  refine pcalls_ofR okP Tryz.func132 rfl ?_
  simp only [Tryz.f132, List.length_cons, List.length_nil, Nat.reduceAdd, Nat.reduceSub, List.replicate_succ, List.replicate_zero, List.cons_append, List.nil_append, List.length_map]
  repeat' (first | with_reducible (first | refine wA ?_ | refine wB ?_ | refine wC ?_ | refine w1 ?_ | refine w2 ?_ | refine w3 ?_ | refine w4 ?_ | refine w5 ?_ | refine w6 ?_ | refine w7 ?_ | refine w8 ?_ | refine wT ?_ | refine w9 ?_ | refine wE ?_ | refine wS ?_) | ((with_reducible refine hK _ ?_); clear hK K) | ((with_reducible refine pops_plain fun K hK => ?_); simp (disch := omega) only [push_cast, seval]) | ((with_reducible show pcall _ _ _ _ _ _); (first | (refine pcall_RGf (cf Tryz.func212) [?_] ?_ ?_ ?_ (lMarkHeaderS_p ?_ ?_ ?_ ?_) ?_; rotate_left 1; (· ((try simp (disch := omega) only [push_cast, seval]); (repeat' (first | exact trivial | exact rfl | refine And.intro ?_ ?_ | omega)))); (· (repeat' (first | exact trivial | refine And.intro ?_ ?_ | exact ⟨_, rfl⟩ | (simp (disch := omega) only [push_cast, seval]; done) | exact rfl))); (· exact rfl); rotate_right 1; rotate_left 1; (all_goals (try (first | omega | exact (show _ = _ by assumption)))))); (try simp (disch := omega) only [push_cast, seval])) | ((with_reducible refine And.intro ?_ ?_); omega))
  all_goals ((with_reducible show PPostR _ _ _ _ _ _); exact finH [0])
theorem lHeldStore_p (x : GStore) (k : Int) (hl : x.fHeads.length ≤ 2000000) (hk : 0 ≤ k ∧ k ≤ 100000000) : PCalls Tryz.prog 135 [.agg (pStore (mkStore k x)), .val (.int .i64 k)] [] (RV (.val (.int .i64 (k + 6 * (x.fHeads.length : Int))))) := by
  unfold mkStore
  refine pcalls_ofR okP Tryz.func135 rfl ?_
  simp only [Tryz.f135, List.length_cons, List.length_nil, Nat.reduceAdd, Nat.reduceSub, List.replicate_succ, List.replicate_zero, List.cons_append, List.nil_append, List.length_map]
  repeat' (first | with_reducible (first | refine wA ?_ | refine wB ?_ | refine wC ?_ | refine w1 ?_ | refine w2 ?_ | refine w3 ?_ | refine w4 ?_ | refine w5 ?_ | refine w6 ?_ | refine w7 ?_ | refine w8 ?_ | refine wT ?_ | refine w9 ?_ | refine wE ?_ | refine wS ?_) | ((with_reducible refine hK _ ?_); clear hK K) | ((with_reducible refine PWp.condI ?_); refine ⟨_, rfl, fun hg => ?_, fun hg => ?_⟩ <;> first | (exact absurd hg (by decide)) | ((try simp only [Bool.not_true, Bool.not_false] at hg); (try simp only [hg]); (try simp only [push_cast] at hg); (try exact absurd trivial hg); (try (exfalso; omega)))) | ((with_reducible refine pops_plain fun K hK => ?_); simp (disch := omega) only [push_cast, seval]) | ((with_reducible show pcall _ _ _ _ _ _); (first | (refine pcV (cf Tryz.func214) (lHeldHeaderS_p _ _ sd sd) ?_)); (try simp (disch := omega) only [push_cast, seval])) | ((with_reducible refine And.intro ?_ ?_); omega))
  all_goals ((with_reducible show PPostR _ _ _ _ _ _); refine finV ?_; (try simp only [push_cast, seval]))
theorem lEqTable_p (x : GTable) (hl : x.fPeers.length ≤ 2000000) : PCalls Tryz.prog 126 [.agg (pTable x), .agg (pTable x)] [] (RV (.val (.bool true))) := by
  refine pcalls_ofR okP Tryz.func126 rfl ?_
  simp only [Tryz.f126, List.length_cons, List.length_nil, Nat.reduceAdd, Nat.reduceSub, List.replicate_succ, List.replicate_zero, List.cons_append, List.nil_append, List.length_map]
  repeat' (first | with_reducible (first | refine wA ?_ | refine wB ?_ | refine wC ?_ | refine w1 ?_ | refine w2 ?_ | refine w3 ?_ | refine w4 ?_ | refine w5 ?_ | refine w6 ?_ | refine w7 ?_ | refine w8 ?_ | refine wT ?_ | refine w9 ?_ | refine wE ?_ | refine wS ?_) | ((with_reducible refine hK _ ?_); clear hK K) | ((with_reducible refine PWp.condI ?_); refine ⟨_, rfl, fun hg => ?_, fun hg => ?_⟩ <;> first | (exact absurd hg (by decide)) | ((try simp only [Bool.not_true, Bool.not_false] at hg); (try simp only [hg]); (try simp only [push_cast] at hg); (try exact absurd trivial hg); (try (exfalso; omega)))) | ((with_reducible refine pops_plain fun K hK => ?_); simp (disch := omega) only [push_cast, seval, eqB_self]) | ((with_reducible show pcall _ _ _ _ _ _); (first | (refine pcV (cf Tryz.func209) (lEqPeerS_p _ sd) ?_)); (try simp (disch := omega) only [push_cast, seval, eqB_self])) | ((with_reducible refine And.intro ?_ ?_); omega))
  all_goals ((with_reducible show PPostR _ _ _ _ _ _); refine finV ?_; (try simp only [push_cast, seval]))
theorem lMarkTable_p (x : GTable) (k : Int) (hl : x.fPeers.length ≤ 2000000) (hk : 0 ≤ k ∧ k ≤ 100000000) : PCalls Tryz.prog 133 [.agg (pTbO x), .val (.int .i64 k)] [some (.row 211 4 (x.fPeers.map pPeer))] (RH (.val (.int .i64 (k + 4 * (x.fPeers.length : Int)))) [some (.row 211 4 ((mkTable k x).fPeers.map pPeer))]) := by
  refine pcalls_ofR okP Tryz.func133 rfl ?_
  simp only [Tryz.f133, List.length_cons, List.length_nil, Nat.reduceAdd, Nat.reduceSub, List.replicate_succ, List.replicate_zero, List.cons_append, List.nil_append, List.length_map]
  repeat' (first | with_reducible (first | refine wA ?_ | refine wB ?_ | refine wC ?_ | refine w1 ?_ | refine w2 ?_ | refine w3 ?_ | refine w4 ?_ | refine w5 ?_ | refine w6 ?_ | refine w7 ?_ | refine w8 ?_ | refine wT ?_ | refine w9 ?_ | refine wE ?_ | refine wS ?_) | ((with_reducible refine hK _ ?_); clear hK K) | ((with_reducible refine pops_plain fun K hK => ?_); simp (disch := omega) only [push_cast, seval]) | ((with_reducible show pcall _ _ _ _ _ _); (first | (refine pcall_RGf (cf Tryz.func213) [?_] ?_ ?_ ?_ (lMarkPeerS_p ?_ ?_ ?_ ?_) ?_; rotate_left 1; (· ((try simp (disch := omega) only [push_cast, seval]); (repeat' (first | exact trivial | exact rfl | refine And.intro ?_ ?_ | omega)))); (· (repeat' (first | exact trivial | refine And.intro ?_ ?_ | exact ⟨_, rfl⟩ | (simp (disch := omega) only [push_cast, seval]; done) | exact rfl))); (· exact rfl); rotate_right 1; rotate_left 1; (all_goals (try (first | omega | exact (show _ = _ by assumption)))))); (try simp (disch := omega) only [push_cast, seval])) | ((with_reducible refine And.intro ?_ ?_); omega))
  all_goals ((with_reducible show PPostR _ _ _ _ _ _); exact finH [0])
theorem lHeldTable_p (x : GTable) (k : Int) (hl : x.fPeers.length ≤ 2000000) (hk : 0 ≤ k ∧ k ≤ 100000000) : PCalls Tryz.prog 136 [.agg (pTable (mkTable k x)), .val (.int .i64 k)] [] (RV (.val (.int .i64 (k + 4 * (x.fPeers.length : Int))))) := by
  unfold mkTable
  refine pcalls_ofR okP Tryz.func136 rfl ?_
  simp only [Tryz.f136, List.length_cons, List.length_nil, Nat.reduceAdd, Nat.reduceSub, List.replicate_succ, List.replicate_zero, List.cons_append, List.nil_append, List.length_map]
  repeat' (first | with_reducible (first | refine wA ?_ | refine wB ?_ | refine wC ?_ | refine w1 ?_ | refine w2 ?_ | refine w3 ?_ | refine w4 ?_ | refine w5 ?_ | refine w6 ?_ | refine w7 ?_ | refine w8 ?_ | refine wT ?_ | refine w9 ?_ | refine wE ?_ | refine wS ?_) | ((with_reducible refine hK _ ?_); clear hK K) | ((with_reducible refine PWp.condI ?_); refine ⟨_, rfl, fun hg => ?_, fun hg => ?_⟩ <;> first | (exact absurd hg (by decide)) | ((try simp only [Bool.not_true, Bool.not_false] at hg); (try simp only [hg]); (try simp only [push_cast] at hg); (try exact absurd trivial hg); (try (exfalso; omega)))) | ((with_reducible refine pops_plain fun K hK => ?_); simp (disch := omega) only [push_cast, seval]) | ((with_reducible show pcall _ _ _ _ _ _); (first | (refine pcV (cf Tryz.func215) (lHeldPeerS_p _ _ sd sd) ?_)); (try simp (disch := omega) only [push_cast, seval])) | ((with_reducible refine And.intro ?_ ?_); omega))
  all_goals ((with_reducible show PPostR _ _ _ _ _ _); refine finV ?_; (try simp only [push_cast, seval]))
theorem lToCommit_p (x : GCommit) (hl : x.fSigs.length ≤ 2000000) : PCalls Tryz.prog 119 [.agg (pCommit x)] [] (RH (.agg (pCmO x)) [some (.row 227 2 (x.fSigs.map pCSig))]) := by
  refine pcalls_ofR okP Tryz.func119 rfl ?_
  simp only [Tryz.f119, List.length_cons, List.length_nil, Nat.reduceAdd, Nat.reduceSub, List.replicate_succ, List.replicate_zero, List.cons_append, List.nil_append, List.length_map]
  repeat' (first | with_reducible (first | refine wA ?_ | refine wB ?_ | refine wC ?_ | refine w1 ?_ | refine w2 ?_ | refine w3 ?_ | refine w4 ?_ | refine w5 ?_ | refine w6 ?_ | refine w7 ?_ | refine w8 ?_ | refine wT ?_ | refine w9 ?_ | refine wE ?_ | refine wS ?_) | ((with_reducible refine hK _ ?_); clear hK K) | ((with_reducible refine pops_plain fun K hK => ?_); simp (disch := omega) only [push_cast, seval]) | ((with_reducible show pcall _ _ _ _ _ _); (first | (refine pcH (cf Tryz.func203) (lToCSigS_p _ sd) ?_)); (try simp (disch := omega) only [push_cast, seval])) | ((with_reducible refine And.intro ?_ ?_); omega))
  all_goals ((with_reducible show PPostR _ _ _ _ _ _); exact finH [_])
theorem lEqCommit_p (x : GCommit) (hl : x.fSigs.length ≤ 2000000) : PCalls Tryz.prog 129 [.agg (pCommit x), .agg (pCommit x)] [] (RV (.val (.bool true))) := by
  refine pcalls_ofR okP Tryz.func129 rfl ?_
  simp only [Tryz.f129, List.length_cons, List.length_nil, Nat.reduceAdd, Nat.reduceSub, List.replicate_succ, List.replicate_zero, List.cons_append, List.nil_append, List.length_map]
  repeat' (first | with_reducible (first | refine wA ?_ | refine wB ?_ | refine wC ?_ | refine w1 ?_ | refine w2 ?_ | refine w3 ?_ | refine w4 ?_ | refine w5 ?_ | refine w6 ?_ | refine w7 ?_ | refine w8 ?_ | refine wT ?_ | refine w9 ?_ | refine wE ?_ | refine wS ?_) | ((with_reducible refine hK _ ?_); clear hK K) | ((with_reducible refine PWp.condI ?_); refine ⟨_, rfl, fun hg => ?_, fun hg => ?_⟩ <;> first | (exact absurd hg (by decide)) | ((try simp only [Bool.not_true, Bool.not_false] at hg); (try simp only [hg]); (try simp only [push_cast] at hg); (try exact absurd trivial hg); (try (exfalso; omega)))) | ((with_reducible refine pops_plain fun K hK => ?_); simp (disch := omega) only [push_cast, seval, eqB_self]) | ((with_reducible show pcall _ _ _ _ _ _); (first | (refine pcV (cf Tryz.func211) (lEqCSigS_p _ sd) ?_)); (try simp (disch := omega) only [push_cast, seval, eqB_self])) | ((with_reducible refine And.intro ?_ ?_); omega))
  all_goals ((with_reducible show PPostR _ _ _ _ _ _); refine finV ?_; (try simp only [push_cast, seval]))
theorem lMarkCommit_p (x : GCommit) (k : Int) (hl : x.fSigs.length ≤ 2000000) (hk : 0 ≤ k ∧ k ≤ 100000000) : PCalls Tryz.prog 130 [.agg (pCmO x), .val (.int .i64 k)] [some (.row 227 2 (x.fSigs.map pCSig))] (RH (.val (.int .i64 (k + 2 * (x.fSigs.length : Int)))) [some (.row 227 2 ((mkCommitM k x).fSigs.map pCSig))]) := by
  refine pcalls_ofR okP Tryz.func130 rfl ?_
  simp only [Tryz.f130, List.length_cons, List.length_nil, Nat.reduceAdd, Nat.reduceSub, List.replicate_succ, List.replicate_zero, List.cons_append, List.nil_append, List.length_map]
  repeat' (first | with_reducible (first | refine wA ?_ | refine wB ?_ | refine wC ?_ | refine w1 ?_ | refine w2 ?_ | refine w3 ?_ | refine w4 ?_ | refine w5 ?_ | refine w6 ?_ | refine w7 ?_ | refine w8 ?_ | refine wT ?_ | refine w9 ?_ | refine wE ?_ | refine wS ?_) | ((with_reducible refine hK _ ?_); clear hK K) | ((with_reducible refine pops_plain fun K hK => ?_); simp (disch := omega) only [push_cast, seval]) | ((with_reducible show pcall _ _ _ _ _ _); (first | (refine pcall_RGf (cf Tryz.func100) [?_] ?_ ?_ ?_ (lMarkCSigS_p ?_ ?_ ?_ ?_) ?_; rotate_left 1; (· ((try simp (disch := omega) only [push_cast, seval]); (repeat' (first | exact trivial | exact rfl | refine And.intro ?_ ?_ | omega)))); (· (repeat' (first | exact trivial | refine And.intro ?_ ?_ | exact ⟨_, rfl⟩ | (simp (disch := omega) only [push_cast, seval]; done) | exact rfl))); (· exact rfl); rotate_right 1; rotate_left 1; (all_goals (try (first | omega | exact (show _ = _ by assumption)))))); (try simp (disch := omega) only [push_cast, seval])) | ((with_reducible refine And.intro ?_ ?_); omega))
  all_goals ((with_reducible show PPostR _ _ _ _ _ _); exact finH [0])
def cLight (c : GLight) : Int := 2 * (c.fAnchor.fNext.length : Int) + 6 * (c.fStore.fHeads.length : Int) + 4 * (c.fPeers.fPeers.length : Int)
def mkLight (k : Int) (c : GLight) : GLight := ⟨c.fTrust, c.fState, mkAnchor k c.fAnchor, mkStore (k + 2 * (c.fAnchor.fNext.length : Int)) c.fStore, mkTable (k + 2 * (c.fAnchor.fNext.length : Int) + 6 * (c.fStore.fHeads.length : Int)) c.fPeers, c.fNow⟩
theorem lEqLight_p (c : GLight) (hs : SmC c) : PCalls Tryz.prog 41 [.agg (pLight c), .agg (pLight c)] [] (RV (.val (.bool true))) := by
  obtain ⟨h1, h2, h3⟩ := hs
  obtain ⟨⟨tp, tl⟩, st, ⟨⟨g1, g2, g3, g4, g5, g6⟩, nx⟩, ⟨hds, sy⟩, ⟨ps, tu⟩, now⟩ := c
  dsimp only at *
  refine pcalls_ofR okP Tryz.func41 rfl ?_
  simp only [Tryz.f41, List.length_cons, List.length_nil, Nat.reduceAdd, Nat.reduceSub, List.replicate_succ, List.replicate_zero, List.cons_append, List.nil_append, List.length_map]
  repeat' (first | with_reducible (first | refine wA ?_ | refine wB ?_ | refine wC ?_ | refine w1 ?_ | refine w2 ?_ | refine w3 ?_ | refine w4 ?_ | refine w5 ?_ | refine w6 ?_ | refine w7 ?_ | refine w8 ?_ | refine wT ?_ | refine w9 ?_ | refine wE ?_ | refine wS ?_) | ((with_reducible refine hK _ ?_); clear hK K) | ((with_reducible refine PWp.condI ?_); refine ⟨_, rfl, fun hg => ?_, fun hg => ?_⟩ <;> first | (exact absurd hg (by decide)) | ((try simp only [Bool.not_true, Bool.not_false] at hg); (try simp only [hg]); (try simp only [push_cast] at hg); (try exact absurd trivial hg); (try (exfalso; omega)))) | ((with_reducible refine pops_plain fun K hK => ?_); simp (disch := omega) only [push_cast, seval, eqB_self]) | ((with_reducible show pcall _ _ _ _ _ _); (first | (refine pcV (cf Tryz.func123) (lEqTrust_p ⟨_, _⟩) ?_) | (refine pcV (cf Tryz.func124) (lEqAnchor_p ⟨⟨_, _, _, _, _, _⟩, _⟩ sd) ?_) | (refine pcV (cf Tryz.func125) (lEqStore_p ⟨_, _⟩ sd) ?_) | (refine pcV (cf Tryz.func126) (lEqTable_p ⟨_, _⟩ sd) ?_)); (try simp (disch := omega) only [push_cast, seval, eqB_self])) | ((with_reducible refine And.intro ?_ ?_); omega))
  all_goals ((with_reducible show PPostR _ _ _ _ _ _); refine finV ?_; (try simp only [push_cast, seval]))
theorem lMarkLight_p (c : GLight) (k : Int) (hs : SmC c) (hk : 0 ≤ k ∧ k ≤ 10000000) : PCalls Tryz.prog 44 [.agg (pLiO c), .val (.int .i64 k)] (bLi c) (RH (.val (.int .i64 (k + cLight c))) (bLi (mkLight k c))) := by
  obtain ⟨h1, h2, h3⟩ := hs
  rw [show k + cLight c = k + 2 * (c.fAnchor.fNext.length : Int) + 6 * (c.fStore.fHeads.length : Int) + 4 * (c.fPeers.fPeers.length : Int) by unfold cLight; omega]
  obtain ⟨⟨tp, tl⟩, st, ⟨⟨g1, g2, g3, g4, g5, g6⟩, nx⟩, ⟨hds, sy⟩, ⟨ps, tu⟩, now⟩ := c
  dsimp only at *
  refine pcalls_ofR okP Tryz.func44 rfl ?_
  simp only [Tryz.f44, List.length_cons, List.length_nil, Nat.reduceAdd, Nat.reduceSub, List.replicate_succ, List.replicate_zero, List.cons_append, List.nil_append, List.length_map]
  repeat' (first | with_reducible (first | refine wA ?_ | refine wB ?_ | refine wC ?_ | refine w1 ?_ | refine w2 ?_ | refine w3 ?_ | refine w4 ?_ | refine w5 ?_ | refine w6 ?_ | refine w7 ?_ | refine w8 ?_ | refine wT ?_ | refine w9 ?_ | refine wE ?_ | refine wS ?_) | ((with_reducible refine hK _ ?_); clear hK K) | ((with_reducible refine pops_plain fun K hK => ?_); simp (disch := omega) only [push_cast, seval]) | ((with_reducible show pcall _ _ _ _ _ _); (first | (refine pcall_RGf (cf Tryz.func131) [?_] ?_ ?_ ?_ (lMarkAnchor_p ⟨⟨?_, ?_, ?_, ?_, ?_, ?_⟩, ?_⟩ ?_ ?_ ?_) ?_; rotate_left 1; (· ((try simp (disch := omega) only [push_cast, seval]); (repeat' (first | exact trivial | exact rfl | refine And.intro ?_ ?_ | omega)))); (· (repeat' (first | exact trivial | refine And.intro ?_ ?_ | exact ⟨_, rfl⟩ | (simp (disch := omega) only [push_cast, seval]; done) | exact rfl))); (· exact rfl); rotate_right 1; rotate_left 1; (all_goals (try (first | omega | exact (show _ = _ by assumption))))) | (refine pcall_RGf (cf Tryz.func132) [?_] ?_ ?_ ?_ (lMarkStore_p ⟨?_, ?_⟩ ?_ ?_ ?_) ?_; rotate_left 1; (· ((try simp (disch := omega) only [push_cast, seval]); (repeat' (first | exact trivial | exact rfl | refine And.intro ?_ ?_ | omega)))); (· (repeat' (first | exact trivial | refine And.intro ?_ ?_ | exact ⟨_, rfl⟩ | (simp (disch := omega) only [push_cast, seval]; done) | exact rfl))); (· exact rfl); rotate_right 1; rotate_left 1; (all_goals (try (first | omega | exact (show _ = _ by assumption))))) | (refine pcall_RGf (cf Tryz.func133) [?_] ?_ ?_ ?_ (lMarkTable_p ⟨?_, ?_⟩ ?_ ?_ ?_) ?_; rotate_left 1; (· ((try simp (disch := omega) only [push_cast, seval]); (repeat' (first | exact trivial | exact rfl | refine And.intro ?_ ?_ | omega)))); (· (repeat' (first | exact trivial | refine And.intro ?_ ?_ | exact ⟨_, rfl⟩ | (simp (disch := omega) only [push_cast, seval]; done) | exact rfl))); (· exact rfl); rotate_right 1; rotate_left 1; (all_goals (try (first | omega | exact (show _ = _ by assumption)))))); (try simp (disch := omega) only [push_cast, seval])) | ((with_reducible refine And.intro ?_ ?_); omega))
  all_goals ((with_reducible show PPostR _ _ _ _ _ _); exact finH [0, 1, 2])
theorem lHeldLight_p (c : GLight) (k : Int) (hs : SmC c) (hk : 0 ≤ k ∧ k ≤ 10000000) : PCalls Tryz.prog 45 [.agg (pLight (mkLight k c)), .val (.int .i64 k)] [] (RV (.val (.int .i64 (k + cLight c)))) := by
  obtain ⟨h1, h2, h3⟩ := hs
  rw [show k + cLight c = k + 2 * (c.fAnchor.fNext.length : Int) + 6 * (c.fStore.fHeads.length : Int) + 4 * (c.fPeers.fPeers.length : Int) by unfold cLight; omega]
  unfold mkLight mkAnchor mkStore mkTable
  obtain ⟨⟨tp, tl⟩, st, ⟨⟨g1, g2, g3, g4, g5, g6⟩, nx⟩, ⟨hds, sy⟩, ⟨ps, tu⟩, now⟩ := c
  dsimp only at *
  refine pcalls_ofR okP Tryz.func45 rfl ?_
  simp only [Tryz.f45, List.length_cons, List.length_nil, Nat.reduceAdd, Nat.reduceSub, List.replicate_succ, List.replicate_zero, List.cons_append, List.nil_append, List.length_map]
  repeat' (first | with_reducible (first | refine wA ?_ | refine wB ?_ | refine wC ?_ | refine w1 ?_ | refine w2 ?_ | refine w3 ?_ | refine w4 ?_ | refine w5 ?_ | refine w6 ?_ | refine w7 ?_ | refine w8 ?_ | refine wT ?_ | refine w9 ?_ | refine wE ?_ | refine wS ?_) | ((with_reducible refine hK _ ?_); clear hK K) | ((with_reducible refine PWp.condI ?_); refine ⟨_, rfl, fun hg => ?_, fun hg => ?_⟩ <;> first | (exact absurd hg (by decide)) | ((try simp only [Bool.not_true, Bool.not_false] at hg); (try simp only [hg]); (try simp only [push_cast] at hg); (try exact absurd trivial hg); (try (exfalso; omega)))) | ((with_reducible refine pops_plain fun K hK => ?_); simp (disch := omega) only [push_cast, seval]) | ((with_reducible show pcall _ _ _ _ _ _); (first | (refine pcV (cf Tryz.func134) (lHeldAnchor_p ⟨⟨_, _, _, _, _, _⟩, _⟩ _ sd sd) ?_) | (refine pcV (cf Tryz.func135) (lHeldStore_p ⟨_, _⟩ _ sd sd) ?_) | (refine pcV (cf Tryz.func136) (lHeldTable_p ⟨_, _⟩ _ sd sd) ?_)); (try simp (disch := omega) only [push_cast, seval])) | ((with_reducible refine And.intro ?_ ?_); omega))
  all_goals ((with_reducible show PPostR _ _ _ _ _ _); refine finV ?_; (try simp only [push_cast, seval]))
def cBlock (b : GBlock) : Int := 2 * (b.fVals.length : Int) + 2 * (b.fNext.length : Int) + 2 * (b.fCommit.fSigs.length : Int)
def mkBlk (k : Int) (b : GBlock) : GBlock := ⟨b.fHead, mkd (mkVal k) b.fVals b.fVals.length, mkd (mkVal (k + 2 * (b.fVals.length : Int))) b.fNext b.fNext.length, mkCommitM (k + 2 * (b.fVals.length : Int) + 2 * (b.fNext.length : Int)) b.fCommit⟩
theorem lToBlock_p (b : GBlock) (hs : SmB b) : PCalls Tryz.prog 39 [.agg (pBlock b)] [] (RH (.agg (pBkO b)) (bBk b)) := by
  obtain ⟨h1, h2, h3⟩ := hs
  obtain ⟨⟨a1, a2, a3, a4, a5, a6⟩, vs, nx, ⟨ch, cr, ci, cs⟩⟩ := b
  dsimp only at *
  refine pcalls_ofR okP Tryz.func39 rfl ?_
  simp only [Tryz.f39, List.length_cons, List.length_nil, Nat.reduceAdd, Nat.reduceSub, List.replicate_succ, List.replicate_zero, List.cons_append, List.nil_append, List.length_map]
  repeat' (first | with_reducible (first | refine wA ?_ | refine wB ?_ | refine wC ?_ | refine w1 ?_ | refine w2 ?_ | refine w3 ?_ | refine w4 ?_ | refine w5 ?_ | refine w6 ?_ | refine w7 ?_ | refine w8 ?_ | refine wT ?_ | refine w9 ?_ | refine wE ?_ | refine wS ?_) | ((with_reducible refine hK _ ?_); clear hK K) | ((with_reducible refine pops_plain fun K hK => ?_); simp (disch := omega) only [push_cast, seval]) | ((with_reducible show pcall _ _ _ _ _ _); (first | (refine pcF (cf Tryz.func117) (lToHeader_p ⟨_, _, _, _, _, _⟩) ?_) | (refine pcH (cf Tryz.func118) (lToValS_p _ sd) ?_) | (refine pcH (cf Tryz.func119) (lToCommit_p ⟨_, _, _, _⟩ sd) ?_)); (try simp (disch := omega) only [push_cast, seval])) | ((with_reducible refine And.intro ?_ ?_); omega))
  all_goals ((with_reducible show PPostR _ _ _ _ _ _); exact finH [_, _, _])
theorem lEqBlock_p (b : GBlock) (hs : SmB b) : PCalls Tryz.prog 42 [.agg (pBlock b), .agg (pBlock b)] [] (RV (.val (.bool true))) := by
  obtain ⟨h1, h2, h3⟩ := hs
  obtain ⟨⟨a1, a2, a3, a4, a5, a6⟩, vs, nx, ⟨ch, cr, ci, cs⟩⟩ := b
  dsimp only at *
  refine pcalls_ofR okP Tryz.func42 rfl ?_
  simp only [Tryz.f42, List.length_cons, List.length_nil, Nat.reduceAdd, Nat.reduceSub, List.replicate_succ, List.replicate_zero, List.cons_append, List.nil_append, List.length_map]
  repeat' (first | with_reducible (first | refine wA ?_ | refine wB ?_ | refine wC ?_ | refine w1 ?_ | refine w2 ?_ | refine w3 ?_ | refine w4 ?_ | refine w5 ?_ | refine w6 ?_ | refine w7 ?_ | refine w8 ?_ | refine wT ?_ | refine w9 ?_ | refine wE ?_ | refine wS ?_) | ((with_reducible refine hK _ ?_); clear hK K) | ((with_reducible refine PWp.condI ?_); refine ⟨_, rfl, fun hg => ?_, fun hg => ?_⟩ <;> first | (exact absurd hg (by decide)) | ((try simp only [Bool.not_true, Bool.not_false] at hg); (try simp only [hg]); (try simp only [push_cast] at hg); (try exact absurd trivial hg); (try (exfalso; omega)))) | ((with_reducible refine pops_plain fun K hK => ?_); simp (disch := omega) only [push_cast, seval, eqB_self]) | ((with_reducible show pcall _ _ _ _ _ _); (first | (refine pcV (cf Tryz.func127) (lEqHeader_p ⟨_, _, _, _, _, _⟩) ?_) | (refine pcV (cf Tryz.func128) (lEqValS_p _ sd) ?_) | (refine pcV (cf Tryz.func129) (lEqCommit_p ⟨_, _, _, _⟩ sd) ?_)); (try simp (disch := omega) only [push_cast, seval, eqB_self])) | ((with_reducible refine And.intro ?_ ?_); omega))
  all_goals ((with_reducible show PPostR _ _ _ _ _ _); refine finV ?_; (try simp only [push_cast, seval]))
theorem lMarkBlock_p (b : GBlock) (k : Int) (hs : SmB b) (hk : 0 ≤ k ∧ k ≤ 20000000) : PCalls Tryz.prog 43 [.agg (pBkO b), .val (.int .i64 k)] (bBk b) (RH (.val (.int .i64 (k + cBlock b))) (bBk (mkBlk k b))) := by
  obtain ⟨h1, h2, h3⟩ := hs
  rw [show k + cBlock b = k + 2 * (b.fVals.length : Int) + 2 * (b.fNext.length : Int) + 2 * (b.fCommit.fSigs.length : Int) by unfold cBlock; omega]
  obtain ⟨⟨a1, a2, a3, a4, a5, a6⟩, vs, nx, ⟨ch, cr, ci, cs⟩⟩ := b
  dsimp only at *
  refine pcalls_ofR okP Tryz.func43 rfl ?_
  simp only [Tryz.f43, List.length_cons, List.length_nil, Nat.reduceAdd, Nat.reduceSub, List.replicate_succ, List.replicate_zero, List.cons_append, List.nil_append, List.length_map]
  repeat' (first | with_reducible (first | refine wA ?_ | refine wB ?_ | refine wC ?_ | refine w1 ?_ | refine w2 ?_ | refine w3 ?_ | refine w4 ?_ | refine w5 ?_ | refine w6 ?_ | refine w7 ?_ | refine w8 ?_ | refine wT ?_ | refine w9 ?_ | refine wE ?_ | refine wS ?_) | ((with_reducible refine hK _ ?_); clear hK K) | ((with_reducible refine pops_plain fun K hK => ?_); simp (disch := omega) only [push_cast, seval]) | ((with_reducible show pcall _ _ _ _ _ _); (first | (refine pcall_RGf (cf Tryz.func99) [?_] ?_ ?_ ?_ (lMarkValS_p ?_ ?_ ?_ ?_) ?_; rotate_left 1; (· ((try simp (disch := omega) only [push_cast, seval]); (repeat' (first | exact trivial | exact rfl | refine And.intro ?_ ?_ | omega)))); (· (repeat' (first | exact trivial | refine And.intro ?_ ?_ | exact ⟨_, rfl⟩ | (simp (disch := omega) only [push_cast, seval]; done) | exact rfl))); (· exact rfl); rotate_right 1; rotate_left 1; (all_goals (try (first | omega | exact (show _ = _ by assumption))))) | (refine pcall_RGf (cf Tryz.func130) [?_] ?_ ?_ ?_ (lMarkCommit_p ⟨?_, ?_, ?_, ?_⟩ ?_ ?_ ?_) ?_; rotate_left 1; (· ((try simp (disch := omega) only [push_cast, seval]); (repeat' (first | exact trivial | exact rfl | refine And.intro ?_ ?_ | omega)))); (· (repeat' (first | exact trivial | refine And.intro ?_ ?_ | exact ⟨_, rfl⟩ | (simp (disch := omega) only [push_cast, seval]; done) | exact rfl))); (· exact rfl); rotate_right 1; rotate_left 1; (all_goals (try (first | omega | exact (show _ = _ by assumption)))))); (try simp (disch := omega) only [push_cast, seval])) | ((with_reducible refine And.intro ?_ ?_); omega))
  all_goals ((with_reducible show PPostR _ _ _ _ _ _); exact finH [0, 1, 2])
structure OkBlock (b : GBlock) : Prop where
  h : OkHeader b.fHead
  v : b.fVals.length ≤ 9223372036854775807
  n : b.fNext.length ≤ 9223372036854775807
  s : b.fCommit.fSigs.length ≤ 9223372036854775807
  g : ∀ x ∈ b.fCommit.fSigs, OkCSig x
  i : b.fCommit.fId.size ≤ 9223372036854775807
theorem lSzCommit_p (x : GCommit) (left : Int) (h1 : x.fSigs.length ≤ 9223372036854775807) (h2 : ∀ s ∈ x.fSigs, OkCSig s) (h3 : x.fId.size ≤ 9223372036854775807) (h0 : 0 ≤ left ∧ left ≤ 1048576) : PCalls Tryz.prog 115 [.agg (pCommit x), .val (.int .i64 left)] [] (RX (α := Int) (fun x => .val (.int .i64 x)) (fun _ => []) fun y => SzOk x.fSigs.length left y) := by
  have hct := fun y (h0 : 0 ≤ y ∧ y ≤ 1048576) => lSzCSigS_p x.fSigs y h1 h2 h0
  refine pcalls_ofR okP Tryz.func115 rfl ?_
  simp only [Tryz.f115, List.length_cons, List.length_nil, Nat.reduceAdd, Nat.reduceSub, List.replicate_succ, List.replicate_zero, List.cons_append, List.nil_append, List.length_map]
  repeat' (first | with_reducible (first | refine wA ?_ | refine wB ?_ | refine wC ?_ | refine w1 ?_ | refine w2 ?_ | refine w3 ?_ | refine w4 ?_ | refine w5 ?_ | refine w6 ?_ | refine w7 ?_ | refine w8 ?_ | refine wT ?_ | refine w9 ?_ | refine wE ?_ | refine wS ?_) | ((with_reducible refine hK _ ?_); clear hK K) | ((with_reducible refine PWp.condI ?_); refine ⟨_, rfl, fun hg => ?_, fun hg => ?_⟩ <;> first | (exact absurd hg (by decide)) | ((try simp only [Bool.not_true, Bool.not_false] at hg); (try simp only [hg]); (try simp only [push_cast] at hg); (try exact absurd trivial hg); (try (exfalso; omega)))) | ((with_reducible refine pops_plain fun K hK => ?_); simp (disch := omega) only [push_cast, seval]) | ((with_reducible show pcall _ _ _ _ _ _); (first | (refine pcall_X1 (cf Tryz.func200) (by ((try simp (disch := omega) only [push_cast, seval]); first | done | exact rfl)) (hct _ sd) ?_; rintro y2 hy3)); (try simp (disch := omega) only [push_cast, seval])) | ((with_reducible refine And.intro ?_ ?_); omega))
  all_goals
    ((first | with_reducible (first | refine pendX1 ?_ [] ?_ ?_ ?_ ?_ ?_ ?_ | refine pendX2 ?_ [] ?_ ?_ ?_ ?_ ?_ ?_ | refine pendX3 ?_ [] ?_ ?_ ?_ ?_ ?_ ?_ | refine pendX0 ?_ [] ?_ ?_ ?_ ?_ ?_ ?_) | refine pendXG ?_ [] ?_ ?_ ?_ ?_ ?_ ?_); (try (any_goals ((with_reducible show ∃ _ : List PV, _); (apply Exists.intro; apply And.intro; (· repeat' (first | exact presults_nil | apply presults_tmp | (apply presults_agg; (· exact rfl); (· exact rfl); (· exact rfl); (· exact rfl); (· exact rfl); (· first | exact Nat.le_refl _ | decide | simp)) | (apply presults_one; (· exact rfl); (· exact rfl); (· exact rfl); (· exact rfl); (· exact rfl)))))))); (any_goals ((with_reducible show _ ∨ _); (first | exact Or.inl rfl | exact Or.inr rfl))); (any_goals ((with_reducible show (_ : PV) = _); ((try simp (disch := omega) only [push_cast, seval]); (repeat' (first | exact trivial | exact rfl | refine And.intro ?_ ?_ | omega))))); (any_goals ((with_reducible show blkR _ _ _ _ _); ((try simp (disch := omega) only [push_cast, seval]); (repeat' (first | exact trivial | exact rfl | refine And.intro ?_ ?_ | omega))))); (any_goals ((with_reducible show nodupR _ = true); exact rfl)); (any_goals ((with_reducible show preR _ _); (first | exact trivial | exact ⟨rfl, trivial⟩ | exact ⟨rfl, rfl, trivial⟩ | exact ⟨rfl, rfl, rfl, trivial⟩))))
    intro h
    omega
theorem lSzBlock_p (b : GBlock) (left : Int) (ok : OkBlock b) (h0 : 0 ≤ left ∧ left ≤ 1048576) : PCalls Tryz.prog 36 [.agg (pBlock b), .val (.int .i64 left)] [] (RX (α := Int) (fun x => .val (.int .i64 x)) (fun _ => []) fun y => (0 ≤ y → y ≤ left) ∧ (0 ≤ y → SmB b)) := by
  obtain ⟨q1, q2, q3, q4, q5, q6⟩ := ok
  have c1 := fun y (h0 : 0 ≤ y ∧ y ≤ 1048576) => lSzHeader_p b.fHead y q1 h0
  have c2 := fun y (h0 : 0 ≤ y ∧ y ≤ 1048576) => lSzValS_p b.fVals y q2 h0
  have c3 := fun y (h0 : 0 ≤ y ∧ y ≤ 1048576) => lSzValS_p b.fNext y q3 h0
  have c4 := fun y (h0 : 0 ≤ y ∧ y ≤ 1048576) => lSzCommit_p b.fCommit y q4 q5 q6 h0
  refine pcalls_ofR okP Tryz.func36 rfl ?_
  simp only [Tryz.f36, List.length_cons, List.length_nil, Nat.reduceAdd, Nat.reduceSub, List.replicate_succ, List.replicate_zero, List.cons_append, List.nil_append, List.length_map]
  repeat' (first | with_reducible (first | refine wA ?_ | refine wB ?_ | refine wC ?_ | refine w1 ?_ | refine w2 ?_ | refine w3 ?_ | refine w4 ?_ | refine w5 ?_ | refine w6 ?_ | refine w7 ?_ | refine w8 ?_ | refine wT ?_ | refine w9 ?_ | refine wE ?_ | refine wS ?_) | ((with_reducible refine hK _ ?_); clear hK K) | ((with_reducible refine PWp.condI ?_); refine ⟨_, rfl, fun hg => ?_, fun hg => ?_⟩ <;> first | (exact absurd hg (by decide)) | ((try simp only [Bool.not_true, Bool.not_false] at hg); (try simp only [hg]); (try simp only [push_cast] at hg); (try exact absurd trivial hg); (try (exfalso; omega)))) | ((with_reducible refine pops_plain fun K hK => ?_); simp (disch := omega) only [push_cast, seval]) | ((with_reducible show pcall _ _ _ _ _ _); (first | (refine pcall_X1 (cf Tryz.func113) (by ((try simp (disch := omega) only [push_cast, seval]); first | done | exact rfl)) (c1 _ sd) ?_; rintro y2 hy3) | (refine pcall_X1 (cf Tryz.func114) (by ((try simp (disch := omega) only [push_cast, seval]); first | done | exact rfl)) (c2 _ sd) ?_; rintro y2 hy3) | (refine pcall_X1 (cf Tryz.func114) (by ((try simp (disch := omega) only [push_cast, seval]); first | done | exact rfl)) (c3 _ sd) ?_; rintro y2 hy3) | (refine pcall_X1 (cf Tryz.func115) (by ((try simp (disch := omega) only [push_cast, seval]); first | done | exact rfl)) (c4 _ sd) ?_; rintro y2 hy3)); (try simp (disch := omega) only [push_cast, seval])) | ((with_reducible refine And.intro ?_ ?_); omega))
  all_goals
    ((first | with_reducible (first | refine pendX1 ?_ [] ?_ ?_ ?_ ?_ ?_ ?_ | refine pendX2 ?_ [] ?_ ?_ ?_ ?_ ?_ ?_ | refine pendX3 ?_ [] ?_ ?_ ?_ ?_ ?_ ?_ | refine pendX0 ?_ [] ?_ ?_ ?_ ?_ ?_ ?_) | refine pendXG ?_ [] ?_ ?_ ?_ ?_ ?_ ?_); (try (any_goals ((with_reducible show ∃ _ : List PV, _); (apply Exists.intro; apply And.intro; (· repeat' (first | exact presults_nil | apply presults_tmp | (apply presults_agg; (· exact rfl); (· exact rfl); (· exact rfl); (· exact rfl); (· exact rfl); (· first | exact Nat.le_refl _ | decide | simp)) | (apply presults_one; (· exact rfl); (· exact rfl); (· exact rfl); (· exact rfl); (· exact rfl)))))))); (any_goals ((with_reducible show _ ∨ _); (first | exact Or.inl rfl | exact Or.inr rfl))); (any_goals ((with_reducible show (_ : PV) = _); ((try simp (disch := omega) only [push_cast, seval]); (repeat' (first | exact trivial | exact rfl | refine And.intro ?_ ?_ | omega))))); (any_goals ((with_reducible show blkR _ _ _ _ _); ((try simp (disch := omega) only [push_cast, seval]); (repeat' (first | exact trivial | exact rfl | refine And.intro ?_ ?_ | omega))))); (any_goals ((with_reducible show nodupR _ = true); exact rfl)); (any_goals ((with_reducible show preR _ _); (first | exact trivial | exact ⟨rfl, trivial⟩ | exact ⟨rfl, rfl, trivial⟩ | exact ⟨rfl, rfl, rfl, trivial⟩))))
    exact ⟨fun h => by omega, fun h => ⟨by omega, by omega, by omega⟩⟩
end Go.Proofs.YtiboajlnjldalaaGreatDoor
namespace Go.Proofs.YtiboajlnjldalaaGreatDoor
set_option linter.unusedSimpArgs false
set_option linter.unusedVariables false
open Go.RowKit
set_option maxRecDepth 100000
def nil2 (R : PV → PV → Prop) : List PV → List PV → Prop
  | [], [] => True
  | a :: u, b :: v => R a b ∧ nil2 R u v
  | _, _ => False
def nilTo (n : Nat) : Nat → PV → PV → Prop
  | 0, p, q => p = q
  | d + 1, p, q => p = q ∨ (p = .val (.slice none 0 0) ∧ q = .own n) ∨ (∃ fs gs, p = .agg fs ∧ q = .agg gs ∧ nil2 (nilTo n d) fs gs) ∨ (∃ fs gs, p = .tup fs ∧ q = .tup gs ∧ nil2 (nilTo n d) fs gs)
theorem nil2_len {R : PV → PV → Prop} : ∀ {fs gs : List PV}, nil2 R fs gs → fs.length = gs.length
  | [], [], _ => rfl
  | _ :: _, _ :: _, h => by rw [List.length_cons, List.length_cons, nil2_len h.2]
  | [], _ :: _, h => h.elim
  | _ :: _, [], h => h.elim
theorem nil2_get {R : PV → PV → Prop} : ∀ {fs gs : List PV}, nil2 R fs gs → ∀ (i : Nat) b, gs[i]? = some b → ∃ a, fs[i]? = some a ∧ R a b
  | [], [], _, i, b, q => by simp at q
  | x :: _, y :: _, h, 0, b, q => by simp at q; subst q; exact ⟨x, rfl, h.1⟩
  | x :: _, y :: _, h, i + 1, b, q => nil2_get h.2 i b (by simpa using q)
  | [], _ :: _, h, _, _, _ => h.elim
  | _ :: _, [], h, _, _, _ => h.elim
theorem nilTo_vr {M : Mem} {h h' : Home} {n : Nat} (hh : HLe h h') (hn : h' n = some (.slice none 0 0)) : ∀ (d : Nat) {p q : PV} {v : Value}, nilTo n d p q → VR M h p v → VR M h' q v
  | 0, p, q, v, e, r => by
    have e : p = q := e
    subst e
    exact r.mono (.refl _) hh
  | d + 1, p, q, v, e, r => by
    rcases e with e | ⟨e1, e2⟩ | ⟨fs, gs, e1, e2, e3⟩ | ⟨fs, gs, e1, e2, e3⟩
    · subst e
      exact r.mono (.refl _) hh
    · subst e1; subst e2
      have := vr_val r
      subst this
      exact .own _ none 0 0 hn
    · subst e1; subst e2
      cases r with
      | agg _ vs h1 h2 =>
        refine .agg _ _ ((nil2_len e3).symm.trans h1) fun i pv u a b => ?_
        obtain ⟨x, hx, hr⟩ := nil2_get e3 i pv a
        exact nilTo_vr hh hn d hr (h2 i x u hx b)
    · subst e1; subst e2
      cases r with
      | tup _ vs h1 h2 =>
        refine .tup _ _ ((nil2_len e3).symm.trans h1) fun i pv u a b => ?_
        obtain ⟨x, hx, hr⟩ := nil2_get e3 i pv a
        exact nilTo_vr hh hn d hr (h2 i x u hx b)
theorem PCalls.nilUp {P : Program} {f : FuncId} {args : List PV} {H0 : Hp} {R R' : PV → Hp → Prop} (c : PCalls P f args H0 R) (e : TypeId) (sz : Nat) (hR : ∀ r H, R r H → ∃ r', nilTo H.length 3 r r' ∧ R' r' (H ++ [some (.row e sz [])])) : PCalls P f args H0 R' := by
  intro M hh w vs I rv
  refine (c M hh w vs I rv).mono fun e' w' ⟨v, M', h', pv, H', a, b, r, s⟩ => ?_
  obtain ⟨r', g1, g2⟩ := hR pv H' b
  have st := nil_push s.inv e sz
  exact ⟨v, M', _, r', _, a, g2, nilTo_vr st.hle upd_self 3 g1 r, s.trans st⟩
theorem li0_up {P : Program} {f : FuncId} {args : List PV} {H0 : Hp} {u : Value} (c0 : PCalls P f args H0 (RH (.tup [.agg [.val (.int .i64 0), .val (.int .i64 0), .val (.int .i64 0), .val (.int .i64 0), .val (.int .i64 0), .val (.string ⟨#[]⟩), .val (.string ⟨#[]⟩), .val (.string ⟨#[]⟩), .val (.string ⟨#[]⟩), .val (.slice none 0 0), .val (.slice none 0 0), .val (.int .i64 0), .val (.slice none 0 0), .val (.int .i64 0), .val (.int .i64 0)], .val u]) [])) : PCalls P f args H0 (RH (.tup [.agg (pLiO light0), .val u]) (bLi light0)) := by
  have c1 := c0.nilUp (R' := RH (.tup [.agg [.val (.int .i64 0), .val (.int .i64 0), .val (.int .i64 0), .val (.int .i64 0), .val (.int .i64 0), .val (.string ⟨#[]⟩), .val (.string ⟨#[]⟩), .val (.string ⟨#[]⟩), .val (.string ⟨#[]⟩), .own 0, .val (.slice none 0 0), .val (.int .i64 0), .val (.slice none 0 0), .val (.int .i64 0), .val (.int .i64 0)], .val u]) [some (.row 141 2 [])]) 141 2 fun r H ⟨a, b⟩ => by
    subst a; subst b
    refine ⟨_, ?_, rfl, rfl⟩
    (refine .inr (.inr (.inr ⟨_, _, rfl, rfl, ?_⟩)); refine ⟨.inr (.inr (.inl ⟨_, _, rfl, rfl, ?_⟩)), .inl rfl, trivial⟩; (repeat' (first | exact trivial | refine And.intro ?_ ?_ | exact Or.inl rfl | exact Or.inr (Or.inl ⟨rfl, rfl⟩))))
  have c2 := c1.nilUp (R' := RH (.tup [.agg [.val (.int .i64 0), .val (.int .i64 0), .val (.int .i64 0), .val (.int .i64 0), .val (.int .i64 0), .val (.string ⟨#[]⟩), .val (.string ⟨#[]⟩), .val (.string ⟨#[]⟩), .val (.string ⟨#[]⟩), .own 0, .own 1, .val (.int .i64 0), .val (.slice none 0 0), .val (.int .i64 0), .val (.int .i64 0)], .val u]) [some (.row 141 2 []), some (.row 30 6 [])]) 30 6 fun r H ⟨a, b⟩ => by
    subst a; subst b
    refine ⟨_, ?_, rfl, rfl⟩
    (refine .inr (.inr (.inr ⟨_, _, rfl, rfl, ?_⟩)); refine ⟨.inr (.inr (.inl ⟨_, _, rfl, rfl, ?_⟩)), .inl rfl, trivial⟩; (repeat' (first | exact trivial | refine And.intro ?_ ?_ | exact Or.inl rfl | exact Or.inr (Or.inl ⟨rfl, rfl⟩))))
  have c3 := c2.nilUp (R' := RH (.tup [.agg [.val (.int .i64 0), .val (.int .i64 0), .val (.int .i64 0), .val (.int .i64 0), .val (.int .i64 0), .val (.string ⟨#[]⟩), .val (.string ⟨#[]⟩), .val (.string ⟨#[]⟩), .val (.string ⟨#[]⟩), .own 0, .own 1, .val (.int .i64 0), .own 2, .val (.int .i64 0), .val (.int .i64 0)], .val u]) [some (.row 141 2 []), some (.row 30 6 []), some (.row 211 4 [])]) 211 4 fun r H ⟨a, b⟩ => by
    subst a; subst b
    refine ⟨_, ?_, rfl, rfl⟩
    (refine .inr (.inr (.inr ⟨_, _, rfl, rfl, ?_⟩)); refine ⟨.inr (.inr (.inl ⟨_, _, rfl, rfl, ?_⟩)), .inl rfl, trivial⟩; (repeat' (first | exact trivial | refine And.intro ?_ ?_ | exact Or.inl rfl | exact Or.inr (Or.inl ⟨rfl, rfl⟩))))
  exact c3
theorem ln_up {P : Program} {f : FuncId} {args : List PV} {H0 : Hp} {u : Value} {t : GTrust} {h : GHeader} {nx : List GVal} {now : Int} (c0 : PCalls P f args H0 (RH (.tup [.agg (pLn t h now (.own 0) (.own 1)), .val u]) (bLn h nx))) : PCalls P f args H0 (RH (.tup [.agg (pLiO (lightAt t h nx now)), .val u]) (bLi (lightAt t h nx now))) := by
  have c1 := c0.nilUp (R' := RH (.tup [.agg (pLiO (lightAt t h nx now)), .val u]) (bLi (lightAt t h nx now))) 211 4 fun r H ⟨a, b⟩ => by
    subst a; subst b
    refine ⟨_, ?_, rfl, rfl⟩
    unfold pLn pLiO lightAt
    (refine .inr (.inr (.inr ⟨_, _, rfl, rfl, ?_⟩)); refine ⟨.inr (.inr (.inl ⟨_, _, rfl, rfl, ?_⟩)), .inl rfl, trivial⟩; (repeat' (first | exact trivial | refine And.intro ?_ ?_ | exact Or.inl rfl | exact Or.inr (Or.inl ⟨rfl, rfl⟩))))
  exact c1
set_option maxHeartbeats 2000000 in
theorem iLightNew_u (t : GTrust) (b : GBlock) (now : Int) (hb : SmB b) : PCalls Tryz.prog 40 [.agg (pTrust t), .agg (pBlock b), .val (.int .i64 now)] [] (RH (.tup [.agg (pLiO (mLightNew t b now).1), .val (.bool (mLightNew t b now).2)]) (bLi (mLightNew t b now).1)) := by
  obtain ⟨b1, b2, b3⟩ := hb
  cases okb : blockOk b with
  | false =>
    have e : mLightNew t b now = (light0, false) := by unfold mLightNew; rw [okb]; rfl
    rw [e]
    refine li0_up ?_
    obtain ⟨⟨y1, y2, y3, y4, y5, y6⟩, vs, nx, ⟨ch, cr, ci, cs⟩⟩ := b
    obtain ⟨tp, ts⟩ := t
    dsimp only at *
    refine pcalls_ofR okP Tryz.func40 rfl ?_
    simp only [Tryz.f40, List.length_cons, List.length_nil, Nat.reduceAdd, Nat.reduceSub, List.replicate_succ, List.replicate_zero, List.cons_append, List.nil_append, List.length_map]
    repeat' (first | with_reducible (first | refine wA ?_ | refine wB ?_ | refine wC ?_) | with_reducible refine PWp.drawT (id := 1) okP true (.step 0 (.step 1 (.step 2 (.step 3 (.step 4 (.step 7 (.step 8 (.step 11 (.fork (.alt 5 (.step 6 (.fork (.alt 9 (.step 10 (.step 12 (.step 13 (.step 14 .done)))) (.alt 13 (.step 9 (.step 10 (.step 12 (.step 14 .done)))) .stop)))) (.alt 9 (.step 10 (.fork (.alt 5 (.step 6 (.step 12 (.step 13 (.step 14 .done)))) (.alt 13 (.step 5 (.step 6 (.step 12 (.step 14 .done)))) .stop)))) (.alt 13 (.fork (.alt 5 (.step 6 (.step 9 (.step 10 (.step 12 (.step 14 .done))))) (.alt 9 (.step 10 (.step 5 (.step 6 (.step 12 (.step 14 .done))))) .stop))) .stop)))))))))))) (by kernel_rfl) ?_ | with_reducible (first | refine w1 ?_ | refine w2 ?_ | refine w3 ?_ | refine w4 ?_ | refine w5 ?_ | refine w6 ?_ | refine w7 ?_ | refine w8 ?_ | refine wT ?_ | refine w9 ?_ | refine wE ?_ | refine wS ?_) | ((with_reducible refine hK _ ?_); clear hK K) | ((with_reducible refine PWp.condI ?_); refine ⟨_, rfl, fun hg => ?_, fun hg => ?_⟩ <;> first | (exact absurd hg (by decide)) | ((try simp only [Bool.not_true, Bool.not_false] at hg); (try simp only [hg]); (try simp only [push_cast] at hg); (try exact absurd trivial hg); (try (exfalso; omega)))) | ((first | ((with_reducible refine pops_guard0 ?_); refine ⟨_, rfl, fun K hK => ⟨rfl, ?_⟩⟩) | ((with_reducible refine pD_g0 ?_); refine ⟨_, rfl, rfl, ?_⟩)); (try simp (disch := omega) only [push_cast, seval, okb])) | with_reducible (first | refine ptree_done ?_ | exact ptree_stop | refine ptree_fork ?_) | ((with_reducible refine ptree_I ?_); refine ⟨_, rfl, fun K hK => ?_⟩) | ((with_reducible refine ptree_A ?_ ?_); (refine ⟨_, rfl, fun K hK => ?_⟩)) | ((with_reducible refine pany_I ?_); refine ⟨_, rfl, fun K hK => ?_⟩) | ((with_reducible refine pops_plain fun K hK => popO_row ?_); refine ⟨_, _, _, _, _, rfl, rfl, rfl, rfl, rfl, ?_⟩; simp (disch := omega) only [push_cast, seval, okb]) | ((with_reducible refine pD_x ?_ (popO_row ?_)); exact rfl; refine ⟨_, _, _, _, _, rfl, rfl, rfl, rfl, rfl, ?_⟩; simp (disch := omega) only [push_cast, seval, okb]) | ((with_reducible refine pops_plain fun K hK => popO_build ?_); refine ⟨_, rfl, _, rfl, ?_⟩; simp (disch := omega) only [push_cast, seval, okb]) | ((with_reducible refine pD_y ?_ (py_build ?_)); exact rfl; refine ⟨_, rfl, _, rfl, ?_⟩; simp (disch := omega) only [push_cast, seval, okb]) | ((with_reducible refine pbuild_cs ?_); refine ⟨_, rfl, _, rfl, ?_⟩; simp (disch := omega) only [push_cast, seval, okb]) | ((with_reducible refine pops_plain fun K hK => ?_); simp (disch := omega) only [push_cast, seval, okb]) | ((first | ((with_reducible refine pD_y ?_ ?_); exact rfl) | ((with_reducible refine pD_x ?_ ?_); exact rfl)); simp (disch := omega) only [push_cast, seval, okb]) | ((first | ((with_reducible refine pops_guard ?_); refine ⟨_, rfl, fun K hK => ⟨_, rfl, fun hg => ?_, fun hg => ?_⟩⟩) | ((first | ((with_reducible refine pD_gy ?_ ?_); exact rfl) | ((with_reducible refine pD_gx ?_ ?_); exact rfl)); refine ⟨_, rfl, _, rfl, fun hg => ?_, fun hg => ?_⟩)) <;> first | (exact absurd hg (by decide)) | ((try simp only [Bool.not_true, Bool.not_false] at hg); (try simp only [hg]); (try simp only [push_cast] at hg); (try exact absurd trivial hg); (try (exfalso; omega)); (try simp (disch := omega) only [push_cast, seval, okb]))) | ((with_reducible show pcall _ _ _ _ _ _); (first | (refine pcV (cf Tryz.func17) (iBlockOk_p ⟨⟨_, _, _, _, _, _⟩, _, _, ⟨_, _, _, _⟩⟩ (by first | assumption | exact ⟨by (first | assumption | omega | (simp; omega) | (simp_all; done) | (simp_all; omega)), by (first | assumption | omega | (simp; omega) | (simp_all; done) | (simp_all; omega)), by (first | assumption | omega | (simp; omega) | (simp_all; done) | (simp_all; omega))⟩)) ?_) | (refine pcF (cf Tryz.func120) (copyVals_p _ sd) ?_) | (refine pcF (cf Tryz.func120) (iCopyVals_p _ sd) ?_) | (refine pcV (cf Tryz.func121) (iLightOk_n ⟨_, _⟩ ⟨_, _, _, _, _, _⟩ _ _ sd) (ha := by repeat' (first | exact trivial | exact rfl | exact rowsC4 rfl | exact rowsC fun _ => rfl | refine And.intro ?_ ?_ | refine vwOk_ag ?_)) ?_) | (refine pcV (cf Tryz.func122) (iExpires_p ⟨_, _⟩ _) ?_)); (try simp (disch := omega) only [push_cast, seval, okb])) | ((with_reducible refine And.intro ?_ ?_); omega))
    all_goals ((with_reducible show PPostR _ _ _ _ _ _); exact finH [])
  | true =>
  cases okl : lightOk (lightAt t b.fHead b.fNext now) with
  | false =>
    have e : mLightNew t b now = (light0, false) := by unfold mLightNew; rw [okb, okl]; rfl
    rw [e]
    refine li0_up ?_
    obtain ⟨⟨y1, y2, y3, y4, y5, y6⟩, vs, nx, ⟨ch, cr, ci, cs⟩⟩ := b
    obtain ⟨tp, ts⟩ := t
    dsimp only at *
    refine pcalls_ofR okP Tryz.func40 rfl ?_
    simp only [Tryz.f40, List.length_cons, List.length_nil, Nat.reduceAdd, Nat.reduceSub, List.replicate_succ, List.replicate_zero, List.cons_append, List.nil_append, List.length_map]
    repeat' (first | with_reducible (first | refine wA ?_ | refine wB ?_ | refine wC ?_) | with_reducible refine PWp.drawT (id := 1) okP true (.step 0 (.step 1 (.step 2 (.step 3 (.step 4 (.step 7 (.step 8 (.step 11 (.fork (.alt 5 (.step 6 (.fork (.alt 9 (.step 10 (.step 12 (.step 13 (.step 14 .done)))) (.alt 13 (.step 9 (.step 10 (.step 12 (.step 14 .done)))) .stop)))) (.alt 9 (.step 10 (.fork (.alt 5 (.step 6 (.step 12 (.step 13 (.step 14 .done)))) (.alt 13 (.step 5 (.step 6 (.step 12 (.step 14 .done)))) .stop)))) (.alt 13 (.fork (.alt 5 (.step 6 (.step 9 (.step 10 (.step 12 (.step 14 .done))))) (.alt 9 (.step 10 (.step 5 (.step 6 (.step 12 (.step 14 .done))))) .stop))) .stop)))))))))))) (by kernel_rfl) ?_ | with_reducible (first | refine w1 ?_ | refine w2 ?_ | refine w3 ?_ | refine w4 ?_ | refine w5 ?_ | refine w6 ?_ | refine w7 ?_ | refine w8 ?_ | refine wT ?_ | refine w9 ?_ | refine wE ?_ | refine wS ?_) | ((with_reducible refine hK _ ?_); clear hK K) | ((with_reducible refine PWp.condI ?_); refine ⟨_, rfl, fun hg => ?_, fun hg => ?_⟩ <;> first | (exact absurd hg (by decide)) | ((try simp only [Bool.not_true, Bool.not_false] at hg); (try simp only [hg]); (try simp only [push_cast] at hg); (try exact absurd trivial hg); (try (exfalso; omega)))) | ((first | ((with_reducible refine pops_guard0 ?_); refine ⟨_, rfl, fun K hK => ⟨rfl, ?_⟩⟩) | ((with_reducible refine pD_g0 ?_); refine ⟨_, rfl, rfl, ?_⟩)); (try simp (disch := omega) only [push_cast, seval, okb, okl])) | with_reducible (first | refine ptree_done ?_ | exact ptree_stop | refine ptree_fork ?_) | ((with_reducible refine ptree_I ?_); refine ⟨_, rfl, fun K hK => ?_⟩) | ((with_reducible refine ptree_A ?_ ?_); (refine ⟨_, rfl, fun K hK => ?_⟩)) | ((with_reducible refine pany_I ?_); refine ⟨_, rfl, fun K hK => ?_⟩) | ((with_reducible refine pops_plain fun K hK => popO_row ?_); refine ⟨_, _, _, _, _, rfl, rfl, rfl, rfl, rfl, ?_⟩; simp (disch := omega) only [push_cast, seval, okb, okl]) | ((with_reducible refine pD_x ?_ (popO_row ?_)); exact rfl; refine ⟨_, _, _, _, _, rfl, rfl, rfl, rfl, rfl, ?_⟩; simp (disch := omega) only [push_cast, seval, okb, okl]) | ((with_reducible refine pops_plain fun K hK => popO_build ?_); refine ⟨_, rfl, _, rfl, ?_⟩; simp (disch := omega) only [push_cast, seval, okb, okl]) | ((with_reducible refine pD_y ?_ (py_build ?_)); exact rfl; refine ⟨_, rfl, _, rfl, ?_⟩; simp (disch := omega) only [push_cast, seval, okb, okl]) | ((with_reducible refine pbuild_cs ?_); refine ⟨_, rfl, _, rfl, ?_⟩; simp (disch := omega) only [push_cast, seval, okb, okl]) | ((with_reducible refine pops_plain fun K hK => ?_); simp (disch := omega) only [push_cast, seval, okb, okl]) | ((first | ((with_reducible refine pD_y ?_ ?_); exact rfl) | ((with_reducible refine pD_x ?_ ?_); exact rfl)); simp (disch := omega) only [push_cast, seval, okb, okl]) | ((first | ((with_reducible refine pops_guard ?_); refine ⟨_, rfl, fun K hK => ⟨_, rfl, fun hg => ?_, fun hg => ?_⟩⟩) | ((first | ((with_reducible refine pD_gy ?_ ?_); exact rfl) | ((with_reducible refine pD_gx ?_ ?_); exact rfl)); refine ⟨_, rfl, _, rfl, fun hg => ?_, fun hg => ?_⟩)) <;> first | (exact absurd hg (by decide)) | ((try simp only [Bool.not_true, Bool.not_false] at hg); (try simp only [hg]); (try simp only [push_cast] at hg); (try exact absurd trivial hg); (try (exfalso; omega)); (try simp (disch := omega) only [push_cast, seval, okb, okl]))) | ((with_reducible show pcall _ _ _ _ _ _); (first | (refine pcV (cf Tryz.func17) (iBlockOk_p ⟨⟨_, _, _, _, _, _⟩, _, _, ⟨_, _, _, _⟩⟩ (by first | assumption | exact ⟨by (first | assumption | omega | (simp; omega) | (simp_all; done) | (simp_all; omega)), by (first | assumption | omega | (simp; omega) | (simp_all; done) | (simp_all; omega)), by (first | assumption | omega | (simp; omega) | (simp_all; done) | (simp_all; omega))⟩)) ?_) | (refine pcF (cf Tryz.func120) (copyVals_p _ sd) ?_) | (refine pcF (cf Tryz.func120) (iCopyVals_p _ sd) ?_) | (refine pcV (cf Tryz.func121) (iLightOk_n ⟨_, _⟩ ⟨_, _, _, _, _, _⟩ _ _ sd) (ha := by repeat' (first | exact trivial | exact rfl | exact rowsC4 rfl | exact rowsC fun _ => rfl | refine And.intro ?_ ?_ | refine vwOk_ag ?_)) ?_) | (refine pcV (cf Tryz.func122) (iExpires_p ⟨_, _⟩ _) ?_)); (try simp (disch := omega) only [push_cast, seval, okb, okl])) | ((with_reducible refine And.intro ?_ ?_); omega))
    all_goals ((with_reducible show PPostR _ _ _ _ _ _); exact finH [])
  | true =>
  obtain ⟨t0, t1, p0, p1, ee⟩ := new_facts okl
  by_cases hx : now ≤ b.fHead.fTime + t.fPeriod
  case neg =>
    have e : mLightNew t b now = (light0, false) := by unfold mLightNew; rw [decide_eq_false hx, Bool.and_false]; rfl
    rw [e]
    refine li0_up ?_
    obtain ⟨⟨y1, y2, y3, y4, y5, y6⟩, vs, nx, ⟨ch, cr, ci, cs⟩⟩ := b
    obtain ⟨tp, ts⟩ := t
    dsimp only at *
    refine pcalls_ofR okP Tryz.func40 rfl ?_
    simp only [Tryz.f40, List.length_cons, List.length_nil, Nat.reduceAdd, Nat.reduceSub, List.replicate_succ, List.replicate_zero, List.cons_append, List.nil_append, List.length_map]
    repeat' (first | with_reducible (first | refine wA ?_ | refine wB ?_ | refine wC ?_) | with_reducible refine PWp.drawT (id := 1) okP true (.step 0 (.step 1 (.step 2 (.step 3 (.step 4 (.step 7 (.step 8 (.step 11 (.fork (.alt 5 (.step 6 (.fork (.alt 9 (.step 10 (.step 12 (.step 13 (.step 14 .done)))) (.alt 13 (.step 9 (.step 10 (.step 12 (.step 14 .done)))) .stop)))) (.alt 9 (.step 10 (.fork (.alt 5 (.step 6 (.step 12 (.step 13 (.step 14 .done)))) (.alt 13 (.step 5 (.step 6 (.step 12 (.step 14 .done)))) .stop)))) (.alt 13 (.fork (.alt 5 (.step 6 (.step 9 (.step 10 (.step 12 (.step 14 .done))))) (.alt 9 (.step 10 (.step 5 (.step 6 (.step 12 (.step 14 .done))))) .stop))) .stop)))))))))))) (by kernel_rfl) ?_ | with_reducible (first | refine w1 ?_ | refine w2 ?_ | refine w3 ?_ | refine w4 ?_ | refine w5 ?_ | refine w6 ?_ | refine w7 ?_ | refine w8 ?_ | refine wT ?_ | refine w9 ?_ | refine wE ?_ | refine wS ?_) | ((with_reducible refine hK _ ?_); clear hK K) | ((with_reducible refine PWp.condI ?_); refine ⟨_, rfl, fun hg => ?_, fun hg => ?_⟩ <;> first | (exact absurd hg (by decide)) | ((try simp only [Bool.not_true, Bool.not_false] at hg); (try simp only [hg]); (try simp only [push_cast] at hg); (try exact absurd trivial hg); (try (exfalso; omega)))) | ((first | ((with_reducible refine pops_guard0 ?_); refine ⟨_, rfl, fun K hK => ⟨rfl, ?_⟩⟩) | ((with_reducible refine pD_g0 ?_); refine ⟨_, rfl, rfl, ?_⟩)); (try simp (disch := omega) only [push_cast, seval, okb, okl, ee])) | with_reducible (first | refine ptree_done ?_ | exact ptree_stop | refine ptree_fork ?_) | ((with_reducible refine ptree_I ?_); refine ⟨_, rfl, fun K hK => ?_⟩) | ((with_reducible refine ptree_A ?_ ?_); (refine ⟨_, rfl, fun K hK => ?_⟩)) | ((with_reducible refine pany_I ?_); refine ⟨_, rfl, fun K hK => ?_⟩) | ((with_reducible refine pops_plain fun K hK => popO_row ?_); refine ⟨_, _, _, _, _, rfl, rfl, rfl, rfl, rfl, ?_⟩; simp (disch := omega) only [push_cast, seval, okb, okl, ee]) | ((with_reducible refine pD_x ?_ (popO_row ?_)); exact rfl; refine ⟨_, _, _, _, _, rfl, rfl, rfl, rfl, rfl, ?_⟩; simp (disch := omega) only [push_cast, seval, okb, okl, ee]) | ((with_reducible refine pops_plain fun K hK => popO_build ?_); refine ⟨_, rfl, _, rfl, ?_⟩; simp (disch := omega) only [push_cast, seval, okb, okl, ee]) | ((with_reducible refine pD_y ?_ (py_build ?_)); exact rfl; refine ⟨_, rfl, _, rfl, ?_⟩; simp (disch := omega) only [push_cast, seval, okb, okl, ee]) | ((with_reducible refine pbuild_cs ?_); refine ⟨_, rfl, _, rfl, ?_⟩; simp (disch := omega) only [push_cast, seval, okb, okl, ee]) | ((with_reducible refine pops_plain fun K hK => ?_); simp (disch := omega) only [push_cast, seval, okb, okl, ee]) | ((first | ((with_reducible refine pD_y ?_ ?_); exact rfl) | ((with_reducible refine pD_x ?_ ?_); exact rfl)); simp (disch := omega) only [push_cast, seval, okb, okl, ee]) | ((first | ((with_reducible refine pops_guard ?_); refine ⟨_, rfl, fun K hK => ⟨_, rfl, fun hg => ?_, fun hg => ?_⟩⟩) | ((first | ((with_reducible refine pD_gy ?_ ?_); exact rfl) | ((with_reducible refine pD_gx ?_ ?_); exact rfl)); refine ⟨_, rfl, _, rfl, fun hg => ?_, fun hg => ?_⟩)) <;> first | (exact absurd hg (by decide)) | ((try simp only [Bool.not_true, Bool.not_false] at hg); (try simp only [hg]); (try simp only [push_cast] at hg); (try exact absurd trivial hg); (try (exfalso; omega)); (try simp (disch := omega) only [push_cast, seval, okb, okl, ee]))) | ((with_reducible show pcall _ _ _ _ _ _); (first | (refine pcV (cf Tryz.func17) (iBlockOk_p ⟨⟨_, _, _, _, _, _⟩, _, _, ⟨_, _, _, _⟩⟩ (by first | assumption | exact ⟨by (first | assumption | omega | (simp; omega) | (simp_all; done) | (simp_all; omega)), by (first | assumption | omega | (simp; omega) | (simp_all; done) | (simp_all; omega)), by (first | assumption | omega | (simp; omega) | (simp_all; done) | (simp_all; omega))⟩)) ?_) | (refine pcF (cf Tryz.func120) (copyVals_p _ sd) ?_) | (refine pcF (cf Tryz.func120) (iCopyVals_p _ sd) ?_) | (refine pcV (cf Tryz.func121) (iLightOk_n ⟨_, _⟩ ⟨_, _, _, _, _, _⟩ _ _ sd) (ha := by repeat' (first | exact trivial | exact rfl | exact rowsC4 rfl | exact rowsC fun _ => rfl | refine And.intro ?_ ?_ | refine vwOk_ag ?_)) ?_) | (refine pcV (cf Tryz.func122) (iExpires_p ⟨_, _⟩ _) ?_)); (try simp (disch := omega) only [push_cast, seval, okb, okl, ee])) | ((with_reducible refine And.intro ?_ ?_); omega))
    all_goals ((with_reducible show PPostR _ _ _ _ _ _); exact finH [])
  case pos =>
    have e : mLightNew t b now = (lightAt t b.fHead b.fNext now, true) := by unfold mLightNew; rw [okb, okl, decide_eq_true hx]; rfl
    rw [e]
    exact ln_up (iLightNew_y t b now ⟨b1, b2, b3⟩ okb okl hx)
set_option maxHeartbeats 2000000 in
theorem sLightNew_u (t : GTrust) (b : GBlock) (now : Int) (hb : SmB b) : PCalls Tryz.prog 37 [.agg (pTrust t), .agg (pBlock b), .val (.int .i64 now)] [] (RH (.tup [.agg (pLiO (mLightNew t b now).1), .val (.bool (mLightNew t b now).2)]) (bLi (mLightNew t b now).1)) := by
  obtain ⟨b1, b2, b3⟩ := hb
  cases okb : blockOk b with
  | false =>
    have e : mLightNew t b now = (light0, false) := by unfold mLightNew; rw [okb]; rfl
    rw [e]
    refine li0_up ?_
    obtain ⟨⟨y1, y2, y3, y4, y5, y6⟩, vs, nx, ⟨ch, cr, ci, cs⟩⟩ := b
    obtain ⟨tp, ts⟩ := t
    dsimp only at *
    refine pcalls_ofR okP Tryz.func37 rfl ?_
    simp only [Tryz.f37, List.length_cons, List.length_nil, Nat.reduceAdd, Nat.reduceSub, List.replicate_succ, List.replicate_zero, List.cons_append, List.nil_append, List.length_map]
    repeat' (first | with_reducible (first | refine wA ?_ | refine wB ?_ | refine wC ?_ | refine w1 ?_ | refine w2 ?_ | refine w3 ?_ | refine w4 ?_ | refine w5 ?_ | refine w6 ?_ | refine w7 ?_ | refine w8 ?_ | refine wT ?_ | refine w9 ?_ | refine wE ?_ | refine wS ?_) | ((with_reducible refine hK _ ?_); clear hK K) | ((with_reducible refine PWp.condI ?_); refine ⟨_, rfl, fun hg => ?_, fun hg => ?_⟩ <;> first | (exact absurd hg (by decide)) | ((try simp only [Bool.not_true, Bool.not_false] at hg); (try simp only [hg]); (try simp only [push_cast] at hg); (try exact absurd trivial hg); (try (exfalso; omega)))) | ((with_reducible refine pops_guard0 ?_); refine ⟨_, rfl, fun K hK => ⟨rfl, ?_⟩⟩; (try simp (disch := omega) only [push_cast, seval, okb])) | ((with_reducible refine pops_plain fun K hK => popO_build ?_); refine ⟨_, rfl, _, rfl, ?_⟩; simp (disch := omega) only [push_cast, seval, okb]) | ((with_reducible refine pbuild_cs ?_); refine ⟨_, rfl, _, rfl, ?_⟩; simp (disch := omega) only [push_cast, seval, okb]) | ((with_reducible refine pops_plain fun K hK => ?_); simp (disch := omega) only [push_cast, seval, okb]) | ((with_reducible refine pops_guard ?_); refine ⟨_, rfl, fun K hK => ⟨_, rfl, fun hg => ?_, fun hg => ?_⟩⟩ <;> first | (exact absurd hg (by decide)) | ((try simp only [Bool.not_true, Bool.not_false] at hg); (try simp only [hg]); (try simp only [push_cast] at hg); (try exact absurd trivial hg); (try (exfalso; omega)); (try simp (disch := omega) only [push_cast, seval, okb]))) | ((with_reducible show pcall _ _ _ _ _ _); (first | (refine pcV (cf Tryz.func29) (sBlockOk_p ⟨⟨_, _, _, _, _, _⟩, _, _, ⟨_, _, _, _⟩⟩ (by first | assumption | exact ⟨by (first | assumption | omega | (simp; omega) | (simp_all; done) | (simp_all; omega)), by (first | assumption | omega | (simp; omega) | (simp_all; done) | (simp_all; omega)), by (first | assumption | omega | (simp; omega) | (simp_all; done) | (simp_all; omega))⟩)) ?_) | (refine pcV (cf Tryz.func62) (sLightOk_n ⟨_, _⟩ ⟨_, _, _, _, _, _⟩ _ _ sd) (ha := by repeat' (first | exact trivial | exact rfl | exact rowsC4 rfl | exact rowsC fun _ => rfl | refine And.intro ?_ ?_ | refine vwOk_ag ?_)) ?_) | (refine pcF (cf Tryz.func116) (sL24At_p ⟨_, _⟩ ⟨_, _, _, _, _, _⟩ _ _ sd) ?_)); (try simp (disch := omega) only [push_cast, seval, okb])) | ((with_reducible refine And.intro ?_ ?_); omega))
    all_goals ((with_reducible show PPostR _ _ _ _ _ _); exact finH [])
  | true =>
  cases okl : lightOk (lightAt t b.fHead b.fNext now) with
  | false =>
    have e : mLightNew t b now = (light0, false) := by unfold mLightNew; rw [okb, okl]; rfl
    rw [e]
    refine li0_up ?_
    obtain ⟨⟨y1, y2, y3, y4, y5, y6⟩, vs, nx, ⟨ch, cr, ci, cs⟩⟩ := b
    obtain ⟨tp, ts⟩ := t
    dsimp only at *
    refine pcalls_ofR okP Tryz.func37 rfl ?_
    simp only [Tryz.f37, List.length_cons, List.length_nil, Nat.reduceAdd, Nat.reduceSub, List.replicate_succ, List.replicate_zero, List.cons_append, List.nil_append, List.length_map]
    repeat' (first | with_reducible (first | refine wA ?_ | refine wB ?_ | refine wC ?_ | refine w1 ?_ | refine w2 ?_ | refine w3 ?_ | refine w4 ?_ | refine w5 ?_ | refine w6 ?_ | refine w7 ?_ | refine w8 ?_ | refine wT ?_ | refine w9 ?_ | refine wE ?_ | refine wS ?_) | ((with_reducible refine hK _ ?_); clear hK K) | ((with_reducible refine PWp.condI ?_); refine ⟨_, rfl, fun hg => ?_, fun hg => ?_⟩ <;> first | (exact absurd hg (by decide)) | ((try simp only [Bool.not_true, Bool.not_false] at hg); (try simp only [hg]); (try simp only [push_cast] at hg); (try exact absurd trivial hg); (try (exfalso; omega)))) | ((with_reducible refine pops_guard0 ?_); refine ⟨_, rfl, fun K hK => ⟨rfl, ?_⟩⟩; (try simp (disch := omega) only [push_cast, seval, okb, okl])) | ((with_reducible refine pops_plain fun K hK => popO_build ?_); refine ⟨_, rfl, _, rfl, ?_⟩; simp (disch := omega) only [push_cast, seval, okb, okl]) | ((with_reducible refine pbuild_cs ?_); refine ⟨_, rfl, _, rfl, ?_⟩; simp (disch := omega) only [push_cast, seval, okb, okl]) | ((with_reducible refine pops_plain fun K hK => ?_); simp (disch := omega) only [push_cast, seval, okb, okl]) | ((with_reducible refine pops_guard ?_); refine ⟨_, rfl, fun K hK => ⟨_, rfl, fun hg => ?_, fun hg => ?_⟩⟩ <;> first | (exact absurd hg (by decide)) | ((try simp only [Bool.not_true, Bool.not_false] at hg); (try simp only [hg]); (try simp only [push_cast] at hg); (try exact absurd trivial hg); (try (exfalso; omega)); (try simp (disch := omega) only [push_cast, seval, okb, okl]))) | ((with_reducible show pcall _ _ _ _ _ _); (first | (refine pcV (cf Tryz.func29) (sBlockOk_p ⟨⟨_, _, _, _, _, _⟩, _, _, ⟨_, _, _, _⟩⟩ (by first | assumption | exact ⟨by (first | assumption | omega | (simp; omega) | (simp_all; done) | (simp_all; omega)), by (first | assumption | omega | (simp; omega) | (simp_all; done) | (simp_all; omega)), by (first | assumption | omega | (simp; omega) | (simp_all; done) | (simp_all; omega))⟩)) ?_) | (refine pcV (cf Tryz.func62) (sLightOk_n ⟨_, _⟩ ⟨_, _, _, _, _, _⟩ _ _ sd) (ha := by repeat' (first | exact trivial | exact rfl | exact rowsC4 rfl | exact rowsC fun _ => rfl | refine And.intro ?_ ?_ | refine vwOk_ag ?_)) ?_) | (refine pcF (cf Tryz.func116) (sL24At_p ⟨_, _⟩ ⟨_, _, _, _, _, _⟩ _ _ sd) ?_)); (try simp (disch := omega) only [push_cast, seval, okb, okl])) | ((with_reducible refine And.intro ?_ ?_); omega))
    all_goals ((with_reducible show PPostR _ _ _ _ _ _); exact finH [])
  | true =>
  obtain ⟨t0, t1, p0, p1, ee⟩ := new_facts okl
  by_cases hx : now ≤ b.fHead.fTime + t.fPeriod
  case neg =>
    have e : mLightNew t b now = (light0, false) := by unfold mLightNew; rw [decide_eq_false hx, Bool.and_false]; rfl
    rw [e]
    refine li0_up ?_
    obtain ⟨⟨y1, y2, y3, y4, y5, y6⟩, vs, nx, ⟨ch, cr, ci, cs⟩⟩ := b
    obtain ⟨tp, ts⟩ := t
    dsimp only at *
    refine pcalls_ofR okP Tryz.func37 rfl ?_
    simp only [Tryz.f37, List.length_cons, List.length_nil, Nat.reduceAdd, Nat.reduceSub, List.replicate_succ, List.replicate_zero, List.cons_append, List.nil_append, List.length_map]
    repeat' (first | with_reducible (first | refine wA ?_ | refine wB ?_ | refine wC ?_ | refine w1 ?_ | refine w2 ?_ | refine w3 ?_ | refine w4 ?_ | refine w5 ?_ | refine w6 ?_ | refine w7 ?_ | refine w8 ?_ | refine wT ?_ | refine w9 ?_ | refine wE ?_ | refine wS ?_) | ((with_reducible refine hK _ ?_); clear hK K) | ((with_reducible refine PWp.condI ?_); refine ⟨_, rfl, fun hg => ?_, fun hg => ?_⟩ <;> first | (exact absurd hg (by decide)) | ((try simp only [Bool.not_true, Bool.not_false] at hg); (try simp only [hg]); (try simp only [push_cast] at hg); (try exact absurd trivial hg); (try (exfalso; omega)))) | ((with_reducible refine pops_guard0 ?_); refine ⟨_, rfl, fun K hK => ⟨rfl, ?_⟩⟩; (try simp (disch := omega) only [push_cast, seval, okb, okl, ee])) | ((with_reducible refine pops_plain fun K hK => popO_build ?_); refine ⟨_, rfl, _, rfl, ?_⟩; simp (disch := omega) only [push_cast, seval, okb, okl, ee]) | ((with_reducible refine pbuild_cs ?_); refine ⟨_, rfl, _, rfl, ?_⟩; simp (disch := omega) only [push_cast, seval, okb, okl, ee]) | ((with_reducible refine pops_plain fun K hK => ?_); simp (disch := omega) only [push_cast, seval, okb, okl, ee]) | ((with_reducible refine pops_guard ?_); refine ⟨_, rfl, fun K hK => ⟨_, rfl, fun hg => ?_, fun hg => ?_⟩⟩ <;> first | (exact absurd hg (by decide)) | ((try simp only [Bool.not_true, Bool.not_false] at hg); (try simp only [hg]); (try simp only [push_cast] at hg); (try exact absurd trivial hg); (try (exfalso; omega)); (try simp (disch := omega) only [push_cast, seval, okb, okl, ee]))) | ((with_reducible show pcall _ _ _ _ _ _); (first | (refine pcV (cf Tryz.func29) (sBlockOk_p ⟨⟨_, _, _, _, _, _⟩, _, _, ⟨_, _, _, _⟩⟩ (by first | assumption | exact ⟨by (first | assumption | omega | (simp; omega) | (simp_all; done) | (simp_all; omega)), by (first | assumption | omega | (simp; omega) | (simp_all; done) | (simp_all; omega)), by (first | assumption | omega | (simp; omega) | (simp_all; done) | (simp_all; omega))⟩)) ?_) | (refine pcV (cf Tryz.func62) (sLightOk_n ⟨_, _⟩ ⟨_, _, _, _, _, _⟩ _ _ sd) (ha := by repeat' (first | exact trivial | exact rfl | exact rowsC4 rfl | exact rowsC fun _ => rfl | refine And.intro ?_ ?_ | refine vwOk_ag ?_)) ?_) | (refine pcF (cf Tryz.func116) (sL24At_p ⟨_, _⟩ ⟨_, _, _, _, _, _⟩ _ _ sd) ?_)); (try simp (disch := omega) only [push_cast, seval, okb, okl, ee])) | ((with_reducible refine And.intro ?_ ?_); omega))
    all_goals ((with_reducible show PPostR _ _ _ _ _ _); exact finH [])
  case pos =>
    have e : mLightNew t b now = (lightAt t b.fHead b.fNext now, true) := by unfold mLightNew; rw [okb, okl, decide_eq_true hx]; rfl
    rw [e]
    exact ln_up (sLightNew_y t b now ⟨b1, b2, b3⟩ okb okl hx)
end Go.Proofs.YtiboajlnjldalaaGreatDoor
namespace Go.Proofs.YtiboajlnjldalaaGreatDoor
set_option linter.unusedSimpArgs false
set_option linter.unusedVariables false
open Go.RowKit
set_option maxRecDepth 1000000
def pLiX (c : GLight) (x y z : PV) : List PV := [.val (.int .i64 c.fTrust.fPeriod), .val (.int .i64 c.fTrust.fSlack), .val (.int .i64 c.fState), .val (.int .i64 c.fAnchor.fHead.fHeight), .val (.int .i64 c.fAnchor.fHead.fTime), .val (.string c.fAnchor.fHead.fLast), .val (.string c.fAnchor.fHead.fVals), .val (.string c.fAnchor.fHead.fNext), .val (.string c.fAnchor.fHead.fData), x, y, .val (.int .i64 c.fStore.fSynced), z, .val (.int .i64 c.fPeers.fTurn), .val (.int .i64 c.fNow)]
def pBkX (b : GBlock) (x y z : PV) : List PV := [.val (.int .i64 b.fHead.fHeight), .val (.int .i64 b.fHead.fTime), .val (.string b.fHead.fLast), .val (.string b.fHead.fVals), .val (.string b.fHead.fNext), .val (.string b.fHead.fData), x, y, .val (.int .i64 b.fCommit.fHeight), .val (.int .i64 b.fCommit.fRound), .val (.string b.fCommit.fId), z]
attribute [push_cast] pLiX pBkX
theorem cBlock_pos (b : GBlock) : 0 ≤ cBlock b := by unfold cBlock; omega
theorem cLight_pos (c : GLight) : 0 ≤ cLight c := by unfold cLight; omega
theorem sm_new {t : GTrust} {b : GBlock} {now : Int} (h : SmB b) : SmC (mLightNew t b now).1 := by
  unfold mLightNew
  split
  · exact ⟨h.n, by simp [lightAt], by simp [lightAt]⟩
  · exact ⟨by simp [light0], by simp [light0], by simp [light0]⟩
set_option maxHeartbeats 40000000 in
theorem fnExactLightNew_p (t : GTrust) (b : GBlock) (now : Int) (kb : OkBlock b) (kn : -9223372036854775808 ≤ now ∧ now ≤ 9223372036854775807) : PCalls Tryz.prog 6 [.agg (pTrust t), .agg (pBlock b), .val (.int .i64 now)] [] (RV (.val (.bool true))) := by
  have hsz := lSzBlock_p b 1048576 kb (by decide)
  refine pcalls_ofR okP Tryz.func6 rfl ?_
  simp only [Tryz.f6, List.length_cons, List.length_nil, Nat.reduceAdd, Nat.reduceSub, List.replicate_succ, List.replicate_zero, List.cons_append, List.nil_append, List.length_map]
  repeat' (first | with_reducible refine mkRegion (id := 5) ?_ | with_reducible (first | refine wA ?_ | refine wB ?_ | refine wC ?_) | with_reducible refine PWp.draw (id := 10) okP true [0, 1, 2, 3, 4] (by kernel_rfl) ?_ | with_reducible refine PWp.drawT (id := 5) okP true (.step 0 (.step 2 (.step 4 (.fork (.alt 1 (.fork (.alt 3 (.fork (.alt 5 (.step 6 (.step 7 (.step 8 (.step 9 (.step 10 (.step 11 .done)))))) (.alt 9 (.step 5 (.step 6 (.step 7 (.step 8 (.step 10 (.step 11 .done)))))) .stop))) (.alt 9 (.step 3 (.step 5 (.step 6 (.step 7 (.step 8 (.step 10 (.step 11 .done))))))) .stop))) (.alt 9 (.step 1 (.step 3 (.step 5 (.step 6 (.step 7 (.step 8 (.step 10 (.step 11 .done)))))))) .stop)))))) (by kernel_rfl) ?_ | with_reducible refine PWp.drawT (id := 7) okP true (.step 0 (.step 2 (.step 3 (.fork (.alt 1 (.fork (.alt 4 (.step 5 (.step 6 (.step 7 (.step 8 (.step 9 (.step 10 .done)))))) (.alt 8 (.step 4 (.step 5 (.step 6 (.step 7 (.step 9 (.step 10 .done)))))) .stop))) (.alt 8 (.step 1 (.step 4 (.step 5 (.step 6 (.step 7 (.step 9 (.step 10 .done))))))) .stop)))))) (by kernel_rfl) ?_ | with_reducible refine PWp.drawT (id := 24) okP true (.step 0 (.step 2 (.step 4 (.fork (.alt 1 (.fork (.alt 3 (.fork (.alt 5 (.step 6 (.step 7 (.step 8 (.step 9 (.step 10 (.step 11 .done)))))) (.alt 9 (.step 5 (.step 6 (.step 7 (.step 8 (.step 10 (.step 11 .done)))))) .stop))) (.alt 9 (.step 3 (.step 5 (.step 6 (.step 7 (.step 8 (.step 10 (.step 11 .done))))))) .stop))) (.alt 9 (.step 1 (.step 3 (.step 5 (.step 6 (.step 7 (.step 8 (.step 10 (.step 11 .done)))))))) .stop)))))) (by kernel_rfl) ?_ | with_reducible (first | refine w1 ?_ | refine w2 ?_ | refine w3 ?_ | refine w4 ?_ | refine w5 ?_ | refine w6 ?_ | refine w7 ?_ | refine w8 ?_ | refine wT ?_ | refine w9 ?_ | refine wE ?_ | refine wS ?_) | ((with_reducible refine hK _ ?_); clear hK K) | ((with_reducible refine PWp.condI ?_); refine ⟨_, rfl, fun hg => ?_, fun hg => ?_⟩ <;> first | (exact absurd hg (by decide)) | ((try simp only [Bool.not_true, Bool.not_false] at hg); (try simp only [hg]); (try simp only [push_cast] at hg); (try exact absurd trivial hg); (try (exfalso; omega)))) | ((first | ((with_reducible refine pops_guard0 ?_); refine ⟨_, rfl, fun K hK => ⟨rfl, ?_⟩⟩) | ((with_reducible refine pD_g0 ?_); refine ⟨_, rfl, rfl, ?_⟩)); (try simp (disch := omega) only [push_cast, seval])) | with_reducible (first | refine ptree_done ?_ | exact ptree_stop | refine ptree_fork ?_) | ((with_reducible refine ptree_I ?_); refine ⟨_, rfl, fun K hK => ?_⟩) | ((with_reducible refine ptree_A ?_ ?_); (refine ⟨_, rfl, fun K hK => ?_⟩)) | ((with_reducible refine pany_I ?_); refine ⟨_, rfl, fun K hK => ?_⟩) | ((with_reducible refine pops_plain fun K hK => ?_); simp (disch := omega) only [push_cast, seval]) | ((first | ((with_reducible refine pD_y ?_ ?_); exact rfl) | ((with_reducible refine pD_x ?_ ?_); exact rfl)); simp (disch := omega) only [push_cast, seval]) | ((first | ((with_reducible refine pops_guard ?_); refine ⟨_, rfl, fun K hK => ⟨_, rfl, fun hg => ?_, fun hg => ?_⟩⟩) | ((first | ((with_reducible refine pD_gy ?_ ?_); exact rfl) | ((with_reducible refine pD_gx ?_ ?_); exact rfl)); refine ⟨_, rfl, _, rfl, fun hg => ?_, fun hg => ?_⟩)) <;> first | (exact absurd hg (by decide)) | ((try simp only [Bool.not_true, Bool.not_false] at hg); (try simp only [hg]); (try simp only [push_cast] at hg); (try exact absurd trivial hg); (try (exfalso; omega)); (try simp (disch := omega) only [push_cast, seval]))) | ((with_reducible show pcall _ _ _ _ _ _); (first | (refine pcall_X1 (cf Tryz.func36) (by ((try simp (disch := omega) only [push_cast, seval]); first | done | exact rfl)) (hsz) ?_; rintro y ⟨hy1, hy2⟩) | (refine pcF (cf Tryz.func38) (lToTrust_p ⟨_, _⟩) ?_)); (try simp (disch := omega) only [push_cast, seval])) | ((with_reducible refine And.intro ?_ ?_); omega))
  · ((with_reducible show PPostR _ _ _ _ _ _); refine finV ?_; (try simp only [push_cast, seval]))
  refine Mk.of ?_
  have hb : SmB b := hy2 (by omega)
  have cs := sLightNew_u t b now hb
  have ci := iLightNew_u t b now hb
  have hr := sm_new (t := t) (now := now) hb
  generalize mLightNew t b now = r at cs ci hr
  obtain ⟨r0, r1⟩ := r
  dsimp only at cs ci hr
  have ct := lToTrust_p t
  have cb := lToBlock_p b hb
  have ce := lEqLight_p r0 hr
  have cq := lEqBlock_p b hb
  have cm := lMarkBlock_p b 1 hb (by decide)
  have cl := lMarkLight_p r0 1 hr (by decide)
  have ch := lHeldLight_p r0 1 hr (by decide)
  have q1 := cBlock_pos b
  have q2 := cLight_pos r0
  have q3 : cBlock b ≤ 12000000 := by have := hb.v; have := hb.n; have := hb.s; unfold cBlock; omega
  have q4 : cLight r0 ≤ 24000000 := by have := hr.a; have := hr.s; have := hr.p; unfold cLight; omega
  generalize cBlock b = nb at *
  generalize cLight r0 = nl at *
  apply PWp.cap (α := Unit) (fun z => [(2, .val (.int .i64 now)), (3, .ptr 0 0), (4, .ptr 1 0), (8, .ptr 2 0), (9, .val (.bool r1))]) [0, 1, 5, 6, 7, 10, 11, 12, 13, 14, 15, 16, 17, 18, 19, 20, 21, 22, 23, 24, 25, 26, 27, 28, 29, 30, 31, 32, 33, 34, 35, 36, 37, 38, 39, 40, 41, 42, 43, 44, 45, 46, 47, 48, 49, 50, 51, 52, 53, 54, 55, 56, 57, 58, 59, 60, 61, 62, 63, 64, 65, 66, 67, 68, 69, 70, 71, 72, 73, 74, 75, 76, 77, 78, 79, 80, 81, 82, 83, 84, 85, 86, 87, 88, 89, 90, 91, 92, 93, 94, 95, 96, 97, 98, 99, 100, 101, 102, 103, 104, 105, 106, 107, 108] (fun z => [some (.box (pTrust t)), some (.box (pBlock b)), some (.box (pLiX r0 (.own 3) (.own 4) (.own 5))), some (.row 141 2 (r0.fAnchor.fNext.map pVal)), some (.row 30 6 (r0.fStore.fHeads.map pHeader)), some (.row 211 4 (r0.fPeers.fPeers.map pPeer))]) (fun z => True)
  case main =>
    intro tail
    repeat' (first | with_reducible refine mkRegion (id := 6) ?_ | with_reducible (first | refine wA ?_ | refine wB ?_ | refine wC ?_) | with_reducible refine PWp.draw (id := 10) okP true [0, 1, 2, 3, 4] (by kernel_rfl) ?_ | with_reducible refine PWp.drawT (id := 5) okP true (.step 0 (.step 2 (.step 4 (.fork (.alt 1 (.fork (.alt 3 (.fork (.alt 5 (.step 6 (.step 7 (.step 8 (.step 9 (.step 10 (.step 11 .done)))))) (.alt 9 (.step 5 (.step 6 (.step 7 (.step 8 (.step 10 (.step 11 .done)))))) .stop))) (.alt 9 (.step 3 (.step 5 (.step 6 (.step 7 (.step 8 (.step 10 (.step 11 .done))))))) .stop))) (.alt 9 (.step 1 (.step 3 (.step 5 (.step 6 (.step 7 (.step 8 (.step 10 (.step 11 .done)))))))) .stop)))))) (by kernel_rfl) ?_ | with_reducible refine PWp.drawT (id := 7) okP true (.step 0 (.step 2 (.step 3 (.fork (.alt 1 (.fork (.alt 4 (.step 5 (.step 6 (.step 7 (.step 8 (.step 9 (.step 10 .done)))))) (.alt 8 (.step 4 (.step 5 (.step 6 (.step 7 (.step 9 (.step 10 .done)))))) .stop))) (.alt 8 (.step 1 (.step 4 (.step 5 (.step 6 (.step 7 (.step 9 (.step 10 .done))))))) .stop)))))) (by kernel_rfl) ?_ | with_reducible refine PWp.drawT (id := 24) okP true (.step 0 (.step 2 (.step 4 (.fork (.alt 1 (.fork (.alt 3 (.fork (.alt 5 (.step 6 (.step 7 (.step 8 (.step 9 (.step 10 (.step 11 .done)))))) (.alt 9 (.step 5 (.step 6 (.step 7 (.step 8 (.step 10 (.step 11 .done)))))) .stop))) (.alt 9 (.step 3 (.step 5 (.step 6 (.step 7 (.step 8 (.step 10 (.step 11 .done))))))) .stop))) (.alt 9 (.step 1 (.step 3 (.step 5 (.step 6 (.step 7 (.step 8 (.step 10 (.step 11 .done)))))))) .stop)))))) (by kernel_rfl) ?_ | with_reducible (first | refine w1 ?_ | refine w2 ?_ | refine w3 ?_ | refine w4 ?_ | refine w5 ?_ | refine w6 ?_ | refine w7 ?_ | refine w8 ?_ | refine wT ?_ | refine w9 ?_ | refine wE ?_ | refine wS ?_) | ((with_reducible refine hK _ ?_); clear hK K) | ((with_reducible refine PWp.condI ?_); refine ⟨_, rfl, fun hg => ?_, fun hg => ?_⟩ <;> first | (exact absurd hg (by decide)) | ((try simp only [Bool.not_true, Bool.not_false] at hg); (try simp only [hg]); (try simp only [push_cast] at hg); (try exact absurd trivial hg); (try (exfalso; omega)))) | ((first | ((with_reducible refine pops_guard0 ?_); refine ⟨_, rfl, fun K hK => ⟨rfl, ?_⟩⟩) | ((with_reducible refine pD_g0 ?_); refine ⟨_, rfl, rfl, ?_⟩)); (try simp (disch := omega) only [push_cast, seval])) | with_reducible (first | refine ptree_done ?_ | exact ptree_stop | refine ptree_fork ?_) | ((with_reducible refine ptree_I ?_); refine ⟨_, rfl, fun K hK => ?_⟩) | ((with_reducible refine ptree_A ?_ ?_); (refine ⟨_, rfl, fun K hK => ?_⟩)) | ((with_reducible refine pany_I ?_); refine ⟨_, rfl, fun K hK => ?_⟩) | ((with_reducible refine pops_plain fun K hK => ?_); simp (disch := omega) only [push_cast, seval]) | ((first | ((with_reducible refine pD_y ?_ ?_); exact rfl) | ((with_reducible refine pD_x ?_ ?_); exact rfl)); simp (disch := omega) only [push_cast, seval]) | ((first | ((with_reducible refine pops_guard ?_); refine ⟨_, rfl, fun K hK => ⟨_, rfl, fun hg => ?_, fun hg => ?_⟩⟩) | ((first | ((with_reducible refine pD_gy ?_ ?_); exact rfl) | ((with_reducible refine pD_gx ?_ ?_); exact rfl)); refine ⟨_, rfl, _, rfl, fun hg => ?_, fun hg => ?_⟩)) <;> first | (exact absurd hg (by decide)) | ((try simp only [Bool.not_true, Bool.not_false] at hg); (try simp only [hg]); (try simp only [push_cast] at hg); (try exact absurd trivial hg); (try (exfalso; omega)); (try simp (disch := omega) only [push_cast, seval]))) | ((with_reducible show pcall _ _ _ _ _ _); (first | (refine pcall_X1 (cf Tryz.func36) (by ((try simp (disch := omega) only [push_cast, seval]); first | done | exact rfl)) (hsz) ?_; rintro y ⟨hy1, hy2⟩) | (refine pcH (cf Tryz.func37) (cs) ?_) | (refine pcF (cf Tryz.func38) (ct) ?_) | (refine pcH (cf Tryz.func39) (cb) ?_) | (refine pcH (cf Tryz.func40) (ci) ?_) | (refine pcV (cf Tryz.func41) (ce) ?_) | (refine pcV (cf Tryz.func42) (cq) ?_) | (refine pcall_RGf (cf Tryz.func43) [?_, ?_, ?_] ?_ ?_ ?_ (cm) ?_; rotate_left 3; (· ((try simp (disch := omega) only [push_cast, seval]); (repeat' (first | exact trivial | exact rfl | refine And.intro ?_ ?_ | omega)))); (· (repeat' (first | exact trivial | refine And.intro ?_ ?_ | exact ⟨_, rfl⟩ | (simp (disch := omega) only [push_cast, seval]; done) | exact rfl))); (· exact rfl); rotate_right 1; rotate_left 1; (all_goals (try (first | omega | exact (show _ = _ by assumption))))) | (refine pcall_RGf (cf Tryz.func44) [?_, ?_, ?_] ?_ ?_ ?_ (cl) ?_; rotate_left 3; (· ((try simp (disch := omega) only [push_cast, seval]); (repeat' (first | exact trivial | exact rfl | refine And.intro ?_ ?_ | omega)))); (· (repeat' (first | exact trivial | refine And.intro ?_ ?_ | exact ⟨_, rfl⟩ | (simp (disch := omega) only [push_cast, seval]; done) | exact rfl))); (· exact rfl); rotate_right 1; rotate_left 1; (all_goals (try (first | omega | exact (show _ = _ by assumption))))) | (refine pcV (cf Tryz.func45) (ch) ?_)); (try simp (disch := omega) only [push_cast, seval])) | ((with_reducible refine And.intro ?_ ?_); omega))
    all_goals
      (refine Mk.of (tail (()) _ _ ?_ (by (refine ⟨[?_, ?_, ?_, ?_, ?_, ?_], ?_, ?_, ?_, ?_⟩; rotate_left 6; (· ((try simp (disch := omega) only [push_cast, seval]); (repeat' (first | exact trivial | exact rfl | refine And.intro ?_ ?_ | omega)))); (· ((try simp (disch := omega) only [push_cast, seval]); (repeat' (first | exact trivial | exact rfl | refine And.intro ?_ ?_ | omega)))); (· exact rfl); (· (first | exact trivial | exact ⟨rfl, trivial⟩ | exact ⟨rfl, rfl, trivial⟩))))))
      trivial
  case t =>
    intro z ρ2 hI; (try dsimp only at hI); refine PWp.at (tm' := ?_) (H' := ?_) ?_ ?_ ?_; rotate_left 2; (· ((try simp only [push_cast, seval]); exact rfl)); (· ((try dsimp only); exact rfl))
    apply PWp.cap (α := Unit) (fun z => [(2, .val (.int .i64 now)), (3, .ptr 0 0), (4, .ptr 1 0), (8, .ptr 2 0), (9, .val (.bool r1)), (10, .ptr 6 0), (11, .ptr 10 0), (12, .val (.bool r1))]) [0, 1, 5, 6, 7, 13, 14, 15, 16, 17, 18, 19, 20, 21, 22, 23, 24, 25, 26, 27, 28, 29, 30, 31, 32, 33, 34, 35, 36, 37, 38, 39, 40, 41, 42, 43, 44, 45, 46, 47, 48, 49, 50, 51, 52, 53, 54, 55, 56, 57, 58, 59, 60, 61, 62, 63, 64, 65, 66, 67, 68, 69, 70, 71, 72, 73, 74, 75, 76, 77, 78, 79, 80, 81, 82, 83, 84, 85, 86, 87, 88, 89, 90, 91, 92, 93, 94, 95, 96, 97, 98, 99, 100, 101, 102, 103, 104, 105, 106, 107, 108] (fun z => [some (.box (pTrust t)), some (.box (pBlock b)), some (.box (pLiX r0 (.own 3) (.own 4) (.own 5))), some (.row 141 2 (r0.fAnchor.fNext.map pVal)), some (.row 30 6 (r0.fStore.fHeads.map pHeader)), some (.row 211 4 (r0.fPeers.fPeers.map pPeer)), some (.box (pBkX b (.own 7) (.own 8) (.own 9))), some (.row 141 2 (b.fVals.map pVal)), some (.row 141 2 (b.fNext.map pVal)), some (.row 227 2 (b.fCommit.fSigs.map pCSig)), some (.box (pLiX r0 (.own 11) (.own 12) (.own 13))), some (.row 141 2 (r0.fAnchor.fNext.map pVal)), some (.row 30 6 (r0.fStore.fHeads.map pHeader)), some (.row 211 4 (r0.fPeers.fPeers.map pPeer))]) (fun z => True)
    case main =>
      intro tail
      repeat' (first | with_reducible refine mkRegion (id := 8) ?_ | with_reducible (first | refine wA ?_ | refine wB ?_ | refine wC ?_) | with_reducible refine PWp.draw (id := 10) okP true [0, 1, 2, 3, 4] (by kernel_rfl) ?_ | with_reducible refine PWp.drawT (id := 5) okP true (.step 0 (.step 2 (.step 4 (.fork (.alt 1 (.fork (.alt 3 (.fork (.alt 5 (.step 6 (.step 7 (.step 8 (.step 9 (.step 10 (.step 11 .done)))))) (.alt 9 (.step 5 (.step 6 (.step 7 (.step 8 (.step 10 (.step 11 .done)))))) .stop))) (.alt 9 (.step 3 (.step 5 (.step 6 (.step 7 (.step 8 (.step 10 (.step 11 .done))))))) .stop))) (.alt 9 (.step 1 (.step 3 (.step 5 (.step 6 (.step 7 (.step 8 (.step 10 (.step 11 .done)))))))) .stop)))))) (by kernel_rfl) ?_ | with_reducible refine PWp.drawT (id := 7) okP true (.step 0 (.step 2 (.step 3 (.fork (.alt 1 (.fork (.alt 4 (.step 5 (.step 6 (.step 7 (.step 8 (.step 9 (.step 10 .done)))))) (.alt 8 (.step 4 (.step 5 (.step 6 (.step 7 (.step 9 (.step 10 .done)))))) .stop))) (.alt 8 (.step 1 (.step 4 (.step 5 (.step 6 (.step 7 (.step 9 (.step 10 .done))))))) .stop)))))) (by kernel_rfl) ?_ | with_reducible refine PWp.drawT (id := 24) okP true (.step 0 (.step 2 (.step 4 (.fork (.alt 1 (.fork (.alt 3 (.fork (.alt 5 (.step 6 (.step 7 (.step 8 (.step 9 (.step 10 (.step 11 .done)))))) (.alt 9 (.step 5 (.step 6 (.step 7 (.step 8 (.step 10 (.step 11 .done)))))) .stop))) (.alt 9 (.step 3 (.step 5 (.step 6 (.step 7 (.step 8 (.step 10 (.step 11 .done))))))) .stop))) (.alt 9 (.step 1 (.step 3 (.step 5 (.step 6 (.step 7 (.step 8 (.step 10 (.step 11 .done)))))))) .stop)))))) (by kernel_rfl) ?_ | with_reducible (first | refine w1 ?_ | refine w2 ?_ | refine w3 ?_ | refine w4 ?_ | refine w5 ?_ | refine w6 ?_ | refine w7 ?_ | refine w8 ?_ | refine wT ?_ | refine w9 ?_ | refine wE ?_ | refine wS ?_) | ((with_reducible refine hK _ ?_); clear hK K) | ((with_reducible refine PWp.condI ?_); refine ⟨_, rfl, fun hg => ?_, fun hg => ?_⟩ <;> first | (exact absurd hg (by decide)) | ((try simp only [Bool.not_true, Bool.not_false] at hg); (try simp only [hg]); (try simp only [push_cast] at hg); (try exact absurd trivial hg); (try (exfalso; omega)))) | ((first | ((with_reducible refine pops_guard0 ?_); refine ⟨_, rfl, fun K hK => ⟨rfl, ?_⟩⟩) | ((with_reducible refine pD_g0 ?_); refine ⟨_, rfl, rfl, ?_⟩)); (try simp (disch := omega) only [push_cast, seval])) | with_reducible (first | refine ptree_done ?_ | exact ptree_stop | refine ptree_fork ?_) | ((with_reducible refine ptree_I ?_); refine ⟨_, rfl, fun K hK => ?_⟩) | ((with_reducible refine ptree_A ?_ ?_); (refine ⟨_, rfl, fun K hK => ?_⟩)) | ((with_reducible refine pany_I ?_); refine ⟨_, rfl, fun K hK => ?_⟩) | ((with_reducible refine pops_plain fun K hK => ?_); simp (disch := omega) only [push_cast, seval]) | ((first | ((with_reducible refine pD_y ?_ ?_); exact rfl) | ((with_reducible refine pD_x ?_ ?_); exact rfl)); simp (disch := omega) only [push_cast, seval]) | ((first | ((with_reducible refine pops_guard ?_); refine ⟨_, rfl, fun K hK => ⟨_, rfl, fun hg => ?_, fun hg => ?_⟩⟩) | ((first | ((with_reducible refine pD_gy ?_ ?_); exact rfl) | ((with_reducible refine pD_gx ?_ ?_); exact rfl)); refine ⟨_, rfl, _, rfl, fun hg => ?_, fun hg => ?_⟩)) <;> first | (exact absurd hg (by decide)) | ((try simp only [Bool.not_true, Bool.not_false] at hg); (try simp only [hg]); (try simp only [push_cast] at hg); (try exact absurd trivial hg); (try (exfalso; omega)); (try simp (disch := omega) only [push_cast, seval]))) | ((with_reducible show pcall _ _ _ _ _ _); (first | (refine pcall_X1 (cf Tryz.func36) (by ((try simp (disch := omega) only [push_cast, seval]); first | done | exact rfl)) (hsz) ?_; rintro y ⟨hy1, hy2⟩) | (refine pcH (cf Tryz.func37) (cs) ?_) | (refine pcF (cf Tryz.func38) (ct) ?_) | (refine pcH (cf Tryz.func39) (cb) ?_) | (refine pcH (cf Tryz.func40) (ci) ?_) | (refine pcV (cf Tryz.func41) (ce) ?_) | (refine pcV (cf Tryz.func42) (cq) ?_) | (refine pcall_RGf (cf Tryz.func43) [?_, ?_, ?_] ?_ ?_ ?_ (cm) ?_; rotate_left 3; (· ((try simp (disch := omega) only [push_cast, seval]); (repeat' (first | exact trivial | exact rfl | refine And.intro ?_ ?_ | omega)))); (· (repeat' (first | exact trivial | refine And.intro ?_ ?_ | exact ⟨_, rfl⟩ | (simp (disch := omega) only [push_cast, seval]; done) | exact rfl))); (· exact rfl); rotate_right 1; rotate_left 1; (all_goals (try (first | omega | exact (show _ = _ by assumption))))) | (refine pcall_RGf (cf Tryz.func44) [?_, ?_, ?_] ?_ ?_ ?_ (cl) ?_; rotate_left 3; (· ((try simp (disch := omega) only [push_cast, seval]); (repeat' (first | exact trivial | exact rfl | refine And.intro ?_ ?_ | omega)))); (· (repeat' (first | exact trivial | refine And.intro ?_ ?_ | exact ⟨_, rfl⟩ | (simp (disch := omega) only [push_cast, seval]; done) | exact rfl))); (· exact rfl); rotate_right 1; rotate_left 1; (all_goals (try (first | omega | exact (show _ = _ by assumption))))) | (refine pcV (cf Tryz.func45) (ch) ?_)); (try simp (disch := omega) only [push_cast, seval])) | ((with_reducible refine And.intro ?_ ?_); omega))
      all_goals
        (refine Mk.of (tail (()) _ _ ?_ (by (refine ⟨[?_, ?_, ?_, ?_, ?_, ?_, ?_, ?_, ?_, ?_, ?_, ?_, ?_, ?_], ?_, ?_, ?_, ?_⟩; rotate_left 14; (· ((try simp (disch := omega) only [push_cast, seval]); (repeat' (first | exact trivial | exact rfl | refine And.intro ?_ ?_ | omega)))); (· ((try simp (disch := omega) only [push_cast, seval]); (repeat' (first | exact trivial | exact rfl | refine And.intro ?_ ?_ | omega)))); (· exact rfl); (· (first | exact trivial | exact ⟨rfl, trivial⟩ | exact ⟨rfl, rfl, trivial⟩))))))
        trivial
    case t =>
      intro z ρ2 hI; (try dsimp only at hI); refine PWp.at (tm' := ?_) (H' := ?_) ?_ ?_ ?_; rotate_left 2; (· ((try simp only [push_cast, seval]); exact rfl)); (· ((try dsimp only); exact rfl))
      repeat' (first | with_reducible refine mkRegion (id := 24) ?_ | with_reducible (first | refine wA ?_ | refine wB ?_ | refine wC ?_) | with_reducible refine PWp.draw (id := 10) okP true [0, 1, 2, 3, 4] (by kernel_rfl) ?_ | with_reducible refine PWp.drawT (id := 5) okP true (.step 0 (.step 2 (.step 4 (.fork (.alt 1 (.fork (.alt 3 (.fork (.alt 5 (.step 6 (.step 7 (.step 8 (.step 9 (.step 10 (.step 11 .done)))))) (.alt 9 (.step 5 (.step 6 (.step 7 (.step 8 (.step 10 (.step 11 .done)))))) .stop))) (.alt 9 (.step 3 (.step 5 (.step 6 (.step 7 (.step 8 (.step 10 (.step 11 .done))))))) .stop))) (.alt 9 (.step 1 (.step 3 (.step 5 (.step 6 (.step 7 (.step 8 (.step 10 (.step 11 .done)))))))) .stop)))))) (by kernel_rfl) ?_ | with_reducible refine PWp.drawT (id := 7) okP true (.step 0 (.step 2 (.step 3 (.fork (.alt 1 (.fork (.alt 4 (.step 5 (.step 6 (.step 7 (.step 8 (.step 9 (.step 10 .done)))))) (.alt 8 (.step 4 (.step 5 (.step 6 (.step 7 (.step 9 (.step 10 .done)))))) .stop))) (.alt 8 (.step 1 (.step 4 (.step 5 (.step 6 (.step 7 (.step 9 (.step 10 .done))))))) .stop)))))) (by kernel_rfl) ?_ | with_reducible refine PWp.drawT (id := 24) okP true (.step 0 (.step 2 (.step 4 (.fork (.alt 1 (.fork (.alt 3 (.fork (.alt 5 (.step 6 (.step 7 (.step 8 (.step 9 (.step 10 (.step 11 .done)))))) (.alt 9 (.step 5 (.step 6 (.step 7 (.step 8 (.step 10 (.step 11 .done)))))) .stop))) (.alt 9 (.step 3 (.step 5 (.step 6 (.step 7 (.step 8 (.step 10 (.step 11 .done))))))) .stop))) (.alt 9 (.step 1 (.step 3 (.step 5 (.step 6 (.step 7 (.step 8 (.step 10 (.step 11 .done)))))))) .stop)))))) (by kernel_rfl) ?_ | with_reducible (first | refine w1 ?_ | refine w2 ?_ | refine w3 ?_ | refine w4 ?_ | refine w5 ?_ | refine w6 ?_ | refine w7 ?_ | refine w8 ?_ | refine wT ?_ | refine w9 ?_ | refine wE ?_ | refine wS ?_) | ((with_reducible refine hK _ ?_); clear hK K) | ((with_reducible refine PWp.condI ?_); refine ⟨_, rfl, fun hg => ?_, fun hg => ?_⟩ <;> first | (exact absurd hg (by decide)) | ((try simp only [Bool.not_true, Bool.not_false] at hg); (try simp only [hg]); (try simp only [push_cast] at hg); (try exact absurd trivial hg); (try (exfalso; omega)))) | ((first | ((with_reducible refine pops_guard0 ?_); refine ⟨_, rfl, fun K hK => ⟨rfl, ?_⟩⟩) | ((with_reducible refine pD_g0 ?_); refine ⟨_, rfl, rfl, ?_⟩)); (try simp (disch := omega) only [push_cast, seval, xb_ne, beq_self_eq_true])) | with_reducible (first | refine ptree_done ?_ | exact ptree_stop | refine ptree_fork ?_) | ((with_reducible refine ptree_I ?_); refine ⟨_, rfl, fun K hK => ?_⟩) | ((with_reducible refine ptree_A ?_ ?_); (refine ⟨_, rfl, fun K hK => ?_⟩)) | ((with_reducible refine pany_I ?_); refine ⟨_, rfl, fun K hK => ?_⟩) | ((with_reducible refine pops_plain fun K hK => ?_); simp (disch := omega) only [push_cast, seval, xb_ne, beq_self_eq_true]) | ((first | ((with_reducible refine pD_y ?_ ?_); exact rfl) | ((with_reducible refine pD_x ?_ ?_); exact rfl)); simp (disch := omega) only [push_cast, seval, xb_ne, beq_self_eq_true]) | ((first | ((with_reducible refine pops_guard ?_); refine ⟨_, rfl, fun K hK => ⟨_, rfl, fun hg => ?_, fun hg => ?_⟩⟩) | ((first | ((with_reducible refine pD_gy ?_ ?_); exact rfl) | ((with_reducible refine pD_gx ?_ ?_); exact rfl)); refine ⟨_, rfl, _, rfl, fun hg => ?_, fun hg => ?_⟩)) <;> first | (exact absurd hg (by decide)) | ((try simp only [Bool.not_true, Bool.not_false] at hg); (try simp only [hg]); (try simp only [push_cast] at hg); (try exact absurd trivial hg); (try (exfalso; omega)); (try simp (disch := omega) only [push_cast, seval, xb_ne, beq_self_eq_true]))) | ((with_reducible show pcall _ _ _ _ _ _); (first | (refine pcall_X1 (cf Tryz.func36) (by ((try simp (disch := omega) only [push_cast, seval]); first | done | exact rfl)) (hsz) ?_; rintro y ⟨hy1, hy2⟩) | (refine pcH (cf Tryz.func37) (cs) ?_) | (refine pcF (cf Tryz.func38) (ct) ?_) | (refine pcH (cf Tryz.func39) (cb) ?_) | (refine pcH (cf Tryz.func40) (ci) ?_) | (refine pcV (cf Tryz.func41) (ce) ?_) | (refine pcV (cf Tryz.func42) (cq) ?_) | (refine pcall_RGf (cf Tryz.func43) [?_, ?_, ?_] ?_ ?_ ?_ (cm) ?_; rotate_left 3; (· ((try simp (disch := omega) only [push_cast, seval]); (repeat' (first | exact trivial | exact rfl | refine And.intro ?_ ?_ | omega)))); (· (repeat' (first | exact trivial | refine And.intro ?_ ?_ | exact ⟨_, rfl⟩ | (simp (disch := omega) only [push_cast, seval]; done) | exact rfl))); (· exact rfl); rotate_right 1; rotate_left 1; (all_goals (try (first | omega | exact (show _ = _ by assumption))))) | (refine pcall_RGf (cf Tryz.func44) [?_, ?_, ?_] ?_ ?_ ?_ (cl) ?_; rotate_left 3; (· ((try simp (disch := omega) only [push_cast, seval]); (repeat' (first | exact trivial | exact rfl | refine And.intro ?_ ?_ | omega)))); (· (repeat' (first | exact trivial | refine And.intro ?_ ?_ | exact ⟨_, rfl⟩ | (simp (disch := omega) only [push_cast, seval]; done) | exact rfl))); (· exact rfl); rotate_right 1; rotate_left 1; (all_goals (try (first | omega | exact (show _ = _ by assumption))))) | (refine pcV (cf Tryz.func45) (ch) ?_)); (try simp (disch := omega) only [push_cast, seval, xb_ne, beq_self_eq_true])) | ((with_reducible refine And.intro ?_ ?_); omega))
      all_goals
        refine Mk.of ?_
        apply PWp.cap (α := Unit) (fun z => [(2, .val (.int .i64 now)), (8, .ptr 0 0), (9, .val (.bool r1)), (11, .ptr 4 0), (14, .val (.int .i64 (1 + nl))), (16, .ptr 8 0), (17, .val (.bool r1))]) [0, 1, 3, 4, 5, 6, 7, 10, 12, 13, 15, 18, 19, 20, 21, 22, 23, 24, 25, 26, 27, 28, 29, 30, 31, 32, 33, 34, 35, 36, 37, 38, 39, 40, 41, 42, 43, 44, 45, 46, 47, 48, 49, 50, 51, 52, 53, 54, 55, 56, 57, 58, 59, 60, 61, 62, 63, 64, 65, 66, 67, 68, 69, 70, 71, 72, 73, 74, 75, 76, 77, 78, 79, 80, 81, 82, 83, 84, 85, 86, 87, 88, 89, 90, 91, 92, 93, 94, 95, 96, 97, 98, 99, 100, 101, 102, 103, 104, 105, 106, 107, 108] (fun z => [some (.box (pLiX r0 (.own 1) (.own 2) (.own 3))), some (.row 141 2 (r0.fAnchor.fNext.map pVal)), some (.row 30 6 (r0.fStore.fHeads.map pHeader)), some (.row 211 4 (r0.fPeers.fPeers.map pPeer)), some (.box (pLiX r0 (.own 5) (.own 6) (.own 7))), some (.row 141 2 ((mkLight 1 r0).fAnchor.fNext.map pVal)), some (.row 30 6 ((mkLight 1 r0).fStore.fHeads.map pHeader)), some (.row 211 4 ((mkLight 1 r0).fPeers.fPeers.map pPeer)), some (.box (pLiX r0 (.own 9) (.own 10) (.own 11))), some (.row 141 2 (r0.fAnchor.fNext.map pVal)), some (.row 30 6 (r0.fStore.fHeads.map pHeader)), some (.row 211 4 (r0.fPeers.fPeers.map pPeer))]) (fun z => True)
        case main =>
          intro tail
          repeat' (first | with_reducible refine mkRegion (id := 25) ?_ | with_reducible (first | refine wA ?_ | refine wB ?_ | refine wC ?_) | with_reducible refine PWp.draw (id := 10) okP true [0, 1, 2, 3, 4] (by kernel_rfl) ?_ | with_reducible refine PWp.drawT (id := 5) okP true (.step 0 (.step 2 (.step 4 (.fork (.alt 1 (.fork (.alt 3 (.fork (.alt 5 (.step 6 (.step 7 (.step 8 (.step 9 (.step 10 (.step 11 .done)))))) (.alt 9 (.step 5 (.step 6 (.step 7 (.step 8 (.step 10 (.step 11 .done)))))) .stop))) (.alt 9 (.step 3 (.step 5 (.step 6 (.step 7 (.step 8 (.step 10 (.step 11 .done))))))) .stop))) (.alt 9 (.step 1 (.step 3 (.step 5 (.step 6 (.step 7 (.step 8 (.step 10 (.step 11 .done)))))))) .stop)))))) (by kernel_rfl) ?_ | with_reducible refine PWp.drawT (id := 7) okP true (.step 0 (.step 2 (.step 3 (.fork (.alt 1 (.fork (.alt 4 (.step 5 (.step 6 (.step 7 (.step 8 (.step 9 (.step 10 .done)))))) (.alt 8 (.step 4 (.step 5 (.step 6 (.step 7 (.step 9 (.step 10 .done)))))) .stop))) (.alt 8 (.step 1 (.step 4 (.step 5 (.step 6 (.step 7 (.step 9 (.step 10 .done))))))) .stop)))))) (by kernel_rfl) ?_ | with_reducible refine PWp.drawT (id := 24) okP true (.step 0 (.step 2 (.step 4 (.fork (.alt 1 (.fork (.alt 3 (.fork (.alt 5 (.step 6 (.step 7 (.step 8 (.step 9 (.step 10 (.step 11 .done)))))) (.alt 9 (.step 5 (.step 6 (.step 7 (.step 8 (.step 10 (.step 11 .done)))))) .stop))) (.alt 9 (.step 3 (.step 5 (.step 6 (.step 7 (.step 8 (.step 10 (.step 11 .done))))))) .stop))) (.alt 9 (.step 1 (.step 3 (.step 5 (.step 6 (.step 7 (.step 8 (.step 10 (.step 11 .done)))))))) .stop)))))) (by kernel_rfl) ?_ | with_reducible (first | refine w1 ?_ | refine w2 ?_ | refine w3 ?_ | refine w4 ?_ | refine w5 ?_ | refine w6 ?_ | refine w7 ?_ | refine w8 ?_ | refine wT ?_ | refine w9 ?_ | refine wE ?_ | refine wS ?_) | ((with_reducible refine hK _ ?_); clear hK K) | ((with_reducible refine PWp.condI ?_); refine ⟨_, rfl, fun hg => ?_, fun hg => ?_⟩ <;> first | (exact absurd hg (by decide)) | ((try simp only [Bool.not_true, Bool.not_false] at hg); (try simp only [hg]); (try simp only [push_cast] at hg); (try exact absurd trivial hg); (try (exfalso; omega)))) | ((first | ((with_reducible refine pops_guard0 ?_); refine ⟨_, rfl, fun K hK => ⟨rfl, ?_⟩⟩) | ((with_reducible refine pD_g0 ?_); refine ⟨_, rfl, rfl, ?_⟩)); (try simp (disch := omega) only [push_cast, seval])) | with_reducible (first | refine ptree_done ?_ | exact ptree_stop | refine ptree_fork ?_) | ((with_reducible refine ptree_I ?_); refine ⟨_, rfl, fun K hK => ?_⟩) | ((with_reducible refine ptree_A ?_ ?_); (refine ⟨_, rfl, fun K hK => ?_⟩)) | ((with_reducible refine pany_I ?_); refine ⟨_, rfl, fun K hK => ?_⟩) | ((with_reducible refine pops_plain fun K hK => ?_); simp (disch := omega) only [push_cast, seval]) | ((first | ((with_reducible refine pD_y ?_ ?_); exact rfl) | ((with_reducible refine pD_x ?_ ?_); exact rfl)); simp (disch := omega) only [push_cast, seval]) | ((first | ((with_reducible refine pops_guard ?_); refine ⟨_, rfl, fun K hK => ⟨_, rfl, fun hg => ?_, fun hg => ?_⟩⟩) | ((first | ((with_reducible refine pD_gy ?_ ?_); exact rfl) | ((with_reducible refine pD_gx ?_ ?_); exact rfl)); refine ⟨_, rfl, _, rfl, fun hg => ?_, fun hg => ?_⟩)) <;> first | (exact absurd hg (by decide)) | ((try simp only [Bool.not_true, Bool.not_false] at hg); (try simp only [hg]); (try simp only [push_cast] at hg); (try exact absurd trivial hg); (try (exfalso; omega)); (try simp (disch := omega) only [push_cast, seval]))) | ((with_reducible show pcall _ _ _ _ _ _); (first | (refine pcall_X1 (cf Tryz.func36) (by ((try simp (disch := omega) only [push_cast, seval]); first | done | exact rfl)) (hsz) ?_; rintro y ⟨hy1, hy2⟩) | (refine pcH (cf Tryz.func37) (cs) ?_) | (refine pcF (cf Tryz.func38) (ct) ?_) | (refine pcH (cf Tryz.func39) (cb) ?_) | (refine pcH (cf Tryz.func40) (ci) ?_) | (refine pcV (cf Tryz.func41) (ce) ?_) | (refine pcV (cf Tryz.func42) (cq) ?_) | (refine pcall_RGf (cf Tryz.func43) [?_, ?_, ?_] ?_ ?_ ?_ (cm) ?_; rotate_left 3; (· ((try simp (disch := omega) only [push_cast, seval]); (repeat' (first | exact trivial | exact rfl | refine And.intro ?_ ?_ | omega)))); (· (repeat' (first | exact trivial | refine And.intro ?_ ?_ | exact ⟨_, rfl⟩ | (simp (disch := omega) only [push_cast, seval]; done) | exact rfl))); (· exact rfl); rotate_right 1; rotate_left 1; (all_goals (try (first | omega | exact (show _ = _ by assumption))))) | (refine pcall_RGf (cf Tryz.func44) [?_, ?_, ?_] ?_ ?_ ?_ (cl) ?_; rotate_left 3; (· ((try simp (disch := omega) only [push_cast, seval]); (repeat' (first | exact trivial | exact rfl | refine And.intro ?_ ?_ | omega)))); (· (repeat' (first | exact trivial | refine And.intro ?_ ?_ | exact ⟨_, rfl⟩ | (simp (disch := omega) only [push_cast, seval]; done) | exact rfl))); (· exact rfl); rotate_right 1; rotate_left 1; (all_goals (try (first | omega | exact (show _ = _ by assumption))))) | (refine pcV (cf Tryz.func45) (ch) ?_)); (try simp (disch := omega) only [push_cast, seval])) | ((with_reducible refine And.intro ?_ ?_); omega))
          all_goals
            (refine Mk.of (tail (()) _ _ ?_ (by (refine ⟨[?_, ?_, ?_, ?_, ?_, ?_, ?_, ?_, ?_, ?_, ?_, ?_], ?_, ?_, ?_, ?_⟩; rotate_left 12; (· ((try simp (disch := omega) only [push_cast, seval]); (repeat' (first | exact trivial | exact rfl | refine And.intro ?_ ?_ | omega)))); (· ((try simp (disch := omega) only [push_cast, seval]); (repeat' (first | exact trivial | exact rfl | refine And.intro ?_ ?_ | omega)))); (· exact rfl); (· (first | exact trivial | exact ⟨rfl, trivial⟩ | exact ⟨rfl, rfl, trivial⟩))))))
            trivial
        case t =>
          intro z ρ2 hI; (try dsimp only at hI); refine PWp.at (tm' := ?_) (H' := ?_) ?_ ?_ ?_; rotate_left 2; (· ((try simp only [push_cast, seval]); exact rfl)); (· ((try dsimp only); exact rfl))
          repeat' (first | with_reducible (first | refine wA ?_ | refine wB ?_ | refine wC ?_) | with_reducible refine PWp.draw (id := 10) okP true [0, 1, 2, 3, 4] (by kernel_rfl) ?_ | with_reducible refine PWp.drawT (id := 5) okP true (.step 0 (.step 2 (.step 4 (.fork (.alt 1 (.fork (.alt 3 (.fork (.alt 5 (.step 6 (.step 7 (.step 8 (.step 9 (.step 10 (.step 11 .done)))))) (.alt 9 (.step 5 (.step 6 (.step 7 (.step 8 (.step 10 (.step 11 .done)))))) .stop))) (.alt 9 (.step 3 (.step 5 (.step 6 (.step 7 (.step 8 (.step 10 (.step 11 .done))))))) .stop))) (.alt 9 (.step 1 (.step 3 (.step 5 (.step 6 (.step 7 (.step 8 (.step 10 (.step 11 .done)))))))) .stop)))))) (by kernel_rfl) ?_ | with_reducible refine PWp.drawT (id := 7) okP true (.step 0 (.step 2 (.step 3 (.fork (.alt 1 (.fork (.alt 4 (.step 5 (.step 6 (.step 7 (.step 8 (.step 9 (.step 10 .done)))))) (.alt 8 (.step 4 (.step 5 (.step 6 (.step 7 (.step 9 (.step 10 .done)))))) .stop))) (.alt 8 (.step 1 (.step 4 (.step 5 (.step 6 (.step 7 (.step 9 (.step 10 .done))))))) .stop)))))) (by kernel_rfl) ?_ | with_reducible refine PWp.drawT (id := 24) okP true (.step 0 (.step 2 (.step 4 (.fork (.alt 1 (.fork (.alt 3 (.fork (.alt 5 (.step 6 (.step 7 (.step 8 (.step 9 (.step 10 (.step 11 .done)))))) (.alt 9 (.step 5 (.step 6 (.step 7 (.step 8 (.step 10 (.step 11 .done)))))) .stop))) (.alt 9 (.step 3 (.step 5 (.step 6 (.step 7 (.step 8 (.step 10 (.step 11 .done))))))) .stop))) (.alt 9 (.step 1 (.step 3 (.step 5 (.step 6 (.step 7 (.step 8 (.step 10 (.step 11 .done)))))))) .stop)))))) (by kernel_rfl) ?_ | with_reducible (first | refine w1 ?_ | refine w2 ?_ | refine w3 ?_ | refine w4 ?_ | refine w5 ?_ | refine w6 ?_ | refine w7 ?_ | refine w8 ?_ | refine wT ?_ | refine w9 ?_ | refine wE ?_ | refine wS ?_) | ((with_reducible refine hK _ ?_); clear hK K) | ((with_reducible refine PWp.condI ?_); refine ⟨_, rfl, fun hg => ?_, fun hg => ?_⟩ <;> first | (exact absurd hg (by decide)) | ((try simp only [Bool.not_true, Bool.not_false] at hg); (try simp only [hg]); (try simp only [push_cast] at hg); (try exact absurd trivial hg); (try (exfalso; omega)))) | ((first | ((with_reducible refine pops_guard0 ?_); refine ⟨_, rfl, fun K hK => ⟨rfl, ?_⟩⟩) | ((with_reducible refine pD_g0 ?_); refine ⟨_, rfl, rfl, ?_⟩)); (try simp (disch := omega) only [push_cast, seval, xb_ne, beq_self_eq_true])) | with_reducible (first | refine ptree_done ?_ | exact ptree_stop | refine ptree_fork ?_) | ((with_reducible refine ptree_I ?_); refine ⟨_, rfl, fun K hK => ?_⟩) | ((with_reducible refine ptree_A ?_ ?_); (refine ⟨_, rfl, fun K hK => ?_⟩)) | ((with_reducible refine pany_I ?_); refine ⟨_, rfl, fun K hK => ?_⟩) | ((with_reducible refine pops_plain fun K hK => ?_); simp (disch := omega) only [push_cast, seval, xb_ne, beq_self_eq_true]) | ((first | ((with_reducible refine pD_y ?_ ?_); exact rfl) | ((with_reducible refine pD_x ?_ ?_); exact rfl)); simp (disch := omega) only [push_cast, seval, xb_ne, beq_self_eq_true]) | ((first | ((with_reducible refine pops_guard ?_); refine ⟨_, rfl, fun K hK => ⟨_, rfl, fun hg => ?_, fun hg => ?_⟩⟩) | ((first | ((with_reducible refine pD_gy ?_ ?_); exact rfl) | ((with_reducible refine pD_gx ?_ ?_); exact rfl)); refine ⟨_, rfl, _, rfl, fun hg => ?_, fun hg => ?_⟩)) <;> first | (exact absurd hg (by decide)) | ((try simp only [Bool.not_true, Bool.not_false] at hg); (try simp only [hg]); (try simp only [push_cast] at hg); (try exact absurd trivial hg); (try (exfalso; omega)); (try simp (disch := omega) only [push_cast, seval, xb_ne, beq_self_eq_true]))) | ((with_reducible show pcall _ _ _ _ _ _); (first | (refine pcall_X1 (cf Tryz.func36) (by ((try simp (disch := omega) only [push_cast, seval]); first | done | exact rfl)) (hsz) ?_; rintro y ⟨hy1, hy2⟩) | (refine pcH (cf Tryz.func37) (cs) ?_) | (refine pcF (cf Tryz.func38) (ct) ?_) | (refine pcH (cf Tryz.func39) (cb) ?_) | (refine pcH (cf Tryz.func40) (ci) ?_) | (refine pcV (cf Tryz.func41) (ce) ?_) | (refine pcV (cf Tryz.func42) (cq) ?_) | (refine pcall_RGf (cf Tryz.func43) [?_, ?_, ?_] ?_ ?_ ?_ (cm) ?_; rotate_left 3; (· ((try simp (disch := omega) only [push_cast, seval]); (repeat' (first | exact trivial | exact rfl | refine And.intro ?_ ?_ | omega)))); (· (repeat' (first | exact trivial | refine And.intro ?_ ?_ | exact ⟨_, rfl⟩ | (simp (disch := omega) only [push_cast, seval]; done) | exact rfl))); (· exact rfl); rotate_right 1; rotate_left 1; (all_goals (try (first | omega | exact (show _ = _ by assumption))))) | (refine pcall_RGf (cf Tryz.func44) [?_, ?_, ?_] ?_ ?_ ?_ (cl) ?_; rotate_left 3; (· ((try simp (disch := omega) only [push_cast, seval]); (repeat' (first | exact trivial | exact rfl | refine And.intro ?_ ?_ | omega)))); (· (repeat' (first | exact trivial | refine And.intro ?_ ?_ | exact ⟨_, rfl⟩ | (simp (disch := omega) only [push_cast, seval]; done) | exact rfl))); (· exact rfl); rotate_right 1; rotate_left 1; (all_goals (try (first | omega | exact (show _ = _ by assumption))))) | (refine pcV (cf Tryz.func45) (ch) ?_)); (try simp (disch := omega) only [push_cast, seval, xb_ne, beq_self_eq_true])) | ((with_reducible refine And.intro ?_ ?_); omega))
          all_goals ((with_reducible show PPostR _ _ _ _ _ _); refine finV ?_; (try simp only [push_cast, seval]))
end Go.Proofs.YtiboajlnjldalaaGreatDoor
namespace Go.Proofs.YtiboajlnjldalaaGreatDoor
set_option linter.unusedSimpArgs false
set_option linter.unusedVariables false
open Go.RowKit
def encCSig (x : GCSig) : List D := [.int x.fVal, .str x.fSig]
theorem dec_CSig : Dec [.int .i64, .str] encCSig := by
  intro n W vs h
  match vs, h with
  | [_, _], ⟨k0, k1, _⟩ =>
    obtain ⟨a0, rfl, h0⟩ := cell_int k0
    obtain ⟨a1, rfl, h1⟩ := cell_str k1
    exact ⟨⟨a0, a1⟩, (Rds.int _ (Rds.str _ Rds.nil)), (okL_int h0 (okL_str h1 okL_nil))⟩
theorem pv_CSig (x : GCSig) : toPVL (encCSig x) = pCSig x := by
  simp only [encCSig, pCSig, toPVL, toPV]
theorem pvs_CSig (e : TypeId) (xs : List GCSig) : toPV (slD e 2 encCSig xs) = .sl 2 (xs.map pCSig) := by rw [toPV_slD (enc := encCSig) (sz := 2) (fun _ => rfl)]; simp only [pv_CSig]
end Go.Proofs.YtiboajlnjldalaaGreatDoor
namespace Go.Proofs.YtiboajlnjldalaaGreatDoor
set_option linter.unusedSimpArgs false
set_option linter.unusedVariables false
open Go.RowKit
end Go.Proofs.YtiboajlnjldalaaGreatDoor
namespace Go.Proofs.YtiboajlnjldalaaGreatDoor
set_option linter.unusedSimpArgs false
set_option linter.unusedVariables false
open Go.RowKit
def encBlock (x : GBlock) : List D := [.int x.fHead.fHeight, .int x.fHead.fTime, .str x.fHead.fLast, .str x.fHead.fVals, .str x.fHead.fNext, .str x.fHead.fData, slD 141 2 encVal x.fVals, slD 141 2 encVal x.fNext, .int x.fCommit.fHeight, .int x.fCommit.fRound, .str x.fCommit.fId, slD 227 2 encCSig x.fCommit.fSigs]
theorem dec_Block : Dec [.int .i64, .int .i64, .str, .str, .str, .str, .sl [.int .i64, .int .i64], .sl [.int .i64, .int .i64], .int .i64, .int .i64, .str, .sl [.int .i64, .str]] encBlock := by
  intro n W vs h
  match vs, h with
  | [_, _, _, _, _, _, _, _, _, _, _, _], ⟨k0, k1, k2, k3, k4, k5, k6, k7, k8, k9, k10, k11, _⟩ =>
    obtain ⟨a0, rfl, h0⟩ := cell_int k0
    obtain ⟨a1, rfl, h1⟩ := cell_int k1
    obtain ⟨a2, rfl, h2⟩ := cell_str k2
    obtain ⟨a3, rfl, h3⟩ := cell_str k3
    obtain ⟨a4, rfl, h4⟩ := cell_str k4
    obtain ⟨a5, rfl, h5⟩ := cell_str k5
    obtain ⟨a6, r6, h6⟩ := dec_sl 141 dec_Val (fun _ => rfl) (by decide) k6
    obtain ⟨a7, r7, h7⟩ := dec_sl 141 dec_Val (fun _ => rfl) (by decide) k7
    obtain ⟨a8, rfl, h8⟩ := cell_int k8
    obtain ⟨a9, rfl, h9⟩ := cell_int k9
    obtain ⟨a10, rfl, h10⟩ := cell_str k10
    obtain ⟨a11, r11, h11⟩ := dec_sl 227 dec_CSig (fun _ => rfl) (by decide) k11
    exact ⟨⟨⟨a0, a1, a2, a3, a4, a5⟩, a6, a7, ⟨a8, a9, a10, a11⟩⟩, (Rds.int _ (Rds.int _ (Rds.str _ (Rds.str _ (Rds.str _ (Rds.str _ (rds_slD.2 ⟨_, _, rfl, r6, (rds_slD.2 ⟨_, _, rfl, r7, (Rds.int _ (Rds.int _ (Rds.str _ (rds_slD.2 ⟨_, _, rfl, r11, Rds.nil⟩))))⟩)⟩))))))), (okL_int h0 (okL_int h1 (okL_str h2 (okL_str h3 (okL_str h4 (okL_str h5 (okL_cons h6 (okL_cons h7 (okL_int h8 (okL_int h9 (okL_str h10 (okL_cons h11 okL_nil))))))))))))⟩
theorem pv_Block (x : GBlock) : toPVL (encBlock x) = pBlock x := by
  simp only [encBlock, pBlock, toPVL, toPV, pvs_CSig, pvs_Val]
end Go.Proofs.YtiboajlnjldalaaGreatDoor
namespace Go.Proofs.YtiboajlnjldalaaGreatDoor
set_option linter.unusedSimpArgs false
set_option linter.unusedVariables false
open Go.RowKit
theorem okL_mem {α : Type} {enc : α → List D} : ∀ {xs : List α}, okL (xs.flatMap enc) → ∀ x ∈ xs, okL (enc x)
  | [], _, _, h => by cases h
  | y :: ys, h, x, hx => by
    rw [List.flatMap_cons, okL_append] at h
    rcases List.mem_cons.1 hx with rfl | hx
    · exact h.1
    · exact okL_mem h.2 x hx
theorem okCSig_of {x : GCSig} (h : okL (encCSig x)) : OkCSig x := by
  simp only [encCSig, okL] at h
  obtain ⟨-, h1, -⟩ := h
  exact ⟨h1⟩
theorem okBlock_of {b : GBlock} (h : okL (encBlock b)) : OkBlock b := by
  simp only [encBlock, slD, okL] at h
  obtain ⟨-, -, h1, h2, h3, h4, ⟨h5, -, h6, -, -, -, h7, h8, h9, -⟩⟩ := h
  exact ⟨⟨h1, h2, h3, h4⟩, h5, h6, h8, fun x hx => okCSig_of (okL_mem h9 x hx), h7⟩
end Go.Proofs.YtiboajlnjldalaaGreatDoor
namespace Go.Proofs.YtiboajlnjldalaaGreatDoor
set_option linter.unusedSimpArgs false
set_option linter.unusedVariables false
open Go.RowKit Go.ChangeShapes Go.WideShapes
set_option maxRecDepth 100000 in
set_option maxHeartbeats 4000000 in
theorem fnExactLightNew_any (x0 : GTrust) (x1 : GBlock) (x2 : Int) (o1 o2 o3 : Option Addr) (c1 c2 c3 : Nat) (w : World) (h0 : Rds w (encTrust x0) [.int .i64 x0.fPeriod, .int .i64 x0.fSlack]) (k0 : okL (encTrust x0)) (h1 : Rds w (encBlock x1) [.int .i64 x1.fHead.fHeight, .int .i64 x1.fHead.fTime, .string x1.fHead.fLast, .string x1.fHead.fVals, .string x1.fHead.fNext, .string x1.fHead.fData, .slice o1 x1.fVals.length c1, .slice o2 x1.fNext.length c2, .int .i64 x1.fCommit.fHeight, .int .i64 x1.fCommit.fRound, .string x1.fCommit.fId, .slice o3 x1.fCommit.fSigs.length c3]) (k1 : okL (encBlock x1)) (k2 : -9223372036854775808 ≤ x2 ∧ x2 ≤ 9223372036854775807) (hG : GlobW w) :
    Calls Tryz.prog 6 #[.agg #[.int .i64 x0.fPeriod, .int .i64 x0.fSlack], .agg #[.int .i64 x1.fHead.fHeight, .int .i64 x1.fHead.fTime, .string x1.fHead.fLast, .string x1.fHead.fVals, .string x1.fHead.fNext, .string x1.fHead.fData, .slice o1 x1.fVals.length c1, .slice o2 x1.fNext.length c2, .int .i64 x1.fCommit.fHeight, .int .i64 x1.fCommit.fRound, .string x1.fCommit.fId, .slice o3 x1.fCommit.fSigs.length c3], .int .i64 x2] w fun e w' => e = .returned (.bool true) ∧ Ext w w' := by
  have hp := fnExactLightNew_p x0 x1 x2 (okBlock_of k1) k2
  refine (hp.use (w := w) hG.mem (vs := #[.agg #[.int .i64 x0.fPeriod, .int .i64 x0.fSlack], .agg #[.int .i64 x1.fHead.fHeight, .int .i64 x1.fHead.fTime, .string x1.fHead.fLast, .string x1.fHead.fVals, .string x1.fHead.fNext, .string x1.fHead.fData, .slice o1 x1.fVals.length c1, .slice o2 x1.fNext.length c2, .int .i64 x1.fCommit.fHeight, .int .i64 x1.fCommit.fRound, .string x1.fCommit.fId, .slice o3 x1.fCommit.fSigs.length c3], .int .i64 x2]) ⟨rfl, fun i pv v a b => ?_⟩).mono fun e w' ⟨v, M', h', pv, H', e1, e2, e3, e4, e5, e6⟩ => ?_
  · match i with
    | 0 => simp at a b; subst a; subst b; rw [← pv_Trust]; exact Rds.agg h0 _
    | 1 => simp at a b; subst a; subst b; rw [← pv_Block]; exact Rds.agg h1 _
    | 2 => simp at a b; subst a; subst b; exact .val _
    | i + 3 => simp at a
  · cases e2; have q := vr_val e3; subst q; exact ⟨e1, e5⟩
set_option maxRecDepth 100000 in
theorem fnExactLightNew_args {H : Type} {enc : TypeId × Value → H} (W : World) (base : Nat) (args : Array Value) (ds : List (DataW H)) (p : List MemPlace) (hG : GlobW W)
    (hval : ∀ (j : Nat) t v, #[60, 67, 3][j]? = some t → args[j]? = some v → Value.okWide Tryz.prog W .any base t v)
    (hA : DataW.TrodAll enc Tryz.prog W 0 (fun _ => true) true #[60, 67, 3].toList args.toList ds p) :
    Calls Tryz.prog 6 args W fun e W' => e = .returned (.bool true) ∧ Ext W W' := by
  obtain ⟨v0, v1, v2, d0, d1, d2, p0, p1, p2, rfl, rfl, rfl, h0, h1, h2⟩ := trodAll_three hA
  obtain ⟨cs0, rfl, e0⟩ := read_struct Tryz.underlying60 (n := 8) (ss := [.int .i64, .int .i64]) (by kernel_rfl) (hval 0 _ _ rfl rfl) h0
  obtain ⟨x0, r0, k0⟩ := dec_Trust _ _ _ e0
  have q0 := r0
  obtain ⟨l0_0, e0_0, q0⟩ := rds_int.1 q0
  obtain ⟨l0_1, e0_1, q0⟩ := rds_int.1 q0
  have z0 := rds_nil.1 q0
  subst z0
  subst e0_1
  obtain rfl : cs0 = #[.int .i64 x0.fPeriod, .int .i64 x0.fSlack] := by rw [← Array.toArray_toList (xs := cs0), e0_0]
  obtain ⟨cs1, rfl, e1⟩ := read_struct Tryz.underlying67 (n := 8) (ss := [.int .i64, .int .i64, .str, .str, .str, .str, .sl [.int .i64, .int .i64], .sl [.int .i64, .int .i64], .int .i64, .int .i64, .str, .sl [.int .i64, .str]]) (by kernel_rfl) (hval 1 _ _ rfl rfl) h1
  obtain ⟨x1, r1, k1⟩ := dec_Block _ _ _ e1
  have q1 := r1
  obtain ⟨l1_0, e1_0, q1⟩ := rds_int.1 q1
  obtain ⟨l1_1, e1_1, q1⟩ := rds_int.1 q1
  obtain ⟨l1_2, e1_2, q1⟩ := rds_str.1 q1
  obtain ⟨l1_3, e1_3, q1⟩ := rds_str.1 q1
  obtain ⟨l1_4, e1_4, q1⟩ := rds_str.1 q1
  obtain ⟨l1_5, e1_5, q1⟩ := rds_str.1 q1
  obtain ⟨_, l1_6, e1_6, b1_6, q1⟩ := rds_slD.1 q1
  obtain ⟨o1, c1, rfl⟩ := RS.val b1_6
  obtain ⟨_, l1_7, e1_7, b1_7, q1⟩ := rds_slD.1 q1
  obtain ⟨o2, c2, rfl⟩ := RS.val b1_7
  obtain ⟨l1_8, e1_8, q1⟩ := rds_int.1 q1
  obtain ⟨l1_9, e1_9, q1⟩ := rds_int.1 q1
  obtain ⟨l1_10, e1_10, q1⟩ := rds_str.1 q1
  obtain ⟨_, l1_11, e1_11, b1_11, q1⟩ := rds_slD.1 q1
  obtain ⟨o3, c3, rfl⟩ := RS.val b1_11
  have z1 := rds_nil.1 q1
  subst z1
  subst e1_11
  subst e1_10
  subst e1_9
  subst e1_8
  subst e1_7
  subst e1_6
  subst e1_5
  subst e1_4
  subst e1_3
  subst e1_2
  subst e1_1
  obtain rfl : cs1 = #[.int .i64 x1.fHead.fHeight, .int .i64 x1.fHead.fTime, .string x1.fHead.fLast, .string x1.fHead.fVals, .string x1.fHead.fNext, .string x1.fHead.fData, .slice o1 x1.fVals.length c1, .slice o2 x1.fNext.length c2, .int .i64 x1.fCommit.fHeight, .int .i64 x1.fCommit.fRound, .string x1.fCommit.fId, .slice o3 x1.fCommit.fSigs.length c3] := by rw [← Array.toArray_toList (xs := cs1), e1_0]
  obtain ⟨x2, rfl, u2⟩ := read_int Tryz.underlying3 (hval 2 _ _ rfl rfl) h2
  exact fnExactLightNew_any x0 x1 x2 o1 o2 o3 c1 c2 c3 W r0 k0 r1 k1 (wf_bd u2) hG
end Go.Proofs.YtiboajlnjldalaaGreatDoor
