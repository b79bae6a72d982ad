/- Walks on the pure machine: impl.Sha. -/
import Derived.Test.YtgcelmnmalfpcaaDoorP3
import Derived.Test.YtgcelmnmalfpcaaDoorShaB
import Derived.Test.YtgcelmnmalfpcaaDoorPvE
namespace Go.Proofs.YtgcelmnmalfpcaaDoor
set_option linter.unusedSimpArgs false
set_option linter.unusedVariables false
open Go.RowKit
set_option maxRecDepth 100000

theorem glob_tab {w : World} (h : GlobW w) : ShaTab w := fun i hi => h i _ (by
  have : ∀ i : Fin 64, globL[i.val]? = some (u (shaK.getD i.val 0)) := by decide +kernel
  exact this ⟨i, hi⟩)
/-- The cells of a state on the pure machine. -/
def pHS (v : HSt) : List PV := [.val (.int .u32 (u v.a)), .val (.int .u32 (u v.b)), .val (.int .u32 (u v.c)), .val (.int .u32 (u v.d)), .val (.int .u32 (u v.e)), .val (.int .u32 (u v.f)), .val (.int .u32 (u v.g)), .val (.int .u32 (u v.h))]
theorem pHS_len (v : HSt) : (pHS v).length = 8 := rfl
theorem iShaBlock_p (v : HSt) (s : ByteArray) (hs : s.size = 64) : PCalls Tryd.prog 103 [.agg (pHS v), .val (.string s)] [] (RV (.agg (pHS (blk v s 0)))) :=
  pcalls_flat (us := [.agg (cellsS v), .string s]) (u := .agg (cellsS (blk v s 0))) rfl (fun M h => vr_agg (us := (cellsS (blk v s 0)).toList)) fun w hg => shaBlock_any v s w hs (glob_tab hg)
theorem u_nat (x : W32) : u x = ((x.toNat : Nat) : Int) := rfl
theorem listS_get (v : HSt) : ∀ k, k < 8 → (pHS v)[k]? = some (.val (.int .u32 (u ((listS v).getD k 0)))) ∧ (listS v).drop k = (listS v).getD k 0 :: (listS v).drop (k + 1)
  | 0, _ => ⟨rfl, rfl⟩
  | 1, _ => ⟨rfl, rfl⟩
  | 2, _ => ⟨rfl, rfl⟩
  | 3, _ => ⟨rfl, rfl⟩
  | 4, _ => ⟨rfl, rfl⟩
  | 5, _ => ⟨rfl, rfl⟩
  | 6, _ => ⟨rfl, rfl⟩
  | 7, _ => ⟨rfl, rfl⟩
  | k + 8, h => by omega
theorem take_pHS (v : HSt) : (pHS v).take 8 = pHS v := rfl
theorem drop_pHS (v : HSt) : (pHS v).drop 8 = [] := rfl
theorem one_pHS (v : HSt) : (pHS v).all oneP = true := rfl
theorem clo_pHS (v : HSt) : (pHS v).all cloC = true := rfl
theorem ren_pHS {φ : List Nat} {n : Nat} (v : HSt) : renL φ n (pHS v) = pHS v := renL_flat (clo_pHS v)
set_option maxHeartbeats 8000000 in
theorem iSha_p (s : ByteArray) (hs : s.size ≤ 1099511627776) : PCalls Tryd.prog 88 [.val (.string s)] [] (RV (.val (.string (sha s)))) := by
  have e1 : ((64 : Int) - ((s.size : Int) + 9) % 64) % 64 = ((padN s.size : Nat) : Int) := by unfold padN; omega
  have e2 : (8 * (s.size : Int)) = ((8 * s.size : Nat) : Int) := by omega
  have e3 : ((padN s.size : Nat) : Int) + 1 = ((padN s.size + 1 : Nat) : Int) := by omega
  have hp : padN s.size < 64 := by unfold padN; omega
  have z1 : (⟨#[128]⟩ : ByteArray).size = 1 := rfl
  have z2 := ByteArray.size_append (a := s) (b := ⟨#[128]⟩)
  have z3 := ByteArray.size_append (a := s ++ ⟨#[128]⟩) (b := zerosB (padN s.size + 1))
  have z4 := zerosB_size (padN s.size + 1)
  have z5 := fx_size (8 * s.size) 7
  have z6 : (⟨(List.replicate (padN s.size + 1) 0).toArray⟩ : ByteArray) = zerosB (padN s.size + 1) := rfl
  have hpad : s ++ ⟨#[128]⟩ ++ zerosB (padN s.size + 1) ++ fx (8 * s.size) 7 = padT s := rfl
  have z7 := padT_size s
  have z8 := padT_mod s
  obtain ⟨N, hN⟩ : ∃ N, (padT s).size = 64 * N := ⟨(padT s).size / 64, by omega⟩
  have hN' : (padT s).size / 64 = N := by omega
  refine pcalls_ofR okP Tryd.func88 rfl ?_
  simp only [Tryd.f88, List.length_cons, List.length_nil, Nat.reduceAdd, Nat.reduceSub, List.replicate_succ, List.replicate_zero, List.cons_append, List.nil_append, List.length_map]
  repeat' (first
      | with_reducible refine PWp.seq ?_
      | with_reducible refine PWp.block ?_
      | with_reducible refine PWp.region okP true ?_
      | with_reducible refine PWp.draw (id := 8) okP true [0, 1, 2, 3, 4, 5, 6, 7] (by kernel_rfl) ?_
      | with_reducible refine PWp.drawT (id := 3) okP true (.step 0 (.step 1 (.step 2 (.step 3 (.step 7 (.fork (.alt 4 (.step 5 (.step 6 (.step 8 (.step 9 (.step 10 .done))))) (.alt 8 (.step 4 (.step 5 (.step 6 (.step 9 (.step 10 .done))))) .stop)))))))) (by kernel_rfl) ?_
      | with_reducible (first | refine pops_nil ?_ | refine pany_nil ?_ | refine pthen_normal ?_ | refine pblock_normal ?_ | refine pthen_ret ?_ | refine pblock_ret ?_ | refine pthen_exit ?_ | refine pblock_here ?_ | refine pblock_there rfl ?_ | refine PWp.ret ?_ | refine PWp.exit ?_ | refine PWp.skip ?_)
      | ((with_reducible refine hK _ ?_); clear hK K)
      | ((with_reducible refine PWp.condI ?_); refine ⟨_, rfl, fun hg => ?_, fun hg => ?_⟩ <;> first | (exact absurd hg (by decide)) | ((try simp only [Bool.not_true, Bool.not_false] at hg); (try simp only [hg]); (try simp only [push_cast] at hg); (try exact absurd trivial hg); (try (exfalso; omega))))
      | ((first | ((with_reducible refine pops_guard0 ?_); refine ⟨_, rfl, fun K hK => ⟨rfl, ?_⟩⟩) | ((with_reducible refine pD_g0 ?_); refine ⟨_, rfl, rfl, ?_⟩)); (try simp (disch := omega) only [push_cast, seval, e1, z6, hpad]))
      | with_reducible (first | refine ptree_done ?_ | exact ptree_stop | refine ptree_fork ?_)
      | ((with_reducible refine ptree_I ?_); refine ⟨_, rfl, fun K hK => ?_⟩)
      | ((with_reducible refine ptree_A ?_ ?_); (refine ⟨_, rfl, fun K hK => ?_⟩))
      | ((with_reducible refine pany_I ?_); refine ⟨_, rfl, fun K hK => ?_⟩)
      | ((with_reducible refine pops_plain fun K hK => popO_build ?_); refine ⟨_, rfl, _, rfl, ?_⟩; simp (disch := omega) only [push_cast, seval, e1, z6, hpad])
      | ((with_reducible refine pD_y ?_ (py_build ?_)); exact rfl; refine ⟨_, rfl, _, rfl, ?_⟩; simp (disch := omega) only [push_cast, seval, e1, z6, hpad])
      | ((with_reducible refine pbuild_cs ?_); refine ⟨_, rfl, _, rfl, ?_⟩; simp (disch := omega) only [push_cast, seval, e1, z6, hpad])
      | ((with_reducible refine pops_plain fun K hK => ?_); simp (disch := omega) only [push_cast, seval, e1, z6, hpad])
      | ((first | ((with_reducible refine pD_y ?_ ?_); exact rfl) | ((with_reducible refine pD_x ?_ ?_); exact rfl)); simp (disch := omega) only [push_cast, seval, e1, z6, hpad])
      | ((first | ((with_reducible refine pops_guard ?_); refine ⟨_, rfl, fun K hK => ⟨_, rfl, fun hg => ?_, fun hg => ?_⟩⟩) | ((first | ((with_reducible refine pD_gy ?_ ?_); exact rfl) | ((with_reducible refine pD_gx ?_ ?_); exact rfl)); refine ⟨_, rfl, _, rfl, fun hg => ?_, fun hg => ?_⟩)) <;> first | (exact absurd hg (by decide)) | ((try simp only [Bool.not_true, Bool.not_false] at hg); (try simp only [hg]); (try simp only [push_cast] at hg); (try exact absurd trivial hg); (try (exfalso; omega)); (try simp (disch := omega) only [push_cast, seval, e1, z6, hpad])))
      | ((with_reducible show pcall _ _ _ _ _ _); refine pcall_RV (g := 102) (callable_of Tryd.func102 rfl rfl) (iFixed_p _ _ (by (first | assumption | omega | (simp; omega) | (simp_all; done) | (simp_all; omega))) (by (first | assumption | omega | (simp; omega) | (simp_all; done) | (simp_all; omega))) (by (first | assumption | omega | (simp; omega) | (simp_all; done) | (simp_all; omega)))) rfl (by (repeat' (first | exact trivial | exact rfl | exact vwOk_clo rfl | exact rowsC fun _ => rfl | exact rowsC2 fun _ => rfl | exact rowsC1 (fun _ => rfl) rfl | refine And.intro ?_ ?_ | refine vwOk_ag ?_ | refine vwOk_cl ?_))) ?_; (try simp (disch := omega) only [push_cast, seval, e1, z6, hpad]))
      | ((with_reducible show pcall _ _ _ _ _ _); refine pcall_RV (g := 103) (callable_of Tryd.func103 rfl rfl) (iShaBlock_p _ _ (by (first | assumption | omega | (simp; omega) | (simp_all; done) | (simp_all; omega)))) rfl (by (repeat' (first | exact trivial | exact rfl | exact vwOk_clo rfl | exact rowsC fun _ => rfl | exact rowsC2 fun _ => rfl | exact rowsC1 (fun _ => rfl) rfl | refine And.intro ?_ ?_ | refine vwOk_ag ?_ | refine vwOk_cl ?_))) ?_; (try simp (disch := omega) only [push_cast, seval, e1, z6, hpad]))
      | ((with_reducible refine And.intro ?_ ?_); omega))
  all_goals
    refine PWp.loopK (α := Nat × HSt) (fun x => match x with | (k, st) => [(6, .ptr 0 0), (7, .val (.int .i64 (64 * (k : Int))))]) [0, 1, 3, 4, 9, 11, 12, 13, 14, 15, 16, 17, 18, 19, 20, 21, 22, 23, 24, 25, 26, 27, 28, 29, 30, 31, 32, 33, 34, 35, 36, 37, 38, 39, 40, 41, 42, 43] (fun x => match x with | (k, st) => [some (.box (pHS st))]) (fun x => match x with | (k, st) => k ≤ N ∧ shaGo (padT s) (N - k) st (64 * k) = shaGo (padT s) N sha0 0) (fun x => match x with | (k, st) => N - k) ((0, sha0)) (⟨Nat.zero_le _, rfl⟩) (by (refine ⟨[?_], ?_, ?_, ?_, ?_⟩; rotate_left 1; (· ((try simp (disch := omega) only [push_cast, seval, ren_pHS]); (repeat' (first | exact trivial | exact rfl | refine And.intro ?_ ?_ | omega)))); (· ((try simp (disch := omega) only [push_cast, seval, ren_pHS]); (repeat' (first | exact trivial | exact rfl | refine And.intro ?_ ?_ | omega)))); (· exact rfl); (· (first | exact trivial | exact ⟨rfl, trivial⟩ | exact ⟨rfl, rfl, trivial⟩)))) ?_
    intro x ρ hI; obtain ⟨k, st⟩ := x
    (try dsimp only at hI)
    refine PWp.at (tm' := ?_) (H' := ?_) ?_ ?_ ?_; rotate_left 2; (· ((try simp only [push_cast, seval]); exact rfl)); (· ((try dsimp only); exact rfl))
    obtain ⟨hk, hgo⟩ := hI
    by_cases hlt : k < N
    · obtain ⟨m, hm⟩ : ∃ m, N - k = m + 1 := ⟨N - k - 1, by omega⟩
      have e6 : (64 * (k : Int)).toNat = 64 * k := by omega
      have e7 : (64 * (k : Int) + 64).toNat = 64 * k + 64 := by omega
      have z9 : ((padT s).extract (64 * k) (64 * k + 64)).size = 64 := by rw [ByteArray.size_extract]; omega
      rw [hm, shaGo] at hgo
      repeat' (first
          | with_reducible refine PWp.seq ?_
          | with_reducible refine PWp.block ?_
          | with_reducible refine PWp.region okP true ?_
          | with_reducible refine PWp.draw (id := 8) okP true [0, 1, 2, 3, 4, 5, 6, 7] (by kernel_rfl) ?_
          | with_reducible refine PWp.drawT (id := 3) okP true (.step 0 (.step 1 (.step 2 (.step 3 (.step 7 (.fork (.alt 4 (.step 5 (.step 6 (.step 8 (.step 9 (.step 10 .done))))) (.alt 8 (.step 4 (.step 5 (.step 6 (.step 9 (.step 10 .done))))) .stop)))))))) (by kernel_rfl) ?_
          | with_reducible (first | refine pops_nil ?_ | refine pany_nil ?_ | refine pthen_normal ?_ | refine pblock_normal ?_ | refine pthen_ret ?_ | refine pblock_ret ?_ | refine pthen_exit ?_ | refine pblock_here ?_ | refine pblock_there rfl ?_ | refine PWp.ret ?_ | refine PWp.exit ?_ | refine PWp.skip ?_)
          | ((with_reducible refine hK _ ?_); clear hK K)
          | ((with_reducible refine PWp.condI ?_); refine ⟨_, rfl, fun hg => ?_, fun hg => ?_⟩ <;> first | (exact absurd hg (by decide)) | ((try simp only [Bool.not_true, Bool.not_false] at hg); (try simp only [hg]); (try simp only [push_cast] at hg); (try exact absurd trivial hg); (try (exfalso; omega))))
          | ((first | ((with_reducible refine pops_guard0 ?_); refine ⟨_, rfl, fun K hK => ⟨rfl, ?_⟩⟩) | ((with_reducible refine pD_g0 ?_); refine ⟨_, rfl, rfl, ?_⟩)); (try simp (disch := omega) only [push_cast, seval, pHS_len, take_pHS, drop_pHS, one_pHS, hN, e6, e7]))
          | with_reducible (first | refine ptree_done ?_ | exact ptree_stop | refine ptree_fork ?_)
          | ((with_reducible refine ptree_I ?_); refine ⟨_, rfl, fun K hK => ?_⟩)
          | ((with_reducible refine ptree_A ?_ ?_); (refine ⟨_, rfl, fun K hK => ?_⟩))
          | ((with_reducible refine pany_I ?_); refine ⟨_, rfl, fun K hK => ?_⟩)
          | ((with_reducible refine pops_plain fun K hK => popO_build ?_); refine ⟨_, rfl, _, rfl, ?_⟩; simp (disch := omega) only [push_cast, seval, pHS_len, take_pHS, drop_pHS, one_pHS, hN, e6, e7])
          | ((with_reducible refine pD_y ?_ (py_build ?_)); exact rfl; refine ⟨_, rfl, _, rfl, ?_⟩; simp (disch := omega) only [push_cast, seval, pHS_len, take_pHS, drop_pHS, one_pHS, hN, e6, e7])
          | ((with_reducible refine pbuild_cs ?_); refine ⟨_, rfl, _, rfl, ?_⟩; simp (disch := omega) only [push_cast, seval, pHS_len, take_pHS, drop_pHS, one_pHS, hN, e6, e7])
          | ((with_reducible refine pops_plain fun K hK => ?_); simp (disch := omega) only [push_cast, seval, pHS_len, take_pHS, drop_pHS, one_pHS, hN, e6, e7])
          | ((first | ((with_reducible refine pD_y ?_ ?_); exact rfl) | ((with_reducible refine pD_x ?_ ?_); exact rfl)); simp (disch := omega) only [push_cast, seval, pHS_len, take_pHS, drop_pHS, one_pHS, hN, e6, e7])
          | ((first | ((with_reducible refine pops_guard ?_); refine ⟨_, rfl, fun K hK => ⟨_, rfl, fun hg => ?_, fun hg => ?_⟩⟩) | ((first | ((with_reducible refine pD_gy ?_ ?_); exact rfl) | ((with_reducible refine pD_gx ?_ ?_); exact rfl)); refine ⟨_, rfl, _, rfl, fun hg => ?_, fun hg => ?_⟩)) <;> first | (exact absurd hg (by decide)) | ((try simp only [Bool.not_true, Bool.not_false] at hg); (try simp only [hg]); (try simp only [push_cast] at hg); (try exact absurd trivial hg); (try (exfalso; omega)); (try simp (disch := omega) only [push_cast, seval, pHS_len, take_pHS, drop_pHS, one_pHS, hN, e6, e7])))
          | ((with_reducible show pcall _ _ _ _ _ _); refine pcall_RV (g := 102) (callable_of Tryd.func102 rfl rfl) (iFixed_p _ _ (by (first | assumption | omega | (simp; omega) | (simp_all; done) | (simp_all; omega))) (by (first | assumption | omega | (simp; omega) | (simp_all; done) | (simp_all; omega))) (by (first | assumption | omega | (simp; omega) | (simp_all; done) | (simp_all; omega)))) rfl (by (repeat' (first | exact trivial | exact rfl | exact vwOk_clo rfl | exact rowsC fun _ => rfl | exact rowsC2 fun _ => rfl | exact rowsC1 (fun _ => rfl) rfl | refine And.intro ?_ ?_ | refine vwOk_ag ?_ | refine vwOk_cl ?_))) ?_; (try simp (disch := omega) only [push_cast, seval, pHS_len, take_pHS, drop_pHS, one_pHS, hN, e6, e7]))
          | ((with_reducible show pcall _ _ _ _ _ _); refine pcall_RV (g := 103) (callable_of Tryd.func103 rfl rfl) (iShaBlock_p _ _ (by (first | assumption | omega | (simp; omega) | (simp_all; done) | (simp_all; omega)))) rfl (by (repeat' (first | exact trivial | exact rfl | exact vwOk_clo rfl | exact rowsC fun _ => rfl | exact rowsC2 fun _ => rfl | exact rowsC1 (fun _ => rfl) rfl | refine And.intro ?_ ?_ | refine vwOk_ag ?_ | refine vwOk_cl ?_))) ?_; (try simp (disch := omega) only [push_cast, seval, pHS_len, take_pHS, drop_pHS, one_pHS, hN, e6, e7]))
          | ((with_reducible refine And.intro ?_ ?_); omega))
      (refine ⟨(k + 1, blk st ((padT s).extract (64 * k) (64 * k + 64)) 0), by ((try dsimp only); omega), ?_, by (refine ⟨[?_], ?_, ?_, ?_, ?_⟩; rotate_left 1; (· ((try simp (disch := omega) only [push_cast, seval, ren_pHS]); (repeat' (first | exact trivial | exact rfl | refine And.intro ?_ ?_ | omega)))); (· ((try simp (disch := omega) only [push_cast, seval, ren_pHS]); (repeat' (first | exact trivial | exact rfl | refine And.intro ?_ ?_ | omega)))); (· exact rfl); (· (first | exact trivial | exact ⟨rfl, trivial⟩ | exact ⟨rfl, rfl, trivial⟩)))⟩)
      exact ⟨by omega, by rw [show N - (k + 1) = m by omega, show 64 * (k + 1) = 64 * k + 64 by omega]; exact hgo⟩
    · obtain rfl : k = N := by omega
      rw [Nat.sub_self, shaGo] at hgo
      repeat' (first
          | with_reducible refine PWp.seq ?_
          | with_reducible refine PWp.block ?_
          | with_reducible refine PWp.region okP true ?_
          | with_reducible refine PWp.draw (id := 8) okP true [0, 1, 2, 3, 4, 5, 6, 7] (by kernel_rfl) ?_
          | with_reducible refine PWp.drawT (id := 3) okP true (.step 0 (.step 1 (.step 2 (.step 3 (.step 7 (.fork (.alt 4 (.step 5 (.step 6 (.step 8 (.step 9 (.step 10 .done))))) (.alt 8 (.step 4 (.step 5 (.step 6 (.step 9 (.step 10 .done))))) .stop)))))))) (by kernel_rfl) ?_
          | with_reducible (first | refine pops_nil ?_ | refine pany_nil ?_ | refine pthen_normal ?_ | refine pblock_normal ?_ | refine pthen_ret ?_ | refine pblock_ret ?_ | refine pthen_exit ?_ | refine pblock_here ?_ | refine pblock_there rfl ?_ | refine PWp.ret ?_ | refine PWp.exit ?_ | refine PWp.skip ?_)
          | ((with_reducible refine hK _ ?_); clear hK K)
          | ((with_reducible refine PWp.condI ?_); refine ⟨_, rfl, fun hg => ?_, fun hg => ?_⟩ <;> first | (exact absurd hg (by decide)) | ((try simp only [Bool.not_true, Bool.not_false] at hg); (try simp only [hg]); (try simp only [push_cast] at hg); (try exact absurd trivial hg); (try (exfalso; omega))))
          | ((first | ((with_reducible refine pops_guard0 ?_); refine ⟨_, rfl, fun K hK => ⟨rfl, ?_⟩⟩) | ((with_reducible refine pD_g0 ?_); refine ⟨_, rfl, rfl, ?_⟩)); (try simp (disch := omega) only [push_cast, seval, pHS_len, take_pHS, hN]))
          | with_reducible (first | refine ptree_done ?_ | exact ptree_stop | refine ptree_fork ?_)
          | ((with_reducible refine ptree_I ?_); refine ⟨_, rfl, fun K hK => ?_⟩)
          | ((with_reducible refine ptree_A ?_ ?_); (refine ⟨_, rfl, fun K hK => ?_⟩))
          | ((with_reducible refine pany_I ?_); refine ⟨_, rfl, fun K hK => ?_⟩)
          | ((with_reducible refine pops_plain fun K hK => popO_build ?_); refine ⟨_, rfl, _, rfl, ?_⟩; simp (disch := omega) only [push_cast, seval, pHS_len, take_pHS, hN])
          | ((with_reducible refine pD_y ?_ (py_build ?_)); exact rfl; refine ⟨_, rfl, _, rfl, ?_⟩; simp (disch := omega) only [push_cast, seval, pHS_len, take_pHS, hN])
          | ((with_reducible refine pbuild_cs ?_); refine ⟨_, rfl, _, rfl, ?_⟩; simp (disch := omega) only [push_cast, seval, pHS_len, take_pHS, hN])
          | ((with_reducible refine pops_plain fun K hK => ?_); simp (disch := omega) only [push_cast, seval, pHS_len, take_pHS, hN])
          | ((first | ((with_reducible refine pD_y ?_ ?_); exact rfl) | ((with_reducible refine pD_x ?_ ?_); exact rfl)); simp (disch := omega) only [push_cast, seval, pHS_len, take_pHS, hN])
          | ((first | ((with_reducible refine pops_guard ?_); refine ⟨_, rfl, fun K hK => ⟨_, rfl, fun hg => ?_, fun hg => ?_⟩⟩) | ((first | ((with_reducible refine pD_gy ?_ ?_); exact rfl) | ((with_reducible refine pD_gx ?_ ?_); exact rfl)); refine ⟨_, rfl, _, rfl, fun hg => ?_, fun hg => ?_⟩)) <;> first | (exact absurd hg (by decide)) | ((try simp only [Bool.not_true, Bool.not_false] at hg); (try simp only [hg]); (try simp only [push_cast] at hg); (try exact absurd trivial hg); (try (exfalso; omega)); (try simp (disch := omega) only [push_cast, seval, pHS_len, take_pHS, hN])))
          | ((with_reducible show pcall _ _ _ _ _ _); refine pcall_RV (g := 102) (callable_of Tryd.func102 rfl rfl) (iFixed_p _ _ (by (first | assumption | omega | (simp; omega) | (simp_all; done) | (simp_all; omega))) (by (first | assumption | omega | (simp; omega) | (simp_all; done) | (simp_all; omega))) (by (first | assumption | omega | (simp; omega) | (simp_all; done) | (simp_all; omega)))) rfl (by (repeat' (first | exact trivial | exact rfl | exact vwOk_clo rfl | exact rowsC fun _ => rfl | exact rowsC2 fun _ => rfl | exact rowsC1 (fun _ => rfl) rfl | refine And.intro ?_ ?_ | refine vwOk_ag ?_ | refine vwOk_cl ?_))) ?_; (try simp (disch := omega) only [push_cast, seval, pHS_len, take_pHS, hN]))
          | ((with_reducible show pcall _ _ _ _ _ _); refine pcall_RV (g := 103) (callable_of Tryd.func103 rfl rfl) (iShaBlock_p _ _ (by (first | assumption | omega | (simp; omega) | (simp_all; done) | (simp_all; omega)))) rfl (by (repeat' (first | exact trivial | exact rfl | exact vwOk_clo rfl | exact rowsC fun _ => rfl | exact rowsC2 fun _ => rfl | exact rowsC1 (fun _ => rfl) rfl | refine And.intro ?_ ?_ | refine vwOk_ag ?_ | refine vwOk_cl ?_))) ?_; (try simp (disch := omega) only [push_cast, seval, pHS_len, take_pHS, hN]))
          | ((with_reducible refine And.intro ?_ ?_); omega))
      refine PWp.loopK (α := Nat × ByteArray) (fun x => match x with | (k2, o) => [(8, .val (.string o)), (45, .val (.int .i64 (k2 : Int)))]) [0, 1, 3, 4, 5, 6, 7, 9, 10, 11, 12, 13, 14, 15, 16, 17, 18, 19, 20, 21, 22, 23, 24, 25, 26, 27, 28, 29, 30, 31, 32, 33, 34, 35, 36, 37, 38, 39, 40, 41, 42, 43, 46, 47, 48, 49, 50, 51, 52, 53] (fun x => match x with | (k2, o) => []) (fun x => match x with | (k2, o) => k2 ≤ 8 ∧ o.size = 4 * k2 ∧ outGo ((listS st).drop k2) o = sha s) (fun x => match x with | (k2, o) => 8 - k2) ((0, ByteArray.empty)) (⟨by omega, rfl, by unfold sha outS; rw [hN', ← hgo]; rfl⟩) (by (refine ⟨[], ?_, ?_, ?_, ?_⟩; (· ((try simp (disch := omega) only [push_cast, seval, ren_pHS]); (repeat' (first | exact trivial | exact rfl | refine And.intro ?_ ?_ | omega)))); (· ((try simp (disch := omega) only [push_cast, seval, ren_pHS]); (repeat' (first | exact trivial | exact rfl | refine And.intro ?_ ?_ | omega)))); (· exact rfl); (· (first | exact trivial | exact ⟨rfl, trivial⟩ | exact ⟨rfl, rfl, trivial⟩)))) ?_
      intro x ρ hI; obtain ⟨k2, o⟩ := x
      (try dsimp only at hI)
      refine PWp.at (tm' := ?_) (H' := ?_) ?_ ?_ ?_; rotate_left 2; (· ((try simp only [push_cast, seval]); exact rfl)); (· ((try dsimp only); exact rfl))
      obtain ⟨hk2, ho, hout⟩ := hI
      by_cases hlt2 : k2 < 8
      · obtain ⟨hx, hd⟩ := listS_get st k2 hlt2
        generalize (listS st).getD k2 0 = x at hx hd
        have hx32 : x.toNat < 2 ^ (8 * 4) := x.isLt
        have hb := u_bd x
        have z10 := fx_size x.toNat 4
        rw [hd, outGo] at hout
        repeat' (first
            | with_reducible refine PWp.seq ?_
            | with_reducible refine PWp.block ?_
            | with_reducible refine PWp.region okP true ?_
            | with_reducible refine PWp.draw (id := 8) okP true [0, 1, 2, 3, 4, 5, 6, 7] (by kernel_rfl) ?_
            | with_reducible refine PWp.drawT (id := 3) okP true (.step 0 (.step 1 (.step 2 (.step 3 (.step 7 (.fork (.alt 4 (.step 5 (.step 6 (.step 8 (.step 9 (.step 10 .done))))) (.alt 8 (.step 4 (.step 5 (.step 6 (.step 9 (.step 10 .done))))) .stop)))))))) (by kernel_rfl) ?_
            | with_reducible (first | refine pops_nil ?_ | refine pany_nil ?_ | refine pthen_normal ?_ | refine pblock_normal ?_ | refine pthen_ret ?_ | refine pblock_ret ?_ | refine pthen_exit ?_ | refine pblock_here ?_ | refine pblock_there rfl ?_ | refine PWp.ret ?_ | refine PWp.exit ?_ | refine PWp.skip ?_)
            | ((with_reducible refine hK _ ?_); clear hK K)
            | ((with_reducible refine PWp.condI ?_); refine ⟨_, rfl, fun hg => ?_, fun hg => ?_⟩ <;> first | (exact absurd hg (by decide)) | ((try simp only [Bool.not_true, Bool.not_false] at hg); (try simp only [hg]); (try simp only [push_cast] at hg); (try exact absurd trivial hg); (try (exfalso; omega))))
            | ((first | ((with_reducible refine pops_guard0 ?_); refine ⟨_, rfl, fun K hK => ⟨rfl, ?_⟩⟩) | ((with_reducible refine pD_g0 ?_); refine ⟨_, rfl, rfl, ?_⟩)); (try simp (disch := omega) only [push_cast, seval, hx]))
            | with_reducible (first | refine ptree_done ?_ | exact ptree_stop | refine ptree_fork ?_)
            | ((with_reducible refine ptree_I ?_); refine ⟨_, rfl, fun K hK => ?_⟩)
            | ((with_reducible refine ptree_A ?_ ?_); (refine ⟨_, rfl, fun K hK => ?_⟩))
            | ((with_reducible refine pany_I ?_); refine ⟨_, rfl, fun K hK => ?_⟩)
            | ((with_reducible refine pops_plain fun K hK => popO_build ?_); refine ⟨_, rfl, _, rfl, ?_⟩; simp (disch := omega) only [push_cast, seval, hx])
            | ((with_reducible refine pD_y ?_ (py_build ?_)); exact rfl; refine ⟨_, rfl, _, rfl, ?_⟩; simp (disch := omega) only [push_cast, seval, hx])
            | ((with_reducible refine pbuild_cs ?_); refine ⟨_, rfl, _, rfl, ?_⟩; simp (disch := omega) only [push_cast, seval, hx])
            | ((with_reducible refine pops_plain fun K hK => ?_); simp (disch := omega) only [push_cast, seval, hx])
            | ((first | ((with_reducible refine pD_y ?_ ?_); exact rfl) | ((with_reducible refine pD_x ?_ ?_); exact rfl)); simp (disch := omega) only [push_cast, seval, hx])
            | ((first | ((with_reducible refine pops_guard ?_); refine ⟨_, rfl, fun K hK => ⟨_, rfl, fun hg => ?_, fun hg => ?_⟩⟩) | ((first | ((with_reducible refine pD_gy ?_ ?_); exact rfl) | ((with_reducible refine pD_gx ?_ ?_); exact rfl)); refine ⟨_, rfl, _, rfl, fun hg => ?_, fun hg => ?_⟩)) <;> first | (exact absurd hg (by decide)) | ((try simp only [Bool.not_true, Bool.not_false] at hg); (try simp only [hg]); (try simp only [push_cast] at hg); (try exact absurd trivial hg); (try (exfalso; omega)); (try simp (disch := omega) only [push_cast, seval, hx])))
            | ((with_reducible show pcall _ _ _ _ _ _); refine pcall_RV (g := 102) (callable_of Tryd.func102 rfl rfl) (iFixed_p _ _ (by (first | assumption | omega | (simp; omega) | (simp_all; done) | (simp_all; omega))) (by (first | assumption | omega | (simp; omega) | (simp_all; done) | (simp_all; omega))) (by (first | assumption | omega | (simp; omega) | (simp_all; done) | (simp_all; omega)))) rfl (by (repeat' (first | exact trivial | exact rfl | exact vwOk_clo rfl | exact rowsC fun _ => rfl | exact rowsC2 fun _ => rfl | exact rowsC1 (fun _ => rfl) rfl | refine And.intro ?_ ?_ | refine vwOk_ag ?_ | refine vwOk_cl ?_))) ?_; (try simp (disch := omega) only [push_cast, seval, hx]))
            | ((with_reducible show pcall _ _ _ _ _ _); refine pcall_RV (g := 103) (callable_of Tryd.func103 rfl rfl) (iShaBlock_p _ _ (by (first | assumption | omega | (simp; omega) | (simp_all; done) | (simp_all; omega)))) rfl (by (repeat' (first | exact trivial | exact rfl | exact vwOk_clo rfl | exact rowsC fun _ => rfl | exact rowsC2 fun _ => rfl | exact rowsC1 (fun _ => rfl) rfl | refine And.intro ?_ ?_ | refine vwOk_ag ?_ | refine vwOk_cl ?_))) ?_; (try simp (disch := omega) only [push_cast, seval, hx]))
            | ((with_reducible refine And.intro ?_ ?_); omega))
        (refine ⟨(k2 + 1, o ++ fx x.toNat 4), by ((try dsimp only); omega), ?_, by (refine ⟨[], ?_, ?_, ?_, ?_⟩; (· ((try simp (disch := omega) only [push_cast, seval, ren_pHS]); (repeat' (first | exact trivial | exact rfl | refine And.intro ?_ ?_ | omega)))); (· ((try simp (disch := omega) only [push_cast, seval, ren_pHS]); (repeat' (first | exact trivial | exact rfl | refine And.intro ?_ ?_ | omega)))); (· exact rfl); (· (first | exact trivial | exact ⟨rfl, trivial⟩ | exact ⟨rfl, rfl, trivial⟩)))⟩)
        exact ⟨by omega, by rw [ByteArray.size_append]; omega, hout⟩
      · obtain rfl : k2 = 8 := by omega
        repeat' (first
            | with_reducible refine PWp.seq ?_
            | with_reducible refine PWp.block ?_
            | with_reducible refine PWp.region okP true ?_
            | with_reducible refine PWp.draw (id := 8) okP true [0, 1, 2, 3, 4, 5, 6, 7] (by kernel_rfl) ?_
            | with_reducible refine PWp.drawT (id := 3) okP true (.step 0 (.step 1 (.step 2 (.step 3 (.step 7 (.fork (.alt 4 (.step 5 (.step 6 (.step 8 (.step 9 (.step 10 .done))))) (.alt 8 (.step 4 (.step 5 (.step 6 (.step 9 (.step 10 .done))))) .stop)))))))) (by kernel_rfl) ?_
            | with_reducible (first | refine pops_nil ?_ | refine pany_nil ?_ | refine pthen_normal ?_ | refine pblock_normal ?_ | refine pthen_ret ?_ | refine pblock_ret ?_ | refine pthen_exit ?_ | refine pblock_here ?_ | refine pblock_there rfl ?_ | refine PWp.ret ?_ | refine PWp.exit ?_ | refine PWp.skip ?_)
            | ((with_reducible refine hK _ ?_); clear hK K)
            | ((with_reducible refine PWp.condI ?_); refine ⟨_, rfl, fun hg => ?_, fun hg => ?_⟩ <;> first | (exact absurd hg (by decide)) | ((try simp only [Bool.not_true, Bool.not_false] at hg); (try simp only [hg]); (try simp only [push_cast] at hg); (try exact absurd trivial hg); (try (exfalso; omega))))
            | ((first | ((with_reducible refine pops_guard0 ?_); refine ⟨_, rfl, fun K hK => ⟨rfl, ?_⟩⟩) | ((with_reducible refine pD_g0 ?_); refine ⟨_, rfl, rfl, ?_⟩)); (try simp (disch := omega) only [push_cast, seval]))
            | with_reducible (first | refine ptree_done ?_ | exact ptree_stop | refine ptree_fork ?_)
            | ((with_reducible refine ptree_I ?_); refine ⟨_, rfl, fun K hK => ?_⟩)
            | ((with_reducible refine ptree_A ?_ ?_); (refine ⟨_, rfl, fun K hK => ?_⟩))
            | ((with_reducible refine pany_I ?_); refine ⟨_, rfl, fun K hK => ?_⟩)
            | ((with_reducible refine pops_plain fun K hK => popO_build ?_); refine ⟨_, rfl, _, rfl, ?_⟩; simp (disch := omega) only [push_cast, seval])
            | ((with_reducible refine pD_y ?_ (py_build ?_)); exact rfl; refine ⟨_, rfl, _, rfl, ?_⟩; simp (disch := omega) only [push_cast, seval])
            | ((with_reducible refine pbuild_cs ?_); refine ⟨_, rfl, _, rfl, ?_⟩; simp (disch := omega) only [push_cast, seval])
            | ((with_reducible refine pops_plain fun K hK => ?_); simp (disch := omega) only [push_cast, seval])
            | ((first | ((with_reducible refine pD_y ?_ ?_); exact rfl) | ((with_reducible refine pD_x ?_ ?_); exact rfl)); simp (disch := omega) only [push_cast, seval])
            | ((first | ((with_reducible refine pops_guard ?_); refine ⟨_, rfl, fun K hK => ⟨_, rfl, fun hg => ?_, fun hg => ?_⟩⟩) | ((first | ((with_reducible refine pD_gy ?_ ?_); exact rfl) | ((with_reducible refine pD_gx ?_ ?_); exact rfl)); refine ⟨_, rfl, _, rfl, fun hg => ?_, fun hg => ?_⟩)) <;> first | (exact absurd hg (by decide)) | ((try simp only [Bool.not_true, Bool.not_false] at hg); (try simp only [hg]); (try simp only [push_cast] at hg); (try exact absurd trivial hg); (try (exfalso; omega)); (try simp (disch := omega) only [push_cast, seval])))
            | ((with_reducible show pcall _ _ _ _ _ _); refine pcall_RV (g := 102) (callable_of Tryd.func102 rfl rfl) (iFixed_p _ _ (by (first | assumption | omega | (simp; omega) | (simp_all; done) | (simp_all; omega))) (by (first | assumption | omega | (simp; omega) | (simp_all; done) | (simp_all; omega))) (by (first | assumption | omega | (simp; omega) | (simp_all; done) | (simp_all; omega)))) rfl (by (repeat' (first | exact trivial | exact rfl | exact vwOk_clo rfl | exact rowsC fun _ => rfl | exact rowsC2 fun _ => rfl | exact rowsC1 (fun _ => rfl) rfl | refine And.intro ?_ ?_ | refine vwOk_ag ?_ | refine vwOk_cl ?_))) ?_; (try simp (disch := omega) only [push_cast, seval]))
            | ((with_reducible show pcall _ _ _ _ _ _); refine pcall_RV (g := 103) (callable_of Tryd.func103 rfl rfl) (iShaBlock_p _ _ (by (first | assumption | omega | (simp; omega) | (simp_all; done) | (simp_all; omega)))) rfl (by (repeat' (first | exact trivial | exact rfl | exact vwOk_clo rfl | exact rowsC fun _ => rfl | exact rowsC2 fun _ => rfl | exact rowsC1 (fun _ => rfl) rfl | refine And.intro ?_ ?_ | refine vwOk_ag ?_ | refine vwOk_cl ?_))) ?_; (try simp (disch := omega) only [push_cast, seval]))
            | ((with_reducible refine And.intro ?_ ?_); omega))
        ((first | with_reducible (first | refine pendV1 ?_ ?_ ?_ | refine pendV2 ?_ ?_ ?_ | refine pendV3 ?_ ?_ ?_ | refine pendV0 ?_ ?_ ?_) | refine pendVG ?_ ?_ ?_); (· (first | exact .inl rfl | exact .inr rfl)); rotate_left 1; (· exact rfl); (try (apply Exists.intro; apply And.intro; (· repeat' (first | exact presults_nil | apply presults_tmp | (apply presults_agg; (· exact rfl); (· exact rfl); (· exact rfl); (· exact rfl); (· exact rfl); (· first | exact Nat.le_refl _ | decide | simp)) | (apply presults_one; (· exact rfl); (· exact rfl); (· exact rfl); (· exact rfl); (· exact rfl)))))); (try simp only [push_cast, seval]))
        exact hout
end Go.Proofs.YtgcelmnmalfpcaaDoor
