/- Walks on the pure machine: spec.Sha. -/
import Derived.Test.YtgcelmnmalfpcaaDoorP5
namespace Go.Proofs.YtgcelmnmalfpcaaDoor
set_option linter.unusedSimpArgs false
set_option linter.unusedVariables false
open Go.RowKit
set_option maxRecDepth 100000

theorem fxL_zero {n w : Nat} (h : n < 256 ^ w) : fxL n (w + 1) = 0 :: fxL n w := by
  unfold fxL
  rw [List.range_succ_eq_map, List.map_cons, List.map_map]
  congr 1
  · rw [show w + 1 - 1 - 0 = w by omega, Nat.div_eq_of_lt h]; rfl
  · apply List.map_congr_left
    intro p hp
    simp only [Function.comp]
    congr 3
    omega
theorem fxL_len {n w : Nat} : (fxL n w).length = w := by simp [fxL]
theorem fxL_get {n w i : Nat} (h : i < w) : (fxL n w)[i]? = some (UInt8.ofNat (n / 256 ^ (w - 1 - i))) := by
  unfold fxL
  rw [List.getElem?_map, List.getElem?_range h]
  rfl
theorem u8_mod {q : Nat} : PV.val (.int .u8 ((q : Int) % 256 % 256)) = PV.val (.int .u8 (((UInt8.ofNat q).toNat : Nat) : Int)) := by
  congr 2
  simp
theorem u8_mod1 {q : Nat} : PV.val (.int .u8 ((q : Int) % 256)) = PV.val (.int .u8 (((UInt8.ofNat q).toNat : Nat) : Int)) := by
  congr 2
def outL (l : List W32) : List UInt8 := l.flatMap fun x => fxL x.toNat 4
theorem arr_app {a b : List UInt8} : (⟨a.toArray⟩ : ByteArray) ++ ⟨b.toArray⟩ = ⟨(a ++ b).toArray⟩ := by
  apply ByteArray.ext
  rw [ByteArray.data_append]
  simp
theorem outGo_L : ∀ (l : List W32) (o : List UInt8), outGo l ⟨o.toArray⟩ = ⟨(o ++ outL l).toArray⟩
  | [], o => by simp [outGo, outL]
  | x :: r, o => by
    rw [outGo, fx, arr_app, outGo_L r, List.append_assoc]; rfl
theorem outS_L (v : HSt) : outS v = ⟨(outL (listS v)).toArray⟩ := outGo_L (listS v) []
theorem listS_len (v : HSt) : (listS v).length = 8 := rfl
theorem shaK_len : shaK.length = 64 := rfl
/-- The text that is hashed, as the reference makes it. -/
theorem padT_L (s : ByteArray) (h : 8 * s.size < 256 ^ 7) : s ++ ⟨((128 :: List.replicate (padN s.size) 0) ++ fxL (8 * s.size) 8).toArray⟩ = padT s := by
  unfold padT
  rw [fxL_zero h, fx, zerosB]
  have e1 : (⟨#[128]⟩ : ByteArray) = ⟨([128] : List UInt8).toArray⟩ := rfl
  rw [e1, ByteArray.append_assoc, ByteArray.append_assoc, arr_app, arr_app]
  congr 3
  rw [List.replicate_succ']
  simp
theorem outL_len : ∀ l : List W32, (outL l).length = 4 * l.length
  | [] => rfl
  | x :: r => by
    have := outL_len r
    simp only [outL, List.flatMap_cons, List.length_append, fxL_len, List.length_cons] at *
    omega
theorem outL_snoc {l : List W32} {j : Nat} {x : W32} (h : l[j]? = some x) : outL (l.take (j + 1)) = outL (l.take j) ++ fxL x.toNat 4 := by
  rw [List.take_add_one, h]
  simp [outL]
theorem fx4_rows (n : Nat) : (fxL n 4).map pU8 = [[PV.val (.int .u8 ((n : Int) / 16777216 % 256))], [PV.val (.int .u8 ((n : Int) / 65536 % 256 % 256))], [PV.val (.int .u8 ((n : Int) / 256 % 256 % 256))], [PV.val (.int .u8 ((n : Int) % 256 % 256))]] := by
  have e : fxL n 4 = [UInt8.ofNat (n / 16777216), UInt8.ofNat (n / 65536), UInt8.ofNat (n / 256), UInt8.ofNat (n / 1)] := rfl
  rw [e, Nat.div_one]
  simp only [List.map_cons, List.map_nil, pU8]
  rw [← u8_mod1, ← u8_mod1, ← u8_mod1, ← u8_mod1]
  simp
set_option maxHeartbeats 1500000 in
theorem sSha_p (s : ByteArray) (hs : s.size ≤ 1099511627776) : PCalls Tryd.prog 81 [.val (.string s)] [] (RV (.val (.string (sha s)))) := by
  have hp : padN s.size < 64 := by unfold padN; omega
  have hpm : (s.size + 9 + padN s.size) % 64 = 0 := by unfold padN; omega
  have z7 := padT_size s
  have z8 := padT_mod s
  obtain ⟨N, hN⟩ : ∃ N, (padT s).size = 64 * N := ⟨(padT s).size / 64, by omega⟩
  have hN' : (padT s).size / 64 = N := by omega
  have hpad : s ++ ⟨(128 :: (List.replicate (padN s.size) 0 ++ fxL (8 * s.size) 8)).toArray⟩ = padT s := padT_L s (by simp; omega)
  have z3 := ByteArray.size_append (a := s) (b := ⟨(128 :: (List.replicate (padN s.size) 0 ++ fxL (8 * s.size) 8)).toArray⟩)
  rw [hpad] at z3
  obtain ⟨kk, hkk⟩ : ∃ l, l = shaK := ⟨_, rfl⟩
  have hkl : kk.length = 64 := by rw [hkk]; rfl
  refine pcalls_ofR okP Tryd.func81 rfl ?_
  simp only [Tryd.f81, List.length_cons, List.length_nil, Nat.reduceAdd, Nat.reduceSub, List.replicate_succ, List.replicate_zero, List.cons_append, List.nil_append, List.length_map]
  repeat' (first
      | with_reducible refine PWp.seq ?_
      | with_reducible refine PWp.block ?_
      | with_reducible refine PWp.region okP true ?_
      | with_reducible refine PWp.draw (id := 20) okP true [0, 1, 2, 3, 4, 5, 6, 7, 8, 9, 10, 11, 12, 13, 14, 15, 16, 17, 18, 19, 20, 21, 22, 23, 24, 25, 26, 27, 28, 29] (by kernel_rfl) ?_
      | with_reducible (first | refine pops_nil ?_ | refine pany_nil ?_ | refine pthen_normal ?_ | refine pblock_normal ?_ | refine pthen_ret ?_ | refine pblock_ret ?_ | refine pthen_exit ?_ | refine pblock_here ?_ | refine pblock_there rfl ?_ | refine PWp.ret ?_ | refine PWp.exit ?_ | refine PWp.skip ?_)
      | ((with_reducible refine hK _ ?_); clear hK K)
      | ((with_reducible refine PWp.condI ?_); refine ⟨_, rfl, fun hg => ?_, fun hg => ?_⟩ <;> first | (exact absurd hg (by decide)) | ((try simp only [Bool.not_true, Bool.not_false] at hg); (try simp only [hg]); (try simp only [push_cast] at hg); (try exact absurd trivial hg); (try (exfalso; omega))))
      | ((first | ((with_reducible refine pops_guard0 ?_); refine ⟨_, rfl, fun K hK => ⟨rfl, ?_⟩⟩) | ((with_reducible refine pD_g0 ?_); refine ⟨_, rfl, rfl, ?_⟩)); (try simp (disch := omega) only [push_cast, seval]))
      | ((with_reducible refine pany_I ?_); refine ⟨_, rfl, fun K hK => ?_⟩)
      | ((with_reducible refine pops_plain fun K hK => popO_row ?_); refine ⟨_, _, _, _, _, rfl, rfl, rfl, rfl, rfl, ?_⟩; simp (disch := omega) only [push_cast, seval])
      | ((with_reducible refine pD_x ?_ (popO_row ?_)); exact rfl; refine ⟨_, _, _, _, _, rfl, rfl, rfl, rfl, rfl, ?_⟩; simp (disch := omega) only [push_cast, seval])
      | ((with_reducible refine pops_plain fun K hK => ?_); simp (disch := omega) only [push_cast, seval])
      | ((first | ((with_reducible refine pD_y ?_ ?_); exact rfl) | ((with_reducible refine pD_x ?_ ?_); exact rfl)); simp (disch := omega) only [push_cast, seval])
      | ((first | ((with_reducible refine pops_guard ?_); refine ⟨_, rfl, fun K hK => ⟨_, rfl, fun hg => ?_, fun hg => ?_⟩⟩) | ((first | ((with_reducible refine pD_gy ?_ ?_); exact rfl) | ((with_reducible refine pD_gx ?_ ?_); exact rfl)); refine ⟨_, rfl, _, rfl, fun hg => ?_, fun hg => ?_⟩)) <;> first | (exact absurd hg (by decide)) | ((try simp only [Bool.not_true, Bool.not_false] at hg); (try simp only [hg]); (try simp only [push_cast] at hg); (try exact absurd trivial hg); (try (exfalso; omega)); (try simp (disch := omega) only [push_cast, seval])))
      | ((with_reducible show pcall _ _ _ _ _ _); refine pcall_RH (g := 99) (callable_of Tryd.func99 rfl rfl) (sL3Keys_q _ (by assumption)) (by (repeat' (first | exact trivial | exact rfl | exact rowsF fun _ => rfl | refine And.intro ?_ ?_))) (by (repeat' (first | exact trivial | exact rfl | exact rowsF fun _ => rfl | refine And.intro ?_ ?_))) (by (repeat' (first | exact trivial | exact rfl | exact vwOk_clo rfl | exact rowsC fun _ => rfl | exact rowsC2 fun _ => rfl | exact rowsC1 (fun _ => rfl) rfl | refine And.intro ?_ ?_ | refine vwOk_ag ?_ | refine vwOk_cl ?_))) ?_; (try simp (disch := omega) only [push_cast, seval]))
      | ((with_reducible show pcall _ _ _ _ _ _); refine pcall_RGf (g := 100) (callable_of Tryd.func100 rfl rfl) [?_, ?_] ?_ ?_ ?_ (sL3Block_q ?_ ?_ ?_ ?_ ?_ ?_ ?_ ?_ ?_) ?_; rotate_left 2; (· ((try simp (disch := omega) only [push_cast, seval]); (repeat' (first | exact trivial | exact rfl | refine And.intro ?_ ?_ | omega)))); (· (repeat' (first | exact trivial | refine And.intro ?_ ?_ | exact ⟨_, rfl⟩ | (simp (disch := omega) only [push_cast, seval]; done) | exact rfl))); (· exact rfl); rotate_right 1; rotate_left 1; (all_goals (try (first | omega | exact (show _ = _ by assumption)))); (try simp (disch := omega) only [push_cast, seval]))
      | ((with_reducible refine And.intro ?_ ?_); omega))
  refine PWp.loopK (α := Nat) (fun z => [(4, .own 0)]) [1, 12, 13, 14, 15, 16, 17, 18, 19, 20, 21, 22, 23] (fun z => [some (.row 5 1 ((128 :: List.replicate z 0).map pU8))]) (fun z => z ≤ padN s.size) (fun z => padN s.size - z) (0) (Nat.zero_le _) (by (refine ⟨[?_], ?_, ?_, ?_, ?_⟩; rotate_left 1; (· ((try simp (disch := omega) only [push_cast, seval, pU8, List.replicate_zero]); (repeat' (first | exact trivial | exact rfl | refine And.intro ?_ ?_ | omega)))); (· ((try simp (disch := omega) only [push_cast, seval, pU8, List.replicate_zero]); (repeat' (first | exact trivial | exact rfl | refine And.intro ?_ ?_ | omega)))); (· exact rfl); (· (first | exact trivial | exact ⟨rfl, trivial⟩ | exact ⟨rfl, rfl, trivial⟩)))) ?_
  intro z ρ hI
  (try dsimp only at hI)
  refine PWp.at (tm' := ?_) (H' := ?_) ?_ ?_ ?_; rotate_left 2; (· ((try simp only [push_cast, seval]); exact rfl)); (· ((try dsimp only); exact rfl))
  by_cases hlt : z < padN s.size
  · have hz : List.map pU8 (List.replicate z 0) ++ [[PV.val (.int .u8 0)]] = List.map pU8 (List.replicate (z + 1) 0) := by
      rw [List.replicate_succ', List.map_append]; rfl
    repeat' (first
        | with_reducible refine PWp.seq ?_
        | with_reducible refine PWp.block ?_
        | with_reducible refine PWp.region okP true ?_
        | with_reducible refine PWp.draw (id := 20) okP true [0, 1, 2, 3, 4, 5, 6, 7, 8, 9, 10, 11, 12, 13, 14, 15, 16, 17, 18, 19, 20, 21, 22, 23, 24, 25, 26, 27, 28, 29] (by kernel_rfl) ?_
        | with_reducible (first | refine pops_nil ?_ | refine pany_nil ?_ | refine pthen_normal ?_ | refine pblock_normal ?_ | refine pthen_ret ?_ | refine pblock_ret ?_ | refine pthen_exit ?_ | refine pblock_here ?_ | refine pblock_there rfl ?_ | refine PWp.ret ?_ | refine PWp.exit ?_ | refine PWp.skip ?_)
        | ((with_reducible refine hK _ ?_); clear hK K)
        | ((with_reducible refine PWp.condI ?_); refine ⟨_, rfl, fun hg => ?_, fun hg => ?_⟩ <;> first | (exact absurd hg (by decide)) | ((try simp only [Bool.not_true, Bool.not_false] at hg); (try simp only [hg]); (try simp only [push_cast] at hg); (try exact absurd trivial hg); (try (exfalso; omega))))
        | ((first | ((with_reducible refine pops_guard0 ?_); refine ⟨_, rfl, fun K hK => ⟨rfl, ?_⟩⟩) | ((with_reducible refine pD_g0 ?_); refine ⟨_, rfl, rfl, ?_⟩)); (try simp (disch := omega) only [push_cast, seval, List.length_replicate]))
        | ((with_reducible refine pany_I ?_); refine ⟨_, rfl, fun K hK => ?_⟩)
        | ((with_reducible refine pops_plain fun K hK => popO_row ?_); refine ⟨_, _, _, _, _, rfl, rfl, rfl, rfl, rfl, ?_⟩; simp (disch := omega) only [push_cast, seval, List.length_replicate])
        | ((with_reducible refine pD_x ?_ (popO_row ?_)); exact rfl; refine ⟨_, _, _, _, _, rfl, rfl, rfl, rfl, rfl, ?_⟩; simp (disch := omega) only [push_cast, seval, List.length_replicate])
        | ((with_reducible refine pops_plain fun K hK => ?_); simp (disch := omega) only [push_cast, seval, List.length_replicate])
        | ((first | ((with_reducible refine pD_y ?_ ?_); exact rfl) | ((with_reducible refine pD_x ?_ ?_); exact rfl)); simp (disch := omega) only [push_cast, seval, List.length_replicate])
        | ((first | ((with_reducible refine pops_guard ?_); refine ⟨_, rfl, fun K hK => ⟨_, rfl, fun hg => ?_, fun hg => ?_⟩⟩) | ((first | ((with_reducible refine pD_gy ?_ ?_); exact rfl) | ((with_reducible refine pD_gx ?_ ?_); exact rfl)); refine ⟨_, rfl, _, rfl, fun hg => ?_, fun hg => ?_⟩)) <;> first | (exact absurd hg (by decide)) | ((try simp only [Bool.not_true, Bool.not_false] at hg); (try simp only [hg]); (try simp only [push_cast] at hg); (try exact absurd trivial hg); (try (exfalso; omega)); (try simp (disch := omega) only [push_cast, seval, List.length_replicate])))
        | ((with_reducible show pcall _ _ _ _ _ _); refine pcall_RH (g := 99) (callable_of Tryd.func99 rfl rfl) (sL3Keys_q _ (by assumption)) (by (repeat' (first | exact trivial | exact rfl | exact rowsF fun _ => rfl | refine And.intro ?_ ?_))) (by (repeat' (first | exact trivial | exact rfl | exact rowsF fun _ => rfl | refine And.intro ?_ ?_))) (by (repeat' (first | exact trivial | exact rfl | exact vwOk_clo rfl | exact rowsC fun _ => rfl | exact rowsC2 fun _ => rfl | exact rowsC1 (fun _ => rfl) rfl | refine And.intro ?_ ?_ | refine vwOk_ag ?_ | refine vwOk_cl ?_))) ?_; (try simp (disch := omega) only [push_cast, seval, List.length_replicate]))
        | ((with_reducible show pcall _ _ _ _ _ _); refine pcall_RGf (g := 100) (callable_of Tryd.func100 rfl rfl) [?_, ?_] ?_ ?_ ?_ (sL3Block_q ?_ ?_ ?_ ?_ ?_ ?_ ?_ ?_ ?_) ?_; rotate_left 2; (· ((try simp (disch := omega) only [push_cast, seval]); (repeat' (first | exact trivial | exact rfl | refine And.intro ?_ ?_ | omega)))); (· (repeat' (first | exact trivial | refine And.intro ?_ ?_ | exact ⟨_, rfl⟩ | (simp (disch := omega) only [push_cast, seval]; done) | exact rfl))); (· exact rfl); rotate_right 1; rotate_left 1; (all_goals (try (first | omega | exact (show _ = _ by assumption)))); (try simp (disch := omega) only [push_cast, seval, List.length_replicate]))
        | ((with_reducible refine And.intro ?_ ?_); omega))
    (refine ⟨z + 1, by ((try dsimp only); omega), ?_, by (refine ⟨[?_], ?_, ?_, ?_, ?_⟩; rotate_left 1; (· ((try simp (disch := omega) only [push_cast, seval, hz]); (repeat' (first | exact trivial | exact rfl | refine And.intro ?_ ?_ | omega)))); (· ((try simp (disch := omega) only [push_cast, seval, hz]); (repeat' (first | exact trivial | exact rfl | refine And.intro ?_ ?_ | omega)))); (· exact rfl); (· (first | exact trivial | exact ⟨rfl, trivial⟩ | exact ⟨rfl, rfl, trivial⟩)))⟩)
    exact hlt
  obtain rfl : z = padN s.size := by omega
  have e0 : ¬ ((s.size : Int) + ((padN s.size : Int) + 1)) % 64 ≠ 56 := by omega
  repeat' (first
      | with_reducible refine PWp.seq ?_
      | with_reducible refine PWp.block ?_
      | with_reducible refine PWp.region okP true ?_
      | with_reducible refine PWp.draw (id := 20) okP true [0, 1, 2, 3, 4, 5, 6, 7, 8, 9, 10, 11, 12, 13, 14, 15, 16, 17, 18, 19, 20, 21, 22, 23, 24, 25, 26, 27, 28, 29] (by kernel_rfl) ?_
      | with_reducible (first | refine pops_nil ?_ | refine pany_nil ?_ | refine pthen_normal ?_ | refine pblock_normal ?_ | refine pthen_ret ?_ | refine pblock_ret ?_ | refine pthen_exit ?_ | refine pblock_here ?_ | refine pblock_there rfl ?_ | refine PWp.ret ?_ | refine PWp.exit ?_ | refine PWp.skip ?_)
      | ((with_reducible refine hK _ ?_); clear hK K)
      | ((with_reducible refine PWp.condI ?_); refine ⟨_, rfl, fun hg => ?_, fun hg => ?_⟩ <;> first | (exact absurd hg (by decide)) | ((try simp only [Bool.not_true, Bool.not_false] at hg); (try simp only [hg]); (try simp only [push_cast] at hg); (try exact absurd trivial hg); (try (exfalso; omega))))
      | ((first | ((with_reducible refine pops_guard0 ?_); refine ⟨_, rfl, fun K hK => ⟨rfl, ?_⟩⟩) | ((with_reducible refine pD_g0 ?_); refine ⟨_, rfl, rfl, ?_⟩)); (try simp (disch := omega) only [push_cast, seval, List.length_replicate]))
      | ((with_reducible refine pany_I ?_); refine ⟨_, rfl, fun K hK => ?_⟩)
      | ((with_reducible refine pops_plain fun K hK => popO_row ?_); refine ⟨_, _, _, _, _, rfl, rfl, rfl, rfl, rfl, ?_⟩; simp (disch := omega) only [push_cast, seval, List.length_replicate])
      | ((with_reducible refine pD_x ?_ (popO_row ?_)); exact rfl; refine ⟨_, _, _, _, _, rfl, rfl, rfl, rfl, rfl, ?_⟩; simp (disch := omega) only [push_cast, seval, List.length_replicate])
      | ((with_reducible refine pops_plain fun K hK => ?_); simp (disch := omega) only [push_cast, seval, List.length_replicate])
      | ((first | ((with_reducible refine pD_y ?_ ?_); exact rfl) | ((with_reducible refine pD_x ?_ ?_); exact rfl)); simp (disch := omega) only [push_cast, seval, List.length_replicate])
      | ((first | ((with_reducible refine pops_guard ?_); refine ⟨_, rfl, fun K hK => ⟨_, rfl, fun hg => ?_, fun hg => ?_⟩⟩) | ((first | ((with_reducible refine pD_gy ?_ ?_); exact rfl) | ((with_reducible refine pD_gx ?_ ?_); exact rfl)); refine ⟨_, rfl, _, rfl, fun hg => ?_, fun hg => ?_⟩)) <;> first | (exact absurd hg (by decide)) | ((try simp only [Bool.not_true, Bool.not_false] at hg); (try simp only [hg]); (try simp only [push_cast] at hg); (try exact absurd trivial hg); (try (exfalso; omega)); (try simp (disch := omega) only [push_cast, seval, List.length_replicate])))
      | ((with_reducible show pcall _ _ _ _ _ _); refine pcall_RH (g := 99) (callable_of Tryd.func99 rfl rfl) (sL3Keys_q _ (by assumption)) (by (repeat' (first | exact trivial | exact rfl | exact rowsF fun _ => rfl | refine And.intro ?_ ?_))) (by (repeat' (first | exact trivial | exact rfl | exact rowsF fun _ => rfl | refine And.intro ?_ ?_))) (by (repeat' (first | exact trivial | exact rfl | exact vwOk_clo rfl | exact rowsC fun _ => rfl | exact rowsC2 fun _ => rfl | exact rowsC1 (fun _ => rfl) rfl | refine And.intro ?_ ?_ | refine vwOk_ag ?_ | refine vwOk_cl ?_))) ?_; (try simp (disch := omega) only [push_cast, seval, List.length_replicate]))
      | ((with_reducible show pcall _ _ _ _ _ _); refine pcall_RGf (g := 100) (callable_of Tryd.func100 rfl rfl) [?_, ?_] ?_ ?_ ?_ (sL3Block_q ?_ ?_ ?_ ?_ ?_ ?_ ?_ ?_ ?_) ?_; rotate_left 2; (· ((try simp (disch := omega) only [push_cast, seval]); (repeat' (first | exact trivial | exact rfl | refine And.intro ?_ ?_ | omega)))); (· (repeat' (first | exact trivial | refine And.intro ?_ ?_ | exact ⟨_, rfl⟩ | (simp (disch := omega) only [push_cast, seval]; done) | exact rfl))); (· exact rfl); rotate_right 1; rotate_left 1; (all_goals (try (first | omega | exact (show _ = _ by assumption)))); (try simp (disch := omega) only [push_cast, seval, List.length_replicate]))
      | ((with_reducible refine And.intro ?_ ?_); omega))
  refine PWp.loopK (α := Nat) (fun i => [(4, .own 0), (5, .val (.int .i64 (i : Int)))]) [1, 12, 13, 14, 15, 16, 17, 18, 19, 20, 21, 22, 23, 24, 25, 26, 27, 28, 29, 30, 31, 32, 33, 34, 35, 36, 37, 38, 39] (fun i => [some (.row 5 1 (((128 :: List.replicate (padN s.size) 0) ++ (fxL (8 * s.size) 8).take i).map pU8))]) (fun i => i ≤ 8) (fun i => 8 - i) (0) (Nat.zero_le _) (by (refine ⟨[?_], ?_, ?_, ?_, ?_⟩; rotate_left 1; (· ((try simp (disch := omega) only [push_cast, seval]); (repeat' (first | exact trivial | exact rfl | refine And.intro ?_ ?_ | omega)))); (· ((try simp (disch := omega) only [push_cast, seval]); (repeat' (first | exact trivial | exact rfl | refine And.intro ?_ ?_ | omega)))); (· exact rfl); (· (first | exact trivial | exact ⟨rfl, trivial⟩ | exact ⟨rfl, rfl, trivial⟩)))) ?_
  intro i ρ hI
  (try dsimp only at hI)
  refine PWp.at (tm' := ?_) (H' := ?_) ?_ ?_ ?_; rotate_left 2; (· ((try simp only [push_cast, seval]); exact rfl)); (· ((try dsimp only); exact rfl))
  by_cases hlt : i < 8
  · have e1 : ((56 - 8 * (i : Int)) % 18446744073709551616).toNat = 56 - 8 * i := by omega
    obtain ⟨q, hq⟩ : ∃ q, q = 8 * s.size / 2 ^ (56 - 8 * i) := ⟨_, rfl⟩
    have e2 : ((s.size : Int) * 8).fdiv (2 ^ (56 - 8 * i)) = (q : Int) := by
      rw [Int.fdiv_eq_ediv_of_nonneg _ (by exact Int.le_of_lt (Int.pow_pos (by omega))), hq, Int.mul_comm]
      simp
    have hq2 : q ≤ 8 * s.size := by rw [hq]; exact Nat.div_le_self _ _
    have hrow : List.map pU8 (List.take i (fxL (8 * s.size) 8)) ++ [[PV.val (.int .u8 ((q : Int) % 256 % 256))]] = List.map pU8 (List.take (i + 1) (fxL (8 * s.size) 8)) := by
      rw [u8_mod, List.take_add_one, fxL_get hlt, List.map_append]
      congr 1
      simp only [Option.toList_some, List.map_cons, List.map_nil, pU8]
      rw [hq, show (256 : Nat) = 2 ^ 8 from rfl, ← Nat.pow_mul, show 8 * (8 - 1 - i) = 56 - 8 * i by omega]
    have hl : (fxL (8 * s.size) 8).length = 8 := fxL_len
    repeat' (first
        | with_reducible refine PWp.seq ?_
        | with_reducible refine PWp.block ?_
        | with_reducible refine PWp.region okP true ?_
        | with_reducible refine PWp.draw (id := 20) okP true [0, 1, 2, 3, 4, 5, 6, 7, 8, 9, 10, 11, 12, 13, 14, 15, 16, 17, 18, 19, 20, 21, 22, 23, 24, 25, 26, 27, 28, 29] (by kernel_rfl) ?_
        | with_reducible (first | refine pops_nil ?_ | refine pany_nil ?_ | refine pthen_normal ?_ | refine pblock_normal ?_ | refine pthen_ret ?_ | refine pblock_ret ?_ | refine pthen_exit ?_ | refine pblock_here ?_ | refine pblock_there rfl ?_ | refine PWp.ret ?_ | refine PWp.exit ?_ | refine PWp.skip ?_)
        | ((with_reducible refine hK _ ?_); clear hK K)
        | ((with_reducible refine PWp.condI ?_); refine ⟨_, rfl, fun hg => ?_, fun hg => ?_⟩ <;> first | (exact absurd hg (by decide)) | ((try simp only [Bool.not_true, Bool.not_false] at hg); (try simp only [hg]); (try simp only [push_cast] at hg); (try exact absurd trivial hg); (try (exfalso; omega))))
        | ((first | ((with_reducible refine pops_guard0 ?_); refine ⟨_, rfl, fun K hK => ⟨rfl, ?_⟩⟩) | ((with_reducible refine pD_g0 ?_); refine ⟨_, rfl, rfl, ?_⟩)); (try simp (disch := omega) only [push_cast, seval, e1, e2, List.length_take, List.length_replicate]))
        | ((with_reducible refine pany_I ?_); refine ⟨_, rfl, fun K hK => ?_⟩)
        | ((with_reducible refine pops_plain fun K hK => popO_row ?_); refine ⟨_, _, _, _, _, rfl, rfl, rfl, rfl, rfl, ?_⟩; simp (disch := omega) only [push_cast, seval, e1, e2, List.length_take, List.length_replicate])
        | ((with_reducible refine pD_x ?_ (popO_row ?_)); exact rfl; refine ⟨_, _, _, _, _, rfl, rfl, rfl, rfl, rfl, ?_⟩; simp (disch := omega) only [push_cast, seval, e1, e2, List.length_take, List.length_replicate])
        | ((with_reducible refine pops_plain fun K hK => ?_); simp (disch := omega) only [push_cast, seval, e1, e2, List.length_take, List.length_replicate])
        | ((first | ((with_reducible refine pD_y ?_ ?_); exact rfl) | ((with_reducible refine pD_x ?_ ?_); exact rfl)); simp (disch := omega) only [push_cast, seval, e1, e2, List.length_take, List.length_replicate])
        | ((first | ((with_reducible refine pops_guard ?_); refine ⟨_, rfl, fun K hK => ⟨_, rfl, fun hg => ?_, fun hg => ?_⟩⟩) | ((first | ((with_reducible refine pD_gy ?_ ?_); exact rfl) | ((with_reducible refine pD_gx ?_ ?_); exact rfl)); refine ⟨_, rfl, _, rfl, fun hg => ?_, fun hg => ?_⟩)) <;> first | (exact absurd hg (by decide)) | ((try simp only [Bool.not_true, Bool.not_false] at hg); (try simp only [hg]); (try simp only [push_cast] at hg); (try exact absurd trivial hg); (try (exfalso; omega)); (try simp (disch := omega) only [push_cast, seval, e1, e2, List.length_take, List.length_replicate])))
        | ((with_reducible show pcall _ _ _ _ _ _); refine pcall_RH (g := 99) (callable_of Tryd.func99 rfl rfl) (sL3Keys_q _ (by assumption)) (by (repeat' (first | exact trivial | exact rfl | exact rowsF fun _ => rfl | refine And.intro ?_ ?_))) (by (repeat' (first | exact trivial | exact rfl | exact rowsF fun _ => rfl | refine And.intro ?_ ?_))) (by (repeat' (first | exact trivial | exact rfl | exact vwOk_clo rfl | exact rowsC fun _ => rfl | exact rowsC2 fun _ => rfl | exact rowsC1 (fun _ => rfl) rfl | refine And.intro ?_ ?_ | refine vwOk_ag ?_ | refine vwOk_cl ?_))) ?_; (try simp (disch := omega) only [push_cast, seval, e1, e2, List.length_take, List.length_replicate]))
        | ((with_reducible show pcall _ _ _ _ _ _); refine pcall_RGf (g := 100) (callable_of Tryd.func100 rfl rfl) [?_, ?_] ?_ ?_ ?_ (sL3Block_q ?_ ?_ ?_ ?_ ?_ ?_ ?_ ?_ ?_) ?_; rotate_left 2; (· ((try simp (disch := omega) only [push_cast, seval]); (repeat' (first | exact trivial | exact rfl | refine And.intro ?_ ?_ | omega)))); (· (repeat' (first | exact trivial | refine And.intro ?_ ?_ | exact ⟨_, rfl⟩ | (simp (disch := omega) only [push_cast, seval]; done) | exact rfl))); (· exact rfl); rotate_right 1; rotate_left 1; (all_goals (try (first | omega | exact (show _ = _ by assumption)))); (try simp (disch := omega) only [push_cast, seval, e1, e2, List.length_take, List.length_replicate]))
        | ((with_reducible refine And.intro ?_ ?_); omega))
    (refine ⟨i + 1, by ((try dsimp only); omega), ?_, by (refine ⟨[?_], ?_, ?_, ?_, ?_⟩; rotate_left 1; (· ((try simp (disch := omega) only [push_cast, seval, hrow]); (repeat' (first | exact trivial | exact rfl | refine And.intro ?_ ?_ | omega)))); (· ((try simp (disch := omega) only [push_cast, seval, hrow]); (repeat' (first | exact trivial | exact rfl | refine And.intro ?_ ?_ | omega)))); (· exact rfl); (· (first | exact trivial | exact ⟨rfl, trivial⟩ | exact ⟨rfl, rfl, trivial⟩)))⟩)
    exact hlt
  obtain rfl : i = 8 := by omega
  have ht : (fxL (8 * s.size) 8).take 8 = fxL (8 * s.size) 8 := List.take_of_length_le (by simp [fxL])
  have hby : ∀ bs, (pU8 128 :: (List.map pU8 (List.replicate (padN s.size) 0) ++ List.map pU8 (fxL (8 * s.size) 8)) = bytesL bs) = (bs = 128 :: List.replicate (padN s.size) 0 ++ fxL (8 * s.size) 8) := fun bs => by
    have := bytes_map (l := 128 :: List.replicate (padN s.size) 0 ++ fxL (8 * s.size) 8) (bs := bs)
    rw [List.map_append, List.map_cons] at this
    exact this
  repeat' (first
      | with_reducible refine PWp.seq ?_
      | with_reducible refine PWp.block ?_
      | with_reducible refine PWp.region okP true ?_
      | with_reducible refine PWp.draw (id := 20) okP true [0, 1, 2, 3, 4, 5, 6, 7, 8, 9, 10, 11, 12, 13, 14, 15, 16, 17, 18, 19, 20, 21, 22, 23, 24, 25, 26, 27, 28, 29] (by kernel_rfl) ?_
      | with_reducible (first | refine pops_nil ?_ | refine pany_nil ?_ | refine pthen_normal ?_ | refine pblock_normal ?_ | refine pthen_ret ?_ | refine pblock_ret ?_ | refine pthen_exit ?_ | refine pblock_here ?_ | refine pblock_there rfl ?_ | refine PWp.ret ?_ | refine PWp.exit ?_ | refine PWp.skip ?_)
      | ((with_reducible refine hK _ ?_); clear hK K)
      | ((with_reducible refine PWp.condI ?_); refine ⟨_, rfl, fun hg => ?_, fun hg => ?_⟩ <;> first | (exact absurd hg (by decide)) | ((try simp only [Bool.not_true, Bool.not_false] at hg); (try simp only [hg]); (try simp only [push_cast] at hg); (try exact absurd trivial hg); (try (exfalso; omega))))
      | ((first | ((with_reducible refine pops_guard0 ?_); refine ⟨_, rfl, fun K hK => ⟨rfl, ?_⟩⟩) | ((with_reducible refine pD_g0 ?_); refine ⟨_, rfl, rfl, ?_⟩)); (try simp (disch := omega) only [push_cast, seval, ht, hby, hpad]))
      | ((with_reducible refine pany_I ?_); refine ⟨_, rfl, fun K hK => ?_⟩)
      | ((with_reducible refine pops_plain fun K hK => popO_row ?_); refine ⟨_, _, _, _, _, rfl, rfl, rfl, rfl, rfl, ?_⟩; simp (disch := omega) only [push_cast, seval, ht, hby, hpad])
      | ((with_reducible refine pD_x ?_ (popO_row ?_)); exact rfl; refine ⟨_, _, _, _, _, rfl, rfl, rfl, rfl, rfl, ?_⟩; simp (disch := omega) only [push_cast, seval, ht, hby, hpad])
      | ((with_reducible refine pops_plain fun K hK => ?_); simp (disch := omega) only [push_cast, seval, ht, hby, hpad])
      | ((first | ((with_reducible refine pD_y ?_ ?_); exact rfl) | ((with_reducible refine pD_x ?_ ?_); exact rfl)); simp (disch := omega) only [push_cast, seval, ht, hby, hpad])
      | ((first | ((with_reducible refine pops_guard ?_); refine ⟨_, rfl, fun K hK => ⟨_, rfl, fun hg => ?_, fun hg => ?_⟩⟩) | ((first | ((with_reducible refine pD_gy ?_ ?_); exact rfl) | ((with_reducible refine pD_gx ?_ ?_); exact rfl)); refine ⟨_, rfl, _, rfl, fun hg => ?_, fun hg => ?_⟩)) <;> first | (exact absurd hg (by decide)) | ((try simp only [Bool.not_true, Bool.not_false] at hg); (try simp only [hg]); (try simp only [push_cast] at hg); (try exact absurd trivial hg); (try (exfalso; omega)); (try simp (disch := omega) only [push_cast, seval, ht, hby, hpad])))
      | ((with_reducible show pcall _ _ _ _ _ _); refine pcall_RH (g := 99) (callable_of Tryd.func99 rfl rfl) (sL3Keys_q _ (by assumption)) (by (repeat' (first | exact trivial | exact rfl | exact rowsF fun _ => rfl | refine And.intro ?_ ?_))) (by (repeat' (first | exact trivial | exact rfl | exact rowsF fun _ => rfl | refine And.intro ?_ ?_))) (by (repeat' (first | exact trivial | exact rfl | exact vwOk_clo rfl | exact rowsC fun _ => rfl | exact rowsC2 fun _ => rfl | exact rowsC1 (fun _ => rfl) rfl | refine And.intro ?_ ?_ | refine vwOk_ag ?_ | refine vwOk_cl ?_))) ?_; (try simp (disch := omega) only [push_cast, seval, ht, hby, hpad]))
      | ((with_reducible show pcall _ _ _ _ _ _); refine pcall_RGf (g := 100) (callable_of Tryd.func100 rfl rfl) [?_, ?_] ?_ ?_ ?_ (sL3Block_q ?_ ?_ ?_ ?_ ?_ ?_ ?_ ?_ ?_) ?_; rotate_left 2; (· ((try simp (disch := omega) only [push_cast, seval]); (repeat' (first | exact trivial | exact rfl | refine And.intro ?_ ?_ | omega)))); (· (repeat' (first | exact trivial | refine And.intro ?_ ?_ | exact ⟨_, rfl⟩ | (simp (disch := omega) only [push_cast, seval]; done) | exact rfl))); (· exact rfl); rotate_right 1; rotate_left 1; (all_goals (try (first | omega | exact (show _ = _ by assumption)))); (try simp (disch := omega) only [push_cast, seval, ht, hby, hpad]))
      | ((with_reducible refine And.intro ?_ ?_); omega))
  refine PWp.loopK (α := Nat × HSt × List W32) (fun x => match x with | (k, st, l) => [(7, .own 0), (8, .own 1), (9, .val (.int .i64 (64 * (k : Int))))]) [0, 1, 3, 4, 5, 12, 13, 14, 15, 16, 17, 18, 19, 20, 21, 22, 23, 24, 25, 26, 27, 28, 29, 30, 31, 32, 33, 34, 35, 36, 37, 38, 39, 40, 41, 42, 43, 44, 45, 46, 47, 48, 49, 50, 51, 52, 53, 54, 55, 56, 57, 58, 59] (fun x => match x with | (k, st, l) => [some (.row 3 1 (l.map pW)), some (.row 3 1 (kk.map pW))]) (fun x => match x with | (k, st, l) => k ≤ N ∧ l = listS st ∧ shaGo (padT s) (N - k) st (64 * k) = shaGo (padT s) N sha0 0) (fun x => match x with | (k, st, l) => N - k) ((0, sha0, listS sha0)) (⟨Nat.zero_le _, rfl, rfl⟩) (by (refine ⟨[?_, ?_], ?_, ?_, ?_, ?_⟩; rotate_left 2; (· ((try simp (disch := omega) only [push_cast, seval]); (repeat' (first | exact trivial | exact rfl | refine And.intro ?_ ?_ | omega)))); (· ((try simp (disch := omega) only [push_cast, seval]); (repeat' (first | exact trivial | exact rfl | refine And.intro ?_ ?_ | omega)))); (· exact rfl); (· (first | exact trivial | exact ⟨rfl, trivial⟩ | exact ⟨rfl, rfl, trivial⟩)))) ?_
  intro x ρ hI; obtain ⟨k, st, l⟩ := x
  (try dsimp only at hI)
  refine PWp.at (tm' := ?_) (H' := ?_) ?_ ?_ ?_; rotate_left 2; (· ((try simp only [push_cast, seval]); exact rfl)); (· ((try dsimp only); exact rfl))
  obtain ⟨hk, hl, hgo⟩ := hI
  by_cases hlt2 : k < N
  · obtain ⟨m, hm⟩ : ∃ m, N - k = m + 1 := ⟨N - k - 1, by omega⟩
    have e6 : (64 * (k : Int)).toNat = 64 * k := by omega
    have e7 : (64 * (k : Int) + 64).toNat = 64 * k + 64 := by omega
    have z9 : ((padT s).extract (64 * k) (64 * k + 64)).size = 64 := by rw [ByteArray.size_extract]; omega
    rw [hm, shaGo] at hgo
    obtain ⟨st', hst⟩ : ∃ x, x = blk st ((padT s).extract (64 * k) (64 * k + 64)) 0 := ⟨_, rfl⟩
    obtain ⟨lr, hlr⟩ : ∃ x, x = listS (blk st ((padT s).extract (64 * k) (64 * k + 64)) 0) := ⟨_, rfl⟩
    rw [← hst] at hgo
    repeat' (first
        | with_reducible refine PWp.seq ?_
        | with_reducible refine PWp.block ?_
        | with_reducible refine PWp.region okP true ?_
        | with_reducible refine PWp.draw (id := 20) okP true [0, 1, 2, 3, 4, 5, 6, 7, 8, 9, 10, 11, 12, 13, 14, 15, 16, 17, 18, 19, 20, 21, 22, 23, 24, 25, 26, 27, 28, 29] (by kernel_rfl) ?_
        | with_reducible (first | refine pops_nil ?_ | refine pany_nil ?_ | refine pthen_normal ?_ | refine pblock_normal ?_ | refine pthen_ret ?_ | refine pblock_ret ?_ | refine pthen_exit ?_ | refine pblock_here ?_ | refine pblock_there rfl ?_ | refine PWp.ret ?_ | refine PWp.exit ?_ | refine PWp.skip ?_)
        | ((with_reducible refine hK _ ?_); clear hK K)
        | ((with_reducible refine PWp.condI ?_); refine ⟨_, rfl, fun hg => ?_, fun hg => ?_⟩ <;> first | (exact absurd hg (by decide)) | ((try simp only [Bool.not_true, Bool.not_false] at hg); (try simp only [hg]); (try simp only [push_cast] at hg); (try exact absurd trivial hg); (try (exfalso; omega))))
        | ((first | ((with_reducible refine pops_guard0 ?_); refine ⟨_, rfl, fun K hK => ⟨rfl, ?_⟩⟩) | ((with_reducible refine pD_g0 ?_); refine ⟨_, rfl, rfl, ?_⟩)); (try simp (disch := omega) only [push_cast, seval, hN, e6, e7]))
        | ((with_reducible refine pany_I ?_); refine ⟨_, rfl, fun K hK => ?_⟩)
        | ((with_reducible refine pops_plain fun K hK => popO_row ?_); refine ⟨_, _, _, _, _, rfl, rfl, rfl, rfl, rfl, ?_⟩; simp (disch := omega) only [push_cast, seval, hN, e6, e7])
        | ((with_reducible refine pD_x ?_ (popO_row ?_)); exact rfl; refine ⟨_, _, _, _, _, rfl, rfl, rfl, rfl, rfl, ?_⟩; simp (disch := omega) only [push_cast, seval, hN, e6, e7])
        | ((with_reducible refine pops_plain fun K hK => ?_); simp (disch := omega) only [push_cast, seval, hN, e6, e7])
        | ((first | ((with_reducible refine pD_y ?_ ?_); exact rfl) | ((with_reducible refine pD_x ?_ ?_); exact rfl)); simp (disch := omega) only [push_cast, seval, hN, e6, e7])
        | ((first | ((with_reducible refine pops_guard ?_); refine ⟨_, rfl, fun K hK => ⟨_, rfl, fun hg => ?_, fun hg => ?_⟩⟩) | ((first | ((with_reducible refine pD_gy ?_ ?_); exact rfl) | ((with_reducible refine pD_gx ?_ ?_); exact rfl)); refine ⟨_, rfl, _, rfl, fun hg => ?_, fun hg => ?_⟩)) <;> first | (exact absurd hg (by decide)) | ((try simp only [Bool.not_true, Bool.not_false] at hg); (try simp only [hg]); (try simp only [push_cast] at hg); (try exact absurd trivial hg); (try (exfalso; omega)); (try simp (disch := omega) only [push_cast, seval, hN, e6, e7])))
        | ((with_reducible show pcall _ _ _ _ _ _); refine pcall_RH (g := 99) (callable_of Tryd.func99 rfl rfl) (sL3Keys_q _ (by assumption)) (by (repeat' (first | exact trivial | exact rfl | exact rowsF fun _ => rfl | refine And.intro ?_ ?_))) (by (repeat' (first | exact trivial | exact rfl | exact rowsF fun _ => rfl | refine And.intro ?_ ?_))) (by (repeat' (first | exact trivial | exact rfl | exact vwOk_clo rfl | exact rowsC fun _ => rfl | exact rowsC2 fun _ => rfl | exact rowsC1 (fun _ => rfl) rfl | refine And.intro ?_ ?_ | refine vwOk_ag ?_ | refine vwOk_cl ?_))) ?_; (try simp (disch := omega) only [push_cast, seval, hN, e6, e7]))
        | ((with_reducible show pcall _ _ _ _ _ _); refine pcall_RGf (g := 100) (callable_of Tryd.func100 rfl rfl) [?_, ?_] ?_ ?_ ?_ (sL3Block_q st _ _ _ lr z9 hl hkk hlr) ?_; rotate_left 2; (· ((try simp (disch := omega) only [push_cast, seval]); (repeat' (first | exact trivial | exact rfl | refine And.intro ?_ ?_ | omega)))); (· (repeat' (first | exact trivial | refine And.intro ?_ ?_ | exact ⟨_, rfl⟩ | (simp (disch := omega) only [push_cast, seval]; done) | exact rfl))); (· exact rfl); rotate_right 1; rotate_left 1; (all_goals (try (first | omega | exact (show _ = _ by assumption)))); (try simp (disch := omega) only [push_cast, seval, hN, e6, e7]))
        | ((with_reducible refine And.intro ?_ ?_); omega))
    (refine ⟨(k + 1, st', lr), by ((try dsimp only); omega), ?_, by (refine ⟨[?_, ?_], ?_, ?_, ?_, ?_⟩; rotate_left 2; (· ((try simp (disch := omega) only [push_cast, seval]); (repeat' (first | exact trivial | exact rfl | refine And.intro ?_ ?_ | omega)))); (· ((try simp (disch := omega) only [push_cast, seval]); (repeat' (first | exact trivial | exact rfl | refine And.intro ?_ ?_ | omega)))); (· exact rfl); (· (first | exact trivial | exact ⟨rfl, trivial⟩ | exact ⟨rfl, rfl, trivial⟩)))⟩)
    exact ⟨by omega, by rw [hlr, hst], by rw [show N - (k + 1) = m by omega, show 64 * (k + 1) = 64 * k + 64 by omega]; exact hgo⟩
  obtain rfl : k = N := by omega
  rw [Nat.sub_self, shaGo] at hgo
  repeat' (first
      | with_reducible refine PWp.seq ?_
      | with_reducible refine PWp.block ?_
      | with_reducible refine PWp.region okP true ?_
      | with_reducible refine PWp.draw (id := 20) okP true [0, 1, 2, 3, 4, 5, 6, 7, 8, 9, 10, 11, 12, 13, 14, 15, 16, 17, 18, 19, 20, 21, 22, 23, 24, 25, 26, 27, 28, 29] (by kernel_rfl) ?_
      | with_reducible (first | refine pops_nil ?_ | refine pany_nil ?_ | refine pthen_normal ?_ | refine pblock_normal ?_ | refine pthen_ret ?_ | refine pblock_ret ?_ | refine pthen_exit ?_ | refine pblock_here ?_ | refine pblock_there rfl ?_ | refine PWp.ret ?_ | refine PWp.exit ?_ | refine PWp.skip ?_)
      | ((with_reducible refine hK _ ?_); clear hK K)
      | ((with_reducible refine PWp.condI ?_); refine ⟨_, rfl, fun hg => ?_, fun hg => ?_⟩ <;> first | (exact absurd hg (by decide)) | ((try simp only [Bool.not_true, Bool.not_false] at hg); (try simp only [hg]); (try simp only [push_cast] at hg); (try exact absurd trivial hg); (try (exfalso; omega))))
      | ((first | ((with_reducible refine pops_guard0 ?_); refine ⟨_, rfl, fun K hK => ⟨rfl, ?_⟩⟩) | ((with_reducible refine pD_g0 ?_); refine ⟨_, rfl, rfl, ?_⟩)); (try simp (disch := omega) only [push_cast, seval, hN]))
      | ((with_reducible refine pany_I ?_); refine ⟨_, rfl, fun K hK => ?_⟩)
      | ((with_reducible refine pops_plain fun K hK => popO_row ?_); refine ⟨_, _, _, _, _, rfl, rfl, rfl, rfl, rfl, ?_⟩; simp (disch := omega) only [push_cast, seval, hN])
      | ((with_reducible refine pD_x ?_ (popO_row ?_)); exact rfl; refine ⟨_, _, _, _, _, rfl, rfl, rfl, rfl, rfl, ?_⟩; simp (disch := omega) only [push_cast, seval, hN])
      | ((with_reducible refine pops_plain fun K hK => ?_); simp (disch := omega) only [push_cast, seval, hN])
      | ((first | ((with_reducible refine pD_y ?_ ?_); exact rfl) | ((with_reducible refine pD_x ?_ ?_); exact rfl)); simp (disch := omega) only [push_cast, seval, hN])
      | ((first | ((with_reducible refine pops_guard ?_); refine ⟨_, rfl, fun K hK => ⟨_, rfl, fun hg => ?_, fun hg => ?_⟩⟩) | ((first | ((with_reducible refine pD_gy ?_ ?_); exact rfl) | ((with_reducible refine pD_gx ?_ ?_); exact rfl)); refine ⟨_, rfl, _, rfl, fun hg => ?_, fun hg => ?_⟩)) <;> first | (exact absurd hg (by decide)) | ((try simp only [Bool.not_true, Bool.not_false] at hg); (try simp only [hg]); (try simp only [push_cast] at hg); (try exact absurd trivial hg); (try (exfalso; omega)); (try simp (disch := omega) only [push_cast, seval, hN])))
      | ((with_reducible show pcall _ _ _ _ _ _); refine pcall_RH (g := 99) (callable_of Tryd.func99 rfl rfl) (sL3Keys_q _ (by assumption)) (by (repeat' (first | exact trivial | exact rfl | exact rowsF fun _ => rfl | refine And.intro ?_ ?_))) (by (repeat' (first | exact trivial | exact rfl | exact rowsF fun _ => rfl | refine And.intro ?_ ?_))) (by (repeat' (first | exact trivial | exact rfl | exact vwOk_clo rfl | exact rowsC fun _ => rfl | exact rowsC2 fun _ => rfl | exact rowsC1 (fun _ => rfl) rfl | refine And.intro ?_ ?_ | refine vwOk_ag ?_ | refine vwOk_cl ?_))) ?_; (try simp (disch := omega) only [push_cast, seval, hN]))
      | ((with_reducible show pcall _ _ _ _ _ _); refine pcall_RGf (g := 100) (callable_of Tryd.func100 rfl rfl) [?_, ?_] ?_ ?_ ?_ (sL3Block_q st _ _ _ lr z9 hl hkk hlr) ?_; rotate_left 2; (· ((try simp (disch := omega) only [push_cast, seval]); (repeat' (first | exact trivial | exact rfl | refine And.intro ?_ ?_ | omega)))); (· (repeat' (first | exact trivial | refine And.intro ?_ ?_ | exact ⟨_, rfl⟩ | (simp (disch := omega) only [push_cast, seval]; done) | exact rfl))); (· exact rfl); rotate_right 1; rotate_left 1; (all_goals (try (first | omega | exact (show _ = _ by assumption)))); (try simp (disch := omega) only [push_cast, seval, hN]))
      | ((with_reducible refine And.intro ?_ ?_); omega))
  refine PWp.loopK (α := Nat) (fun j => [(7, .own 0), (10, .own 1), (11, .val (.int .i64 (j : Int)))]) [0, 1, 3, 4, 5, 6, 8, 9, 12, 13, 14, 15, 16, 17, 18, 19, 20, 21, 22, 23, 24, 25, 26, 27, 28, 29, 30, 31, 32, 33, 34, 35, 36, 37, 38, 39, 40, 41, 42, 43, 44, 45, 46, 47, 48, 49, 50, 51, 52, 53, 54, 55, 56, 57, 58, 59, 60, 61, 62, 63, 64, 65, 66, 67, 68, 69, 70, 71, 72, 73, 74, 75, 76, 77, 78, 79, 80, 81, 82, 83, 84, 85, 86, 87, 88, 89, 90, 91, 92, 93] (fun j => [some (.row 3 1 (l.map pW)), some (.row 5 1 ((outL (l.take j)).map pU8))]) (fun j => j ≤ 8 ∧ l = listS st) (fun j => 8 - j) (0) (⟨Nat.zero_le _, hl⟩) (by (refine ⟨[?_, ?_], ?_, ?_, ?_, ?_⟩; rotate_left 2; (· ((try simp (disch := omega) only [push_cast, seval]); (repeat' (first | exact trivial | exact rfl | refine And.intro ?_ ?_ | omega)))); (· ((try simp (disch := omega) only [push_cast, seval]); (repeat' (first | exact trivial | exact rfl | refine And.intro ?_ ?_ | omega)))); (· exact rfl); (· (first | exact trivial | exact ⟨rfl, trivial⟩ | exact ⟨rfl, rfl, trivial⟩)))) ?_
  intro j ρ hI
  (try dsimp only at hI)
  refine PWp.at (tm' := ?_) (H' := ?_) ?_ ?_ ?_; rotate_left 2; (· ((try simp only [push_cast, seval]); exact rfl)); (· ((try dsimp only); exact rfl))
  have hl8 : l.length = 8 := by rw [hI.2]; rfl
  obtain ⟨hj, -⟩ := hI
  by_cases hlt3 : j < 8
  · obtain ⟨x, hx⟩ : ∃ x, l[j]? = some x := ⟨_, List.getElem?_eq_getElem (by omega)⟩
    have hx32 := x.isLt
    have hrow : List.map pU8 (outL (List.take j l)) ++ [[PV.val (.int .u8 ((x.toNat : Int) / 16777216 % 256))], [PV.val (.int .u8 ((x.toNat : Int) / 65536 % 256 % 256))], [PV.val (.int .u8 ((x.toNat : Int) / 256 % 256 % 256))], [PV.val (.int .u8 ((x.toNat : Int) % 256 % 256))]] = List.map pU8 (outL (List.take (j + 1) l)) := by
      rw [outL_snoc hx, List.map_append, fx4_rows]
    have hol : (outL (List.take j l)).length = 4 * j := by rw [outL_len, List.length_take]; omega
    repeat' (first
        | with_reducible refine PWp.seq ?_
        | with_reducible refine PWp.block ?_
        | with_reducible refine PWp.region okP true ?_
        | with_reducible refine PWp.draw (id := 20) okP true [0, 1, 2, 3, 4, 5, 6, 7, 8, 9, 10, 11, 12, 13, 14, 15, 16, 17, 18, 19, 20, 21, 22, 23, 24, 25, 26, 27, 28, 29] (by kernel_rfl) ?_
        | with_reducible (first | refine pops_nil ?_ | refine pany_nil ?_ | refine pthen_normal ?_ | refine pblock_normal ?_ | refine pthen_ret ?_ | refine pblock_ret ?_ | refine pthen_exit ?_ | refine pblock_here ?_ | refine pblock_there rfl ?_ | refine PWp.ret ?_ | refine PWp.exit ?_ | refine PWp.skip ?_)
        | ((with_reducible refine hK _ ?_); clear hK K)
        | ((with_reducible refine PWp.condI ?_); refine ⟨_, rfl, fun hg => ?_, fun hg => ?_⟩ <;> first | (exact absurd hg (by decide)) | ((try simp only [Bool.not_true, Bool.not_false] at hg); (try simp only [hg]); (try simp only [push_cast] at hg); (try exact absurd trivial hg); (try (exfalso; omega))))
        | ((first | ((with_reducible refine pops_guard0 ?_); refine ⟨_, rfl, fun K hK => ⟨rfl, ?_⟩⟩) | ((with_reducible refine pD_g0 ?_); refine ⟨_, rfl, rfl, ?_⟩)); (try simp (disch := omega) only [push_cast, seval, hx, pW, u_nat, hol]))
        | ((with_reducible refine pany_I ?_); refine ⟨_, rfl, fun K hK => ?_⟩)
        | ((with_reducible refine pops_plain fun K hK => popO_row ?_); refine ⟨_, _, _, _, _, rfl, rfl, rfl, rfl, rfl, ?_⟩; simp (disch := omega) only [push_cast, seval, hx, pW, u_nat, hol])
        | ((with_reducible refine pD_x ?_ (popO_row ?_)); exact rfl; refine ⟨_, _, _, _, _, rfl, rfl, rfl, rfl, rfl, ?_⟩; simp (disch := omega) only [push_cast, seval, hx, pW, u_nat, hol])
        | ((with_reducible refine pops_plain fun K hK => ?_); simp (disch := omega) only [push_cast, seval, hx, pW, u_nat, hol])
        | ((first | ((with_reducible refine pD_y ?_ ?_); exact rfl) | ((with_reducible refine pD_x ?_ ?_); exact rfl)); simp (disch := omega) only [push_cast, seval, hx, pW, u_nat, hol])
        | ((first | ((with_reducible refine pops_guard ?_); refine ⟨_, rfl, fun K hK => ⟨_, rfl, fun hg => ?_, fun hg => ?_⟩⟩) | ((first | ((with_reducible refine pD_gy ?_ ?_); exact rfl) | ((with_reducible refine pD_gx ?_ ?_); exact rfl)); refine ⟨_, rfl, _, rfl, fun hg => ?_, fun hg => ?_⟩)) <;> first | (exact absurd hg (by decide)) | ((try simp only [Bool.not_true, Bool.not_false] at hg); (try simp only [hg]); (try simp only [push_cast] at hg); (try exact absurd trivial hg); (try (exfalso; omega)); (try simp (disch := omega) only [push_cast, seval, hx, pW, u_nat, hol])))
        | ((with_reducible show pcall _ _ _ _ _ _); refine pcall_RH (g := 99) (callable_of Tryd.func99 rfl rfl) (sL3Keys_q _ (by assumption)) (by (repeat' (first | exact trivial | exact rfl | exact rowsF fun _ => rfl | refine And.intro ?_ ?_))) (by (repeat' (first | exact trivial | exact rfl | exact rowsF fun _ => rfl | refine And.intro ?_ ?_))) (by (repeat' (first | exact trivial | exact rfl | exact vwOk_clo rfl | exact rowsC fun _ => rfl | exact rowsC2 fun _ => rfl | exact rowsC1 (fun _ => rfl) rfl | refine And.intro ?_ ?_ | refine vwOk_ag ?_ | refine vwOk_cl ?_))) ?_; (try simp (disch := omega) only [push_cast, seval, hx, pW, u_nat, hol]))
        | ((with_reducible show pcall _ _ _ _ _ _); refine pcall_RGf (g := 100) (callable_of Tryd.func100 rfl rfl) [?_, ?_] ?_ ?_ ?_ (sL3Block_q st _ _ _ lr z9 hl hkk hlr) ?_; rotate_left 2; (· ((try simp (disch := omega) only [push_cast, seval]); (repeat' (first | exact trivial | exact rfl | refine And.intro ?_ ?_ | omega)))); (· (repeat' (first | exact trivial | refine And.intro ?_ ?_ | exact ⟨_, rfl⟩ | (simp (disch := omega) only [push_cast, seval]; done) | exact rfl))); (· exact rfl); rotate_right 1; rotate_left 1; (all_goals (try (first | omega | exact (show _ = _ by assumption)))); (try simp (disch := omega) only [push_cast, seval, hx, pW, u_nat, hol]))
        | ((with_reducible refine And.intro ?_ ?_); omega))
    (refine ⟨j + 1, by ((try dsimp only); omega), ?_, by (refine ⟨[?_, ?_], ?_, ?_, ?_, ?_⟩; rotate_left 2; (· ((try simp (disch := omega) only [push_cast, seval, hrow]); (repeat' (first | exact trivial | exact rfl | refine And.intro ?_ ?_ | omega)))); (· ((try simp (disch := omega) only [push_cast, seval, hrow]); (repeat' (first | exact trivial | exact rfl | refine And.intro ?_ ?_ | omega)))); (· exact rfl); (· (first | exact trivial | exact ⟨rfl, trivial⟩ | exact ⟨rfl, rfl, trivial⟩)))⟩)
    exact ⟨hlt3, hl⟩
  obtain rfl : j = 8 := by omega
  have ht8 : l.take 8 = l := List.take_of_length_le (by omega)
  repeat' (first
      | with_reducible refine PWp.seq ?_
      | with_reducible refine PWp.block ?_
      | with_reducible refine PWp.region okP true ?_
      | with_reducible refine PWp.draw (id := 20) okP true [0, 1, 2, 3, 4, 5, 6, 7, 8, 9, 10, 11, 12, 13, 14, 15, 16, 17, 18, 19, 20, 21, 22, 23, 24, 25, 26, 27, 28, 29] (by kernel_rfl) ?_
      | with_reducible (first | refine pops_nil ?_ | refine pany_nil ?_ | refine pthen_normal ?_ | refine pblock_normal ?_ | refine pthen_ret ?_ | refine pblock_ret ?_ | refine pthen_exit ?_ | refine pblock_here ?_ | refine pblock_there rfl ?_ | refine PWp.ret ?_ | refine PWp.exit ?_ | refine PWp.skip ?_)
      | ((with_reducible refine hK _ ?_); clear hK K)
      | ((with_reducible refine PWp.condI ?_); refine ⟨_, rfl, fun hg => ?_, fun hg => ?_⟩ <;> first | (exact absurd hg (by decide)) | ((try simp only [Bool.not_true, Bool.not_false] at hg); (try simp only [hg]); (try simp only [push_cast] at hg); (try exact absurd trivial hg); (try (exfalso; omega))))
      | ((first | ((with_reducible refine pops_guard0 ?_); refine ⟨_, rfl, fun K hK => ⟨rfl, ?_⟩⟩) | ((with_reducible refine pD_g0 ?_); refine ⟨_, rfl, rfl, ?_⟩)); (try simp (disch := omega) only [push_cast, seval, ht8]))
      | ((with_reducible refine pany_I ?_); refine ⟨_, rfl, fun K hK => ?_⟩)
      | ((with_reducible refine pops_plain fun K hK => popO_row ?_); refine ⟨_, _, _, _, _, rfl, rfl, rfl, rfl, rfl, ?_⟩; simp (disch := omega) only [push_cast, seval, ht8])
      | ((with_reducible refine pD_x ?_ (popO_row ?_)); exact rfl; refine ⟨_, _, _, _, _, rfl, rfl, rfl, rfl, rfl, ?_⟩; simp (disch := omega) only [push_cast, seval, ht8])
      | ((with_reducible refine pops_plain fun K hK => ?_); simp (disch := omega) only [push_cast, seval, ht8])
      | ((first | ((with_reducible refine pD_y ?_ ?_); exact rfl) | ((with_reducible refine pD_x ?_ ?_); exact rfl)); simp (disch := omega) only [push_cast, seval, ht8])
      | ((first | ((with_reducible refine pops_guard ?_); refine ⟨_, rfl, fun K hK => ⟨_, rfl, fun hg => ?_, fun hg => ?_⟩⟩) | ((first | ((with_reducible refine pD_gy ?_ ?_); exact rfl) | ((with_reducible refine pD_gx ?_ ?_); exact rfl)); refine ⟨_, rfl, _, rfl, fun hg => ?_, fun hg => ?_⟩)) <;> first | (exact absurd hg (by decide)) | ((try simp only [Bool.not_true, Bool.not_false] at hg); (try simp only [hg]); (try simp only [push_cast] at hg); (try exact absurd trivial hg); (try (exfalso; omega)); (try simp (disch := omega) only [push_cast, seval, ht8])))
      | ((with_reducible show pcall _ _ _ _ _ _); refine pcall_RH (g := 99) (callable_of Tryd.func99 rfl rfl) (sL3Keys_q _ (by assumption)) (by (repeat' (first | exact trivial | exact rfl | exact rowsF fun _ => rfl | refine And.intro ?_ ?_))) (by (repeat' (first | exact trivial | exact rfl | exact rowsF fun _ => rfl | refine And.intro ?_ ?_))) (by (repeat' (first | exact trivial | exact rfl | exact vwOk_clo rfl | exact rowsC fun _ => rfl | exact rowsC2 fun _ => rfl | exact rowsC1 (fun _ => rfl) rfl | refine And.intro ?_ ?_ | refine vwOk_ag ?_ | refine vwOk_cl ?_))) ?_; (try simp (disch := omega) only [push_cast, seval, ht8]))
      | ((with_reducible show pcall _ _ _ _ _ _); refine pcall_RGf (g := 100) (callable_of Tryd.func100 rfl rfl) [?_, ?_] ?_ ?_ ?_ (sL3Block_q st _ _ _ lr z9 hl hkk hlr) ?_; rotate_left 2; (· ((try simp (disch := omega) only [push_cast, seval]); (repeat' (first | exact trivial | exact rfl | refine And.intro ?_ ?_ | omega)))); (· (repeat' (first | exact trivial | refine And.intro ?_ ?_ | exact ⟨_, rfl⟩ | (simp (disch := omega) only [push_cast, seval]; done) | exact rfl))); (· exact rfl); rotate_right 1; rotate_left 1; (all_goals (try (first | omega | exact (show _ = _ by assumption)))); (try simp (disch := omega) only [push_cast, seval, ht8]))
      | ((with_reducible refine And.intro ?_ ?_); omega))
  ((first | with_reducible (first | refine pendV1 ?_ ?_ ?_ | refine pendV2 ?_ ?_ ?_ | refine pendV3 ?_ ?_ ?_ | refine pendV0 ?_ ?_ ?_) | refine pendVG ?_ ?_ ?_); (· (first | exact .inl rfl | exact .inr rfl)); rotate_left 1; (· exact rfl); (try (apply Exists.intro; apply And.intro; (· repeat' (first | exact presults_nil | apply presults_tmp | (apply presults_agg; (· exact rfl); (· exact rfl); (· exact rfl); (· exact rfl); (· exact rfl); (· first | exact Nat.le_refl _ | decide | simp)) | (apply presults_one; (· exact rfl); (· exact rfl); (· exact rfl); (· exact rfl); (· exact rfl)))))); (try simp only [push_cast, seval]))
  rw [hl, ← outS_L, sha, hN', ← hgo]
end Go.Proofs.YtgcelmnmalfpcaaDoor
