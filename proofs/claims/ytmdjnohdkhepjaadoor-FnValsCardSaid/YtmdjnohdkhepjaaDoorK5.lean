/- Several texts, one behind the other. -/
import Derived.Test.YtmdjnohdkhepjaaDoorP4
import Derived.Test.YtmdjnohdkhepjaaDoorShaL
import Derived.Test.YtmdjnohdkhepjaaDoorK1
/- Walks on the pure machine: the reference's hash. -/
namespace Go.Proofs.YtmdjnohdkhepjaaDoor
set_option linter.unusedSimpArgs false
set_option linter.unusedVariables false
open Go.RowKit
set_option maxRecDepth 100000

/-- A word as an element. -/
def pW (x : W32) : List PV := [.val (.int .i64 (u x))]
theorem pW_clo (x : W32) : (pW x).all cloC = true := rfl
theorem pW_ren {φ : List Nat} {n : Nat} (l : List W32) : (l.map pW).map (renL φ n) = l.map pW := rows_flat pW_clo l
attribute [push_cast] pW_ren
/-- A row of one's own that holds words. -/
theorem row_words {M : Mem} {h : Home} {w : World} {v : Value} {e : TypeId} {l : List W32} (r : BR M h w v (.row e 1 (l.map pW))) (hl : l ≠ []) : ∃ g c, v = .slice (some ⟨g, 0, none⟩) l.length c ∧ RowI w g l := by
  obtain ⟨-, us, q1, q2, q3, q4⟩ := r
  have hu : us = l.map vI := by
    have hlen : us.length = l.length := by have := q1.1; simpa using this
    apply List.ext_getElem?
    intro o
    by_cases ho : o < l.length
    · have hx : l[o]? = some l[o] := List.getElem?_eq_getElem ho
      have hu' : us[o]? = some us[o] := List.getElem?_eq_getElem (by omega)
      have := q4 o 0 (pW l[o]) (.val (.int .i64 (u l[o]))) us[o] (by rw [List.getElem?_map, hx]; rfl) rfl (by simp)
      rw [hu', vr_val this, List.getElem?_map, hx]
      rfl
    · rw [List.getElem?_eq_none (by omega), List.getElem?_eq_none (by simp; omega)]
  subst hu
  rw [List.length_map] at q1
  rcases q1.2 with ⟨_, h0⟩ | ⟨g, cap, cur, hv, hb⟩
  · exact absurd (List.eq_nil_of_length_eq_zero h0) hl
  · subst hv
    exact ⟨g, cap, rfl, RowI.of_own (n := l.length) (c := cap) q1⟩
theorem sL3Block_p (hv : HSt) (s : ByteArray) (hs : s.size = 64) : PCalls Tryd.prog 83 [.own 0, .val (.string s), .own 1] [some (.row 3 1 ((listS hv).map pW)), some (.row 3 1 (shaK.map pW))]
    (RH (.own 2) [some (.row 3 1 ((listS hv).map pW)), some (.row 3 1 (shaK.map pW)), some (.row 3 1 ((listS (blk hv s 0)).map pW))]) := by
  intro M hh w vs I rv
  obtain ⟨rl, rg⟩ := rv
  obtain ⟨v0, v1, v2, rfl⟩ : ∃ a b c, vs = #[a, b, c] := by
    match vs, rl with
    | ⟨[a, b, c]⟩, _ => exact ⟨a, b, c, rfl⟩
  have r0 := rg 0 _ v0 rfl rfl
  have r1 := vr_val (rg 1 _ v1 rfl rfl)
  have r2 := rg 2 _ v2 rfl rfl
  subst r1
  obtain ⟨x0, a0, b0⟩ := I.blk 0 _ rfl
  obtain ⟨x1, a1, b1⟩ := I.blk 1 _ rfl
  obtain ⟨g0, c0, rfl, R0⟩ := row_words b0 (by simp [listS])
  obtain ⟨g1, c1, rfl, R1⟩ := row_words b1 (by simp [shaK])
  have e0 : v0 = .slice (some ⟨g0, 0, none⟩) (listS hv).length c0 := by cases r0 with | own _ o n c hb => rw [a0] at hb; cases hb; rfl
  have e2 : v2 = .slice (some ⟨g1, 0, none⟩) shaK.length c1 := by cases r2 with | own _ o n c hb => rw [a1] at hb; cases hb; rfl
  subst e0
  subst e2
  refine (l3Block_any hv s g0 c0 g1 c1 w hs R0 R1).mono fun e w' ⟨b, c, h1, h2, h3⟩ => ?_
  have hfr : ∀ k, hblk (.slice (some ⟨b, 0, none⟩) 8 c) = some k → w.heap.size ≤ k := fun k hk => by
    rw [hblk_own rfl] at hk
    exact (h2.lt k hk).1
  refine ⟨_, M, upd hh 2 _, .own 2, _, h1, ⟨rfl, rfl⟩, .own _ _ _ _ upd_self, Step.push I h3 (v := .slice (some ⟨b, 0, none⟩) 8 c) ⟨⟨_, _, _, rfl⟩, (listS (blk hv s 0)).map vI, own_less (Nat.zero_le _) h2, fun row hr => ?_, fun x hx => ?_, fun i j row pv x p1 p2 p3 => ?_⟩ hfr⟩
  · obtain ⟨y, _, rfl⟩ := List.mem_map.1 hr
    rfl
  · obtain ⟨y, _, rfl⟩ := List.mem_map.1 hx
    rfl
  · rw [List.getElem?_map, Option.map_eq_some_iff] at p1
    obtain ⟨y, p1, rfl⟩ := p1
    cases j with
    | zero =>
      simp [pW] at p2
      subst p2
      rw [Nat.mul_one, Nat.add_zero, List.getElem?_map, p1] at p3
      cases p3
      exact .val _
    | succ j => simp [pW] at p2
set_option maxHeartbeats 4000000 in
theorem sL3Keys_p : PCalls Tryd.prog 82 [] [] (RH (.own 0) [some (.row 3 1 (shaK.map pW))]) := by
  refine pcalls_ofR okP Tryd.func82 rfl ?_
  simp only [Tryd.f82, List.length_cons, List.length_nil, Nat.reduceAdd, Nat.reduceSub, List.replicate_succ, List.replicate_zero, List.cons_append, List.nil_append, List.length_map]
  repeat' (first | with_reducible refine PWp.seq ?_ | with_reducible refine PWp.block ?_ | with_reducible refine PWp.region okP true ?_ | with_reducible (first | refine pops_nil ?_ | refine pany_nil ?_ | refine pthen_normal ?_ | refine pblock_normal ?_ | refine pthen_ret ?_ | refine pblock_ret ?_ | refine pthen_exit ?_ | refine pblock_here ?_ | refine pblock_there rfl ?_ | refine PWp.ret ?_ | refine PWp.exit ?_ | refine PWp.skip ?_) | ((with_reducible refine hK _ ?_); clear hK K) | ((with_reducible refine pops_plain fun K hK => popO_row ?_); refine ⟨_, _, _, _, _, rfl, rfl, rfl, rfl, rfl, ?_⟩; simp (disch := omega) only [push_cast, seval]) | ((with_reducible refine pops_plain fun K hK => ?_); simp (disch := omega) only [push_cast, seval]) | ((with_reducible refine And.intro ?_ ?_); omega))
  ((first | with_reducible (first | refine pendH1 [?_] ?_ ?_ ?_ ?_ ?_ | refine pendH2 [?_] ?_ ?_ ?_ ?_ ?_ | refine pendH3 [?_] ?_ ?_ ?_ ?_ ?_ | refine pendH0 [?_] ?_ ?_ ?_ ?_ ?_) | refine pendHG [?_] ?_ ?_ ?_ ?_ ?_); rotate_left 1; (· (first | exact .inl rfl | exact .inr rfl)); (· ((try (apply Exists.intro; apply And.intro; (· repeat' (first | exact presults_nil | apply presults_tmp | (apply presults_agg; (· exact rfl); (· exact rfl); (· exact rfl); (· exact rfl); (· exact rfl); (· first | exact Nat.le_refl _ | decide | simp)) | (apply presults_one; (· exact rfl); (· exact rfl); (· exact rfl); (· exact rfl); (· exact rfl)))))); (try simp (disch := omega) only [push_cast, seval]); (repeat' (first | exact trivial | exact rfl | refine And.intro ?_ ?_ | omega)))); (· ((try simp (disch := omega) only [push_cast, seval]); (repeat' (first | exact trivial | exact rfl | refine And.intro ?_ ?_ | omega)))); (· exact rfl); (· first | exact trivial | exact ⟨rfl, trivial⟩ | exact ⟨rfl, rfl, trivial⟩ | exact ⟨rfl, rfl, rfl, trivial⟩))
theorem sL3Block_q (hv : HSt) (s : ByteArray) (l kl lr : List W32) (hs : s.size = 64) (e1 : l = listS hv) (e2 : kl = shaK) (e3 : lr = listS (blk hv s 0)) : PCalls Tryd.prog 83 [.own 0, .val (.string s), .own 1] [some (.row 3 1 (l.map pW)), some (.row 3 1 (kl.map pW))]
    (RH (.own 2) [some (.row 3 1 (l.map pW)), some (.row 3 1 (kl.map pW)), some (.row 3 1 (lr.map pW))]) := by
  subst e1
  subst e2
  subst e3
  exact sL3Block_p hv s hs
theorem sL3Keys_q (kl : List W32) (e2 : kl = shaK) : PCalls Tryd.prog 82 [] [] (RH (.own 0) [some (.row 3 1 (kl.map pW))]) := by
  subst e2
  exact sL3Keys_p
end Go.Proofs.YtmdjnohdkhepjaaDoor
/- Walks on the pure machine: spec.Sha. -/
namespace Go.Proofs.YtmdjnohdkhepjaaDoor
set_option linter.unusedSimpArgs false
set_option linter.unusedVariables false
open Go.RowKit
set_option maxRecDepth 100000

theorem fxL_zero {n w : Nat} (h : n < 256 ^ w) : fxL n (w + 1) = 0 :: fxL n w := by
  unfold fxL
  rw [List.range_succ_eq_map, List.map_cons, List.map_map]
  congr 1
  · rw [show w + 1 - 1 - 0 = w by omega, Nat.div_eq_of_lt h]; rfl
  · apply List.map_congr_left
    intro p hp
    simp only [Function.comp]
    congr 3
    omega
theorem fxL_len {n w : Nat} : (fxL n w).length = w := by simp [fxL]
theorem fxL_get {n w i : Nat} (h : i < w) : (fxL n w)[i]? = some (UInt8.ofNat (n / 256 ^ (w - 1 - i))) := by
  unfold fxL
  rw [List.getElem?_map, List.getElem?_range h]
  rfl
theorem u8_mod {q : Nat} : PV.val (.int .u8 ((q : Int) % 256 % 256)) = PV.val (.int .u8 (((UInt8.ofNat q).toNat : Nat) : Int)) := by
  congr 2
  simp
theorem u8_mod1 {q : Nat} : PV.val (.int .u8 ((q : Int) % 256)) = PV.val (.int .u8 (((UInt8.ofNat q).toNat : Nat) : Int)) := by
  congr 2
def outL (l : List W32) : List UInt8 := l.flatMap fun x => fxL x.toNat 4
theorem arr_app {a b : List UInt8} : (⟨a.toArray⟩ : ByteArray) ++ ⟨b.toArray⟩ = ⟨(a ++ b).toArray⟩ := by
  apply ByteArray.ext
  rw [ByteArray.data_append]
  simp
theorem outGo_L : ∀ (l : List W32) (o : List UInt8), outGo l ⟨o.toArray⟩ = ⟨(o ++ outL l).toArray⟩
  | [], o => by simp [outGo, outL]
  | x :: r, o => by
    rw [outGo, fx, arr_app, outGo_L r, List.append_assoc]; rfl
theorem outS_L (v : HSt) : outS v = ⟨(outL (listS v)).toArray⟩ := outGo_L (listS v) []
theorem listS_len (v : HSt) : (listS v).length = 8 := rfl
theorem shaK_len : shaK.length = 64 := rfl
/-- The text that is hashed, as the reference makes it. -/
theorem padT_L (s : ByteArray) (h : 8 * s.size < 256 ^ 7) : s ++ ⟨((128 :: List.replicate (padN s.size) 0) ++ fxL (8 * s.size) 8).toArray⟩ = padT s := by
  unfold padT
  rw [fxL_zero h, fx, zerosB]
  have e1 : (⟨#[128]⟩ : ByteArray) = ⟨([128] : List UInt8).toArray⟩ := rfl
  rw [e1, ByteArray.append_assoc, ByteArray.append_assoc, arr_app, arr_app]
  congr 3
  rw [List.replicate_succ']
  simp
theorem outL_len : ∀ l : List W32, (outL l).length = 4 * l.length
  | [] => rfl
  | x :: r => by
    have := outL_len r
    simp only [outL, List.flatMap_cons, List.length_append, fxL_len, List.length_cons] at *
    omega
theorem outL_snoc {l : List W32} {j : Nat} {x : W32} (h : l[j]? = some x) : outL (l.take (j + 1)) = outL (l.take j) ++ fxL x.toNat 4 := by
  rw [List.take_add_one, h]
  simp [outL]
theorem fx4_rows (n : Nat) : (fxL n 4).map pU8 = [[PV.val (.int .u8 ((n : Int) / 16777216 % 256))], [PV.val (.int .u8 ((n : Int) / 65536 % 256 % 256))], [PV.val (.int .u8 ((n : Int) / 256 % 256 % 256))], [PV.val (.int .u8 ((n : Int) % 256 % 256))]] := by
  have e : fxL n 4 = [UInt8.ofNat (n / 16777216), UInt8.ofNat (n / 65536), UInt8.ofNat (n / 256), UInt8.ofNat (n / 1)] := rfl
  rw [e, Nat.div_one]
  simp only [List.map_cons, List.map_nil, pU8]
  rw [← u8_mod1, ← u8_mod1, ← u8_mod1, ← u8_mod1]
  simp
set_option maxHeartbeats 1500000 in
theorem sSha_p (s : ByteArray) (hs : s.size ≤ 1099511627776) : PCalls Tryd.prog 65 [.val (.string s)] [] (RV (.val (.string (sha s)))) := by
  have hp : padN s.size < 64 := by unfold padN; omega
  have hpm : (s.size + 9 + padN s.size) % 64 = 0 := by unfold padN; omega
  have z7 := padT_size s
  have z8 := padT_mod s
  obtain ⟨N, hN⟩ : ∃ N, (padT s).size = 64 * N := ⟨(padT s).size / 64, by omega⟩
  have hN' : (padT s).size / 64 = N := by omega
  have hpad : s ++ ⟨(128 :: (List.replicate (padN s.size) 0 ++ fxL (8 * s.size) 8)).toArray⟩ = padT s := padT_L s (by simp; omega)
  have z3 := ByteArray.size_append (a := s) (b := ⟨(128 :: (List.replicate (padN s.size) 0 ++ fxL (8 * s.size) 8)).toArray⟩)
  rw [hpad] at z3
  obtain ⟨kk, hkk⟩ : ∃ l, l = shaK := ⟨_, rfl⟩
  have hkl : kk.length = 64 := by rw [hkk]; rfl
  refine pcalls_ofR okP Tryd.func65 rfl ?_
  simp only [Tryd.f65, List.length_cons, List.length_nil, Nat.reduceAdd, Nat.reduceSub, List.replicate_succ, List.replicate_zero, List.cons_append, List.nil_append, List.length_map]
  repeat' (first | with_reducible refine PWp.seq ?_ | with_reducible refine PWp.block ?_ | with_reducible refine PWp.region okP true ?_ | with_reducible refine PWp.draw (id := 20) okP true [0, 1, 2, 3, 4, 5, 6, 7, 8, 9, 10, 11, 12, 13, 14, 15, 16, 17, 18, 19, 20, 21, 22, 23, 24, 25, 26, 27, 28, 29] (by kernel_rfl) ?_ | with_reducible (first | refine pops_nil ?_ | refine pany_nil ?_ | refine pthen_normal ?_ | refine pblock_normal ?_ | refine pthen_ret ?_ | refine pblock_ret ?_ | refine pthen_exit ?_ | refine pblock_here ?_ | refine pblock_there rfl ?_ | refine PWp.ret ?_ | refine PWp.exit ?_ | refine PWp.skip ?_) | ((with_reducible refine hK _ ?_); clear hK K) | ((with_reducible refine PWp.condI ?_); refine ⟨_, rfl, fun hg => ?_, fun hg => ?_⟩ <;> first | (exact absurd hg (by decide)) | ((try simp only [Bool.not_true, Bool.not_false] at hg); (try simp only [hg]); (try simp only [push_cast] at hg); (try exact absurd trivial hg); (try (exfalso; omega)))) | ((with_reducible refine pany_I ?_); refine ⟨_, rfl, fun K hK => ?_⟩) | ((with_reducible refine pops_plain fun K hK => popO_row ?_); refine ⟨_, _, _, _, _, rfl, rfl, rfl, rfl, rfl, ?_⟩; simp (disch := omega) only [push_cast, seval]) | ((with_reducible refine pD_x ?_ (popO_row ?_)); exact rfl; refine ⟨_, _, _, _, _, rfl, rfl, rfl, rfl, rfl, ?_⟩; simp (disch := omega) only [push_cast, seval]) | ((with_reducible refine pops_plain fun K hK => ?_); simp (disch := omega) only [push_cast, seval]) | ((first | ((with_reducible refine pD_y ?_ ?_); exact rfl) | ((with_reducible refine pD_x ?_ ?_); exact rfl)); simp (disch := omega) only [push_cast, seval]) | ((with_reducible show pcall _ _ _ _ _ _); (first | (refine pcH (g := 82) (callable_of Tryd.func82 rfl rfl) (sL3Keys_q _ (by assumption)) ?_) | (refine pcall_RGf (g := 83) (callable_of Tryd.func83 rfl rfl) [?_, ?_] ?_ ?_ ?_ (sL3Block_q ?_ ?_ ?_ ?_ ?_ ?_ ?_ ?_ ?_) ?_; rotate_left 2; (· ((try simp (disch := omega) only [push_cast, seval]); (repeat' (first | exact trivial | exact rfl | refine And.intro ?_ ?_ | omega)))); (· (repeat' (first | exact trivial | refine And.intro ?_ ?_ | exact ⟨_, rfl⟩ | (simp (disch := omega) only [push_cast, seval]; done) | exact rfl))); (· exact rfl); rotate_right 1; rotate_left 1; (all_goals (try (first | omega | exact (show _ = _ by assumption)))))); (try simp (disch := omega) only [push_cast, seval])) | ((with_reducible refine And.intro ?_ ?_); omega))
  refine PWp.loopK (α := Nat) (fun z => [(4, .own 0)]) [1, 12, 13, 14, 15, 16, 17, 18, 19, 20, 21, 22, 23] (fun z => [some (.row 5 1 ((128 :: List.replicate z 0).map pU8))]) (fun z => z ≤ padN s.size) (fun z => padN s.size - z) (0) (Nat.zero_le _) (by (refine ⟨[?_], ?_, ?_, ?_, ?_⟩; rotate_left 1; (· ((try simp (disch := omega) only [push_cast, seval, pU8, List.replicate_zero]); (repeat' (first | exact trivial | exact rfl | refine And.intro ?_ ?_ | omega)))); (· ((try simp (disch := omega) only [push_cast, seval, pU8, List.replicate_zero]); (repeat' (first | exact trivial | exact rfl | refine And.intro ?_ ?_ | omega)))); (· exact rfl); (· (first | exact trivial | exact ⟨rfl, trivial⟩ | exact ⟨rfl, rfl, trivial⟩)))) ?_
  intro z ρ hI
  (try dsimp only at hI)
  refine PWp.at (tm' := ?_) (H' := ?_) ?_ ?_ ?_; rotate_left 2; (· ((try simp only [push_cast, seval]); exact rfl)); (· ((try dsimp only); exact rfl))
  by_cases hlt : z < padN s.size
  · have hz : List.map pU8 (List.replicate z 0) ++ [[PV.val (.int .u8 0)]] = List.map pU8 (List.replicate (z + 1) 0) := by
      rw [List.replicate_succ', List.map_append]; rfl
    repeat' (first | with_reducible refine PWp.seq ?_ | with_reducible refine PWp.block ?_ | with_reducible refine PWp.region okP true ?_ | with_reducible refine PWp.draw (id := 20) okP true [0, 1, 2, 3, 4, 5, 6, 7, 8, 9, 10, 11, 12, 13, 14, 15, 16, 17, 18, 19, 20, 21, 22, 23, 24, 25, 26, 27, 28, 29] (by kernel_rfl) ?_ | with_reducible (first | refine pops_nil ?_ | refine pany_nil ?_ | refine pthen_normal ?_ | refine pblock_normal ?_ | refine pthen_ret ?_ | refine pblock_ret ?_ | refine pthen_exit ?_ | refine pblock_here ?_ | refine pblock_there rfl ?_ | refine PWp.ret ?_ | refine PWp.exit ?_ | refine PWp.skip ?_) | ((with_reducible refine hK _ ?_); clear hK K) | ((with_reducible refine PWp.condI ?_); refine ⟨_, rfl, fun hg => ?_, fun hg => ?_⟩ <;> first | (exact absurd hg (by decide)) | ((try simp only [Bool.not_true, Bool.not_false] at hg); (try simp only [hg]); (try simp only [push_cast] at hg); (try exact absurd trivial hg); (try (exfalso; omega)))) | ((with_reducible refine pany_I ?_); refine ⟨_, rfl, fun K hK => ?_⟩) | ((with_reducible refine pops_plain fun K hK => popO_row ?_); refine ⟨_, _, _, _, _, rfl, rfl, rfl, rfl, rfl, ?_⟩; simp (disch := omega) only [push_cast, seval, List.length_replicate]) | ((with_reducible refine pD_x ?_ (popO_row ?_)); exact rfl; refine ⟨_, _, _, _, _, rfl, rfl, rfl, rfl, rfl, ?_⟩; simp (disch := omega) only [push_cast, seval, List.length_replicate]) | ((with_reducible refine pops_plain fun K hK => ?_); simp (disch := omega) only [push_cast, seval, List.length_replicate]) | ((first | ((with_reducible refine pD_y ?_ ?_); exact rfl) | ((with_reducible refine pD_x ?_ ?_); exact rfl)); simp (disch := omega) only [push_cast, seval, List.length_replicate]) | ((with_reducible show pcall _ _ _ _ _ _); (first | (refine pcH (g := 82) (callable_of Tryd.func82 rfl rfl) (sL3Keys_q _ (by assumption)) ?_) | (refine pcall_RGf (g := 83) (callable_of Tryd.func83 rfl rfl) [?_, ?_] ?_ ?_ ?_ (sL3Block_q ?_ ?_ ?_ ?_ ?_ ?_ ?_ ?_ ?_) ?_; rotate_left 2; (· ((try simp (disch := omega) only [push_cast, seval]); (repeat' (first | exact trivial | exact rfl | refine And.intro ?_ ?_ | omega)))); (· (repeat' (first | exact trivial | refine And.intro ?_ ?_ | exact ⟨_, rfl⟩ | (simp (disch := omega) only [push_cast, seval]; done) | exact rfl))); (· exact rfl); rotate_right 1; rotate_left 1; (all_goals (try (first | omega | exact (show _ = _ by assumption)))))); (try simp (disch := omega) only [push_cast, seval, List.length_replicate])) | ((with_reducible refine And.intro ?_ ?_); omega))
    (refine ⟨z + 1, by ((try dsimp only); omega), ?_, by (refine ⟨[?_], ?_, ?_, ?_, ?_⟩; rotate_left 1; (· ((try simp (disch := omega) only [push_cast, seval, hz]); (repeat' (first | exact trivial | exact rfl | refine And.intro ?_ ?_ | omega)))); (· ((try simp (disch := omega) only [push_cast, seval, hz]); (repeat' (first | exact trivial | exact rfl | refine And.intro ?_ ?_ | omega)))); (· exact rfl); (· (first | exact trivial | exact ⟨rfl, trivial⟩ | exact ⟨rfl, rfl, trivial⟩)))⟩)
    exact hlt
  obtain rfl : z = padN s.size := by omega
  have e0 : ¬ ((s.size : Int) + ((padN s.size : Int) + 1)) % 64 ≠ 56 := by omega
  repeat' (first | with_reducible refine PWp.seq ?_ | with_reducible refine PWp.block ?_ | with_reducible refine PWp.region okP true ?_ | with_reducible refine PWp.draw (id := 20) okP true [0, 1, 2, 3, 4, 5, 6, 7, 8, 9, 10, 11, 12, 13, 14, 15, 16, 17, 18, 19, 20, 21, 22, 23, 24, 25, 26, 27, 28, 29] (by kernel_rfl) ?_ | with_reducible (first | refine pops_nil ?_ | refine pany_nil ?_ | refine pthen_normal ?_ | refine pblock_normal ?_ | refine pthen_ret ?_ | refine pblock_ret ?_ | refine pthen_exit ?_ | refine pblock_here ?_ | refine pblock_there rfl ?_ | refine PWp.ret ?_ | refine PWp.exit ?_ | refine PWp.skip ?_) | ((with_reducible refine hK _ ?_); clear hK K) | ((with_reducible refine PWp.condI ?_); refine ⟨_, rfl, fun hg => ?_, fun hg => ?_⟩ <;> first | (exact absurd hg (by decide)) | ((try simp only [Bool.not_true, Bool.not_false] at hg); (try simp only [hg]); (try simp only [push_cast] at hg); (try exact absurd trivial hg); (try (exfalso; omega)))) | ((with_reducible refine pany_I ?_); refine ⟨_, rfl, fun K hK => ?_⟩) | ((with_reducible refine pops_plain fun K hK => popO_row ?_); refine ⟨_, _, _, _, _, rfl, rfl, rfl, rfl, rfl, ?_⟩; simp (disch := omega) only [push_cast, seval, List.length_replicate]) | ((with_reducible refine pD_x ?_ (popO_row ?_)); exact rfl; refine ⟨_, _, _, _, _, rfl, rfl, rfl, rfl, rfl, ?_⟩; simp (disch := omega) only [push_cast, seval, List.length_replicate]) | ((with_reducible refine pops_plain fun K hK => ?_); simp (disch := omega) only [push_cast, seval, List.length_replicate]) | ((first | ((with_reducible refine pD_y ?_ ?_); exact rfl) | ((with_reducible refine pD_x ?_ ?_); exact rfl)); simp (disch := omega) only [push_cast, seval, List.length_replicate]) | ((with_reducible show pcall _ _ _ _ _ _); (first | (refine pcH (g := 82) (callable_of Tryd.func82 rfl rfl) (sL3Keys_q _ (by assumption)) ?_) | (refine pcall_RGf (g := 83) (callable_of Tryd.func83 rfl rfl) [?_, ?_] ?_ ?_ ?_ (sL3Block_q ?_ ?_ ?_ ?_ ?_ ?_ ?_ ?_ ?_) ?_; rotate_left 2; (· ((try simp (disch := omega) only [push_cast, seval]); (repeat' (first | exact trivial | exact rfl | refine And.intro ?_ ?_ | omega)))); (· (repeat' (first | exact trivial | refine And.intro ?_ ?_ | exact ⟨_, rfl⟩ | (simp (disch := omega) only [push_cast, seval]; done) | exact rfl))); (· exact rfl); rotate_right 1; rotate_left 1; (all_goals (try (first | omega | exact (show _ = _ by assumption)))))); (try simp (disch := omega) only [push_cast, seval, List.length_replicate])) | ((with_reducible refine And.intro ?_ ?_); omega))
  refine PWp.loopK (α := Nat) (fun i => [(4, .own 0), (5, .val (.int .i64 (i : Int)))]) [1, 12, 13, 14, 15, 16, 17, 18, 19, 20, 21, 22, 23, 24, 25, 26, 27, 28, 29, 30, 31, 32, 33, 34, 35, 36, 37, 38, 39] (fun i => [some (.row 5 1 (((128 :: List.replicate (padN s.size) 0) ++ (fxL (8 * s.size) 8).take i).map pU8))]) (fun i => i ≤ 8) (fun i => 8 - i) (0) (Nat.zero_le _) (by (refine ⟨[?_], ?_, ?_, ?_, ?_⟩; rotate_left 1; (· ((try simp (disch := omega) only [push_cast, seval]); (repeat' (first | exact trivial | exact rfl | refine And.intro ?_ ?_ | omega)))); (· ((try simp (disch := omega) only [push_cast, seval]); (repeat' (first | exact trivial | exact rfl | refine And.intro ?_ ?_ | omega)))); (· exact rfl); (· (first | exact trivial | exact ⟨rfl, trivial⟩ | exact ⟨rfl, rfl, trivial⟩)))) ?_
  intro i ρ hI
  (try dsimp only at hI)
  refine PWp.at (tm' := ?_) (H' := ?_) ?_ ?_ ?_; rotate_left 2; (· ((try simp only [push_cast, seval]); exact rfl)); (· ((try dsimp only); exact rfl))
  by_cases hlt : i < 8
  · have e1 : ((56 - 8 * (i : Int)) % 18446744073709551616).toNat = 56 - 8 * i := by omega
    obtain ⟨q, hq⟩ : ∃ q, q = 8 * s.size / 2 ^ (56 - 8 * i) := ⟨_, rfl⟩
    have e2 : ((s.size : Int) * 8).fdiv (2 ^ (56 - 8 * i)) = (q : Int) := by
      rw [Int.fdiv_eq_ediv_of_nonneg _ (by exact Int.le_of_lt (Int.pow_pos (by omega))), hq, Int.mul_comm]
      simp
    have hq2 : q ≤ 8 * s.size := by rw [hq]; exact Nat.div_le_self _ _
    have hrow : List.map pU8 (List.take i (fxL (8 * s.size) 8)) ++ [[PV.val (.int .u8 ((q : Int) % 256 % 256))]] = List.map pU8 (List.take (i + 1) (fxL (8 * s.size) 8)) := by
      rw [u8_mod, List.take_add_one, fxL_get hlt, List.map_append]
      congr 1
      simp only [Option.toList_some, List.map_cons, List.map_nil, pU8]
      rw [hq, show (256 : Nat) = 2 ^ 8 from rfl, ← Nat.pow_mul, show 8 * (8 - 1 - i) = 56 - 8 * i by omega]
    have hl : (fxL (8 * s.size) 8).length = 8 := fxL_len
    repeat' (first | with_reducible refine PWp.seq ?_ | with_reducible refine PWp.block ?_ | with_reducible refine PWp.region okP true ?_ | with_reducible refine PWp.draw (id := 20) okP true [0, 1, 2, 3, 4, 5, 6, 7, 8, 9, 10, 11, 12, 13, 14, 15, 16, 17, 18, 19, 20, 21, 22, 23, 24, 25, 26, 27, 28, 29] (by kernel_rfl) ?_ | with_reducible (first | refine pops_nil ?_ | refine pany_nil ?_ | refine pthen_normal ?_ | refine pblock_normal ?_ | refine pthen_ret ?_ | refine pblock_ret ?_ | refine pthen_exit ?_ | refine pblock_here ?_ | refine pblock_there rfl ?_ | refine PWp.ret ?_ | refine PWp.exit ?_ | refine PWp.skip ?_) | ((with_reducible refine hK _ ?_); clear hK K) | ((with_reducible refine PWp.condI ?_); refine ⟨_, rfl, fun hg => ?_, fun hg => ?_⟩ <;> first | (exact absurd hg (by decide)) | ((try simp only [Bool.not_true, Bool.not_false] at hg); (try simp only [hg]); (try simp only [push_cast] at hg); (try exact absurd trivial hg); (try (exfalso; omega)))) | ((with_reducible refine pany_I ?_); refine ⟨_, rfl, fun K hK => ?_⟩) | ((with_reducible refine pops_plain fun K hK => popO_row ?_); refine ⟨_, _, _, _, _, rfl, rfl, rfl, rfl, rfl, ?_⟩; simp (disch := omega) only [push_cast, seval, e1, e2, List.length_take, List.length_replicate]) | ((with_reducible refine pD_x ?_ (popO_row ?_)); exact rfl; refine ⟨_, _, _, _, _, rfl, rfl, rfl, rfl, rfl, ?_⟩; simp (disch := omega) only [push_cast, seval, e1, e2, List.length_take, List.length_replicate]) | ((with_reducible refine pops_plain fun K hK => ?_); simp (disch := omega) only [push_cast, seval, e1, e2, List.length_take, List.length_replicate]) | ((first | ((with_reducible refine pD_y ?_ ?_); exact rfl) | ((with_reducible refine pD_x ?_ ?_); exact rfl)); simp (disch := omega) only [push_cast, seval, e1, e2, List.length_take, List.length_replicate]) | ((with_reducible show pcall _ _ _ _ _ _); (first | (refine pcH (g := 82) (callable_of Tryd.func82 rfl rfl) (sL3Keys_q _ (by assumption)) ?_) | (refine pcall_RGf (g := 83) (callable_of Tryd.func83 rfl rfl) [?_, ?_] ?_ ?_ ?_ (sL3Block_q ?_ ?_ ?_ ?_ ?_ ?_ ?_ ?_ ?_) ?_; rotate_left 2; (· ((try simp (disch := omega) only [push_cast, seval]); (repeat' (first | exact trivial | exact rfl | refine And.intro ?_ ?_ | omega)))); (· (repeat' (first | exact trivial | refine And.intro ?_ ?_ | exact ⟨_, rfl⟩ | (simp (disch := omega) only [push_cast, seval]; done) | exact rfl))); (· exact rfl); rotate_right 1; rotate_left 1; (all_goals (try (first | omega | exact (show _ = _ by assumption)))))); (try simp (disch := omega) only [push_cast, seval, e1, e2, List.length_take, List.length_replicate])) | ((with_reducible refine And.intro ?_ ?_); omega))
    (refine ⟨i + 1, by ((try dsimp only); omega), ?_, by (refine ⟨[?_], ?_, ?_, ?_, ?_⟩; rotate_left 1; (· ((try simp (disch := omega) only [push_cast, seval, hrow]); (repeat' (first | exact trivial | exact rfl | refine And.intro ?_ ?_ | omega)))); (· ((try simp (disch := omega) only [push_cast, seval, hrow]); (repeat' (first | exact trivial | exact rfl | refine And.intro ?_ ?_ | omega)))); (· exact rfl); (· (first | exact trivial | exact ⟨rfl, trivial⟩ | exact ⟨rfl, rfl, trivial⟩)))⟩)
    exact hlt
  obtain rfl : i = 8 := by omega
  have ht : (fxL (8 * s.size) 8).take 8 = fxL (8 * s.size) 8 := List.take_of_length_le (by simp [fxL])
  have hby : ∀ bs, (pU8 128 :: (List.map pU8 (List.replicate (padN s.size) 0) ++ List.map pU8 (fxL (8 * s.size) 8)) = bytesL bs) = (bs = 128 :: List.replicate (padN s.size) 0 ++ fxL (8 * s.size) 8) := fun bs => by
    have := bytes_map (l := 128 :: List.replicate (padN s.size) 0 ++ fxL (8 * s.size) 8) (bs := bs)
    rw [List.map_append, List.map_cons] at this
    exact this
  repeat' (first | with_reducible refine PWp.seq ?_ | with_reducible refine PWp.block ?_ | with_reducible refine PWp.region okP true ?_ | with_reducible refine PWp.draw (id := 20) okP true [0, 1, 2, 3, 4, 5, 6, 7, 8, 9, 10, 11, 12, 13, 14, 15, 16, 17, 18, 19, 20, 21, 22, 23, 24, 25, 26, 27, 28, 29] (by kernel_rfl) ?_ | with_reducible (first | refine pops_nil ?_ | refine pany_nil ?_ | refine pthen_normal ?_ | refine pblock_normal ?_ | refine pthen_ret ?_ | refine pblock_ret ?_ | refine pthen_exit ?_ | refine pblock_here ?_ | refine pblock_there rfl ?_ | refine PWp.ret ?_ | refine PWp.exit ?_ | refine PWp.skip ?_) | ((with_reducible refine hK _ ?_); clear hK K) | ((with_reducible refine PWp.condI ?_); refine ⟨_, rfl, fun hg => ?_, fun hg => ?_⟩ <;> first | (exact absurd hg (by decide)) | ((try simp only [Bool.not_true, Bool.not_false] at hg); (try simp only [hg]); (try simp only [push_cast] at hg); (try exact absurd trivial hg); (try (exfalso; omega)))) | ((with_reducible refine pany_I ?_); refine ⟨_, rfl, fun K hK => ?_⟩) | ((with_reducible refine pops_plain fun K hK => popO_row ?_); refine ⟨_, _, _, _, _, rfl, rfl, rfl, rfl, rfl, ?_⟩; simp (disch := omega) only [push_cast, seval, ht, hby, hpad]) | ((with_reducible refine pD_x ?_ (popO_row ?_)); exact rfl; refine ⟨_, _, _, _, _, rfl, rfl, rfl, rfl, rfl, ?_⟩; simp (disch := omega) only [push_cast, seval, ht, hby, hpad]) | ((with_reducible refine pops_plain fun K hK => ?_); simp (disch := omega) only [push_cast, seval, ht, hby, hpad]) | ((first | ((with_reducible refine pD_y ?_ ?_); exact rfl) | ((with_reducible refine pD_x ?_ ?_); exact rfl)); simp (disch := omega) only [push_cast, seval, ht, hby, hpad]) | ((with_reducible show pcall _ _ _ _ _ _); (first | (refine pcH (g := 82) (callable_of Tryd.func82 rfl rfl) (sL3Keys_q _ (by assumption)) ?_) | (refine pcall_RGf (g := 83) (callable_of Tryd.func83 rfl rfl) [?_, ?_] ?_ ?_ ?_ (sL3Block_q ?_ ?_ ?_ ?_ ?_ ?_ ?_ ?_ ?_) ?_; rotate_left 2; (· ((try simp (disch := omega) only [push_cast, seval]); (repeat' (first | exact trivial | exact rfl | refine And.intro ?_ ?_ | omega)))); (· (repeat' (first | exact trivial | refine And.intro ?_ ?_ | exact ⟨_, rfl⟩ | (simp (disch := omega) only [push_cast, seval]; done) | exact rfl))); (· exact rfl); rotate_right 1; rotate_left 1; (all_goals (try (first | omega | exact (show _ = _ by assumption)))))); (try simp (disch := omega) only [push_cast, seval, ht, hby, hpad])) | ((with_reducible refine And.intro ?_ ?_); omega))
  refine PWp.loopK (α := Nat × HSt × List W32) (fun x => match x with | (k, st, l) => [(7, .own 0), (8, .own 1), (9, .val (.int .i64 (64 * (k : Int))))]) [0, 1, 3, 4, 5, 12, 13, 14, 15, 16, 17, 18, 19, 20, 21, 22, 23, 24, 25, 26, 27, 28, 29, 30, 31, 32, 33, 34, 35, 36, 37, 38, 39, 40, 41, 42, 43, 44, 45, 46, 47, 48, 49, 50, 51, 52, 53, 54, 55, 56, 57, 58, 59] (fun x => match x with | (k, st, l) => [some (.row 3 1 (l.map pW)), some (.row 3 1 (kk.map pW))]) (fun x => match x with | (k, st, l) => k ≤ N ∧ l = listS st ∧ shaGo (padT s) (N - k) st (64 * k) = shaGo (padT s) N sha0 0) (fun x => match x with | (k, st, l) => N - k) ((0, sha0, listS sha0)) (⟨Nat.zero_le _, rfl, rfl⟩) (by (refine ⟨[?_, ?_], ?_, ?_, ?_, ?_⟩; rotate_left 2; (· ((try simp (disch := omega) only [push_cast, seval]); (repeat' (first | exact trivial | exact rfl | refine And.intro ?_ ?_ | omega)))); (· ((try simp (disch := omega) only [push_cast, seval]); (repeat' (first | exact trivial | exact rfl | refine And.intro ?_ ?_ | omega)))); (· exact rfl); (· (first | exact trivial | exact ⟨rfl, trivial⟩ | exact ⟨rfl, rfl, trivial⟩)))) ?_
  intro x ρ hI; obtain ⟨k, st, l⟩ := x
  (try dsimp only at hI)
  refine PWp.at (tm' := ?_) (H' := ?_) ?_ ?_ ?_; rotate_left 2; (· ((try simp only [push_cast, seval]); exact rfl)); (· ((try dsimp only); exact rfl))
  obtain ⟨hk, hl, hgo⟩ := hI
  by_cases hlt2 : k < N
  · obtain ⟨m, hm⟩ : ∃ m, N - k = m + 1 := ⟨N - k - 1, by omega⟩
    have e6 : (64 * (k : Int)).toNat = 64 * k := by omega
    have e7 : (64 * (k : Int) + 64).toNat = 64 * k + 64 := by omega
    have z9 : ((padT s).extract (64 * k) (64 * k + 64)).size = 64 := by rw [ByteArray.size_extract]; omega
    rw [hm, shaGo] at hgo
    obtain ⟨st', hst⟩ : ∃ x, x = blk st ((padT s).extract (64 * k) (64 * k + 64)) 0 := ⟨_, rfl⟩
    obtain ⟨lr, hlr⟩ : ∃ x, x = listS (blk st ((padT s).extract (64 * k) (64 * k + 64)) 0) := ⟨_, rfl⟩
    rw [← hst] at hgo
    repeat' (first | with_reducible refine PWp.seq ?_ | with_reducible refine PWp.block ?_ | with_reducible refine PWp.region okP true ?_ | with_reducible refine PWp.draw (id := 20) okP true [0, 1, 2, 3, 4, 5, 6, 7, 8, 9, 10, 11, 12, 13, 14, 15, 16, 17, 18, 19, 20, 21, 22, 23, 24, 25, 26, 27, 28, 29] (by kernel_rfl) ?_ | with_reducible (first | refine pops_nil ?_ | refine pany_nil ?_ | refine pthen_normal ?_ | refine pblock_normal ?_ | refine pthen_ret ?_ | refine pblock_ret ?_ | refine pthen_exit ?_ | refine pblock_here ?_ | refine pblock_there rfl ?_ | refine PWp.ret ?_ | refine PWp.exit ?_ | refine PWp.skip ?_) | ((with_reducible refine hK _ ?_); clear hK K) | ((with_reducible refine PWp.condI ?_); refine ⟨_, rfl, fun hg => ?_, fun hg => ?_⟩ <;> first | (exact absurd hg (by decide)) | ((try simp only [Bool.not_true, Bool.not_false] at hg); (try simp only [hg]); (try simp only [push_cast] at hg); (try exact absurd trivial hg); (try (exfalso; omega)))) | ((with_reducible refine pany_I ?_); refine ⟨_, rfl, fun K hK => ?_⟩) | ((with_reducible refine pops_plain fun K hK => popO_row ?_); refine ⟨_, _, _, _, _, rfl, rfl, rfl, rfl, rfl, ?_⟩; simp (disch := omega) only [push_cast, seval, hN, e6, e7]) | ((with_reducible refine pD_x ?_ (popO_row ?_)); exact rfl; refine ⟨_, _, _, _, _, rfl, rfl, rfl, rfl, rfl, ?_⟩; simp (disch := omega) only [push_cast, seval, hN, e6, e7]) | ((with_reducible refine pops_plain fun K hK => ?_); simp (disch := omega) only [push_cast, seval, hN, e6, e7]) | ((first | ((with_reducible refine pD_y ?_ ?_); exact rfl) | ((with_reducible refine pD_x ?_ ?_); exact rfl)); simp (disch := omega) only [push_cast, seval, hN, e6, e7]) | ((with_reducible show pcall _ _ _ _ _ _); (first | (refine pcH (g := 82) (callable_of Tryd.func82 rfl rfl) (sL3Keys_q _ (by assumption)) ?_) | (refine pcall_RGf (g := 83) (callable_of Tryd.func83 rfl rfl) [?_, ?_] ?_ ?_ ?_ (sL3Block_q st _ _ _ lr z9 hl hkk hlr) ?_; rotate_left 2; (· ((try simp (disch := omega) only [push_cast, seval]); (repeat' (first | exact trivial | exact rfl | refine And.intro ?_ ?_ | omega)))); (· (repeat' (first | exact trivial | refine And.intro ?_ ?_ | exact ⟨_, rfl⟩ | (simp (disch := omega) only [push_cast, seval]; done) | exact rfl))); (· exact rfl); rotate_right 1; rotate_left 1; (all_goals (try (first | omega | exact (show _ = _ by assumption)))))); (try simp (disch := omega) only [push_cast, seval, hN, e6, e7])) | ((with_reducible refine And.intro ?_ ?_); omega))
    (refine ⟨(k + 1, st', lr), by ((try dsimp only); omega), ?_, by (refine ⟨[?_, ?_], ?_, ?_, ?_, ?_⟩; rotate_left 2; (· ((try simp (disch := omega) only [push_cast, seval]); (repeat' (first | exact trivial | exact rfl | refine And.intro ?_ ?_ | omega)))); (· ((try simp (disch := omega) only [push_cast, seval]); (repeat' (first | exact trivial | exact rfl | refine And.intro ?_ ?_ | omega)))); (· exact rfl); (· (first | exact trivial | exact ⟨rfl, trivial⟩ | exact ⟨rfl, rfl, trivial⟩)))⟩)
    exact ⟨by omega, by rw [hlr, hst], by rw [show N - (k + 1) = m by omega, show 64 * (k + 1) = 64 * k + 64 by omega]; exact hgo⟩
  obtain rfl : k = N := by omega
  rw [Nat.sub_self, shaGo] at hgo
  repeat' (first | with_reducible refine PWp.seq ?_ | with_reducible refine PWp.block ?_ | with_reducible refine PWp.region okP true ?_ | with_reducible refine PWp.draw (id := 20) okP true [0, 1, 2, 3, 4, 5, 6, 7, 8, 9, 10, 11, 12, 13, 14, 15, 16, 17, 18, 19, 20, 21, 22, 23, 24, 25, 26, 27, 28, 29] (by kernel_rfl) ?_ | with_reducible (first | refine pops_nil ?_ | refine pany_nil ?_ | refine pthen_normal ?_ | refine pblock_normal ?_ | refine pthen_ret ?_ | refine pblock_ret ?_ | refine pthen_exit ?_ | refine pblock_here ?_ | refine pblock_there rfl ?_ | refine PWp.ret ?_ | refine PWp.exit ?_ | refine PWp.skip ?_) | ((with_reducible refine hK _ ?_); clear hK K) | ((with_reducible refine PWp.condI ?_); refine ⟨_, rfl, fun hg => ?_, fun hg => ?_⟩ <;> first | (exact absurd hg (by decide)) | ((try simp only [Bool.not_true, Bool.not_false] at hg); (try simp only [hg]); (try simp only [push_cast] at hg); (try exact absurd trivial hg); (try (exfalso; omega)))) | ((with_reducible refine pany_I ?_); refine ⟨_, rfl, fun K hK => ?_⟩) | ((with_reducible refine pops_plain fun K hK => popO_row ?_); refine ⟨_, _, _, _, _, rfl, rfl, rfl, rfl, rfl, ?_⟩; simp (disch := omega) only [push_cast, seval, hN]) | ((with_reducible refine pD_x ?_ (popO_row ?_)); exact rfl; refine ⟨_, _, _, _, _, rfl, rfl, rfl, rfl, rfl, ?_⟩; simp (disch := omega) only [push_cast, seval, hN]) | ((with_reducible refine pops_plain fun K hK => ?_); simp (disch := omega) only [push_cast, seval, hN]) | ((first | ((with_reducible refine pD_y ?_ ?_); exact rfl) | ((with_reducible refine pD_x ?_ ?_); exact rfl)); simp (disch := omega) only [push_cast, seval, hN]) | ((with_reducible show pcall _ _ _ _ _ _); (first | (refine pcH (g := 82) (callable_of Tryd.func82 rfl rfl) (sL3Keys_q _ (by assumption)) ?_) | (refine pcall_RGf (g := 83) (callable_of Tryd.func83 rfl rfl) [?_, ?_] ?_ ?_ ?_ (sL3Block_q st _ _ _ lr z9 hl hkk hlr) ?_; rotate_left 2; (· ((try simp (disch := omega) only [push_cast, seval]); (repeat' (first | exact trivial | exact rfl | refine And.intro ?_ ?_ | omega)))); (· (repeat' (first | exact trivial | refine And.intro ?_ ?_ | exact ⟨_, rfl⟩ | (simp (disch := omega) only [push_cast, seval]; done) | exact rfl))); (· exact rfl); rotate_right 1; rotate_left 1; (all_goals (try (first | omega | exact (show _ = _ by assumption)))))); (try simp (disch := omega) only [push_cast, seval, hN])) | ((with_reducible refine And.intro ?_ ?_); omega))
  refine PWp.loopK (α := Nat) (fun j => [(7, .own 0), (10, .own 1), (11, .val (.int .i64 (j : Int)))]) [0, 1, 3, 4, 5, 6, 8, 9, 12, 13, 14, 15, 16, 17, 18, 19, 20, 21, 22, 23, 24, 25, 26, 27, 28, 29, 30, 31, 32, 33, 34, 35, 36, 37, 38, 39, 40, 41, 42, 43, 44, 45, 46, 47, 48, 49, 50, 51, 52, 53, 54, 55, 56, 57, 58, 59, 60, 61, 62, 63, 64, 65, 66, 67, 68, 69, 70, 71, 72, 73, 74, 75, 76, 77, 78, 79, 80, 81, 82, 83, 84, 85, 86, 87, 88, 89, 90, 91, 92, 93] (fun j => [some (.row 3 1 (l.map pW)), some (.row 5 1 ((outL (l.take j)).map pU8))]) (fun j => j ≤ 8 ∧ l = listS st) (fun j => 8 - j) (0) (⟨Nat.zero_le _, hl⟩) (by (refine ⟨[?_, ?_], ?_, ?_, ?_, ?_⟩; rotate_left 2; (· ((try simp (disch := omega) only [push_cast, seval]); (repeat' (first | exact trivial | exact rfl | refine And.intro ?_ ?_ | omega)))); (· ((try simp (disch := omega) only [push_cast, seval]); (repeat' (first | exact trivial | exact rfl | refine And.intro ?_ ?_ | omega)))); (· exact rfl); (· (first | exact trivial | exact ⟨rfl, trivial⟩ | exact ⟨rfl, rfl, trivial⟩)))) ?_
  intro j ρ hI
  (try dsimp only at hI)
  refine PWp.at (tm' := ?_) (H' := ?_) ?_ ?_ ?_; rotate_left 2; (· ((try simp only [push_cast, seval]); exact rfl)); (· ((try dsimp only); exact rfl))
  have hl8 : l.length = 8 := by rw [hI.2]; rfl
  obtain ⟨hj, -⟩ := hI
  by_cases hlt3 : j < 8
  · obtain ⟨x, hx⟩ : ∃ x, l[j]? = some x := ⟨_, List.getElem?_eq_getElem (by omega)⟩
    have hx32 := x.isLt
    have hrow : List.map pU8 (outL (List.take j l)) ++ [[PV.val (.int .u8 ((x.toNat : Int) / 16777216 % 256))], [PV.val (.int .u8 ((x.toNat : Int) / 65536 % 256 % 256))], [PV.val (.int .u8 ((x.toNat : Int) / 256 % 256 % 256))], [PV.val (.int .u8 ((x.toNat : Int) % 256 % 256))]] = List.map pU8 (outL (List.take (j + 1) l)) := by
      rw [outL_snoc hx, List.map_append, fx4_rows]
    have hol : (outL (List.take j l)).length = 4 * j := by rw [outL_len, List.length_take]; omega
    repeat' (first | with_reducible refine PWp.seq ?_ | with_reducible refine PWp.block ?_ | with_reducible refine PWp.region okP true ?_ | with_reducible refine PWp.draw (id := 20) okP true [0, 1, 2, 3, 4, 5, 6, 7, 8, 9, 10, 11, 12, 13, 14, 15, 16, 17, 18, 19, 20, 21, 22, 23, 24, 25, 26, 27, 28, 29] (by kernel_rfl) ?_ | with_reducible (first | refine pops_nil ?_ | refine pany_nil ?_ | refine pthen_normal ?_ | refine pblock_normal ?_ | refine pthen_ret ?_ | refine pblock_ret ?_ | refine pthen_exit ?_ | refine pblock_here ?_ | refine pblock_there rfl ?_ | refine PWp.ret ?_ | refine PWp.exit ?_ | refine PWp.skip ?_) | ((with_reducible refine hK _ ?_); clear hK K) | ((with_reducible refine PWp.condI ?_); refine ⟨_, rfl, fun hg => ?_, fun hg => ?_⟩ <;> first | (exact absurd hg (by decide)) | ((try simp only [Bool.not_true, Bool.not_false] at hg); (try simp only [hg]); (try simp only [push_cast] at hg); (try exact absurd trivial hg); (try (exfalso; omega)))) | ((with_reducible refine pany_I ?_); refine ⟨_, rfl, fun K hK => ?_⟩) | ((with_reducible refine pops_plain fun K hK => popO_row ?_); refine ⟨_, _, _, _, _, rfl, rfl, rfl, rfl, rfl, ?_⟩; simp (disch := omega) only [push_cast, seval, hx, pW, u_nat, hol]) | ((with_reducible refine pD_x ?_ (popO_row ?_)); exact rfl; refine ⟨_, _, _, _, _, rfl, rfl, rfl, rfl, rfl, ?_⟩; simp (disch := omega) only [push_cast, seval, hx, pW, u_nat, hol]) | ((with_reducible refine pops_plain fun K hK => ?_); simp (disch := omega) only [push_cast, seval, hx, pW, u_nat, hol]) | ((first | ((with_reducible refine pD_y ?_ ?_); exact rfl) | ((with_reducible refine pD_x ?_ ?_); exact rfl)); simp (disch := omega) only [push_cast, seval, hx, pW, u_nat, hol]) | ((with_reducible show pcall _ _ _ _ _ _); (first | (refine pcH (g := 82) (callable_of Tryd.func82 rfl rfl) (sL3Keys_q _ (by assumption)) ?_) | (refine pcall_RGf (g := 83) (callable_of Tryd.func83 rfl rfl) [?_, ?_] ?_ ?_ ?_ (sL3Block_q st _ _ _ lr z9 hl hkk hlr) ?_; rotate_left 2; (· ((try simp (disch := omega) only [push_cast, seval]); (repeat' (first | exact trivial | exact rfl | refine And.intro ?_ ?_ | omega)))); (· (repeat' (first | exact trivial | refine And.intro ?_ ?_ | exact ⟨_, rfl⟩ | (simp (disch := omega) only [push_cast, seval]; done) | exact rfl))); (· exact rfl); rotate_right 1; rotate_left 1; (all_goals (try (first | omega | exact (show _ = _ by assumption)))))); (try simp (disch := omega) only [push_cast, seval, hx, pW, u_nat, hol])) | ((with_reducible refine And.intro ?_ ?_); omega))
    (refine ⟨j + 1, by ((try dsimp only); omega), ?_, by (refine ⟨[?_, ?_], ?_, ?_, ?_, ?_⟩; rotate_left 2; (· ((try simp (disch := omega) only [push_cast, seval, hrow]); (repeat' (first | exact trivial | exact rfl | refine And.intro ?_ ?_ | omega)))); (· ((try simp (disch := omega) only [push_cast, seval, hrow]); (repeat' (first | exact trivial | exact rfl | refine And.intro ?_ ?_ | omega)))); (· exact rfl); (· (first | exact trivial | exact ⟨rfl, trivial⟩ | exact ⟨rfl, rfl, trivial⟩)))⟩)
    exact ⟨hlt3, hl⟩
  obtain rfl : j = 8 := by omega
  have ht8 : l.take 8 = l := List.take_of_length_le (by omega)
  repeat' (first | with_reducible refine PWp.seq ?_ | with_reducible refine PWp.block ?_ | with_reducible refine PWp.region okP true ?_ | with_reducible refine PWp.draw (id := 20) okP true [0, 1, 2, 3, 4, 5, 6, 7, 8, 9, 10, 11, 12, 13, 14, 15, 16, 17, 18, 19, 20, 21, 22, 23, 24, 25, 26, 27, 28, 29] (by kernel_rfl) ?_ | with_reducible (first | refine pops_nil ?_ | refine pany_nil ?_ | refine pthen_normal ?_ | refine pblock_normal ?_ | refine pthen_ret ?_ | refine pblock_ret ?_ | refine pthen_exit ?_ | refine pblock_here ?_ | refine pblock_there rfl ?_ | refine PWp.ret ?_ | refine PWp.exit ?_ | refine PWp.skip ?_) | ((with_reducible refine hK _ ?_); clear hK K) | ((with_reducible refine PWp.condI ?_); refine ⟨_, rfl, fun hg => ?_, fun hg => ?_⟩ <;> first | (exact absurd hg (by decide)) | ((try simp only [Bool.not_true, Bool.not_false] at hg); (try simp only [hg]); (try simp only [push_cast] at hg); (try exact absurd trivial hg); (try (exfalso; omega)))) | ((with_reducible refine pany_I ?_); refine ⟨_, rfl, fun K hK => ?_⟩) | ((with_reducible refine pops_plain fun K hK => popO_row ?_); refine ⟨_, _, _, _, _, rfl, rfl, rfl, rfl, rfl, ?_⟩; simp (disch := omega) only [push_cast, seval, ht8]) | ((with_reducible refine pD_x ?_ (popO_row ?_)); exact rfl; refine ⟨_, _, _, _, _, rfl, rfl, rfl, rfl, rfl, ?_⟩; simp (disch := omega) only [push_cast, seval, ht8]) | ((with_reducible refine pops_plain fun K hK => ?_); simp (disch := omega) only [push_cast, seval, ht8]) | ((first | ((with_reducible refine pD_y ?_ ?_); exact rfl) | ((with_reducible refine pD_x ?_ ?_); exact rfl)); simp (disch := omega) only [push_cast, seval, ht8]) | ((with_reducible show pcall _ _ _ _ _ _); (first | (refine pcH (g := 82) (callable_of Tryd.func82 rfl rfl) (sL3Keys_q _ (by assumption)) ?_) | (refine pcall_RGf (g := 83) (callable_of Tryd.func83 rfl rfl) [?_, ?_] ?_ ?_ ?_ (sL3Block_q st _ _ _ lr z9 hl hkk hlr) ?_; rotate_left 2; (· ((try simp (disch := omega) only [push_cast, seval]); (repeat' (first | exact trivial | exact rfl | refine And.intro ?_ ?_ | omega)))); (· (repeat' (first | exact trivial | refine And.intro ?_ ?_ | exact ⟨_, rfl⟩ | (simp (disch := omega) only [push_cast, seval]; done) | exact rfl))); (· exact rfl); rotate_right 1; rotate_left 1; (all_goals (try (first | omega | exact (show _ = _ by assumption)))))); (try simp (disch := omega) only [push_cast, seval, ht8])) | ((with_reducible refine And.intro ?_ ?_); omega))
  ((first | with_reducible (first | refine pendV1 ?_ ?_ ?_ | refine pendV2 ?_ ?_ ?_ | refine pendV3 ?_ ?_ ?_ | refine pendV0 ?_ ?_ ?_) | refine pendVG ?_ ?_ ?_); (· (first | exact .inl rfl | exact .inr rfl)); rotate_left 1; (· exact rfl); (try (apply Exists.intro; apply And.intro; (· repeat' (first | exact presults_nil | apply presults_tmp | (apply presults_agg; (· exact rfl); (· exact rfl); (· exact rfl); (· exact rfl); (· exact rfl); (· first | exact Nat.le_refl _ | decide | simp)) | (apply presults_one; (· exact rfl); (· exact rfl); (· exact rfl); (· exact rfl); (· exact rfl)))))); (try simp only [push_cast, seval]))
  rw [hl, ← outS_L, sha, hN', ← hgo]
end Go.Proofs.YtmdjnohdkhepjaaDoor
/- Walks on the pure machine: impl.Short, impl.Hex. -/
namespace Go.Proofs.YtmdjnohdkhepjaaDoor
set_option linter.unusedSimpArgs false
set_option linter.unusedVariables false
open Go.RowKit
set_option maxRecDepth 100000

theorem ba_0 : (⟨#[]⟩ : ByteArray).size = 0 := rfl
theorem ba_1 {x : UInt8} : (⟨#[x]⟩ : ByteArray).size = 1 := rfl
theorem ba_2 {x y : UInt8} : (⟨#[x, y]⟩ : ByteArray).size = 2 := rfl
theorem ba_3 {x y z : UInt8} : (⟨#[x, y, z]⟩ : ByteArray).size = 3 := rfl
attribute [push_cast] ba_0 ba_1 ba_2 ba_3 ByteArray.size_append
theorem iShort_p (s : ByteArray) (hs : s.size ≤ 1099511627776) : PCalls Tryd.prog 35 [.val (.string s)] [] (RV (.val (.string (short s)))) := by
  have h32 := sha_size s
  refine pcalls_ofR okP Tryd.func35 rfl ?_
  simp only [Tryd.f35, List.length_cons, List.length_nil, Nat.reduceAdd, Nat.reduceSub, List.replicate_succ, List.replicate_zero, List.cons_append, List.nil_append, List.length_map]
  repeat' (first | with_reducible refine PWp.seq ?_ | with_reducible refine PWp.block ?_ | with_reducible refine PWp.region okP true ?_ | with_reducible (first | refine pops_nil ?_ | refine pany_nil ?_ | refine pthen_normal ?_ | refine pblock_normal ?_ | refine pthen_ret ?_ | refine pblock_ret ?_ | refine pthen_exit ?_ | refine pblock_here ?_ | refine pblock_there rfl ?_ | refine PWp.ret ?_ | refine PWp.exit ?_ | refine PWp.skip ?_) | ((with_reducible refine hK _ ?_); clear hK K) | ((with_reducible refine pops_plain fun K hK => ?_); simp (disch := omega) only [push_cast, seval]) | ((with_reducible show pcall _ _ _ _ _ _); (first | (refine pcV (g := 59) (callable_of Tryd.func59 rfl rfl) (iSha_p _ (by (first | assumption | omega | (simp; omega) | (simp_all; done) | (simp_all; omega)))) ?_)); (try simp (disch := omega) only [push_cast, seval])) | ((with_reducible refine And.intro ?_ ?_); omega))
  ((first | with_reducible (first | refine pendV1 ?_ ?_ ?_ | refine pendV2 ?_ ?_ ?_ | refine pendV3 ?_ ?_ ?_ | refine pendV0 ?_ ?_ ?_) | refine pendVG ?_ ?_ ?_); (· (first | exact .inl rfl | exact .inr rfl)); rotate_left 1; (· exact rfl); (try (apply Exists.intro; apply And.intro; (· repeat' (first | exact presults_nil | apply presults_tmp | (apply presults_agg; (· exact rfl); (· exact rfl); (· exact rfl); (· exact rfl); (· exact rfl); (· first | exact Nat.le_refl _ | decide | simp)) | (apply presults_one; (· exact rfl); (· exact rfl); (· exact rfl); (· exact rfl); (· exact rfl)))))); (try simp only [push_cast, seval]))
  rfl
theorem sShort_p (s : ByteArray) (hs : s.size ≤ 1099511627776) : PCalls Tryd.prog 39 [.val (.string s)] [] (RV (.val (.string (short s)))) := by
  have h32 := sha_size s
  refine pcalls_ofR okP Tryd.func39 rfl ?_
  simp only [Tryd.f39, List.length_cons, List.length_nil, Nat.reduceAdd, Nat.reduceSub, List.replicate_succ, List.replicate_zero, List.cons_append, List.nil_append, List.length_map]
  repeat' (first | with_reducible refine PWp.seq ?_ | with_reducible refine PWp.block ?_ | with_reducible refine PWp.region okP true ?_ | with_reducible (first | refine pops_nil ?_ | refine pany_nil ?_ | refine pthen_normal ?_ | refine pblock_normal ?_ | refine pthen_ret ?_ | refine pblock_ret ?_ | refine pthen_exit ?_ | refine pblock_here ?_ | refine pblock_there rfl ?_ | refine PWp.ret ?_ | refine PWp.exit ?_ | refine PWp.skip ?_) | ((with_reducible refine hK _ ?_); clear hK K) | ((with_reducible refine pops_plain fun K hK => ?_); simp (disch := omega) only [push_cast, seval]) | ((with_reducible show pcall _ _ _ _ _ _); (first | (refine pcV (g := 65) (callable_of Tryd.func65 rfl rfl) (sSha_p _ (by (first | assumption | omega | (simp; omega) | (simp_all; done) | (simp_all; omega)))) ?_)); (try simp (disch := omega) only [push_cast, seval])) | ((with_reducible refine And.intro ?_ ?_); omega))
  ((first | with_reducible (first | refine pendV1 ?_ ?_ ?_ | refine pendV2 ?_ ?_ ?_ | refine pendV3 ?_ ?_ ?_ | refine pendV0 ?_ ?_ ?_) | refine pendVG ?_ ?_ ?_); (· (first | exact .inl rfl | exact .inr rfl)); rotate_left 1; (· exact rfl); (try (apply Exists.intro; apply And.intro; (· repeat' (first | exact presults_nil | apply presults_tmp | (apply presults_agg; (· exact rfl); (· exact rfl); (· exact rfl); (· exact rfl); (· exact rfl); (· first | exact Nat.le_refl _ | decide | simp)) | (apply presults_one; (· exact rfl); (· exact rfl); (· exact rfl); (· exact rfl); (· exact rfl)))))); (try simp only [push_cast, seval]))
  rfl
end Go.Proofs.YtmdjnohdkhepjaaDoor
/- Walks on the pure machine: spec.Fixed. -/
namespace Go.Proofs.YtmdjnohdkhepjaaDoor
set_option linter.unusedSimpArgs false
set_option linter.unusedVariables false
open Go.RowKit
set_option maxRecDepth 100000

theorem fx_step {n w i : Nat} (h : i < w) (o : List UInt8) (e : (fxL n w).drop (w - i) = o) : (fxL n w).drop (w - (i + 1)) = UInt8.ofNat (n / 256 ^ i) :: o := by
  have hl : (fxL n w).length = w := fxL_len
  have hg := fxL_get (n := n) (w := w) (i := w - (i + 1)) (by omega)
  rw [List.drop_eq_getElem_cons (by omega), show w - (i + 1) + 1 = w - i by omega, e]
  congr 1
  rw [List.getElem?_eq_getElem (by omega)] at hg
  rw [Option.some.inj hg]
  congr 3
  omega
end Go.Proofs.YtmdjnohdkhepjaaDoor
