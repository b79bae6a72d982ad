/- What the proof leans on, part 4. -/
import Derived.Test.YtiboajlnjldalaaGreatDoorQC3
namespace Go.Proofs.YtiboajlnjldalaaGreatDoor
set_option linter.unusedSimpArgs false
set_option linter.unusedVariables false
open Go.RowKit
set_option maxRecDepth 100000
def pW (x : W32) : List PV := [.val (.int .i64 (u x))]
theorem pW_clo (x : W32) : (pW x).all cloC = true := rfl
theorem pW_ren {φ : List Nat} {n : Nat} (l : List W32) : (l.map pW).map (renL φ n) = l.map pW := rows_flat pW_clo l
attribute [push_cast] pW_ren
theorem row_words {M : Mem} {h : Home} {w : World} {v : Value} {e : TypeId} {l : List W32} (r : BR M h w v (.row e 1 (l.map pW))) (hl : l ≠ []) : ∃ g c, v = .slice (some ⟨g, 0, none⟩) l.length c ∧ RowI w g l := by
  obtain ⟨-, us, q1, q2, q3, q4⟩ := r
  have hu : us = l.map vI := by
    have hlen : us.length = l.length := by have := q1.1; simpa using this
    apply List.ext_getElem?
    intro o
    by_cases ho : o < l.length
    · have hx : l[o]? = some l[o] := List.getElem?_eq_getElem ho
      have hu' : us[o]? = some us[o] := List.getElem?_eq_getElem (by omega)
      have := q4 o 0 (pW l[o]) (.val (.int .i64 (u l[o]))) us[o] (by rw [List.getElem?_map, hx]; rfl) rfl (by simp)
      rw [hu', vr_val this, List.getElem?_map, hx]
      rfl
    · rw [List.getElem?_eq_none (by omega), List.getElem?_eq_none (by simp; omega)]
  subst hu
  rw [List.length_map] at q1
  rcases q1.2 with ⟨_, h0⟩ | ⟨g, cap, cur, hv, hb⟩
  · exact absurd (List.eq_nil_of_length_eq_zero h0) hl
  · subst hv
    exact ⟨g, cap, rfl, RowI.of_own (n := l.length) (c := cap) q1⟩
theorem sL3Block_p (hv : HSt) (s : ByteArray) (hs : s.size = 64) : PCalls Tryz.prog 182 [.own 0, .val (.string s), .own 1] [some (.row 3 1 ((listS hv).map pW)), some (.row 3 1 (shaK.map pW))]
    (RH (.own 2) [some (.row 3 1 ((listS hv).map pW)), some (.row 3 1 (shaK.map pW)), some (.row 3 1 ((listS (blk hv s 0)).map pW))]) := by
  intro M hh w vs I rv
  obtain ⟨rl, rg⟩ := rv
  obtain ⟨v0, v1, v2, rfl⟩ : ∃ a b c, vs = #[a, b, c] := by
    match vs, rl with
    | ⟨[a, b, c]⟩, _ => exact ⟨a, b, c, rfl⟩
  have r0 := rg 0 _ v0 rfl rfl
  have r1 := vr_val (rg 1 _ v1 rfl rfl)
  have r2 := rg 2 _ v2 rfl rfl
  subst r1
  obtain ⟨x0, a0, b0⟩ := I.blk 0 _ rfl
  obtain ⟨x1, a1, b1⟩ := I.blk 1 _ rfl
  obtain ⟨g0, c0, rfl, R0⟩ := row_words b0 (by simp [listS])
  obtain ⟨g1, c1, rfl, R1⟩ := row_words b1 (by simp [shaK])
  have e0 : v0 = .slice (some ⟨g0, 0, none⟩) (listS hv).length c0 := by cases r0 with | own _ o n c hb => rw [a0] at hb; cases hb; rfl
  have e2 : v2 = .slice (some ⟨g1, 0, none⟩) shaK.length c1 := by cases r2 with | own _ o n c hb => rw [a1] at hb; cases hb; rfl
  subst e0
  subst e2
  refine (l3Block_any hv s g0 c0 g1 c1 w hs R0 R1).mono fun e w' ⟨b, c, h1, h2, h3⟩ => ?_
  have hfr : ∀ k, hblk (.slice (some ⟨b, 0, none⟩) 8 c) = some k → w.heap.size ≤ k := fun k hk => by
    rw [hblk_own rfl] at hk
    exact (h2.lt k hk).1
  refine ⟨_, M, upd hh 2 _, .own 2, _, h1, ⟨rfl, rfl⟩, .own _ _ _ _ upd_self, Step.push I h3 (v := .slice (some ⟨b, 0, none⟩) 8 c) ⟨⟨_, _, _, rfl⟩, (listS (blk hv s 0)).map vI, own_less (Nat.zero_le _) h2, fun row hr => ?_, fun x hx => ?_, fun i j row pv x p1 p2 p3 => ?_⟩ hfr⟩
  · obtain ⟨y, _, rfl⟩ := List.mem_map.1 hr
    rfl
  · obtain ⟨y, _, rfl⟩ := List.mem_map.1 hx
    rfl
  · rw [List.getElem?_map, Option.map_eq_some_iff] at p1
    obtain ⟨y, p1, rfl⟩ := p1
    cases j with
    | zero =>
      simp [pW] at p2
      subst p2
      rw [Nat.mul_one, Nat.add_zero, List.getElem?_map, p1] at p3
      cases p3
      exact .val _
    | succ j => simp [pW] at p2
set_option maxHeartbeats 4000000 in
theorem sL3Keys_p : PCalls Tryz.prog 181 [] [] (RH (.own 0) [some (.row 3 1 (shaK.map pW))]) := by
  refine pcalls_ofR okP Tryz.func181 rfl ?_
  simp only [Tryz.f181, List.length_cons, List.length_nil, Nat.reduceAdd, Nat.reduceSub, List.replicate_succ, List.replicate_zero, List.cons_append, List.nil_append, List.length_map]
  repeat' (first | with_reducible (first | refine wA ?_ | refine wB ?_ | refine wC ?_ | refine w1 ?_ | refine w2 ?_ | refine w3 ?_ | refine w4 ?_ | refine w5 ?_ | refine w6 ?_ | refine w7 ?_ | refine w8 ?_ | refine wT ?_ | refine w9 ?_ | refine wE ?_ | refine wS ?_) | ((with_reducible refine hK _ ?_); clear hK K) | ((with_reducible refine pops_plain fun K hK => popO_row ?_); refine ⟨_, _, _, _, _, rfl, rfl, rfl, rfl, rfl, ?_⟩; simp (disch := omega) only [push_cast, seval]) | ((with_reducible refine pops_plain fun K hK => ?_); simp (disch := omega) only [push_cast, seval]) | ((with_reducible refine And.intro ?_ ?_); omega))
  ((with_reducible show PPostR _ _ _ _ _ _); exact finH [_])
theorem sL3Block_q (hv : HSt) (s : ByteArray) (l kl lr : List W32) (hs : s.size = 64) (e1 : l = listS hv) (e2 : kl = shaK) (e3 : lr = listS (blk hv s 0)) : PCalls Tryz.prog 182 [.own 0, .val (.string s), .own 1] [some (.row 3 1 (l.map pW)), some (.row 3 1 (kl.map pW))]
    (RH (.own 2) [some (.row 3 1 (l.map pW)), some (.row 3 1 (kl.map pW)), some (.row 3 1 (lr.map pW))]) := by
  subst e1
  subst e2
  subst e3
  exact sL3Block_p hv s hs
theorem sL3Keys_q (kl : List W32) (e2 : kl = shaK) : PCalls Tryz.prog 181 [] [] (RH (.own 0) [some (.row 3 1 (kl.map pW))]) := by
  subst e2
  exact sL3Keys_p
end Go.Proofs.YtiboajlnjldalaaGreatDoor
namespace Go.Proofs.YtiboajlnjldalaaGreatDoor
set_option linter.unusedSimpArgs false
set_option linter.unusedVariables false
open Go.RowKit
set_option maxRecDepth 100000
theorem fxL_zero {n w : Nat} (h : n < 256 ^ w) : fxL n (w + 1) = 0 :: fxL n w := by
  unfold fxL
  rw [List.range_succ_eq_map, List.map_cons, List.map_map]
  congr 1
  · rw [show w + 1 - 1 - 0 = w by omega, Nat.div_eq_of_lt h]; rfl
  · apply List.map_congr_left
    intro p hp
    simp only [Function.comp]
    congr 3
    omega
theorem fxL_len {n w : Nat} : (fxL n w).length = w := by simp [fxL]
theorem fxL_get {n w i : Nat} (h : i < w) : (fxL n w)[i]? = some (UInt8.ofNat (n / 256 ^ (w - 1 - i))) := by
  unfold fxL
  rw [List.getElem?_map, List.getElem?_range h]
  rfl
theorem u8_mod {q : Nat} : PV.val (.int .u8 ((q : Int) % 256 % 256)) = PV.val (.int .u8 (((UInt8.ofNat q).toNat : Nat) : Int)) := by
  congr 2
  simp
theorem u8_mod1 {q : Nat} : PV.val (.int .u8 ((q : Int) % 256)) = PV.val (.int .u8 (((UInt8.ofNat q).toNat : Nat) : Int)) := by
  congr 2
def outL (l : List W32) : List UInt8 := l.flatMap fun x => fxL x.toNat 4
theorem arr_app {a b : List UInt8} : (⟨a.toArray⟩ : ByteArray) ++ ⟨b.toArray⟩ = ⟨(a ++ b).toArray⟩ := by
  apply ByteArray.ext
  rw [ByteArray.data_append]
  simp
theorem outGo_L : ∀ (l : List W32) (o : List UInt8), outGo l ⟨o.toArray⟩ = ⟨(o ++ outL l).toArray⟩
  | [], o => by simp [outGo, outL]
  | x :: r, o => by
    rw [outGo, fx, arr_app, outGo_L r, List.append_assoc]; rfl
theorem outS_L (v : HSt) : outS v = ⟨(outL (listS v)).toArray⟩ := outGo_L (listS v) []
theorem padT_L (s : ByteArray) (h : 8 * s.size < 256 ^ 7) : s ++ ⟨((128 :: List.replicate (padN s.size) 0) ++ fxL (8 * s.size) 8).toArray⟩ = padT s := by
  unfold padT
  rw [fxL_zero h, fx, zerosB]
  have e1 : (⟨#[128]⟩ : ByteArray) = ⟨([128] : List UInt8).toArray⟩ := rfl
  rw [e1, ByteArray.append_assoc, ByteArray.append_assoc, arr_app, arr_app]
  congr 3
  rw [List.replicate_succ']
  simp
theorem outL_len : ∀ l : List W32, (outL l).length = 4 * l.length
  | [] => rfl
  | x :: r => by
    have := outL_len r
    simp only [outL, List.flatMap_cons, List.length_append, fxL_len, List.length_cons] at *
    omega
theorem outL_snoc {l : List W32} {j : Nat} {x : W32} (h : l[j]? = some x) : outL (l.take (j + 1)) = outL (l.take j) ++ fxL x.toNat 4 := by
  rw [List.take_add_one, h]
  simp [outL]
theorem fx4_rows (n : Nat) : (fxL n 4).map pU8 = [[PV.val (.int .u8 ((n : Int) / 16777216 % 256))], [PV.val (.int .u8 ((n : Int) / 65536 % 256 % 256))], [PV.val (.int .u8 ((n : Int) / 256 % 256 % 256))], [PV.val (.int .u8 ((n : Int) % 256 % 256))]] := by
  have e : fxL n 4 = [UInt8.ofNat (n / 16777216), UInt8.ofNat (n / 65536), UInt8.ofNat (n / 256), UInt8.ofNat (n / 1)] := rfl
  rw [e, Nat.div_one]
  simp only [List.map_cons, List.map_nil, pU8]
  rw [← u8_mod1, ← u8_mod1, ← u8_mod1, ← u8_mod1]
  simp
set_option maxHeartbeats 1500000 in
theorem sSha_p (s : ByteArray) (hs : s.size ≤ 1099511627776) : PCalls Tryz.prog 80 [.val (.string s)] [] (RV (.val (.string (sha s)))) := by
  have hp : padN s.size < 64 := by unfold padN; omega
  have hpm : (s.size + 9 + padN s.size) % 64 = 0 := by unfold padN; omega
  have z7 := padT_size s
  have z8 := padT_mod s
  obtain ⟨N, hN⟩ : ∃ N, (padT s).size = 64 * N := ⟨(padT s).size / 64, by omega⟩
  have hN' : (padT s).size / 64 = N := by omega
  have hpad : s ++ ⟨(128 :: (List.replicate (padN s.size) 0 ++ fxL (8 * s.size) 8)).toArray⟩ = padT s := padT_L s (by simp; omega)
  have z3 := ByteArray.size_append (a := s) (b := ⟨(128 :: (List.replicate (padN s.size) 0 ++ fxL (8 * s.size) 8)).toArray⟩)
  rw [hpad] at z3
  obtain ⟨kk, hkk⟩ : ∃ l, l = shaK := ⟨_, rfl⟩
  have hkl : kk.length = 64 := by rw [hkk]; rfl
  refine pcalls_ofR okP Tryz.func80 rfl ?_
  simp only [Tryz.f80, List.length_cons, List.length_nil, Nat.reduceAdd, Nat.reduceSub, List.replicate_succ, List.replicate_zero, List.cons_append, List.nil_append, List.length_map]
  repeat' (first | with_reducible (first | refine wA ?_ | refine wB ?_ | refine wC ?_) | with_reducible refine PWp.draw (id := 20) okP true [0, 1, 2, 3, 4, 5, 6, 7, 8, 9, 10, 11, 12, 13, 14, 15, 16, 17, 18, 19, 20, 21, 22, 23, 24, 25, 26, 27, 28, 29] (by kernel_rfl) ?_ | with_reducible (first | refine w1 ?_ | refine w2 ?_ | refine w3 ?_ | refine w4 ?_ | refine w5 ?_ | refine w6 ?_ | refine w7 ?_ | refine w8 ?_ | refine wT ?_ | refine w9 ?_ | refine wE ?_ | refine wS ?_) | ((with_reducible refine hK _ ?_); clear hK K) | ((with_reducible refine PWp.condI ?_); refine ⟨_, rfl, fun hg => ?_, fun hg => ?_⟩ <;> first | (exact absurd hg (by decide)) | ((try simp only [Bool.not_true, Bool.not_false] at hg); (try simp only [hg]); (try simp only [push_cast] at hg); (try exact absurd trivial hg); (try (exfalso; omega)))) | ((with_reducible refine pany_I ?_); refine ⟨_, rfl, fun K hK => ?_⟩) | ((with_reducible refine pops_plain fun K hK => popO_row ?_); refine ⟨_, _, _, _, _, rfl, rfl, rfl, rfl, rfl, ?_⟩; simp (disch := omega) only [push_cast, seval]) | ((with_reducible refine pD_x ?_ (popO_row ?_)); exact rfl; refine ⟨_, _, _, _, _, rfl, rfl, rfl, rfl, rfl, ?_⟩; simp (disch := omega) only [push_cast, seval]) | ((with_reducible refine pops_plain fun K hK => ?_); simp (disch := omega) only [push_cast, seval]) | ((first | ((with_reducible refine pD_y ?_ ?_); exact rfl) | ((with_reducible refine pD_x ?_ ?_); exact rfl)); simp (disch := omega) only [push_cast, seval]) | ((with_reducible show pcall _ _ _ _ _ _); (first | (refine pcH (cf Tryz.func181) (sL3Keys_q _ (by assumption)) ?_) | (refine pcall_RGf (cf Tryz.func182) [?_, ?_] ?_ ?_ ?_ (sL3Block_q ?_ ?_ ?_ ?_ ?_ ?_ ?_ ?_ ?_) ?_; rotate_left 2; (· ((try simp (disch := omega) only [push_cast, seval]); (repeat' (first | exact trivial | exact rfl | refine And.intro ?_ ?_ | omega)))); (· (repeat' (first | exact trivial | refine And.intro ?_ ?_ | exact ⟨_, rfl⟩ | (simp (disch := omega) only [push_cast, seval]; done) | exact rfl))); (· exact rfl); rotate_right 1; rotate_left 1; (all_goals (try (first | omega | exact (show _ = _ by assumption)))))); (try simp (disch := omega) only [push_cast, seval])) | ((with_reducible refine And.intro ?_ ?_); omega))
  refine PWp.loopK (α := Nat) (fun z => [(4, .own 0)]) [1, 12, 13, 14, 15, 16, 17, 18, 19, 20, 21, 22, 23] (fun z => [some (.row 5 1 ((128 :: List.replicate z 0).map pU8))]) (fun z => z ≤ padN s.size) (fun z => padN s.size - z) (0) (Nat.zero_le _) (by (refine ⟨[?_], ?_, ?_, ?_, ?_⟩; rotate_left 1; (· ((first | simp (disch := omega) only [push_cast, seval, pU8, List.replicate_zero] | simp (disch := omega) only [push_cast, seval] | skip); (repeat' (first | exact trivial | exact rfl | refine And.intro ?_ ?_ | omega)))); (· ((first | simp (disch := omega) only [push_cast, seval, pU8, List.replicate_zero] | simp (disch := omega) only [push_cast, seval] | skip); (repeat' (first | exact trivial | exact rfl | refine And.intro ?_ ?_ | omega)))); (· exact rfl); (· (first | exact trivial | exact ⟨rfl, trivial⟩ | exact ⟨rfl, rfl, trivial⟩)))) ?_
  intro z ρ hI
  (try dsimp only at hI)
  refine PWp.at (tm' := ?_) (H' := ?_) ?_ ?_ ?_; rotate_left 2; (· ((try simp only [push_cast, seval]); exact rfl)); (· ((try dsimp only); exact rfl))
  by_cases hlt : z < padN s.size
  · have hz : List.map pU8 (List.replicate z 0) ++ [[PV.val (.int .u8 0)]] = List.map pU8 (List.replicate (z + 1) 0) := by
      rw [List.replicate_succ', List.map_append]; rfl
    repeat' (first | with_reducible (first | refine wA ?_ | refine wB ?_ | refine wC ?_) | with_reducible refine PWp.draw (id := 20) okP true [0, 1, 2, 3, 4, 5, 6, 7, 8, 9, 10, 11, 12, 13, 14, 15, 16, 17, 18, 19, 20, 21, 22, 23, 24, 25, 26, 27, 28, 29] (by kernel_rfl) ?_ | with_reducible (first | refine w1 ?_ | refine w2 ?_ | refine w3 ?_ | refine w4 ?_ | refine w5 ?_ | refine w6 ?_ | refine w7 ?_ | refine w8 ?_ | refine wT ?_ | refine w9 ?_ | refine wE ?_ | refine wS ?_) | ((with_reducible refine hK _ ?_); clear hK K) | ((with_reducible refine PWp.condI ?_); refine ⟨_, rfl, fun hg => ?_, fun hg => ?_⟩ <;> first | (exact absurd hg (by decide)) | ((try simp only [Bool.not_true, Bool.not_false] at hg); (try simp only [hg]); (try simp only [push_cast] at hg); (try exact absurd trivial hg); (try (exfalso; omega)))) | ((with_reducible refine pany_I ?_); refine ⟨_, rfl, fun K hK => ?_⟩) | ((with_reducible refine pops_plain fun K hK => popO_row ?_); refine ⟨_, _, _, _, _, rfl, rfl, rfl, rfl, rfl, ?_⟩; simp (disch := omega) only [push_cast, seval, List.length_replicate]) | ((with_reducible refine pD_x ?_ (popO_row ?_)); exact rfl; refine ⟨_, _, _, _, _, rfl, rfl, rfl, rfl, rfl, ?_⟩; simp (disch := omega) only [push_cast, seval, List.length_replicate]) | ((with_reducible refine pops_plain fun K hK => ?_); simp (disch := omega) only [push_cast, seval, List.length_replicate]) | ((first | ((with_reducible refine pD_y ?_ ?_); exact rfl) | ((with_reducible refine pD_x ?_ ?_); exact rfl)); simp (disch := omega) only [push_cast, seval, List.length_replicate]) | ((with_reducible show pcall _ _ _ _ _ _); (first | (refine pcH (cf Tryz.func181) (sL3Keys_q _ (by assumption)) ?_) | (refine pcall_RGf (cf Tryz.func182) [?_, ?_] ?_ ?_ ?_ (sL3Block_q ?_ ?_ ?_ ?_ ?_ ?_ ?_ ?_ ?_) ?_; rotate_left 2; (· ((try simp (disch := omega) only [push_cast, seval]); (repeat' (first | exact trivial | exact rfl | refine And.intro ?_ ?_ | omega)))); (· (repeat' (first | exact trivial | refine And.intro ?_ ?_ | exact ⟨_, rfl⟩ | (simp (disch := omega) only [push_cast, seval]; done) | exact rfl))); (· exact rfl); rotate_right 1; rotate_left 1; (all_goals (try (first | omega | exact (show _ = _ by assumption)))))); (try simp (disch := omega) only [push_cast, seval, List.length_replicate])) | ((with_reducible refine And.intro ?_ ?_); omega))
    (refine ⟨z + 1, by ((try dsimp only); omega), ?_, by (refine ⟨[?_], ?_, ?_, ?_, ?_⟩; rotate_left 1; (· ((first | simp (disch := omega) only [push_cast, seval, hz] | simp (disch := omega) only [push_cast, seval] | skip); (repeat' (first | exact trivial | exact rfl | refine And.intro ?_ ?_ | omega)))); (· ((first | simp (disch := omega) only [push_cast, seval, hz] | simp (disch := omega) only [push_cast, seval] | skip); (repeat' (first | exact trivial | exact rfl | refine And.intro ?_ ?_ | omega)))); (· exact rfl); (· (first | exact trivial | exact ⟨rfl, trivial⟩ | exact ⟨rfl, rfl, trivial⟩)))⟩)
    exact hlt
  obtain rfl : z = padN s.size := by omega
  have e0 : ¬ ((s.size : Int) + ((padN s.size : Int) + 1)) % 64 ≠ 56 := by omega
  repeat' (first | with_reducible (first | refine wA ?_ | refine wB ?_ | refine wC ?_) | with_reducible refine PWp.draw (id := 20) okP true [0, 1, 2, 3, 4, 5, 6, 7, 8, 9, 10, 11, 12, 13, 14, 15, 16, 17, 18, 19, 20, 21, 22, 23, 24, 25, 26, 27, 28, 29] (by kernel_rfl) ?_ | with_reducible (first | refine w1 ?_ | refine w2 ?_ | refine w3 ?_ | refine w4 ?_ | refine w5 ?_ | refine w6 ?_ | refine w7 ?_ | refine w8 ?_ | refine wT ?_ | refine w9 ?_ | refine wE ?_ | refine wS ?_) | ((with_reducible refine hK _ ?_); clear hK K) | ((with_reducible refine PWp.condI ?_); refine ⟨_, rfl, fun hg => ?_, fun hg => ?_⟩ <;> first | (exact absurd hg (by decide)) | ((try simp only [Bool.not_true, Bool.not_false] at hg); (try simp only [hg]); (try simp only [push_cast] at hg); (try exact absurd trivial hg); (try (exfalso; omega)))) | ((with_reducible refine pany_I ?_); refine ⟨_, rfl, fun K hK => ?_⟩) | ((with_reducible refine pops_plain fun K hK => popO_row ?_); refine ⟨_, _, _, _, _, rfl, rfl, rfl, rfl, rfl, ?_⟩; simp (disch := omega) only [push_cast, seval, List.length_replicate]) | ((with_reducible refine pD_x ?_ (popO_row ?_)); exact rfl; refine ⟨_, _, _, _, _, rfl, rfl, rfl, rfl, rfl, ?_⟩; simp (disch := omega) only [push_cast, seval, List.length_replicate]) | ((with_reducible refine pops_plain fun K hK => ?_); simp (disch := omega) only [push_cast, seval, List.length_replicate]) | ((first | ((with_reducible refine pD_y ?_ ?_); exact rfl) | ((with_reducible refine pD_x ?_ ?_); exact rfl)); simp (disch := omega) only [push_cast, seval, List.length_replicate]) | ((with_reducible show pcall _ _ _ _ _ _); (first | (refine pcH (cf Tryz.func181) (sL3Keys_q _ (by assumption)) ?_) | (refine pcall_RGf (cf Tryz.func182) [?_, ?_] ?_ ?_ ?_ (sL3Block_q ?_ ?_ ?_ ?_ ?_ ?_ ?_ ?_ ?_) ?_; rotate_left 2; (· ((try simp (disch := omega) only [push_cast, seval]); (repeat' (first | exact trivial | exact rfl | refine And.intro ?_ ?_ | omega)))); (· (repeat' (first | exact trivial | refine And.intro ?_ ?_ | exact ⟨_, rfl⟩ | (simp (disch := omega) only [push_cast, seval]; done) | exact rfl))); (· exact rfl); rotate_right 1; rotate_left 1; (all_goals (try (first | omega | exact (show _ = _ by assumption)))))); (try simp (disch := omega) only [push_cast, seval, List.length_replicate])) | ((with_reducible refine And.intro ?_ ?_); omega))
  refine PWp.loopK (α := Nat) (fun i => [(4, .own 0), (5, .val (.int .i64 (i : Int)))]) [1, 12, 13, 14, 15, 16, 17, 18, 19, 20, 21, 22, 23, 24, 25, 26, 27, 28, 29, 30, 31, 32, 33, 34, 35, 36, 37, 38, 39] (fun i => [some (.row 5 1 (((128 :: List.replicate (padN s.size) 0) ++ (fxL (8 * s.size) 8).take i).map pU8))]) (fun i => i ≤ 8) (fun i => 8 - i) (0) (Nat.zero_le _) (by (refine ⟨[?_], ?_, ?_, ?_, ?_⟩; rotate_left 1; (· ((try simp (disch := omega) only [push_cast, seval]); (repeat' (first | exact trivial | exact rfl | refine And.intro ?_ ?_ | omega)))); (· ((try simp (disch := omega) only [push_cast, seval]); (repeat' (first | exact trivial | exact rfl | refine And.intro ?_ ?_ | omega)))); (· exact rfl); (· (first | exact trivial | exact ⟨rfl, trivial⟩ | exact ⟨rfl, rfl, trivial⟩)))) ?_
  intro i ρ hI
  (try dsimp only at hI)
  refine PWp.at (tm' := ?_) (H' := ?_) ?_ ?_ ?_; rotate_left 2; (· ((try simp only [push_cast, seval]); exact rfl)); (· ((try dsimp only); exact rfl))
  by_cases hlt : i < 8
  · have e1 : ((56 - 8 * (i : Int)) % 18446744073709551616).toNat = 56 - 8 * i := by omega
    obtain ⟨q, hq⟩ : ∃ q, q = 8 * s.size / 2 ^ (56 - 8 * i) := ⟨_, rfl⟩
    have e2 : ((s.size : Int) * 8).fdiv (2 ^ (56 - 8 * i)) = (q : Int) := by
      rw [Int.fdiv_eq_ediv_of_nonneg _ (by exact Int.le_of_lt (Int.pow_pos (by omega))), hq, Int.mul_comm]
      simp
    have hq2 : q ≤ 8 * s.size := by rw [hq]; exact Nat.div_le_self _ _
    have hrow : List.map pU8 (List.take i (fxL (8 * s.size) 8)) ++ [[PV.val (.int .u8 ((q : Int) % 256 % 256))]] = List.map pU8 (List.take (i + 1) (fxL (8 * s.size) 8)) := by
      rw [u8_mod, List.take_add_one, fxL_get hlt, List.map_append]
      congr 1
      simp only [Option.toList_some, List.map_cons, List.map_nil, pU8]
      rw [hq, show (256 : Nat) = 2 ^ 8 from rfl, ← Nat.pow_mul, show 8 * (8 - 1 - i) = 56 - 8 * i by omega]
    have hl : (fxL (8 * s.size) 8).length = 8 := fxL_len
    repeat' (first | with_reducible (first | refine wA ?_ | refine wB ?_ | refine wC ?_) | with_reducible refine PWp.draw (id := 20) okP true [0, 1, 2, 3, 4, 5, 6, 7, 8, 9, 10, 11, 12, 13, 14, 15, 16, 17, 18, 19, 20, 21, 22, 23, 24, 25, 26, 27, 28, 29] (by kernel_rfl) ?_ | with_reducible (first | refine w1 ?_ | refine w2 ?_ | refine w3 ?_ | refine w4 ?_ | refine w5 ?_ | refine w6 ?_ | refine w7 ?_ | refine w8 ?_ | refine wT ?_ | refine w9 ?_ | refine wE ?_ | refine wS ?_) | ((with_reducible refine hK _ ?_); clear hK K) | ((with_reducible refine PWp.condI ?_); refine ⟨_, rfl, fun hg => ?_, fun hg => ?_⟩ <;> first | (exact absurd hg (by decide)) | ((try simp only [Bool.not_true, Bool.not_false] at hg); (try simp only [hg]); (try simp only [push_cast] at hg); (try exact absurd trivial hg); (try (exfalso; omega)))) | ((with_reducible refine pany_I ?_); refine ⟨_, rfl, fun K hK => ?_⟩) | ((with_reducible refine pops_plain fun K hK => popO_row ?_); refine ⟨_, _, _, _, _, rfl, rfl, rfl, rfl, rfl, ?_⟩; simp (disch := omega) only [push_cast, seval, e1, e2, List.length_take, List.length_replicate]) | ((with_reducible refine pD_x ?_ (popO_row ?_)); exact rfl; refine ⟨_, _, _, _, _, rfl, rfl, rfl, rfl, rfl, ?_⟩; simp (disch := omega) only [push_cast, seval, e1, e2, List.length_take, List.length_replicate]) | ((with_reducible refine pops_plain fun K hK => ?_); simp (disch := omega) only [push_cast, seval, e1, e2, List.length_take, List.length_replicate]) | ((first | ((with_reducible refine pD_y ?_ ?_); exact rfl) | ((with_reducible refine pD_x ?_ ?_); exact rfl)); simp (disch := omega) only [push_cast, seval, e1, e2, List.length_take, List.length_replicate]) | ((with_reducible show pcall _ _ _ _ _ _); (first | (refine pcH (cf Tryz.func181) (sL3Keys_q _ (by assumption)) ?_) | (refine pcall_RGf (cf Tryz.func182) [?_, ?_] ?_ ?_ ?_ (sL3Block_q ?_ ?_ ?_ ?_ ?_ ?_ ?_ ?_ ?_) ?_; rotate_left 2; (· ((try simp (disch := omega) only [push_cast, seval]); (repeat' (first | exact trivial | exact rfl | refine And.intro ?_ ?_ | omega)))); (· (repeat' (first | exact trivial | refine And.intro ?_ ?_ | exact ⟨_, rfl⟩ | (simp (disch := omega) only [push_cast, seval]; done) | exact rfl))); (· exact rfl); rotate_right 1; rotate_left 1; (all_goals (try (first | omega | exact (show _ = _ by assumption)))))); (try simp (disch := omega) only [push_cast, seval, e1, e2, List.length_take, List.length_replicate])) | ((with_reducible refine And.intro ?_ ?_); omega))
    (refine ⟨i + 1, by ((try dsimp only); omega), ?_, by (refine ⟨[?_], ?_, ?_, ?_, ?_⟩; rotate_left 1; (· ((first | simp (disch := omega) only [push_cast, seval, hrow] | simp (disch := omega) only [push_cast, seval] | skip); (repeat' (first | exact trivial | exact rfl | refine And.intro ?_ ?_ | omega)))); (· ((first | simp (disch := omega) only [push_cast, seval, hrow] | simp (disch := omega) only [push_cast, seval] | skip); (repeat' (first | exact trivial | exact rfl | refine And.intro ?_ ?_ | omega)))); (· exact rfl); (· (first | exact trivial | exact ⟨rfl, trivial⟩ | exact ⟨rfl, rfl, trivial⟩)))⟩)
    exact hlt
  obtain rfl : i = 8 := by omega
  have ht : (fxL (8 * s.size) 8).take 8 = fxL (8 * s.size) 8 := List.take_of_length_le (by simp [fxL])
  have hby : ∀ bs, (pU8 128 :: (List.map pU8 (List.replicate (padN s.size) 0) ++ List.map pU8 (fxL (8 * s.size) 8)) = bytesL bs) = (bs = 128 :: List.replicate (padN s.size) 0 ++ fxL (8 * s.size) 8) := fun bs => by
    have := bytes_map (l := 128 :: List.replicate (padN s.size) 0 ++ fxL (8 * s.size) 8) (bs := bs)
    rw [List.map_append, List.map_cons] at this
    exact this
  repeat' (first | with_reducible (first | refine wA ?_ | refine wB ?_ | refine wC ?_) | with_reducible refine PWp.draw (id := 20) okP true [0, 1, 2, 3, 4, 5, 6, 7, 8, 9, 10, 11, 12, 13, 14, 15, 16, 17, 18, 19, 20, 21, 22, 23, 24, 25, 26, 27, 28, 29] (by kernel_rfl) ?_ | with_reducible (first | refine w1 ?_ | refine w2 ?_ | refine w3 ?_ | refine w4 ?_ | refine w5 ?_ | refine w6 ?_ | refine w7 ?_ | refine w8 ?_ | refine wT ?_ | refine w9 ?_ | refine wE ?_ | refine wS ?_) | ((with_reducible refine hK _ ?_); clear hK K) | ((with_reducible refine PWp.condI ?_); refine ⟨_, rfl, fun hg => ?_, fun hg => ?_⟩ <;> first | (exact absurd hg (by decide)) | ((try simp only [Bool.not_true, Bool.not_false] at hg); (try simp only [hg]); (try simp only [push_cast] at hg); (try exact absurd trivial hg); (try (exfalso; omega)))) | ((with_reducible refine pany_I ?_); refine ⟨_, rfl, fun K hK => ?_⟩) | ((with_reducible refine pops_plain fun K hK => popO_row ?_); refine ⟨_, _, _, _, _, rfl, rfl, rfl, rfl, rfl, ?_⟩; simp (disch := omega) only [push_cast, seval, ht, hby, hpad]) | ((with_reducible refine pD_x ?_ (popO_row ?_)); exact rfl; refine ⟨_, _, _, _, _, rfl, rfl, rfl, rfl, rfl, ?_⟩; simp (disch := omega) only [push_cast, seval, ht, hby, hpad]) | ((with_reducible refine pops_plain fun K hK => ?_); simp (disch := omega) only [push_cast, seval, ht, hby, hpad]) | ((first | ((with_reducible refine pD_y ?_ ?_); exact rfl) | ((with_reducible refine pD_x ?_ ?_); exact rfl)); simp (disch := omega) only [push_cast, seval, ht, hby, hpad]) | ((with_reducible show pcall _ _ _ _ _ _); (first | (refine pcH (cf Tryz.func181) (sL3Keys_q _ (by assumption)) ?_) | (refine pcall_RGf (cf Tryz.func182) [?_, ?_] ?_ ?_ ?_ (sL3Block_q ?_ ?_ ?_ ?_ ?_ ?_ ?_ ?_ ?_) ?_; rotate_left 2; (· ((try simp (disch := omega) only [push_cast, seval]); (repeat' (first | exact trivial | exact rfl | refine And.intro ?_ ?_ | omega)))); (· (repeat' (first | exact trivial | refine And.intro ?_ ?_ | exact ⟨_, rfl⟩ | (simp (disch := omega) only [push_cast, seval]; done) | exact rfl))); (· exact rfl); rotate_right 1; rotate_left 1; (all_goals (try (first | omega | exact (show _ = _ by assumption)))))); (try simp (disch := omega) only [push_cast, seval, ht, hby, hpad])) | ((with_reducible refine And.intro ?_ ?_); omega))
  refine PWp.loopK (α := Nat × HSt × List W32) (fun x => match x with | (k, st, l) => [(7, .own 0), (8, .own 1), (9, .val (.int .i64 (64 * (k : Int))))]) [0, 1, 3, 4, 5, 12, 13, 14, 15, 16, 17, 18, 19, 20, 21, 22, 23, 24, 25, 26, 27, 28, 29, 30, 31, 32, 33, 34, 35, 36, 37, 38, 39, 40, 41, 42, 43, 44, 45, 46, 47, 48, 49, 50, 51, 52, 53, 54, 55, 56, 57, 58, 59] (fun x => match x with | (k, st, l) => [some (.row 3 1 (l.map pW)), some (.row 3 1 (kk.map pW))]) (fun x => match x with | (k, st, l) => k ≤ N ∧ l = listS st ∧ shaGo (padT s) (N - k) st (64 * k) = shaGo (padT s) N sha0 0) (fun x => match x with | (k, st, l) => N - k) ((0, sha0, listS sha0)) (⟨Nat.zero_le _, rfl, rfl⟩) (by (refine ⟨[?_, ?_], ?_, ?_, ?_, ?_⟩; rotate_left 2; (· ((try simp (disch := omega) only [push_cast, seval]); (repeat' (first | exact trivial | exact rfl | refine And.intro ?_ ?_ | omega)))); (· ((try simp (disch := omega) only [push_cast, seval]); (repeat' (first | exact trivial | exact rfl | refine And.intro ?_ ?_ | omega)))); (· exact rfl); (· (first | exact trivial | exact ⟨rfl, trivial⟩ | exact ⟨rfl, rfl, trivial⟩)))) ?_
  intro x ρ hI; obtain ⟨k, st, l⟩ := x
  (try dsimp only at hI)
  refine PWp.at (tm' := ?_) (H' := ?_) ?_ ?_ ?_; rotate_left 2; (· ((try simp only [push_cast, seval]); exact rfl)); (· ((try dsimp only); exact rfl))
  obtain ⟨hk, hl, hgo⟩ := hI
  by_cases hlt2 : k < N
  · obtain ⟨m, hm⟩ : ∃ m, N - k = m + 1 := ⟨N - k - 1, by omega⟩
    have e6 : (64 * (k : Int)).toNat = 64 * k := by omega
    have e7 : (64 * (k : Int) + 64).toNat = 64 * k + 64 := by omega
    have z9 : ((padT s).extract (64 * k) (64 * k + 64)).size = 64 := by rw [ByteArray.size_extract]; omega
    rw [hm, shaGo] at hgo
    obtain ⟨st', hst⟩ : ∃ x, x = blk st ((padT s).extract (64 * k) (64 * k + 64)) 0 := ⟨_, rfl⟩
    obtain ⟨lr, hlr⟩ : ∃ x, x = listS (blk st ((padT s).extract (64 * k) (64 * k + 64)) 0) := ⟨_, rfl⟩
    rw [← hst] at hgo
    repeat' (first | with_reducible (first | refine wA ?_ | refine wB ?_ | refine wC ?_) | with_reducible refine PWp.draw (id := 20) okP true [0, 1, 2, 3, 4, 5, 6, 7, 8, 9, 10, 11, 12, 13, 14, 15, 16, 17, 18, 19, 20, 21, 22, 23, 24, 25, 26, 27, 28, 29] (by kernel_rfl) ?_ | with_reducible (first | refine w1 ?_ | refine w2 ?_ | refine w3 ?_ | refine w4 ?_ | refine w5 ?_ | refine w6 ?_ | refine w7 ?_ | refine w8 ?_ | refine wT ?_ | refine w9 ?_ | refine wE ?_ | refine wS ?_) | ((with_reducible refine hK _ ?_); clear hK K) | ((with_reducible refine PWp.condI ?_); refine ⟨_, rfl, fun hg => ?_, fun hg => ?_⟩ <;> first | (exact absurd hg (by decide)) | ((try simp only [Bool.not_true, Bool.not_false] at hg); (try simp only [hg]); (try simp only [push_cast] at hg); (try exact absurd trivial hg); (try (exfalso; omega)))) | ((with_reducible refine pany_I ?_); refine ⟨_, rfl, fun K hK => ?_⟩) | ((with_reducible refine pops_plain fun K hK => popO_row ?_); refine ⟨_, _, _, _, _, rfl, rfl, rfl, rfl, rfl, ?_⟩; simp (disch := omega) only [push_cast, seval, hN, e6, e7]) | ((with_reducible refine pD_x ?_ (popO_row ?_)); exact rfl; refine ⟨_, _, _, _, _, rfl, rfl, rfl, rfl, rfl, ?_⟩; simp (disch := omega) only [push_cast, seval, hN, e6, e7]) | ((with_reducible refine pops_plain fun K hK => ?_); simp (disch := omega) only [push_cast, seval, hN, e6, e7]) | ((first | ((with_reducible refine pD_y ?_ ?_); exact rfl) | ((with_reducible refine pD_x ?_ ?_); exact rfl)); simp (disch := omega) only [push_cast, seval, hN, e6, e7]) | ((with_reducible show pcall _ _ _ _ _ _); (first | (refine pcH (cf Tryz.func181) (sL3Keys_q _ (by assumption)) ?_) | (refine pcall_RGf (cf Tryz.func182) [?_, ?_] ?_ ?_ ?_ (sL3Block_q st _ _ _ lr z9 hl hkk hlr) ?_; rotate_left 2; (· ((try simp (disch := omega) only [push_cast, seval]); (repeat' (first | exact trivial | exact rfl | refine And.intro ?_ ?_ | omega)))); (· (repeat' (first | exact trivial | refine And.intro ?_ ?_ | exact ⟨_, rfl⟩ | (simp (disch := omega) only [push_cast, seval]; done) | exact rfl))); (· exact rfl); rotate_right 1; rotate_left 1; (all_goals (try (first | omega | exact (show _ = _ by assumption)))))); (try simp (disch := omega) only [push_cast, seval, hN, e6, e7])) | ((with_reducible refine And.intro ?_ ?_); omega))
    (refine ⟨(k + 1, st', lr), by ((try dsimp only); omega), ?_, by (refine ⟨[?_, ?_], ?_, ?_, ?_, ?_⟩; rotate_left 2; (· ((try simp (disch := omega) only [push_cast, seval]); (repeat' (first | exact trivial | exact rfl | refine And.intro ?_ ?_ | omega)))); (· ((try simp (disch := omega) only [push_cast, seval]); (repeat' (first | exact trivial | exact rfl | refine And.intro ?_ ?_ | omega)))); (· exact rfl); (· (first | exact trivial | exact ⟨rfl, trivial⟩ | exact ⟨rfl, rfl, trivial⟩)))⟩)
    exact ⟨by omega, by rw [hlr, hst], by rw [show N - (k + 1) = m by omega, show 64 * (k + 1) = 64 * k + 64 by omega]; exact hgo⟩
  obtain rfl : k = N := by omega
  rw [Nat.sub_self, shaGo] at hgo
  repeat' (first | with_reducible (first | refine wA ?_ | refine wB ?_ | refine wC ?_) | with_reducible refine PWp.draw (id := 20) okP true [0, 1, 2, 3, 4, 5, 6, 7, 8, 9, 10, 11, 12, 13, 14, 15, 16, 17, 18, 19, 20, 21, 22, 23, 24, 25, 26, 27, 28, 29] (by kernel_rfl) ?_ | with_reducible (first | refine w1 ?_ | refine w2 ?_ | refine w3 ?_ | refine w4 ?_ | refine w5 ?_ | refine w6 ?_ | refine w7 ?_ | refine w8 ?_ | refine wT ?_ | refine w9 ?_ | refine wE ?_ | refine wS ?_) | ((with_reducible refine hK _ ?_); clear hK K) | ((with_reducible refine PWp.condI ?_); refine ⟨_, rfl, fun hg => ?_, fun hg => ?_⟩ <;> first | (exact absurd hg (by decide)) | ((try simp only [Bool.not_true, Bool.not_false] at hg); (try simp only [hg]); (try simp only [push_cast] at hg); (try exact absurd trivial hg); (try (exfalso; omega)))) | ((with_reducible refine pany_I ?_); refine ⟨_, rfl, fun K hK => ?_⟩) | ((with_reducible refine pops_plain fun K hK => popO_row ?_); refine ⟨_, _, _, _, _, rfl, rfl, rfl, rfl, rfl, ?_⟩; simp (disch := omega) only [push_cast, seval, hN]) | ((with_reducible refine pD_x ?_ (popO_row ?_)); exact rfl; refine ⟨_, _, _, _, _, rfl, rfl, rfl, rfl, rfl, ?_⟩; simp (disch := omega) only [push_cast, seval, hN]) | ((with_reducible refine pops_plain fun K hK => ?_); simp (disch := omega) only [push_cast, seval, hN]) | ((first | ((with_reducible refine pD_y ?_ ?_); exact rfl) | ((with_reducible refine pD_x ?_ ?_); exact rfl)); simp (disch := omega) only [push_cast, seval, hN]) | ((with_reducible show pcall _ _ _ _ _ _); (first | (refine pcH (cf Tryz.func181) (sL3Keys_q _ (by assumption)) ?_) | (refine pcall_RGf (cf Tryz.func182) [?_, ?_] ?_ ?_ ?_ (sL3Block_q st _ _ _ lr z9 hl hkk hlr) ?_; rotate_left 2; (· ((try simp (disch := omega) only [push_cast, seval]); (repeat' (first | exact trivial | exact rfl | refine And.intro ?_ ?_ | omega)))); (· (repeat' (first | exact trivial | refine And.intro ?_ ?_ | exact ⟨_, rfl⟩ | (simp (disch := omega) only [push_cast, seval]; done) | exact rfl))); (· exact rfl); rotate_right 1; rotate_left 1; (all_goals (try (first | omega | exact (show _ = _ by assumption)))))); (try simp (disch := omega) only [push_cast, seval, hN])) | ((with_reducible refine And.intro ?_ ?_); omega))
  refine PWp.loopK (α := Nat) (fun j => [(7, .own 0), (10, .own 1), (11, .val (.int .i64 (j : Int)))]) [0, 1, 3, 4, 5, 6, 8, 9, 12, 13, 14, 15, 16, 17, 18, 19, 20, 21, 22, 23, 24, 25, 26, 27, 28, 29, 30, 31, 32, 33, 34, 35, 36, 37, 38, 39, 40, 41, 42, 43, 44, 45, 46, 47, 48, 49, 50, 51, 52, 53, 54, 55, 56, 57, 58, 59, 60, 61, 62, 63, 64, 65, 66, 67, 68, 69, 70, 71, 72, 73, 74, 75, 76, 77, 78, 79, 80, 81, 82, 83, 84, 85, 86, 87, 88, 89, 90, 91, 92, 93] (fun j => [some (.row 3 1 (l.map pW)), some (.row 5 1 ((outL (l.take j)).map pU8))]) (fun j => j ≤ 8 ∧ l = listS st) (fun j => 8 - j) (0) (⟨Nat.zero_le _, hl⟩) (by (refine ⟨[?_, ?_], ?_, ?_, ?_, ?_⟩; rotate_left 2; (· ((try simp (disch := omega) only [push_cast, seval]); (repeat' (first | exact trivial | exact rfl | refine And.intro ?_ ?_ | omega)))); (· ((try simp (disch := omega) only [push_cast, seval]); (repeat' (first | exact trivial | exact rfl | refine And.intro ?_ ?_ | omega)))); (· exact rfl); (· (first | exact trivial | exact ⟨rfl, trivial⟩ | exact ⟨rfl, rfl, trivial⟩)))) ?_
  intro j ρ hI
  (try dsimp only at hI)
  refine PWp.at (tm' := ?_) (H' := ?_) ?_ ?_ ?_; rotate_left 2; (· ((try simp only [push_cast, seval]); exact rfl)); (· ((try dsimp only); exact rfl))
  have hl8 : l.length = 8 := by rw [hI.2]; rfl
  obtain ⟨hj, -⟩ := hI
  by_cases hlt3 : j < 8
  · obtain ⟨x, hx⟩ : ∃ x, l[j]? = some x := ⟨_, List.getElem?_eq_getElem (by omega)⟩
    have hx32 := x.isLt
    have hrow : List.map pU8 (outL (List.take j l)) ++ [[PV.val (.int .u8 ((x.toNat : Int) / 16777216 % 256))], [PV.val (.int .u8 ((x.toNat : Int) / 65536 % 256 % 256))], [PV.val (.int .u8 ((x.toNat : Int) / 256 % 256 % 256))], [PV.val (.int .u8 ((x.toNat : Int) % 256 % 256))]] = List.map pU8 (outL (List.take (j + 1) l)) := by
      rw [outL_snoc hx, List.map_append, fx4_rows]
    have hol : (outL (List.take j l)).length = 4 * j := by rw [outL_len, List.length_take]; omega
    repeat' (first | with_reducible (first | refine wA ?_ | refine wB ?_ | refine wC ?_) | with_reducible refine PWp.draw (id := 20) okP true [0, 1, 2, 3, 4, 5, 6, 7, 8, 9, 10, 11, 12, 13, 14, 15, 16, 17, 18, 19, 20, 21, 22, 23, 24, 25, 26, 27, 28, 29] (by kernel_rfl) ?_ | with_reducible (first | refine w1 ?_ | refine w2 ?_ | refine w3 ?_ | refine w4 ?_ | refine w5 ?_ | refine w6 ?_ | refine w7 ?_ | refine w8 ?_ | refine wT ?_ | refine w9 ?_ | refine wE ?_ | refine wS ?_) | ((with_reducible refine hK _ ?_); clear hK K) | ((with_reducible refine PWp.condI ?_); refine ⟨_, rfl, fun hg => ?_, fun hg => ?_⟩ <;> first | (exact absurd hg (by decide)) | ((try simp only [Bool.not_true, Bool.not_false] at hg); (try simp only [hg]); (try simp only [push_cast] at hg); (try exact absurd trivial hg); (try (exfalso; omega)))) | ((with_reducible refine pany_I ?_); refine ⟨_, rfl, fun K hK => ?_⟩) | ((with_reducible refine pops_plain fun K hK => popO_row ?_); refine ⟨_, _, _, _, _, rfl, rfl, rfl, rfl, rfl, ?_⟩; simp (disch := omega) only [push_cast, seval, hx, pW, u_nat, hol]) | ((with_reducible refine pD_x ?_ (popO_row ?_)); exact rfl; refine ⟨_, _, _, _, _, rfl, rfl, rfl, rfl, rfl, ?_⟩; simp (disch := omega) only [push_cast, seval, hx, pW, u_nat, hol]) | ((with_reducible refine pops_plain fun K hK => ?_); simp (disch := omega) only [push_cast, seval, hx, pW, u_nat, hol]) | ((first | ((with_reducible refine pD_y ?_ ?_); exact rfl) | ((with_reducible refine pD_x ?_ ?_); exact rfl)); simp (disch := omega) only [push_cast, seval, hx, pW, u_nat, hol]) | ((with_reducible show pcall _ _ _ _ _ _); (first | (refine pcH (cf Tryz.func181) (sL3Keys_q _ (by assumption)) ?_) | (refine pcall_RGf (cf Tryz.func182) [?_, ?_] ?_ ?_ ?_ (sL3Block_q st _ _ _ lr z9 hl hkk hlr) ?_; rotate_left 2; (· ((try simp (disch := omega) only [push_cast, seval]); (repeat' (first | exact trivial | exact rfl | refine And.intro ?_ ?_ | omega)))); (· (repeat' (first | exact trivial | refine And.intro ?_ ?_ | exact ⟨_, rfl⟩ | (simp (disch := omega) only [push_cast, seval]; done) | exact rfl))); (· exact rfl); rotate_right 1; rotate_left 1; (all_goals (try (first | omega | exact (show _ = _ by assumption)))))); (try simp (disch := omega) only [push_cast, seval, hx, pW, u_nat, hol])) | ((with_reducible refine And.intro ?_ ?_); omega))
    (refine ⟨j + 1, by ((try dsimp only); omega), ?_, by (refine ⟨[?_, ?_], ?_, ?_, ?_, ?_⟩; rotate_left 2; (· ((first | simp (disch := omega) only [push_cast, seval, hrow] | simp (disch := omega) only [push_cast, seval] | skip); (repeat' (first | exact trivial | exact rfl | refine And.intro ?_ ?_ | omega)))); (· ((first | simp (disch := omega) only [push_cast, seval, hrow] | simp (disch := omega) only [push_cast, seval] | skip); (repeat' (first | exact trivial | exact rfl | refine And.intro ?_ ?_ | omega)))); (· exact rfl); (· (first | exact trivial | exact ⟨rfl, trivial⟩ | exact ⟨rfl, rfl, trivial⟩)))⟩)
    exact ⟨hlt3, hl⟩
  obtain rfl : j = 8 := by omega
  have ht8 : l.take 8 = l := List.take_of_length_le (by omega)
  repeat' (first | with_reducible (first | refine wA ?_ | refine wB ?_ | refine wC ?_) | with_reducible refine PWp.draw (id := 20) okP true [0, 1, 2, 3, 4, 5, 6, 7, 8, 9, 10, 11, 12, 13, 14, 15, 16, 17, 18, 19, 20, 21, 22, 23, 24, 25, 26, 27, 28, 29] (by kernel_rfl) ?_ | with_reducible (first | refine w1 ?_ | refine w2 ?_ | refine w3 ?_ | refine w4 ?_ | refine w5 ?_ | refine w6 ?_ | refine w7 ?_ | refine w8 ?_ | refine wT ?_ | refine w9 ?_ | refine wE ?_ | refine wS ?_) | ((with_reducible refine hK _ ?_); clear hK K) | ((with_reducible refine PWp.condI ?_); refine ⟨_, rfl, fun hg => ?_, fun hg => ?_⟩ <;> first | (exact absurd hg (by decide)) | ((try simp only [Bool.not_true, Bool.not_false] at hg); (try simp only [hg]); (try simp only [push_cast] at hg); (try exact absurd trivial hg); (try (exfalso; omega)))) | ((with_reducible refine pany_I ?_); refine ⟨_, rfl, fun K hK => ?_⟩) | ((with_reducible refine pops_plain fun K hK => popO_row ?_); refine ⟨_, _, _, _, _, rfl, rfl, rfl, rfl, rfl, ?_⟩; simp (disch := omega) only [push_cast, seval, ht8]) | ((with_reducible refine pD_x ?_ (popO_row ?_)); exact rfl; refine ⟨_, _, _, _, _, rfl, rfl, rfl, rfl, rfl, ?_⟩; simp (disch := omega) only [push_cast, seval, ht8]) | ((with_reducible refine pops_plain fun K hK => ?_); simp (disch := omega) only [push_cast, seval, ht8]) | ((first | ((with_reducible refine pD_y ?_ ?_); exact rfl) | ((with_reducible refine pD_x ?_ ?_); exact rfl)); simp (disch := omega) only [push_cast, seval, ht8]) | ((with_reducible show pcall _ _ _ _ _ _); (first | (refine pcH (cf Tryz.func181) (sL3Keys_q _ (by assumption)) ?_) | (refine pcall_RGf (cf Tryz.func182) [?_, ?_] ?_ ?_ ?_ (sL3Block_q st _ _ _ lr z9 hl hkk hlr) ?_; rotate_left 2; (· ((try simp (disch := omega) only [push_cast, seval]); (repeat' (first | exact trivial | exact rfl | refine And.intro ?_ ?_ | omega)))); (· (repeat' (first | exact trivial | refine And.intro ?_ ?_ | exact ⟨_, rfl⟩ | (simp (disch := omega) only [push_cast, seval]; done) | exact rfl))); (· exact rfl); rotate_right 1; rotate_left 1; (all_goals (try (first | omega | exact (show _ = _ by assumption)))))); (try simp (disch := omega) only [push_cast, seval, ht8])) | ((with_reducible refine And.intro ?_ ?_); omega))
  ((with_reducible show PPostR _ _ _ _ _ _); refine finV ?_; (try simp only [push_cast, seval]))
  rw [hl, ← outS_L, sha, hN', ← hgo]
end Go.Proofs.YtiboajlnjldalaaGreatDoor
namespace Go.Proofs.YtiboajlnjldalaaGreatDoor
set_option linter.unusedSimpArgs false
set_option linter.unusedVariables false
open Go.RowKit
set_option maxRecDepth 100000
theorem ba_0 : (⟨#[]⟩ : ByteArray).size = 0 := rfl
theorem ba_1 {x : UInt8} : (⟨#[x]⟩ : ByteArray).size = 1 := rfl
theorem ba_2 {x y : UInt8} : (⟨#[x, y]⟩ : ByteArray).size = 2 := rfl
theorem ba_3 {x y z : UInt8} : (⟨#[x, y, z]⟩ : ByteArray).size = 3 := rfl
attribute [push_cast] ba_0 ba_1 ba_2 ba_3 ByteArray.size_append
theorem iShort_p (s : ByteArray) (hs : s.size ≤ 1099511627776) : PCalls Tryz.prog 188 [.val (.string s)] [] (RV (.val (.string (short s)))) := by
  have h32 := sha_size s
  refine pcalls_ofR okP Tryz.func188 rfl ?_
  simp only [Tryz.f188, List.length_cons, List.length_nil, Nat.reduceAdd, Nat.reduceSub, List.replicate_succ, List.replicate_zero, List.cons_append, List.nil_append, List.length_map]
  repeat' (first | with_reducible (first | refine wA ?_ | refine wB ?_ | refine wC ?_ | refine w1 ?_ | refine w2 ?_ | refine w3 ?_ | refine w4 ?_ | refine w5 ?_ | refine w6 ?_ | refine w7 ?_ | refine w8 ?_ | refine wT ?_ | refine w9 ?_ | refine wE ?_ | refine wS ?_) | ((with_reducible refine hK _ ?_); clear hK K) | ((with_reducible refine pops_plain fun K hK => ?_); simp (disch := omega) only [push_cast, seval]) | ((with_reducible show pcall _ _ _ _ _ _); (first | (refine pcV (cf Tryz.func176) (iSha_p _ sd) ?_)); (try simp (disch := omega) only [push_cast, seval])) | ((with_reducible refine And.intro ?_ ?_); omega))
  ((with_reducible show PPostR _ _ _ _ _ _); refine finV ?_; (try simp only [push_cast, seval]))
  rfl
theorem sShort_p (s : ByteArray) (hs : s.size ≤ 1099511627776) : PCalls Tryz.prog 173 [.val (.string s)] [] (RV (.val (.string (short s)))) := by
  have h32 := sha_size s
  refine pcalls_ofR okP Tryz.func173 rfl ?_
  simp only [Tryz.f173, List.length_cons, List.length_nil, Nat.reduceAdd, Nat.reduceSub, List.replicate_succ, List.replicate_zero, List.cons_append, List.nil_append, List.length_map]
  repeat' (first | with_reducible (first | refine wA ?_ | refine wB ?_ | refine wC ?_ | refine w1 ?_ | refine w2 ?_ | refine w3 ?_ | refine w4 ?_ | refine w5 ?_ | refine w6 ?_ | refine w7 ?_ | refine w8 ?_ | refine wT ?_ | refine w9 ?_ | refine wE ?_ | refine wS ?_) | ((with_reducible refine hK _ ?_); clear hK K) | ((with_reducible refine pops_plain fun K hK => ?_); simp (disch := omega) only [push_cast, seval]) | ((with_reducible show pcall _ _ _ _ _ _); (first | (refine pcV (cf Tryz.func80) (sSha_p _ sd) ?_)); (try simp (disch := omega) only [push_cast, seval])) | ((with_reducible refine And.intro ?_ ?_); omega))
  ((with_reducible show PPostR _ _ _ _ _ _); refine finV ?_; (try simp only [push_cast, seval]))
  rfl
end Go.Proofs.YtiboajlnjldalaaGreatDoor
namespace Go.Proofs.YtiboajlnjldalaaGreatDoor
set_option linter.unusedSimpArgs false
set_option linter.unusedVariables false
open Go.RowKit
set_option maxRecDepth 100000
theorem fx_step {n w i : Nat} (h : i < w) (o : List UInt8) (e : (fxL n w).drop (w - i) = o) : (fxL n w).drop (w - (i + 1)) = UInt8.ofNat (n / 256 ^ i) :: o := by
  have hl : (fxL n w).length = w := fxL_len
  have hg := fxL_get (n := n) (w := w) (i := w - (i + 1)) (by omega)
  rw [List.drop_eq_getElem_cons (by omega), show w - (i + 1) + 1 = w - i by omega, e]
  congr 1
  rw [List.getElem?_eq_getElem (by omega)] at hg
  rw [Option.some.inj hg]
  congr 3
  omega
set_option maxHeartbeats 1000000 in
theorem sFixed_p (n w : Nat) (hw : 1 ≤ w) (hw7 : w ≤ 7) (hn : n < 2 ^ (8 * w)) : PCalls Tryz.prog 244 [.val (.int .i64 (n : Int)), .val (.int .i64 (w : Int))] [] (RV (.val (.string (fx n w)))) := by
  have h56 : (2 : Nat) ^ (8 * w) ≤ 2 ^ 56 := Nat.pow_le_pow_right (by omega) (by omega)
  have h256 : (2 : Nat) ^ (8 * w) = 256 ^ w := by rw [Nat.pow_mul]
  have hin : inB (w : Int) 1 7 = true := by simp [inB]; omega
  have hl : (fxL n w).length = w := fxL_len
  rw [h256] at hn h56
  refine pcalls_ofR okP Tryz.func244 rfl ?_
  simp only [Tryz.f244, List.length_cons, List.length_nil, Nat.reduceAdd, Nat.reduceSub, List.replicate_succ, List.replicate_zero, List.cons_append, List.nil_append, List.length_map]
  repeat' (first | with_reducible (first | refine wA ?_ | refine wB ?_ | refine wC ?_ | refine w1 ?_ | refine w2 ?_ | refine w3 ?_ | refine w4 ?_ | refine w5 ?_ | refine w6 ?_ | refine w7 ?_ | refine w8 ?_ | refine wT ?_ | refine w9 ?_ | refine wE ?_ | refine wS ?_) | ((with_reducible refine hK _ ?_); clear hK K) | ((with_reducible refine PWp.condI ?_); refine ⟨_, rfl, fun hg => ?_, fun hg => ?_⟩ <;> first | (exact absurd hg (by decide)) | ((try simp only [Bool.not_true, Bool.not_false] at hg); (try simp only [hg]); (try simp only [push_cast] at hg); (try exact absurd trivial hg); (try (exfalso; omega)))) | ((with_reducible refine pops_guard0 ?_); refine ⟨_, rfl, fun K hK => ⟨rfl, ?_⟩⟩; (try simp (disch := omega) only [push_cast, seval, hin])) | ((with_reducible refine pops_plain fun K hK => popO_row ?_); refine ⟨_, _, _, _, _, rfl, rfl, rfl, rfl, rfl, ?_⟩; simp (disch := omega) only [push_cast, seval, hin]) | ((with_reducible refine pops_plain fun K hK => ?_); simp (disch := omega) only [push_cast, seval, hin]) | ((with_reducible refine pops_guard ?_); refine ⟨_, rfl, fun K hK => ⟨_, rfl, fun hg => ?_, fun hg => ?_⟩⟩ <;> first | (exact absurd hg (by decide)) | ((try simp only [Bool.not_true, Bool.not_false] at hg); (try simp only [hg]); (try simp only [push_cast] at hg); (try exact absurd trivial hg); (try (exfalso; omega)); (try simp (disch := omega) only [push_cast, seval, hin]))) | ((with_reducible show pcall _ _ _ _ _ _); (first | (refine pcV (cf Tryz.func79) (l1In_p _ _ _) ?_)); (try simp (disch := omega) only [push_cast, seval, hin])) | ((with_reducible refine And.intro ?_ ?_); omega))
  refine PWp.loopK (α := Nat × Nat × List UInt8) (fun x => match x with | (i, m, o) => [(0, .val (.int .i64 (m : Int))), (5, .val (.string ⟨o.toArray⟩)), (6, .val (.int .i64 (i : Int)))]) [2, 3, 7, 8, 9, 10, 11, 12, 13, 14, 15, 16, 17, 18, 19, 20, 21, 22, 23, 24, 25, 26, 27] (fun x => match x with | (i, m, o) => []) (fun x => match x with | (i, m, o) => i ≤ w ∧ m = n / 256 ^ i ∧ (fxL n w).drop (w - i) = o) (fun x => match x with | (i, m, o) => w - i) ((0, n, [])) (⟨Nat.zero_le _, by simp, by rw [Nat.sub_zero, List.drop_eq_nil_of_le (by omega)]⟩) (by (refine ⟨[], ?_, ?_, ?_, ?_⟩; (· ((try simp (disch := omega) only [push_cast, seval]); (repeat' (first | exact trivial | exact rfl | refine And.intro ?_ ?_ | omega)))); (· ((try simp (disch := omega) only [push_cast, seval]); (repeat' (first | exact trivial | exact rfl | refine And.intro ?_ ?_ | omega)))); (· exact rfl); (· (first | exact trivial | exact ⟨rfl, trivial⟩ | exact ⟨rfl, rfl, trivial⟩)))) ?_
  intro x ρ hI; obtain ⟨i, m, o⟩ := x
  (try dsimp only at hI)
  refine PWp.at (tm' := ?_) (H' := ?_) ?_ ?_ ?_; rotate_left 2; (· ((try simp only [push_cast, seval]); exact rfl)); (· ((try dsimp only); exact rfl))
  obtain ⟨hi, hm, ho⟩ := hI
  have hmn : m ≤ n := by subst hm; exact Nat.div_le_self _ _
  by_cases hlt : i < w
  · have hst := fx_step hlt o ho
    have hlo : o.length ≤ w := by rw [← ho, List.length_drop]; omega
    have eo : (⟨o.toArray⟩ : ByteArray).size = o.length := size_mk
    have eu : u8 (m : Int) = UInt8.ofNat m := by
      apply UInt8.toNat_inj.1
      have := u8_nat (m : Int)
      simp
      omega
    have e1 : (⟨#[u8 (m : Int)]⟩ : ByteArray) ++ ⟨o.toArray⟩ = ⟨(UInt8.ofNat m :: o).toArray⟩ := by
      rw [eu]
      exact arr_app (a := [UInt8.ofNat m]) (b := o)
    have z1 : (⟨#[u8 (m : Int)]⟩ : ByteArray).size = 1 := rfl
    repeat' (first | with_reducible (first | refine wA ?_ | refine wB ?_ | refine wC ?_ | refine w1 ?_ | refine w2 ?_ | refine w3 ?_ | refine w4 ?_ | refine w5 ?_ | refine w6 ?_ | refine w7 ?_ | refine w8 ?_ | refine wT ?_ | refine w9 ?_ | refine wE ?_ | refine wS ?_) | ((with_reducible refine hK _ ?_); clear hK K) | ((with_reducible refine PWp.condI ?_); refine ⟨_, rfl, fun hg => ?_, fun hg => ?_⟩ <;> first | (exact absurd hg (by decide)) | ((try simp only [Bool.not_true, Bool.not_false] at hg); (try simp only [hg]); (try simp only [push_cast] at hg); (try exact absurd trivial hg); (try (exfalso; omega)))) | ((with_reducible refine pops_guard0 ?_); refine ⟨_, rfl, fun K hK => ⟨rfl, ?_⟩⟩; (try simp (disch := omega) only [push_cast, seval, e1])) | ((with_reducible refine pops_plain fun K hK => popO_row ?_); refine ⟨_, _, _, _, _, rfl, rfl, rfl, rfl, rfl, ?_⟩; simp (disch := omega) only [push_cast, seval, e1]) | ((with_reducible refine pops_plain fun K hK => ?_); simp (disch := omega) only [push_cast, seval, e1]) | ((with_reducible refine pops_guard ?_); refine ⟨_, rfl, fun K hK => ⟨_, rfl, fun hg => ?_, fun hg => ?_⟩⟩ <;> first | (exact absurd hg (by decide)) | ((try simp only [Bool.not_true, Bool.not_false] at hg); (try simp only [hg]); (try simp only [push_cast] at hg); (try exact absurd trivial hg); (try (exfalso; omega)); (try simp (disch := omega) only [push_cast, seval, e1]))) | ((with_reducible show pcall _ _ _ _ _ _); (first | (refine pcV (cf Tryz.func79) (l1In_p _ _ _) ?_)); (try simp (disch := omega) only [push_cast, seval, e1])) | ((with_reducible refine And.intro ?_ ?_); omega))
    (refine ⟨(i + 1, m / 256, UInt8.ofNat m :: o), by ((try dsimp only); omega), ?_, by (refine ⟨[], ?_, ?_, ?_, ?_⟩; (· ((try simp (disch := omega) only [push_cast, seval]); (repeat' (first | exact trivial | exact rfl | refine And.intro ?_ ?_ | omega)))); (· ((try simp (disch := omega) only [push_cast, seval]); (repeat' (first | exact trivial | exact rfl | refine And.intro ?_ ?_ | omega)))); (· exact rfl); (· (first | exact trivial | exact ⟨rfl, trivial⟩ | exact ⟨rfl, rfl, trivial⟩)))⟩)
    exact ⟨by omega, by rw [hm, Nat.div_div_eq_div_mul, Nat.pow_succ], by rw [hm]; exact hst⟩
  · obtain rfl : i = w := by omega
    have hz : m = 0 := by rw [hm]; exact Nat.div_eq_of_lt hn
    rw [Nat.sub_self, List.drop_zero] at ho
    repeat' (first | with_reducible (first | refine wA ?_ | refine wB ?_ | refine wC ?_ | refine w1 ?_ | refine w2 ?_ | refine w3 ?_ | refine w4 ?_ | refine w5 ?_ | refine w6 ?_ | refine w7 ?_ | refine w8 ?_ | refine wT ?_ | refine w9 ?_ | refine wE ?_ | refine wS ?_) | ((with_reducible refine hK _ ?_); clear hK K) | ((with_reducible refine PWp.condI ?_); refine ⟨_, rfl, fun hg => ?_, fun hg => ?_⟩ <;> first | (exact absurd hg (by decide)) | ((try simp only [Bool.not_true, Bool.not_false] at hg); (try simp only [hg]); (try simp only [push_cast] at hg); (try exact absurd trivial hg); (try (exfalso; omega)))) | ((with_reducible refine pops_guard0 ?_); refine ⟨_, rfl, fun K hK => ⟨rfl, ?_⟩⟩; (try simp (disch := omega) only [push_cast, seval, hz])) | ((with_reducible refine pops_plain fun K hK => popO_row ?_); refine ⟨_, _, _, _, _, rfl, rfl, rfl, rfl, rfl, ?_⟩; simp (disch := omega) only [push_cast, seval, hz]) | ((with_reducible refine pops_plain fun K hK => ?_); simp (disch := omega) only [push_cast, seval, hz]) | ((with_reducible refine pops_guard ?_); refine ⟨_, rfl, fun K hK => ⟨_, rfl, fun hg => ?_, fun hg => ?_⟩⟩ <;> first | (exact absurd hg (by decide)) | ((try simp only [Bool.not_true, Bool.not_false] at hg); (try simp only [hg]); (try simp only [push_cast] at hg); (try exact absurd trivial hg); (try (exfalso; omega)); (try simp (disch := omega) only [push_cast, seval, hz]))) | ((with_reducible show pcall _ _ _ _ _ _); (first | (refine pcV (cf Tryz.func79) (l1In_p _ _ _) ?_)); (try simp (disch := omega) only [push_cast, seval, hz])) | ((with_reducible refine And.intro ?_ ?_); omega))
    all_goals
      ((with_reducible show PPostR _ _ _ _ _ _); refine finV ?_; (try simp only [push_cast, seval]))
      rw [fx, ho]
end Go.Proofs.YtiboajlnjldalaaGreatDoor
namespace Go.Proofs.YtiboajlnjldalaaGreatDoor
set_option linter.unusedSimpArgs false
set_option linter.unusedVariables false
open Go.RowKit
def Mk (p : Prop) : Prop := p
theorem Mk.of {p : Prop} (h : p) : Mk p := h
theorem mkRegion {P : Program} {N : Nat} {id : Nat} {ops : Array Oper} {b : Bool} {Q : Exit → St → Prop} {σ : St} (h : Mk (PWp P N (.region id ops b) Q σ)) : PWp P N (.region id ops b) Q σ := h
theorem PWp.cap {P : Program} {N : Nat} {c cb : Code} {Q Qb : Exit → St → Prop} {tm0 : List PV} {Hb : Hp} {α : Type} (car : α → List (Nat × PV)) (fgt : List Nat) (HH : α → Hp) (I : α → Prop)
    (main : (∀ x tm H, I x → FitsR N (patK (car x) fgt tm0) (HH x) ⟨tm, H⟩ → PWp P N c Q ⟨tm, H⟩) → PWp P N cb Qb ⟨tm0, Hb⟩)
    (t : ∀ x ρ, I x → PWp P N c Q ⟨instP ρ 0 (patK (car x) fgt tm0), HH x⟩) : PWp P N cb Qb ⟨tm0, Hb⟩ :=
  main fun x tm H hx f E a w hN r => by
    subst hN
    obtain ⟨ρ, r'⟩ := f.rel r
    exact t x ρ hx E a w rfl r'
end Go.Proofs.YtiboajlnjldalaaGreatDoor
namespace Go.Proofs.YtiboajlnjldalaaGreatDoor
set_option linter.unusedSimpArgs false
set_option linter.unusedVariables false
open Go.RowKit
set_option maxRecDepth 100000
theorem dec_u8 {m : Nat} : (UInt8.ofNat (48 + m % 10)).toNat = 48 + m % 10 := by
  rw [UInt8.toNat_ofNat']
  omega
theorem decb1 {b : UInt8} {x : List UInt8} : ([pU8 b] = bytesL x) = (x = [b]) := bytes_map (l := [b])
theorem decb2 {a b : UInt8} {x : List UInt8} : ([pU8 a, pU8 b] = bytesL x) = (x = [a, b]) := bytes_map (l := [a, b])
theorem decb3 {a b c : UInt8} {x : List UInt8} : ([pU8 a, pU8 b, pU8 c] = bytesL x) = (x = [a, b, c]) := bytes_map (l := [a, b, c])
set_option maxHeartbeats 1000000 in
theorem iDec_p (n : Int) (h : 0 ≤ n ∧ n < 1000) : PCalls Tryz.prog 177 [.val (.int .i64 n)] [] (RV (.val (.string (decS n)))) := by
  obtain ⟨k, rfl⟩ : ∃ k : Nat, n = k := ⟨n.toNat, by omega⟩
  by_cases h0 : k = 0
  · subst h0
    refine pcalls_ofR okP Tryz.func177 rfl ?_
    simp only [Tryz.f177, List.length_cons, List.length_nil, Nat.reduceAdd, Nat.reduceSub, List.replicate_succ, List.replicate_zero, List.cons_append, List.nil_append, List.length_map]
    repeat' (first | with_reducible (first | refine wA ?_ | refine wB ?_ | refine wC ?_) | with_reducible refine PWp.draw (id := 16) okP true [0, 1, 2, 3, 4, 5, 6, 7, 8, 9, 10, 11, 12, 13, 14, 15] (by kernel_rfl) ?_ | with_reducible (first | refine w1 ?_ | refine w2 ?_ | refine w3 ?_ | refine w4 ?_ | refine w5 ?_ | refine w6 ?_ | refine w7 ?_ | refine w8 ?_ | refine wT ?_ | refine w9 ?_ | refine wE ?_ | refine wS ?_) | ((with_reducible refine hK _ ?_); clear hK K) | ((with_reducible refine PWp.condI ?_); refine ⟨_, rfl, fun hg => ?_, fun hg => ?_⟩ <;> first | (exact absurd hg (by decide)) | ((try simp only [Bool.not_true, Bool.not_false] at hg); (try simp only [hg]); (try simp only [push_cast] at hg); (try exact absurd trivial hg); (try (exfalso; omega)))) | ((with_reducible refine pany_I ?_); refine ⟨_, rfl, fun K hK => ?_⟩) | ((with_reducible refine pops_plain fun K hK => popO_row ?_); refine ⟨_, _, _, _, _, rfl, rfl, rfl, rfl, rfl, ?_⟩; simp (disch := omega) only [push_cast, seval]) | ((with_reducible refine pD_x ?_ (popO_row ?_)); exact rfl; refine ⟨_, _, _, _, _, rfl, rfl, rfl, rfl, rfl, ?_⟩; simp (disch := omega) only [push_cast, seval]) | ((with_reducible refine pops_plain fun K hK => ?_); simp (disch := omega) only [push_cast, seval]) | ((first | ((with_reducible refine pD_y ?_ ?_); exact rfl) | ((with_reducible refine pD_x ?_ ?_); exact rfl)); simp (disch := omega) only [push_cast, seval]) | ((with_reducible refine And.intro ?_ ?_); omega))
    ((with_reducible show PPostR _ _ _ _ _ _); refine finV ?_; (try simp only [push_cast, seval]))
    rfl
  have e0 : decS (k : Int) = ⟨(decR k).reverse.toArray⟩ := by unfold decS; rw [if_neg (by omega), Int.toNat_natCast]
  rw [e0]
  refine pcalls_ofR okP Tryz.func177 rfl ?_
  simp only [Tryz.f177, List.length_cons, List.length_nil, Nat.reduceAdd, Nat.reduceSub, List.replicate_succ, List.replicate_zero, List.cons_append, List.nil_append, List.length_map]
  repeat' (first | with_reducible (first | refine wA ?_ | refine wB ?_ | refine wC ?_) | with_reducible refine PWp.draw (id := 16) okP true [0, 1, 2, 3, 4, 5, 6, 7, 8, 9, 10, 11, 12, 13, 14, 15] (by kernel_rfl) ?_ | with_reducible (first | refine w1 ?_ | refine w2 ?_ | refine w3 ?_ | refine w4 ?_ | refine w5 ?_ | refine w6 ?_ | refine w7 ?_ | refine w8 ?_ | refine wT ?_ | refine w9 ?_ | refine wE ?_ | refine wS ?_) | ((with_reducible refine hK _ ?_); clear hK K) | ((with_reducible refine PWp.condI ?_); refine ⟨_, rfl, fun hg => ?_, fun hg => ?_⟩ <;> first | (exact absurd hg (by decide)) | ((try simp only [Bool.not_true, Bool.not_false] at hg); (try simp only [hg]); (try simp only [push_cast] at hg); (try exact absurd trivial hg); (try (exfalso; omega)))) | ((with_reducible refine pany_I ?_); refine ⟨_, rfl, fun K hK => ?_⟩) | ((with_reducible refine pops_plain fun K hK => popO_row ?_); refine ⟨_, _, _, _, _, rfl, rfl, rfl, rfl, rfl, ?_⟩; simp (disch := omega) only [push_cast, seval]) | ((with_reducible refine pD_x ?_ (popO_row ?_)); exact rfl; refine ⟨_, _, _, _, _, rfl, rfl, rfl, rfl, rfl, ?_⟩; simp (disch := omega) only [push_cast, seval]) | ((with_reducible refine pops_plain fun K hK => ?_); simp (disch := omega) only [push_cast, seval]) | ((first | ((with_reducible refine pD_y ?_ ?_); exact rfl) | ((with_reducible refine pD_x ?_ ?_); exact rfl)); simp (disch := omega) only [push_cast, seval]) | ((with_reducible refine And.intro ?_ ?_); omega))
  refine PWp.loopK (α := Nat × List UInt8) (fun x => match x with | (m, o) => [(3, .own 0), (4, .val (.int .i64 (m : Int)))]) [1, 5, 8, 9, 10, 11, 12, 13, 14, 15, 16, 17, 18, 19, 20, 21, 22, 23, 24, 25, 26, 27] (fun x => match x with | (m, o) => [some (.row 5 1 (o.map pU8))]) (fun x => match x with | (m, o) => m < 1000 ∧ o ++ decR m = decR k) (fun x => match x with | (m, o) => m) ((k, [])) (⟨by omega, rfl⟩) (by (refine ⟨[?_], ?_, ?_, ?_, ?_⟩; rotate_left 1; (· ((try simp (disch := omega) only [push_cast, seval]); (repeat' (first | exact trivial | exact rfl | refine And.intro ?_ ?_ | omega)))); (· ((try simp (disch := omega) only [push_cast, seval]); (repeat' (first | exact trivial | exact rfl | refine And.intro ?_ ?_ | omega)))); (· exact rfl); (· (first | exact trivial | exact ⟨rfl, trivial⟩ | exact ⟨rfl, rfl, trivial⟩)))) ?_
  intro x ρ hI; obtain ⟨m, o⟩ := x
  (try dsimp only at hI)
  refine PWp.at (tm' := ?_) (H' := ?_) ?_ ?_ ?_; rotate_left 2; (· ((try simp only [push_cast, seval]); exact rfl)); (· ((try dsimp only); exact rfl))
  obtain ⟨hm, ho⟩ := hI
  have hl := decR_len k
  have hol : o.length ≤ 3 := by rw [← ho, List.length_append] at hl; omega
  by_cases hm0 : m = 0
  case' neg =>
    have hd := dec_u8 (m := m)
    have hrow : List.map pU8 o ++ [[PV.val (.int .u8 (48 + (m : Int) % 10))]] = List.map pU8 (o ++ [UInt8.ofNat (48 + m % 10)]) := by
      rw [List.map_append, List.map_cons, List.map_nil, pU8, hd]
      congr 4
    rw [decR_step hm0 hm] at ho
    repeat' (first | with_reducible (first | refine wA ?_ | refine wB ?_ | refine wC ?_) | with_reducible refine PWp.draw (id := 16) okP true [0, 1, 2, 3, 4, 5, 6, 7, 8, 9, 10, 11, 12, 13, 14, 15] (by kernel_rfl) ?_ | with_reducible (first | refine w1 ?_ | refine w2 ?_ | refine w3 ?_ | refine w4 ?_ | refine w5 ?_ | refine w6 ?_ | refine w7 ?_ | refine w8 ?_ | refine wT ?_ | refine w9 ?_ | refine wE ?_ | refine wS ?_) | ((with_reducible refine hK _ ?_); clear hK K) | ((with_reducible refine PWp.condI ?_); refine ⟨_, rfl, fun hg => ?_, fun hg => ?_⟩ <;> first | (exact absurd hg (by decide)) | ((try simp only [Bool.not_true, Bool.not_false] at hg); (try simp only [hg]); (try simp only [push_cast] at hg); (try exact absurd trivial hg); (try (exfalso; omega)))) | ((with_reducible refine pany_I ?_); refine ⟨_, rfl, fun K hK => ?_⟩) | ((with_reducible refine pops_plain fun K hK => popO_row ?_); refine ⟨_, _, _, _, _, rfl, rfl, rfl, rfl, rfl, ?_⟩; simp (disch := omega) only [push_cast, seval]) | ((with_reducible refine pD_x ?_ (popO_row ?_)); exact rfl; refine ⟨_, _, _, _, _, rfl, rfl, rfl, rfl, rfl, ?_⟩; simp (disch := omega) only [push_cast, seval]) | ((with_reducible refine pops_plain fun K hK => ?_); simp (disch := omega) only [push_cast, seval]) | ((first | ((with_reducible refine pD_y ?_ ?_); exact rfl) | ((with_reducible refine pD_x ?_ ?_); exact rfl)); simp (disch := omega) only [push_cast, seval]) | ((with_reducible refine And.intro ?_ ?_); omega))
    (refine ⟨(m / 10, o ++ [UInt8.ofNat (48 + m % 10)]), by ((try dsimp only); omega), ?_, by (refine ⟨[?_], ?_, ?_, ?_, ?_⟩; rotate_left 1; (· ((first | simp (disch := omega) only [push_cast, seval, hrow] | simp (disch := omega) only [push_cast, seval] | skip); (repeat' (first | exact trivial | exact rfl | refine And.intro ?_ ?_ | omega)))); (· ((first | simp (disch := omega) only [push_cast, seval, hrow] | simp (disch := omega) only [push_cast, seval] | skip); (repeat' (first | exact trivial | exact rfl | refine And.intro ?_ ?_ | omega)))); (· exact rfl); (· (first | exact trivial | exact ⟨rfl, trivial⟩ | exact ⟨rfl, rfl, trivial⟩)))⟩)
    exact ⟨by omega, by rw [List.append_assoc]; exact ho⟩
  case' pos =>
    subst hm0
    rw [decR_zero, List.append_nil] at ho
    subst ho
    rcases decR_shape h0 (by omega) with ⟨a, e⟩ | ⟨a, b, e⟩ | ⟨a, b, c, e⟩
    · rw [e]
      repeat' (first | with_reducible (first | refine wA ?_ | refine wB ?_ | refine wC ?_) | with_reducible refine PWp.draw (id := 16) okP true [0, 1, 2, 3, 4, 5, 6, 7, 8, 9, 10, 11, 12, 13, 14, 15] (by kernel_rfl) ?_ | with_reducible (first | refine w1 ?_ | refine w2 ?_ | refine w3 ?_ | refine w4 ?_ | refine w5 ?_ | refine w6 ?_ | refine w7 ?_ | refine w8 ?_ | refine wT ?_ | refine w9 ?_ | refine wE ?_ | refine wS ?_) | ((with_reducible refine hK _ ?_); clear hK K) | ((with_reducible refine PWp.condI ?_); refine ⟨_, rfl, fun hg => ?_, fun hg => ?_⟩ <;> first | (exact absurd hg (by decide)) | ((try simp only [Bool.not_true, Bool.not_false] at hg); (try simp only [hg]); (try simp only [push_cast] at hg); (try exact absurd trivial hg); (try (exfalso; omega)))) | ((with_reducible refine pany_I ?_); refine ⟨_, rfl, fun K hK => ?_⟩) | ((with_reducible refine pops_plain fun K hK => popO_row ?_); refine ⟨_, _, _, _, _, rfl, rfl, rfl, rfl, rfl, ?_⟩; simp (disch := omega) only [push_cast, seval]) | ((with_reducible refine pD_x ?_ (popO_row ?_)); exact rfl; refine ⟨_, _, _, _, _, rfl, rfl, rfl, rfl, rfl, ?_⟩; simp (disch := omega) only [push_cast, seval]) | ((with_reducible refine pops_plain fun K hK => ?_); simp (disch := omega) only [push_cast, seval]) | ((first | ((with_reducible refine pD_y ?_ ?_); exact rfl) | ((with_reducible refine pD_x ?_ ?_); exact rfl)); simp (disch := omega) only [push_cast, seval]) | ((with_reducible refine And.intro ?_ ?_); omega))
      refine PWp.loopK (α := Nat) (fun i => [(3, .own 0), (6, .val (.int .i64 (i : Int))), (7, .val (.int .i64 0))]) [0, 1, 4, 5, 8, 9, 10, 11, 12, 13, 14, 15, 16, 17, 18, 19, 20, 21, 22, 23, 24, 25, 26, 27, 28, 29, 30, 31, 32, 33, 34, 35, 36, 37, 38, 39, 40, 41, 42, 43, 44, 45, 46, 47, 48, 49, 50, 51, 52, 53, 54, 55, 56] (fun i => [some (.row 5 1 [pU8 a])]) (fun i => i = 0) (fun i => 0) (0) (rfl) (by (refine ⟨[?_], ?_, ?_, ?_, ?_⟩; rotate_left 1; (· ((try simp (disch := omega) only [push_cast, seval]); (repeat' (first | exact trivial | exact rfl | refine And.intro ?_ ?_ | omega)))); (· ((try simp (disch := omega) only [push_cast, seval]); (repeat' (first | exact trivial | exact rfl | refine And.intro ?_ ?_ | omega)))); (· exact rfl); (· (first | exact trivial | exact ⟨rfl, trivial⟩ | exact ⟨rfl, rfl, trivial⟩)))) ?_
      intro i ρ hI
      (try dsimp only at hI)
      refine PWp.at (tm' := ?_) (H' := ?_) ?_ ?_ ?_; rotate_left 2; (· ((try simp only [push_cast, seval]); exact rfl)); (· ((try dsimp only); exact rfl))
      obtain rfl := hI
      repeat' (first | with_reducible (first | refine wA ?_ | refine wB ?_ | refine wC ?_) | with_reducible refine PWp.draw (id := 16) okP true [0, 1, 2, 3, 4, 5, 6, 7, 8, 9, 10, 11, 12, 13, 14, 15] (by kernel_rfl) ?_ | with_reducible (first | refine w1 ?_ | refine w2 ?_ | refine w3 ?_ | refine w4 ?_ | refine w5 ?_ | refine w6 ?_ | refine w7 ?_ | refine w8 ?_ | refine wT ?_ | refine w9 ?_ | refine wE ?_ | refine wS ?_) | ((with_reducible refine hK _ ?_); clear hK K) | ((with_reducible refine PWp.condI ?_); refine ⟨_, rfl, fun hg => ?_, fun hg => ?_⟩ <;> first | (exact absurd hg (by decide)) | ((try simp only [Bool.not_true, Bool.not_false] at hg); (try simp only [hg]); (try simp only [push_cast] at hg); (try exact absurd trivial hg); (try (exfalso; omega)))) | ((with_reducible refine pany_I ?_); refine ⟨_, rfl, fun K hK => ?_⟩) | ((with_reducible refine pops_plain fun K hK => popO_row ?_); refine ⟨_, _, _, _, _, rfl, rfl, rfl, rfl, rfl, ?_⟩; simp (disch := omega) only [push_cast, seval, decb1]) | ((with_reducible refine pD_x ?_ (popO_row ?_)); exact rfl; refine ⟨_, _, _, _, _, rfl, rfl, rfl, rfl, rfl, ?_⟩; simp (disch := omega) only [push_cast, seval, decb1]) | ((with_reducible refine pops_plain fun K hK => ?_); simp (disch := omega) only [push_cast, seval, decb1]) | ((first | ((with_reducible refine pD_y ?_ ?_); exact rfl) | ((with_reducible refine pD_x ?_ ?_); exact rfl)); simp (disch := omega) only [push_cast, seval, decb1]) | ((with_reducible refine And.intro ?_ ?_); omega))
      ((with_reducible show PPostR _ _ _ _ _ _); refine finV ?_; (try simp only [push_cast, seval]))
      rfl
    · rw [e]
      repeat' (first | with_reducible (first | refine wA ?_ | refine wB ?_ | refine wC ?_) | with_reducible refine PWp.draw (id := 16) okP true [0, 1, 2, 3, 4, 5, 6, 7, 8, 9, 10, 11, 12, 13, 14, 15] (by kernel_rfl) ?_ | with_reducible (first | refine w1 ?_ | refine w2 ?_ | refine w3 ?_ | refine w4 ?_ | refine w5 ?_ | refine w6 ?_ | refine w7 ?_ | refine w8 ?_ | refine wT ?_ | refine w9 ?_ | refine wE ?_ | refine wS ?_) | ((with_reducible refine hK _ ?_); clear hK K) | ((with_reducible refine PWp.condI ?_); refine ⟨_, rfl, fun hg => ?_, fun hg => ?_⟩ <;> first | (exact absurd hg (by decide)) | ((try simp only [Bool.not_true, Bool.not_false] at hg); (try simp only [hg]); (try simp only [push_cast] at hg); (try exact absurd trivial hg); (try (exfalso; omega)))) | ((with_reducible refine pany_I ?_); refine ⟨_, rfl, fun K hK => ?_⟩) | ((with_reducible refine pops_plain fun K hK => popO_row ?_); refine ⟨_, _, _, _, _, rfl, rfl, rfl, rfl, rfl, ?_⟩; simp (disch := omega) only [push_cast, seval]) | ((with_reducible refine pD_x ?_ (popO_row ?_)); exact rfl; refine ⟨_, _, _, _, _, rfl, rfl, rfl, rfl, rfl, ?_⟩; simp (disch := omega) only [push_cast, seval]) | ((with_reducible refine pops_plain fun K hK => ?_); simp (disch := omega) only [push_cast, seval]) | ((first | ((with_reducible refine pD_y ?_ ?_); exact rfl) | ((with_reducible refine pD_x ?_ ?_); exact rfl)); simp (disch := omega) only [push_cast, seval]) | ((with_reducible refine And.intro ?_ ?_); omega))
      refine PWp.loopK (α := Nat × UInt8 × UInt8) (fun x => match x with | (i, x, y) => [(3, .own 0), (6, .val (.int .i64 (i : Int))), (7, .val (.int .i64 (1 - (i : Int))))]) [0, 1, 4, 5, 8, 9, 10, 11, 12, 13, 14, 15, 16, 17, 18, 19, 20, 21, 22, 23, 24, 25, 26, 27, 28, 29, 30, 31, 32, 33, 34, 35, 36, 37, 38, 39, 40, 41, 42, 43, 44, 45, 46, 47, 48, 49, 50, 51, 52, 53, 54, 55, 56] (fun x => match x with | (i, x, y) => [some (.row 5 1 [pU8 x, pU8 y])]) (fun x => match x with | (i, x, y) => (i = 0 ∧ x = a ∧ y = b) ∨ (i = 1 ∧ x = b ∧ y = a)) (fun x => match x with | (i, x, y) => 1 - i) ((0, a, b)) (.inl ⟨rfl, rfl, rfl⟩) (by (refine ⟨[?_], ?_, ?_, ?_, ?_⟩; rotate_left 1; (· ((try simp (disch := omega) only [push_cast, seval]); (repeat' (first | exact trivial | exact rfl | refine And.intro ?_ ?_ | omega)))); (· ((try simp (disch := omega) only [push_cast, seval]); (repeat' (first | exact trivial | exact rfl | refine And.intro ?_ ?_ | omega)))); (· exact rfl); (· (first | exact trivial | exact ⟨rfl, trivial⟩ | exact ⟨rfl, rfl, trivial⟩)))) ?_
      intro x ρ hI; obtain ⟨i, x, y⟩ := x
      (try dsimp only at hI)
      refine PWp.at (tm' := ?_) (H' := ?_) ?_ ?_ ?_; rotate_left 2; (· ((try simp only [push_cast, seval]); exact rfl)); (· ((try dsimp only); exact rfl))
      rcases hI with ⟨rfl, rfl, rfl⟩ | ⟨rfl, rfl, rfl⟩
      case' inl =>
        repeat' (first | with_reducible (first | refine wA ?_ | refine wB ?_ | refine wC ?_) | with_reducible refine PWp.draw (id := 16) okP true [0, 1, 2, 3, 4, 5, 6, 7, 8, 9, 10, 11, 12, 13, 14, 15] (by kernel_rfl) ?_ | with_reducible (first | refine w1 ?_ | refine w2 ?_ | refine w3 ?_ | refine w4 ?_ | refine w5 ?_ | refine w6 ?_ | refine w7 ?_ | refine w8 ?_ | refine wT ?_ | refine w9 ?_ | refine wE ?_ | refine wS ?_) | ((with_reducible refine hK _ ?_); clear hK K) | ((with_reducible refine PWp.condI ?_); refine ⟨_, rfl, fun hg => ?_, fun hg => ?_⟩ <;> first | (exact absurd hg (by decide)) | ((try simp only [Bool.not_true, Bool.not_false] at hg); (try simp only [hg]); (try simp only [push_cast] at hg); (try exact absurd trivial hg); (try (exfalso; omega)))) | ((with_reducible refine pany_I ?_); refine ⟨_, rfl, fun K hK => ?_⟩) | ((with_reducible refine pops_plain fun K hK => popO_row ?_); refine ⟨_, _, _, _, _, rfl, rfl, rfl, rfl, rfl, ?_⟩; simp (disch := omega) only [push_cast, seval, pU8]) | ((with_reducible refine pD_x ?_ (popO_row ?_)); exact rfl; refine ⟨_, _, _, _, _, rfl, rfl, rfl, rfl, rfl, ?_⟩; simp (disch := omega) only [push_cast, seval, pU8]) | ((with_reducible refine pops_plain fun K hK => ?_); simp (disch := omega) only [push_cast, seval, pU8]) | ((first | ((with_reducible refine pD_y ?_ ?_); exact rfl) | ((with_reducible refine pD_x ?_ ?_); exact rfl)); simp (disch := omega) only [push_cast, seval, pU8]) | ((with_reducible refine And.intro ?_ ?_); omega))
        (refine ⟨(1, y, x), by ((try dsimp only); omega), ?_, by (refine ⟨[?_], ?_, ?_, ?_, ?_⟩; rotate_left 1; (· ((try simp (disch := omega) only [push_cast, seval]); (repeat' (first | exact trivial | exact rfl | refine And.intro ?_ ?_ | omega)))); (· ((try simp (disch := omega) only [push_cast, seval]); (repeat' (first | exact trivial | exact rfl | refine And.intro ?_ ?_ | omega)))); (· exact rfl); (· (first | exact trivial | exact ⟨rfl, trivial⟩ | exact ⟨rfl, rfl, trivial⟩)))⟩)
        exact .inr ⟨rfl, rfl, rfl⟩
      case' inr =>
        repeat' (first | with_reducible (first | refine wA ?_ | refine wB ?_ | refine wC ?_) | with_reducible refine PWp.draw (id := 16) okP true [0, 1, 2, 3, 4, 5, 6, 7, 8, 9, 10, 11, 12, 13, 14, 15] (by kernel_rfl) ?_ | with_reducible (first | refine w1 ?_ | refine w2 ?_ | refine w3 ?_ | refine w4 ?_ | refine w5 ?_ | refine w6 ?_ | refine w7 ?_ | refine w8 ?_ | refine wT ?_ | refine w9 ?_ | refine wE ?_ | refine wS ?_) | ((with_reducible refine hK _ ?_); clear hK K) | ((with_reducible refine PWp.condI ?_); refine ⟨_, rfl, fun hg => ?_, fun hg => ?_⟩ <;> first | (exact absurd hg (by decide)) | ((try simp only [Bool.not_true, Bool.not_false] at hg); (try simp only [hg]); (try simp only [push_cast] at hg); (try exact absurd trivial hg); (try (exfalso; omega)))) | ((with_reducible refine pany_I ?_); refine ⟨_, rfl, fun K hK => ?_⟩) | ((with_reducible refine pops_plain fun K hK => popO_row ?_); refine ⟨_, _, _, _, _, rfl, rfl, rfl, rfl, rfl, ?_⟩; simp (disch := omega) only [push_cast, seval, decb2]) | ((with_reducible refine pD_x ?_ (popO_row ?_)); exact rfl; refine ⟨_, _, _, _, _, rfl, rfl, rfl, rfl, rfl, ?_⟩; simp (disch := omega) only [push_cast, seval, decb2]) | ((with_reducible refine pops_plain fun K hK => ?_); simp (disch := omega) only [push_cast, seval, decb2]) | ((first | ((with_reducible refine pD_y ?_ ?_); exact rfl) | ((with_reducible refine pD_x ?_ ?_); exact rfl)); simp (disch := omega) only [push_cast, seval, decb2]) | ((with_reducible refine And.intro ?_ ?_); omega))
        ((with_reducible show PPostR _ _ _ _ _ _); refine finV ?_; (try simp only [push_cast, seval]))
        rfl
    · rw [e]
      repeat' (first | with_reducible (first | refine wA ?_ | refine wB ?_ | refine wC ?_) | with_reducible refine PWp.draw (id := 16) okP true [0, 1, 2, 3, 4, 5, 6, 7, 8, 9, 10, 11, 12, 13, 14, 15] (by kernel_rfl) ?_ | with_reducible (first | refine w1 ?_ | refine w2 ?_ | refine w3 ?_ | refine w4 ?_ | refine w5 ?_ | refine w6 ?_ | refine w7 ?_ | refine w8 ?_ | refine wT ?_ | refine w9 ?_ | refine wE ?_ | refine wS ?_) | ((with_reducible refine hK _ ?_); clear hK K) | ((with_reducible refine PWp.condI ?_); refine ⟨_, rfl, fun hg => ?_, fun hg => ?_⟩ <;> first | (exact absurd hg (by decide)) | ((try simp only [Bool.not_true, Bool.not_false] at hg); (try simp only [hg]); (try simp only [push_cast] at hg); (try exact absurd trivial hg); (try (exfalso; omega)))) | ((with_reducible refine pany_I ?_); refine ⟨_, rfl, fun K hK => ?_⟩) | ((with_reducible refine pops_plain fun K hK => popO_row ?_); refine ⟨_, _, _, _, _, rfl, rfl, rfl, rfl, rfl, ?_⟩; simp (disch := omega) only [push_cast, seval]) | ((with_reducible refine pD_x ?_ (popO_row ?_)); exact rfl; refine ⟨_, _, _, _, _, rfl, rfl, rfl, rfl, rfl, ?_⟩; simp (disch := omega) only [push_cast, seval]) | ((with_reducible refine pops_plain fun K hK => ?_); simp (disch := omega) only [push_cast, seval]) | ((first | ((with_reducible refine pD_y ?_ ?_); exact rfl) | ((with_reducible refine pD_x ?_ ?_); exact rfl)); simp (disch := omega) only [push_cast, seval]) | ((with_reducible refine And.intro ?_ ?_); omega))
      refine PWp.loopK (α := Nat × UInt8 × UInt8) (fun x => match x with | (i, x, z) => [(3, .own 0), (6, .val (.int .i64 (i : Int))), (7, .val (.int .i64 (2 - (i : Int))))]) [0, 1, 4, 5, 8, 9, 10, 11, 12, 13, 14, 15, 16, 17, 18, 19, 20, 21, 22, 23, 24, 25, 26, 27, 28, 29, 30, 31, 32, 33, 34, 35, 36, 37, 38, 39, 40, 41, 42, 43, 44, 45, 46, 47, 48, 49, 50, 51, 52, 53, 54, 55, 56] (fun x => match x with | (i, x, z) => [some (.row 5 1 [pU8 x, pU8 b, pU8 z])]) (fun x => match x with | (i, x, z) => (i = 0 ∧ x = a ∧ z = c) ∨ (i = 1 ∧ x = c ∧ z = a)) (fun x => match x with | (i, x, z) => 1 - i) ((0, a, c)) (.inl ⟨rfl, rfl, rfl⟩) (by (refine ⟨[?_], ?_, ?_, ?_, ?_⟩; rotate_left 1; (· ((try simp (disch := omega) only [push_cast, seval]); (repeat' (first | exact trivial | exact rfl | refine And.intro ?_ ?_ | omega)))); (· ((try simp (disch := omega) only [push_cast, seval]); (repeat' (first | exact trivial | exact rfl | refine And.intro ?_ ?_ | omega)))); (· exact rfl); (· (first | exact trivial | exact ⟨rfl, trivial⟩ | exact ⟨rfl, rfl, trivial⟩)))) ?_
      intro x ρ hI; obtain ⟨i, x, z⟩ := x
      (try dsimp only at hI)
      refine PWp.at (tm' := ?_) (H' := ?_) ?_ ?_ ?_; rotate_left 2; (· ((try simp only [push_cast, seval]); exact rfl)); (· ((try dsimp only); exact rfl))
      rcases hI with ⟨rfl, rfl, rfl⟩ | ⟨rfl, rfl, rfl⟩
      case' inl =>
        repeat' (first | with_reducible (first | refine wA ?_ | refine wB ?_ | refine wC ?_) | with_reducible refine PWp.draw (id := 16) okP true [0, 1, 2, 3, 4, 5, 6, 7, 8, 9, 10, 11, 12, 13, 14, 15] (by kernel_rfl) ?_ | with_reducible (first | refine w1 ?_ | refine w2 ?_ | refine w3 ?_ | refine w4 ?_ | refine w5 ?_ | refine w6 ?_ | refine w7 ?_ | refine w8 ?_ | refine wT ?_ | refine w9 ?_ | refine wE ?_ | refine wS ?_) | ((with_reducible refine hK _ ?_); clear hK K) | ((with_reducible refine PWp.condI ?_); refine ⟨_, rfl, fun hg => ?_, fun hg => ?_⟩ <;> first | (exact absurd hg (by decide)) | ((try simp only [Bool.not_true, Bool.not_false] at hg); (try simp only [hg]); (try simp only [push_cast] at hg); (try exact absurd trivial hg); (try (exfalso; omega)))) | ((with_reducible refine pany_I ?_); refine ⟨_, rfl, fun K hK => ?_⟩) | ((with_reducible refine pops_plain fun K hK => popO_row ?_); refine ⟨_, _, _, _, _, rfl, rfl, rfl, rfl, rfl, ?_⟩; simp (disch := omega) only [push_cast, seval, pU8]) | ((with_reducible refine pD_x ?_ (popO_row ?_)); exact rfl; refine ⟨_, _, _, _, _, rfl, rfl, rfl, rfl, rfl, ?_⟩; simp (disch := omega) only [push_cast, seval, pU8]) | ((with_reducible refine pops_plain fun K hK => ?_); simp (disch := omega) only [push_cast, seval, pU8]) | ((first | ((with_reducible refine pD_y ?_ ?_); exact rfl) | ((with_reducible refine pD_x ?_ ?_); exact rfl)); simp (disch := omega) only [push_cast, seval, pU8]) | ((with_reducible refine And.intro ?_ ?_); omega))
        (refine ⟨(1, z, x), by ((try dsimp only); omega), ?_, by (refine ⟨[?_], ?_, ?_, ?_, ?_⟩; rotate_left 1; (· ((try simp (disch := omega) only [push_cast, seval]); (repeat' (first | exact trivial | exact rfl | refine And.intro ?_ ?_ | omega)))); (· ((try simp (disch := omega) only [push_cast, seval]); (repeat' (first | exact trivial | exact rfl | refine And.intro ?_ ?_ | omega)))); (· exact rfl); (· (first | exact trivial | exact ⟨rfl, trivial⟩ | exact ⟨rfl, rfl, trivial⟩)))⟩)
        exact .inr ⟨rfl, rfl, rfl⟩
      case' inr =>
        repeat' (first | with_reducible (first | refine wA ?_ | refine wB ?_ | refine wC ?_) | with_reducible refine PWp.draw (id := 16) okP true [0, 1, 2, 3, 4, 5, 6, 7, 8, 9, 10, 11, 12, 13, 14, 15] (by kernel_rfl) ?_ | with_reducible (first | refine w1 ?_ | refine w2 ?_ | refine w3 ?_ | refine w4 ?_ | refine w5 ?_ | refine w6 ?_ | refine w7 ?_ | refine w8 ?_ | refine wT ?_ | refine w9 ?_ | refine wE ?_ | refine wS ?_) | ((with_reducible refine hK _ ?_); clear hK K) | ((with_reducible refine PWp.condI ?_); refine ⟨_, rfl, fun hg => ?_, fun hg => ?_⟩ <;> first | (exact absurd hg (by decide)) | ((try simp only [Bool.not_true, Bool.not_false] at hg); (try simp only [hg]); (try simp only [push_cast] at hg); (try exact absurd trivial hg); (try (exfalso; omega)))) | ((with_reducible refine pany_I ?_); refine ⟨_, rfl, fun K hK => ?_⟩) | ((with_reducible refine pops_plain fun K hK => popO_row ?_); refine ⟨_, _, _, _, _, rfl, rfl, rfl, rfl, rfl, ?_⟩; simp (disch := omega) only [push_cast, seval, decb3]) | ((with_reducible refine pD_x ?_ (popO_row ?_)); exact rfl; refine ⟨_, _, _, _, _, rfl, rfl, rfl, rfl, rfl, ?_⟩; simp (disch := omega) only [push_cast, seval, decb3]) | ((with_reducible refine pops_plain fun K hK => ?_); simp (disch := omega) only [push_cast, seval, decb3]) | ((first | ((with_reducible refine pD_y ?_ ?_); exact rfl) | ((with_reducible refine pD_x ?_ ?_); exact rfl)); simp (disch := omega) only [push_cast, seval, decb3]) | ((with_reducible refine And.intro ?_ ?_); omega))
        ((with_reducible show PPostR _ _ _ _ _ _); refine finV ?_; (try simp only [push_cast, seval]))
        rfl
set_option maxHeartbeats 1000000 in
theorem sDec_p (n : Int) (h : 0 ≤ n ∧ n < 1000) : PCalls Tryz.prog 81 [.val (.int .i64 n)] [] (RV (.val (.string (decS n)))) := by
  obtain ⟨k, rfl⟩ : ∃ k : Nat, n = k := ⟨n.toNat, by omega⟩
  by_cases h0 : k = 0
  · subst h0
    refine pcalls_ofR okP Tryz.func81 rfl ?_
    simp only [Tryz.f81, List.length_cons, List.length_nil, Nat.reduceAdd, Nat.reduceSub, List.replicate_succ, List.replicate_zero, List.cons_append, List.nil_append, List.length_map]
    repeat' (first | with_reducible (first | refine wA ?_ | refine wB ?_ | refine wC ?_ | refine w1 ?_ | refine w2 ?_ | refine w3 ?_ | refine w4 ?_ | refine w5 ?_ | refine w6 ?_ | refine w7 ?_ | refine w8 ?_ | refine wT ?_ | refine w9 ?_ | refine wE ?_ | refine wS ?_) | ((with_reducible refine hK _ ?_); clear hK K) | ((with_reducible refine PWp.condI ?_); refine ⟨_, rfl, fun hg => ?_, fun hg => ?_⟩ <;> first | (exact absurd hg (by decide)) | ((try simp only [Bool.not_true, Bool.not_false] at hg); (try simp only [hg]); (try simp only [push_cast] at hg); (try exact absurd trivial hg); (try (exfalso; omega)))) | ((with_reducible refine pops_plain fun K hK => popO_row ?_); refine ⟨_, _, _, _, _, rfl, rfl, rfl, rfl, rfl, ?_⟩; simp (disch := omega) only [push_cast, seval]) | ((with_reducible refine pops_plain fun K hK => ?_); simp (disch := omega) only [push_cast, seval]) | ((with_reducible refine And.intro ?_ ?_); omega))
    ((with_reducible show PPostR _ _ _ _ _ _); refine finV ?_; (try simp only [push_cast, seval]))
    rfl
  have e0 : decS (k : Int) = ⟨(decR k).reverse.toArray⟩ := by unfold decS; rw [if_neg (by omega), Int.toNat_natCast]
  rw [e0]
  refine pcalls_ofR okP Tryz.func81 rfl ?_
  simp only [Tryz.f81, List.length_cons, List.length_nil, Nat.reduceAdd, Nat.reduceSub, List.replicate_succ, List.replicate_zero, List.cons_append, List.nil_append, List.length_map]
  repeat' (first | with_reducible (first | refine wA ?_ | refine wB ?_ | refine wC ?_ | refine w1 ?_ | refine w2 ?_ | refine w3 ?_ | refine w4 ?_ | refine w5 ?_ | refine w6 ?_ | refine w7 ?_ | refine w8 ?_ | refine wT ?_ | refine w9 ?_ | refine wE ?_ | refine wS ?_) | ((with_reducible refine hK _ ?_); clear hK K) | ((with_reducible refine PWp.condI ?_); refine ⟨_, rfl, fun hg => ?_, fun hg => ?_⟩ <;> first | (exact absurd hg (by decide)) | ((try simp only [Bool.not_true, Bool.not_false] at hg); (try simp only [hg]); (try simp only [push_cast] at hg); (try exact absurd trivial hg); (try (exfalso; omega)))) | ((with_reducible refine pops_plain fun K hK => popO_row ?_); refine ⟨_, _, _, _, _, rfl, rfl, rfl, rfl, rfl, ?_⟩; simp (disch := omega) only [push_cast, seval]) | ((with_reducible refine pops_plain fun K hK => ?_); simp (disch := omega) only [push_cast, seval]) | ((with_reducible refine And.intro ?_ ?_); omega))
  refine PWp.loopK (α := Nat × List UInt8) (fun x => match x with | (m, o) => [(0, .val (.int .i64 (m : Int))), (3, .val (.string ⟨o.toArray⟩)), (4, .val (.bool false))]) [1, 5, 6, 7, 8, 9, 10, 11, 12, 13, 14, 15, 16, 17, 18, 19, 20, 21, 22, 23, 24, 25, 26] (fun x => match x with | (m, o) => []) (fun x => match x with | (m, o) => m < 1000 ∧ (decR m).reverse ++ o = (decR k).reverse) (fun x => match x with | (m, o) => m) ((k, [])) (⟨by omega, List.append_nil _⟩) (by (refine ⟨[], ?_, ?_, ?_, ?_⟩; (· ((try simp (disch := omega) only [push_cast, seval]); (repeat' (first | exact trivial | exact rfl | refine And.intro ?_ ?_ | omega)))); (· ((try simp (disch := omega) only [push_cast, seval]); (repeat' (first | exact trivial | exact rfl | refine And.intro ?_ ?_ | omega)))); (· exact rfl); (· (first | exact trivial | exact ⟨rfl, trivial⟩ | exact ⟨rfl, rfl, trivial⟩)))) ?_
  intro x ρ hI; obtain ⟨m, o⟩ := x
  (try dsimp only at hI)
  refine PWp.at (tm' := ?_) (H' := ?_) ?_ ?_ ?_; rotate_left 2; (· ((try simp only [push_cast, seval]); exact rfl)); (· ((try dsimp only); exact rfl))
  obtain ⟨hm, ho⟩ := hI
  have hl := decR_len k
  have hol : o.length ≤ 3 := by
    have := congrArg List.length ho
    rw [List.length_append, List.length_reverse, List.length_reverse] at this
    omega
  by_cases hm0 : m = 0
  · subst hm0
    rw [decR_zero, List.reverse_nil, List.nil_append] at ho
    subst ho
    repeat' (first | with_reducible (first | refine wA ?_ | refine wB ?_ | refine wC ?_ | refine w1 ?_ | refine w2 ?_ | refine w3 ?_ | refine w4 ?_ | refine w5 ?_ | refine w6 ?_ | refine w7 ?_ | refine w8 ?_ | refine wT ?_ | refine w9 ?_ | refine wE ?_ | refine wS ?_) | ((with_reducible refine hK _ ?_); clear hK K) | ((with_reducible refine PWp.condI ?_); refine ⟨_, rfl, fun hg => ?_, fun hg => ?_⟩ <;> first | (exact absurd hg (by decide)) | ((try simp only [Bool.not_true, Bool.not_false] at hg); (try simp only [hg]); (try simp only [push_cast] at hg); (try exact absurd trivial hg); (try (exfalso; omega)))) | ((with_reducible refine pops_plain fun K hK => popO_row ?_); refine ⟨_, _, _, _, _, rfl, rfl, rfl, rfl, rfl, ?_⟩; simp (disch := omega) only [push_cast, seval]) | ((with_reducible refine pops_plain fun K hK => ?_); simp (disch := omega) only [push_cast, seval]) | ((with_reducible refine And.intro ?_ ?_); omega))
    ((with_reducible show PPostR _ _ _ _ _ _); refine finV ?_; (try simp only [push_cast, seval]))
  · have hd := dec_u8 (m := m)
    have eo : (⟨o.toArray⟩ : ByteArray).size = o.length := size_mk
    have eu : u8 (48 + (m : Int) % 10) = UInt8.ofNat (48 + m % 10) := by
      apply UInt8.toNat_inj.1
      have := u8_nat (48 + (m : Int) % 10)
      rw [hd]
      omega
    have e1 : (⟨#[u8 (48 + (m : Int) % 10)]⟩ : ByteArray) ++ ⟨o.toArray⟩ = ⟨(UInt8.ofNat (48 + m % 10) :: o).toArray⟩ := by
      rw [eu]
      exact arr_app (a := [UInt8.ofNat (48 + m % 10)]) (b := o)
    have z1 : (⟨#[u8 (48 + (m : Int) % 10)]⟩ : ByteArray).size = 1 := rfl
    rw [decR_step hm0 hm, List.reverse_cons, List.append_assoc] at ho
    repeat' (first | with_reducible (first | refine wA ?_ | refine wB ?_ | refine wC ?_ | refine w1 ?_ | refine w2 ?_ | refine w3 ?_ | refine w4 ?_ | refine w5 ?_ | refine w6 ?_ | refine w7 ?_ | refine w8 ?_ | refine wT ?_ | refine w9 ?_ | refine wE ?_ | refine wS ?_) | ((with_reducible refine hK _ ?_); clear hK K) | ((with_reducible refine PWp.condI ?_); refine ⟨_, rfl, fun hg => ?_, fun hg => ?_⟩ <;> first | (exact absurd hg (by decide)) | ((try simp only [Bool.not_true, Bool.not_false] at hg); (try simp only [hg]); (try simp only [push_cast] at hg); (try exact absurd trivial hg); (try (exfalso; omega)))) | ((with_reducible refine pops_plain fun K hK => popO_row ?_); refine ⟨_, _, _, _, _, rfl, rfl, rfl, rfl, rfl, ?_⟩; simp (disch := omega) only [push_cast, seval, e1]) | ((with_reducible refine pops_plain fun K hK => ?_); simp (disch := omega) only [push_cast, seval, e1]) | ((with_reducible refine And.intro ?_ ?_); omega))
    (refine ⟨(m / 10, UInt8.ofNat (48 + m % 10) :: o), by ((try dsimp only); omega), ?_, by (refine ⟨[], ?_, ?_, ?_, ?_⟩; (· ((try simp (disch := omega) only [push_cast, seval]); (repeat' (first | exact trivial | exact rfl | refine And.intro ?_ ?_ | omega)))); (· ((try simp (disch := omega) only [push_cast, seval]); (repeat' (first | exact trivial | exact rfl | refine And.intro ?_ ?_ | omega)))); (· exact rfl); (· (first | exact trivial | exact ⟨rfl, trivial⟩ | exact ⟨rfl, rfl, trivial⟩)))⟩)
    exact ⟨by omega, ho⟩
end Go.Proofs.YtiboajlnjldalaaGreatDoor
namespace Go.Proofs.YtiboajlnjldalaaGreatDoor
set_option linter.unusedSimpArgs false
set_option linter.unusedVariables false
open Go.RowKit
set_option maxRecDepth 100000
theorem eqS_B {a b : ByteArray} : (a == b) = eqB a b := by
  obtain ⟨a⟩ := a
  obtain ⟨b⟩ := b
  have e : ((⟨a⟩ : ByteArray) == ⟨b⟩) = (a == b) := rfl
  rw [e]
  by_cases h : a = b
  · subst h; rw [eqB_self]; simp
  · rw [eqB_no.2 (by simpa using h)]; simpa using h
theorem eqI_B {a b : Int} : (a == b) = decide (a = b) := by
  by_cases h : a = b
  · subst h; simp
  · simp [h]
theorem sflat_bind {P : Program} {α β : Type} (s : Sem α) (k : α → Sem β) : sflat P (s >>= k) = (sflat P s).bind fun a => sflat P (k a) := by
  show sflat P (Sem.bind s k) = _
  induction s with
  | pure a => rfl
  | program f ih => simp only [Sem.bind, sflat]; exact ih P
  | mark m f ih => simp only [Sem.bind, sflat]; exact ih
  | _ => rfl
theorem sflat_pure {P : Program} {α : Type} (a : α) : sflat P (pure a : Sem α) = some a := rfl
section
variable {P : Program} {t : TypeId}
theorem sf_und {d : TypeDesc} (h : P.underlying t = some d) : sflat P (underlying t) = some d := by
  simp [underlying, program, bind, Sem.bind, sflat, h]
  rfl
theorem sf_part {d : TypeDesc} (h : P.underlying t = some d) (hd : (match d with | .struct _ | .array _ _ => true | _ => false) = false) {cs : Array Value} {off : Nat} : sflat P (part t cs off) = cs[off]? := by
  unfold part isAgg
  simp only [sflat_bind, sf_und h, Option.bind_some]
  split
  · simp at hd
  · simp at hd
  · show sflat P (match cs[off]? with | some v => pure v | none => stuck "part: no such cell") = _
    cases cs[off]? <;> rfl
theorem flat_agg {fs : List PV} : flat (.agg fs) = (flatL fs).map fun vs => .agg vs.toArray := by rw [flat]
theorem flatL_nil : flatL [] = some [] := by rw [flatL]
theorem flatL_val {x : Value} {r : List PV} : flatL (.val x :: r) = (flatL r).map (x :: ·) := by rw [flatL]
attribute [push_cast] flat_agg flatL_nil flatL_val
theorem ite_sm {b c : Bool} : (if b = true then some c else some false) = some (b && c) := by cases b <;> rfl
theorem if_und {n : String} {α : Type} {x y : α} (h : (n == "_") = false) : (if n ≠ "_" then x else y) = x := by
  rw [if_pos (by intro e; subst e; simp at h)]
theorem eqIn_int {k : IntKind} {d : Nat} {a b : Int} (h : P.underlying t = some (.int k)) : sflat P (Op.equalIn (d + 1) t (.int .i64 a) (.int .i64 b)) = some (decide (a = b)) := by
  rw [Op.equalIn, sflat_bind, sf_und h, ← eqI_B]
  rfl
theorem eqIn_str {d : Nat} {a b : ByteArray} (h : P.underlying t = some .string) : sflat P (Op.equalIn (d + 1) t (.string a) (.string b)) = some (eqB a b) := by
  rw [Op.equalIn, sflat_bind, sf_und h, ← eqS_B]
  rfl
theorem eqIn_bool {d : Nat} {a b : Bool} (h : P.underlying t = some .bool) : sflat P (Op.equalIn (d + 1) t (.bool a) (.bool b)) = some (a == b) := by
  rw [Op.equalIn, sflat_bind, sf_und h]
  rfl
theorem sflat_bind' {α β : Type} (s : Sem α) (k : α → Sem β) : sflat P (s.bind k) = (sflat P s).bind fun a => sflat P (k a) := sflat_bind s k
def sfields (P : Program) (d : Nat) (xs ys : Array Value) : List Field → Option Bool
  | [] => some true
  | f :: r => if f.name ≠ "_" then (sflat P (part f.type xs f.offset)).bind fun x => (sflat P (part f.type ys f.offset)).bind fun y => (sflat P (Op.equalIn d f.type x y)).bind fun b => if b then sfields P d xs ys r else some false else sfields P d xs ys r
theorem sfields_loop (d : Nat) (xs ys : Array Value) (k : Option Bool × Unit → Sem Bool) (k1 : k (some false, ()) = pure false) (k2 : k (none, ()) = pure true) : ∀ l : List Field, sflat P ((forIn l ((none : Option Bool), ()) fun f _ =>
      if f.name ≠ "_" then (part f.type xs f.offset).bind fun x => (part f.type ys f.offset).bind fun y => (Op.equalIn d f.type x y).bind fun b =>
        if (!b) = true then pure (ForInStep.done (some false, ())) else pure (ForInStep.yield (none, ()))
      else pure (ForInStep.yield (none, ()))).bind k) = sfields P d xs ys l
  | [] => by rw [List.forIn_nil]; show sflat P (k (none, ())) = _; rw [k2]; rfl
  | f :: r => by
    have ih := sfields_loop d xs ys k k1 k2 r
    rw [List.forIn_cons, sfields]
    rw [sflat_bind'] at ih ⊢
    rw [sflat_bind]
    split
    · rw [sflat_bind']
      cases sflat P (part f.type xs f.offset) with
      | none => rfl
      | some x =>
        simp only [Option.bind_some]
        rw [sflat_bind']
        cases sflat P (part f.type ys f.offset) with
        | none => rfl
        | some y =>
          simp only [Option.bind_some]
          rw [sflat_bind']
          cases sflat P (Op.equalIn d f.type x y) with
          | none => rfl
          | some b =>
            cases b with
            | true => simp only [Option.bind_some, Bool.not_true, Bool.false_eq_true, if_false, sflat_pure, if_true]; exact ih
            | false => simp only [Option.bind_some, Bool.not_false, if_true, sflat_pure, Bool.false_eq_true, if_false, k1]
    · simp only [sflat_pure, Option.bind_some]
      exact ih
theorem eqIn_struct {fs : Array Field} {d : Nat} {xs ys : Array Value} (h : P.underlying t = some (.struct fs)) (hs : P.stoodInHeld t = false) : sflat P (Op.equalIn (d + 1) t (.agg xs) (.agg ys)) = sfields P d xs ys fs.toList := by
  rw [Op.equalIn, sflat_bind, sf_und h, Option.bind_some]
  simp only [program, bind, Sem.bind, sflat, hs]
  rw [if_neg (by simp), ← Array.forIn_toList]
  exact sfields_loop d xs ys _ rfl rfl fs.toList
theorem sf_eqAgg {x y : Operand} {xs ys : Array Value} {b : Bool} (hg : P.eqGuardType P.depth t = false) (h : sflat P (Op.equalIn (9999 + 1) t (.agg xs) (.agg ys)) = some b) :
    sflat P (do eqGuard .eql t x y (.agg xs) (.agg ys); binOp .eql t (.agg xs) (.agg ys)) = some (.bool b) ∧ sflat P (do eqGuard .neq t x y (.agg xs) (.agg ys); binOp .neq t (.agg xs) (.agg ys)) = some (.bool (!b)) := by
  constructor
  · simp only [eqGuard, sflat_bind, program, sflat, hg, binOp, Op.equal, Op.maxDepth]
    simp [sflat_pure, h, sflat_bind, sflat, pure]
    rw [if_pos hg]
    rfl
  · simp only [eqGuard, sflat_bind, program, sflat, hg, binOp, Op.equal, Op.maxDepth]
    simp [sflat_pure, h, sflat_bind, sflat, pure]
    rw [if_pos hg]
    rfl
end
end Go.Proofs.YtiboajlnjldalaaGreatDoor
namespace Go.Proofs.YtiboajlnjldalaaGreatDoor
set_option linter.unusedSimpArgs false
set_option linter.unusedVariables false
open Go.RowKit
set_option maxRecDepth 100000
theorem eqIn_Val {d : Nat} {a0 b0 : Int} {a1 b1 : Int} : sflat Tryz.prog (Op.equalIn (d + 2) 141 (.agg #[.int .i64 a0, .int .i64 a1]) (.agg #[.int .i64 b0, .int .i64 b1])) = some ((decide (a0 = b0) && decide (a1 = b1))) := by
  rw [eqIn_struct Tryz.underlying141 (by kernel_rfl)]
  simp only [sfields, if_und, sf_part Tryz.underlying3 rfl, eqIn_int Tryz.underlying3, List.getElem?_toArray, List.getElem?_cons_zero, List.getElem?_cons_succ, Option.bind_some, ite_sm, Bool.and_true, String.reduceBEq, ne_eq, String.reduceEq, not_false_eq_true, if_true]
theorem sf_eqVal {x y : Operand} {a0 b0 : Int} {a1 b1 : Int} : sflat Tryz.prog (do eqGuard .eql 141 x y (.agg #[.int .i64 a0, .int .i64 a1]) (.agg #[.int .i64 b0, .int .i64 b1]); binOp .eql 141 (.agg #[.int .i64 a0, .int .i64 a1]) (.agg #[.int .i64 b0, .int .i64 b1])) = some (.bool ((decide (a0 = b0) && decide (a1 = b1)))) := (sf_eqAgg (by kernel_rfl) eqIn_Val).1
theorem sf_neVal {x y : Operand} {a0 b0 : Int} {a1 b1 : Int} : sflat Tryz.prog (do eqGuard .neq 141 x y (.agg #[.int .i64 a0, .int .i64 a1]) (.agg #[.int .i64 b0, .int .i64 b1]); binOp .neq 141 (.agg #[.int .i64 a0, .int .i64 a1]) (.agg #[.int .i64 b0, .int .i64 b1])) = some (.bool (!(decide (a0 = b0) && decide (a1 = b1)))) := (sf_eqAgg (by kernel_rfl) eqIn_Val).2
theorem eqIn_Header {d : Nat} {a0 b0 : Int} {a1 b1 : Int} {a2 b2 : ByteArray} {a3 b3 : ByteArray} {a4 b4 : ByteArray} {a5 b5 : ByteArray} : sflat Tryz.prog (Op.equalIn (d + 2) 30 (.agg #[.int .i64 a0, .int .i64 a1, .string a2, .string a3, .string a4, .string a5]) (.agg #[.int .i64 b0, .int .i64 b1, .string b2, .string b3, .string b4, .string b5])) = some ((decide (a0 = b0) && (decide (a1 = b1) && (eqB a2 b2 && (eqB a3 b3 && (eqB a4 b4 && eqB a5 b5)))))) := by
  rw [eqIn_struct Tryz.underlying30 (by kernel_rfl)]
  simp only [sfields, if_und, sf_part Tryz.underlying3 rfl, sf_part Tryz.underlying9 rfl, eqIn_int Tryz.underlying3, eqIn_str Tryz.underlying9, List.getElem?_toArray, List.getElem?_cons_zero, List.getElem?_cons_succ, Option.bind_some, ite_sm, Bool.and_true, String.reduceBEq, ne_eq, String.reduceEq, not_false_eq_true, if_true]
theorem sf_eqHeader {x y : Operand} {a0 b0 : Int} {a1 b1 : Int} {a2 b2 : ByteArray} {a3 b3 : ByteArray} {a4 b4 : ByteArray} {a5 b5 : ByteArray} : sflat Tryz.prog (do eqGuard .eql 30 x y (.agg #[.int .i64 a0, .int .i64 a1, .string a2, .string a3, .string a4, .string a5]) (.agg #[.int .i64 b0, .int .i64 b1, .string b2, .string b3, .string b4, .string b5]); binOp .eql 30 (.agg #[.int .i64 a0, .int .i64 a1, .string a2, .string a3, .string a4, .string a5]) (.agg #[.int .i64 b0, .int .i64 b1, .string b2, .string b3, .string b4, .string b5])) = some (.bool ((decide (a0 = b0) && (decide (a1 = b1) && (eqB a2 b2 && (eqB a3 b3 && (eqB a4 b4 && eqB a5 b5))))))) := (sf_eqAgg (by kernel_rfl) eqIn_Header).1
theorem sf_neHeader {x y : Operand} {a0 b0 : Int} {a1 b1 : Int} {a2 b2 : ByteArray} {a3 b3 : ByteArray} {a4 b4 : ByteArray} {a5 b5 : ByteArray} : sflat Tryz.prog (do eqGuard .neq 30 x y (.agg #[.int .i64 a0, .int .i64 a1, .string a2, .string a3, .string a4, .string a5]) (.agg #[.int .i64 b0, .int .i64 b1, .string b2, .string b3, .string b4, .string b5]); binOp .neq 30 (.agg #[.int .i64 a0, .int .i64 a1, .string a2, .string a3, .string a4, .string a5]) (.agg #[.int .i64 b0, .int .i64 b1, .string b2, .string b3, .string b4, .string b5])) = some (.bool (!(decide (a0 = b0) && (decide (a1 = b1) && (eqB a2 b2 && (eqB a3 b3 && (eqB a4 b4 && eqB a5 b5))))))) := (sf_eqAgg (by kernel_rfl) eqIn_Header).2
theorem eqIn_Vote {d : Nat} {a0 b0 : Int} {a1 b1 : Int} {a2 b2 : Int} {a3 b3 : ByteArray} {a4 b4 : Int} : sflat Tryz.prog (Op.equalIn (d + 2) 223 (.agg #[.int .i64 a0, .int .i64 a1, .int .i64 a2, .string a3, .int .i64 a4]) (.agg #[.int .i64 b0, .int .i64 b1, .int .i64 b2, .string b3, .int .i64 b4])) = some ((decide (a0 = b0) && (decide (a1 = b1) && (decide (a2 = b2) && (eqB a3 b3 && decide (a4 = b4)))))) := by
  rw [eqIn_struct Tryz.underlying223 (by kernel_rfl)]
  simp only [sfields, if_und, sf_part Tryz.underlying3 rfl, sf_part Tryz.underlying9 rfl, eqIn_int Tryz.underlying3, eqIn_str Tryz.underlying9, List.getElem?_toArray, List.getElem?_cons_zero, List.getElem?_cons_succ, Option.bind_some, ite_sm, Bool.and_true, String.reduceBEq, ne_eq, String.reduceEq, not_false_eq_true, if_true]
theorem sf_eqVote {x y : Operand} {a0 b0 : Int} {a1 b1 : Int} {a2 b2 : Int} {a3 b3 : ByteArray} {a4 b4 : Int} : sflat Tryz.prog (do eqGuard .eql 223 x y (.agg #[.int .i64 a0, .int .i64 a1, .int .i64 a2, .string a3, .int .i64 a4]) (.agg #[.int .i64 b0, .int .i64 b1, .int .i64 b2, .string b3, .int .i64 b4]); binOp .eql 223 (.agg #[.int .i64 a0, .int .i64 a1, .int .i64 a2, .string a3, .int .i64 a4]) (.agg #[.int .i64 b0, .int .i64 b1, .int .i64 b2, .string b3, .int .i64 b4])) = some (.bool ((decide (a0 = b0) && (decide (a1 = b1) && (decide (a2 = b2) && (eqB a3 b3 && decide (a4 = b4))))))) := (sf_eqAgg (by kernel_rfl) eqIn_Vote).1
theorem sf_neVote {x y : Operand} {a0 b0 : Int} {a1 b1 : Int} {a2 b2 : Int} {a3 b3 : ByteArray} {a4 b4 : Int} : sflat Tryz.prog (do eqGuard .neq 223 x y (.agg #[.int .i64 a0, .int .i64 a1, .int .i64 a2, .string a3, .int .i64 a4]) (.agg #[.int .i64 b0, .int .i64 b1, .int .i64 b2, .string b3, .int .i64 b4]); binOp .neq 223 (.agg #[.int .i64 a0, .int .i64 a1, .int .i64 a2, .string a3, .int .i64 a4]) (.agg #[.int .i64 b0, .int .i64 b1, .int .i64 b2, .string b3, .int .i64 b4])) = some (.bool (!(decide (a0 = b0) && (decide (a1 = b1) && (decide (a2 = b2) && (eqB a3 b3 && decide (a4 = b4))))))) := (sf_eqAgg (by kernel_rfl) eqIn_Vote).2
theorem eqIn_CSig {d : Nat} {a0 b0 : Int} {a1 b1 : ByteArray} : sflat Tryz.prog (Op.equalIn (d + 2) 227 (.agg #[.int .i64 a0, .string a1]) (.agg #[.int .i64 b0, .string b1])) = some ((decide (a0 = b0) && eqB a1 b1)) := by
  rw [eqIn_struct Tryz.underlying227 (by kernel_rfl)]
  simp only [sfields, if_und, sf_part Tryz.underlying3 rfl, sf_part Tryz.underlying9 rfl, eqIn_int Tryz.underlying3, eqIn_str Tryz.underlying9, List.getElem?_toArray, List.getElem?_cons_zero, List.getElem?_cons_succ, Option.bind_some, ite_sm, Bool.and_true, String.reduceBEq, ne_eq, String.reduceEq, not_false_eq_true, if_true]
theorem sf_eqCSig {x y : Operand} {a0 b0 : Int} {a1 b1 : ByteArray} : sflat Tryz.prog (do eqGuard .eql 227 x y (.agg #[.int .i64 a0, .string a1]) (.agg #[.int .i64 b0, .string b1]); binOp .eql 227 (.agg #[.int .i64 a0, .string a1]) (.agg #[.int .i64 b0, .string b1])) = some (.bool ((decide (a0 = b0) && eqB a1 b1))) := (sf_eqAgg (by kernel_rfl) eqIn_CSig).1
theorem sf_neCSig {x y : Operand} {a0 b0 : Int} {a1 b1 : ByteArray} : sflat Tryz.prog (do eqGuard .neq 227 x y (.agg #[.int .i64 a0, .string a1]) (.agg #[.int .i64 b0, .string b1]); binOp .neq 227 (.agg #[.int .i64 a0, .string a1]) (.agg #[.int .i64 b0, .string b1])) = some (.bool (!(decide (a0 = b0) && eqB a1 b1))) := (sf_eqAgg (by kernel_rfl) eqIn_CSig).2
theorem eqIn_Trust {d : Nat} {a0 b0 : Int} {a1 b1 : Int} : sflat Tryz.prog (Op.equalIn (d + 2) 69 (.agg #[.int .i64 a0, .int .i64 a1]) (.agg #[.int .i64 b0, .int .i64 b1])) = some ((decide (a0 = b0) && decide (a1 = b1))) := by
  rw [eqIn_struct Tryz.underlying69 (by kernel_rfl)]
  simp only [sfields, if_und, sf_part Tryz.underlying3 rfl, eqIn_int Tryz.underlying3, List.getElem?_toArray, List.getElem?_cons_zero, List.getElem?_cons_succ, Option.bind_some, ite_sm, Bool.and_true, String.reduceBEq, ne_eq, String.reduceEq, not_false_eq_true, if_true]
theorem sf_eqTrust {x y : Operand} {a0 b0 : Int} {a1 b1 : Int} : sflat Tryz.prog (do eqGuard .eql 69 x y (.agg #[.int .i64 a0, .int .i64 a1]) (.agg #[.int .i64 b0, .int .i64 b1]); binOp .eql 69 (.agg #[.int .i64 a0, .int .i64 a1]) (.agg #[.int .i64 b0, .int .i64 b1])) = some (.bool ((decide (a0 = b0) && decide (a1 = b1)))) := (sf_eqAgg (by kernel_rfl) eqIn_Trust).1
theorem sf_neTrust {x y : Operand} {a0 b0 : Int} {a1 b1 : Int} : sflat Tryz.prog (do eqGuard .neq 69 x y (.agg #[.int .i64 a0, .int .i64 a1]) (.agg #[.int .i64 b0, .int .i64 b1]); binOp .neq 69 (.agg #[.int .i64 a0, .int .i64 a1]) (.agg #[.int .i64 b0, .int .i64 b1])) = some (.bool (!(decide (a0 = b0) && decide (a1 = b1)))) := (sf_eqAgg (by kernel_rfl) eqIn_Trust).2
theorem eqIn_Peer {d : Nat} {a0 b0 : Int} {a1 b1 : Bool} {a2 b2 : Int} {a3 b3 : Int} : sflat Tryz.prog (Op.equalIn (d + 2) 211 (.agg #[.int .i64 a0, .bool a1, .int .i64 a2, .int .i64 a3]) (.agg #[.int .i64 b0, .bool b1, .int .i64 b2, .int .i64 b3])) = some ((decide (a0 = b0) && ((a1 == b1) && (decide (a2 = b2) && decide (a3 = b3))))) := by
  rw [eqIn_struct Tryz.underlying211 (by kernel_rfl)]
  simp only [sfields, if_und, sf_part Tryz.underlying4 rfl, sf_part Tryz.underlying3 rfl, eqIn_bool Tryz.underlying4, eqIn_int Tryz.underlying3, List.getElem?_toArray, List.getElem?_cons_zero, List.getElem?_cons_succ, Option.bind_some, ite_sm, Bool.and_true, String.reduceBEq, ne_eq, String.reduceEq, not_false_eq_true, if_true]
theorem sf_eqPeer {x y : Operand} {a0 b0 : Int} {a1 b1 : Bool} {a2 b2 : Int} {a3 b3 : Int} : sflat Tryz.prog (do eqGuard .eql 211 x y (.agg #[.int .i64 a0, .bool a1, .int .i64 a2, .int .i64 a3]) (.agg #[.int .i64 b0, .bool b1, .int .i64 b2, .int .i64 b3]); binOp .eql 211 (.agg #[.int .i64 a0, .bool a1, .int .i64 a2, .int .i64 a3]) (.agg #[.int .i64 b0, .bool b1, .int .i64 b2, .int .i64 b3])) = some (.bool ((decide (a0 = b0) && ((a1 == b1) && (decide (a2 = b2) && decide (a3 = b3)))))) := (sf_eqAgg (by kernel_rfl) eqIn_Peer).1
theorem sf_nePeer {x y : Operand} {a0 b0 : Int} {a1 b1 : Bool} {a2 b2 : Int} {a3 b3 : Int} : sflat Tryz.prog (do eqGuard .neq 211 x y (.agg #[.int .i64 a0, .bool a1, .int .i64 a2, .int .i64 a3]) (.agg #[.int .i64 b0, .bool b1, .int .i64 b2, .int .i64 b3]); binOp .neq 211 (.agg #[.int .i64 a0, .bool a1, .int .i64 a2, .int .i64 a3]) (.agg #[.int .i64 b0, .bool b1, .int .i64 b2, .int .i64 b3])) = some (.bool (!(decide (a0 = b0) && ((a1 == b1) && (decide (a2 = b2) && decide (a3 = b3)))))) := (sf_eqAgg (by kernel_rfl) eqIn_Peer).2
theorem eqIn_Req {d : Nat} {a0 b0 : Int} {a1 b1 : Int} {a2 b2 : Int} : sflat Tryz.prog (Op.equalIn (d + 2) 47 (.agg #[.int .i64 a0, .int .i64 a1, .int .i64 a2]) (.agg #[.int .i64 b0, .int .i64 b1, .int .i64 b2])) = some ((decide (a0 = b0) && (decide (a1 = b1) && decide (a2 = b2)))) := by
  rw [eqIn_struct Tryz.underlying47 (by kernel_rfl)]
  simp only [sfields, if_und, sf_part Tryz.underlying3 rfl, eqIn_int Tryz.underlying3, List.getElem?_toArray, List.getElem?_cons_zero, List.getElem?_cons_succ, Option.bind_some, ite_sm, Bool.and_true, String.reduceBEq, ne_eq, String.reduceEq, not_false_eq_true, if_true]
theorem sf_eqReq {x y : Operand} {a0 b0 : Int} {a1 b1 : Int} {a2 b2 : Int} : sflat Tryz.prog (do eqGuard .eql 47 x y (.agg #[.int .i64 a0, .int .i64 a1, .int .i64 a2]) (.agg #[.int .i64 b0, .int .i64 b1, .int .i64 b2]); binOp .eql 47 (.agg #[.int .i64 a0, .int .i64 a1, .int .i64 a2]) (.agg #[.int .i64 b0, .int .i64 b1, .int .i64 b2])) = some (.bool ((decide (a0 = b0) && (decide (a1 = b1) && decide (a2 = b2))))) := (sf_eqAgg (by kernel_rfl) eqIn_Req).1
theorem sf_neReq {x y : Operand} {a0 b0 : Int} {a1 b1 : Int} {a2 b2 : Int} : sflat Tryz.prog (do eqGuard .neq 47 x y (.agg #[.int .i64 a0, .int .i64 a1, .int .i64 a2]) (.agg #[.int .i64 b0, .int .i64 b1, .int .i64 b2]); binOp .neq 47 (.agg #[.int .i64 a0, .int .i64 a1, .int .i64 a2]) (.agg #[.int .i64 b0, .int .i64 b1, .int .i64 b2])) = some (.bool (!(decide (a0 = b0) && (decide (a1 = b1) && decide (a2 = b2))))) := (sf_eqAgg (by kernel_rfl) eqIn_Req).2
attribute [push_cast] sf_eqVal sf_neVal sf_eqHeader sf_neHeader sf_eqVote sf_neVote sf_eqCSig sf_neCSig sf_eqTrust sf_neTrust sf_eqPeer sf_nePeer sf_eqReq sf_neReq
end Go.Proofs.YtiboajlnjldalaaGreatDoor
namespace Go.Proofs.YtiboajlnjldalaaGreatDoor
set_option linter.unusedSimpArgs false
set_option linter.unusedVariables false
open Go.RowKit
set_option maxRecDepth 100000
theorem isHeight_p (x : Int) : PCalls Tryz.prog 190 [.val (.int .i64 x)] [] (RV (.val (.bool (isHeight x)))) := by
  refine pcalls_ofR okP Tryz.func190 rfl ?_
  simp only [Tryz.f190, List.length_cons, List.length_nil, Nat.reduceAdd, Nat.reduceSub, List.replicate_succ, List.replicate_zero, List.cons_append, List.nil_append, List.length_map]
  repeat' (first | with_reducible (first | refine wA ?_ | refine wB ?_ | refine wC ?_ | refine w1 ?_ | refine w2 ?_ | refine w3 ?_ | refine w4 ?_ | refine w5 ?_ | refine w6 ?_ | refine w7 ?_ | refine w8 ?_ | refine wT ?_ | refine w9 ?_ | refine wE ?_ | refine wS ?_) | ((with_reducible refine hK _ ?_); clear hK K) | ((with_reducible refine pops_plain fun K hK => ?_); simp (disch := omega) only [push_cast, seval]) | ((with_reducible show pcall _ _ _ _ _ _); (first | (refine pcV (cf Tryz.func77) (within_p _ _ _) ?_)); (try simp (disch := omega) only [push_cast, seval])) | ((with_reducible refine And.intro ?_ ?_); omega))
  ((with_reducible show PPostR _ _ _ _ _ _); refine finV ?_; (try simp only [push_cast, seval]))
  rfl
theorem isVal_p (x : Int) : PCalls Tryz.prog 240 [.val (.int .i64 x)] [] (RV (.val (.bool (isVal x)))) := by
  refine pcalls_ofR okP Tryz.func240 rfl ?_
  simp only [Tryz.f240, List.length_cons, List.length_nil, Nat.reduceAdd, Nat.reduceSub, List.replicate_succ, List.replicate_zero, List.cons_append, List.nil_append, List.length_map]
  repeat' (first | with_reducible (first | refine wA ?_ | refine wB ?_ | refine wC ?_ | refine w1 ?_ | refine w2 ?_ | refine w3 ?_ | refine w4 ?_ | refine w5 ?_ | refine w6 ?_ | refine w7 ?_ | refine w8 ?_ | refine wT ?_ | refine w9 ?_ | refine wE ?_ | refine wS ?_) | ((with_reducible refine hK _ ?_); clear hK K) | ((with_reducible refine pops_plain fun K hK => ?_); simp (disch := omega) only [push_cast, seval]) | ((with_reducible show pcall _ _ _ _ _ _); (first | (refine pcV (cf Tryz.func77) (within_p _ _ _) ?_)); (try simp (disch := omega) only [push_cast, seval])) | ((with_reducible refine And.intro ?_ ?_); omega))
  ((with_reducible show PPostR _ _ _ _ _ _); refine finV ?_; (try simp only [push_cast, seval]))
  rfl
theorem isId_p (s : ByteArray) : PCalls Tryz.prog 266 [.val (.string s)] [] (RV (.val (.bool (isId s)))) := by
  refine pcalls_ofR okP Tryz.func266 rfl ?_
  simp only [Tryz.f266, List.length_cons, List.length_nil, Nat.reduceAdd, Nat.reduceSub, List.replicate_succ, List.replicate_zero, List.cons_append, List.nil_append, List.length_map]
  repeat' (first | with_reducible (first | refine wA ?_ | refine wB ?_ | refine wC ?_ | refine w1 ?_ | refine w2 ?_ | refine w3 ?_ | refine w4 ?_ | refine w5 ?_ | refine w6 ?_ | refine w7 ?_ | refine w8 ?_ | refine wT ?_ | refine w9 ?_ | refine wE ?_ | refine wS ?_) | ((with_reducible refine hK _ ?_); clear hK K) | ((with_reducible refine pops_guard0 ?_); refine ⟨_, rfl, fun K hK => ⟨rfl, ?_⟩⟩; (try simp (disch := omega) only [push_cast, seval])) | ((with_reducible refine pops_plain fun K hK => ?_); simp (disch := omega) only [push_cast, seval]) | ((with_reducible refine pops_guard ?_); refine ⟨_, rfl, fun K hK => ⟨_, rfl, fun hg => ?_, fun hg => ?_⟩⟩ <;> first | (exact absurd hg (by decide)) | ((try simp only [Bool.not_true, Bool.not_false] at hg); (try simp only [hg]); (try simp only [push_cast] at hg); (try exact absurd trivial hg); (try (exfalso; omega)); (try simp (disch := omega) only [push_cast, seval]))) | ((with_reducible refine And.intro ?_ ?_); omega))
  all_goals
    ((with_reducible show PPostR _ _ _ _ _ _); refine finV ?_; (try simp only [push_cast, seval]))
    simp_all [isId]
theorem iVoteOk_p (v : GVote) : PCalls Tryz.prog 241 [.agg (pVote v)] [] (RV (.val (.bool (voteOk v)))) := by
  refine pcalls_ofR okP Tryz.func241 rfl ?_
  simp only [Tryz.f241, List.length_cons, List.length_nil, Nat.reduceAdd, Nat.reduceSub, List.replicate_succ, List.replicate_zero, List.cons_append, List.nil_append, List.length_map]
  repeat' (first | with_reducible (first | refine wA ?_ | refine wB ?_ | refine wC ?_ | refine w1 ?_ | refine w2 ?_ | refine w3 ?_ | refine w4 ?_ | refine w5 ?_ | refine w6 ?_ | refine w7 ?_ | refine w8 ?_ | refine wT ?_ | refine w9 ?_ | refine wE ?_ | refine wS ?_) | ((with_reducible refine hK _ ?_); clear hK K) | ((with_reducible refine pops_guard0 ?_); refine ⟨_, rfl, fun K hK => ⟨rfl, ?_⟩⟩; (try simp (disch := omega) only [push_cast, seval])) | ((with_reducible refine pops_plain fun K hK => ?_); simp (disch := omega) only [push_cast, seval]) | ((with_reducible refine pops_guard ?_); refine ⟨_, rfl, fun K hK => ⟨_, rfl, fun hg => ?_, fun hg => ?_⟩⟩ <;> first | (exact absurd hg (by decide)) | ((try simp only [Bool.not_true, Bool.not_false] at hg); (try simp only [hg]); (try simp only [push_cast] at hg); (try exact absurd trivial hg); (try (exfalso; omega)); (try simp (disch := omega) only [push_cast, seval]))) | ((with_reducible show pcall _ _ _ _ _ _); (first | (refine pcV (cf Tryz.func77) (within_p _ _ _) ?_) | (refine pcV (cf Tryz.func190) (isHeight_p _) ?_) | (refine pcV (cf Tryz.func240) (isVal_p _) ?_) | (refine pcV (cf Tryz.func266) (isId_p _) ?_)); (try simp (disch := omega) only [push_cast, seval])) | ((with_reducible refine And.intro ?_ ?_); omega))
  all_goals
    ((with_reducible show PPostR _ _ _ _ _ _); refine finV ?_; (try simp only [push_cast, seval]))
    simp_all [voteOk, isHeight, isVal, isId]
theorem sVoteOk_p (v : GVote) : PCalls Tryz.prog 245 [.agg (pVote v)] [] (RV (.val (.bool (voteOk v)))) := by
  refine pcalls_ofR okP Tryz.func245 rfl ?_
  simp only [Tryz.f245, List.length_cons, List.length_nil, Nat.reduceAdd, Nat.reduceSub, List.replicate_succ, List.replicate_zero, List.cons_append, List.nil_append, List.length_map]
  repeat' (first | with_reducible (first | refine wA ?_ | refine wB ?_ | refine wC ?_ | refine w1 ?_ | refine w2 ?_ | refine w3 ?_ | refine w4 ?_ | refine w5 ?_ | refine w6 ?_ | refine w7 ?_ | refine w8 ?_ | refine wT ?_ | refine w9 ?_ | refine wE ?_ | refine wS ?_) | ((with_reducible refine hK _ ?_); clear hK K) | ((with_reducible refine pops_guard0 ?_); refine ⟨_, rfl, fun K hK => ⟨rfl, ?_⟩⟩; (try simp (disch := omega) only [push_cast, seval])) | ((with_reducible refine pops_plain fun K hK => ?_); simp (disch := omega) only [push_cast, seval]) | ((with_reducible refine pops_guard ?_); refine ⟨_, rfl, fun K hK => ⟨_, rfl, fun hg => ?_, fun hg => ?_⟩⟩ <;> first | (exact absurd hg (by decide)) | ((try simp only [Bool.not_true, Bool.not_false] at hg); (try simp only [hg]); (try simp only [push_cast] at hg); (try exact absurd trivial hg); (try (exfalso; omega)); (try simp (disch := omega) only [push_cast, seval]))) | ((with_reducible show pcall _ _ _ _ _ _); (first | (refine pcV (cf Tryz.func79) (l1In_p _ _ _) ?_)); (try simp (disch := omega) only [push_cast, seval])) | ((with_reducible refine And.intro ?_ ?_); omega))
  all_goals
    ((with_reducible show PPostR _ _ _ _ _ _); refine finV ?_; (try simp only [push_cast, seval]))
    simp_all [voteOk, isHeight, isVal, isId]
end Go.Proofs.YtiboajlnjldalaaGreatDoor
namespace Go.Proofs.YtiboajlnjldalaaGreatDoor
set_option linter.unusedSimpArgs false
set_option linter.unusedVariables false
open Go.RowKit
set_option maxRecDepth 100000
set_option maxHeartbeats 1000000 in
theorem iHeaderOk_p (h : GHeader) : PCalls Tryz.prog 91 [.agg (pHeader h)] [] (RV (.val (.bool (headerOk h)))) := by
  by_cases h1 : h.fHeight = 1
  all_goals
    refine pcalls_ofR okP Tryz.func91 rfl ?_
    simp only [Tryz.f91, List.length_cons, List.length_nil, Nat.reduceAdd, Nat.reduceSub, List.replicate_succ, List.replicate_zero, List.cons_append, List.nil_append, List.length_map]
    repeat' (first | with_reducible (first | refine wA ?_ | refine wB ?_ | refine wC ?_ | refine w1 ?_ | refine w2 ?_ | refine w3 ?_ | refine w4 ?_ | refine w5 ?_ | refine w6 ?_ | refine w7 ?_ | refine w8 ?_ | refine wT ?_ | refine w9 ?_ | refine wE ?_ | refine wS ?_) | ((with_reducible refine hK _ ?_); clear hK K) | ((with_reducible refine PWp.condI ?_); refine ⟨_, rfl, fun hg => ?_, fun hg => ?_⟩ <;> first | (exact absurd hg (by decide)) | ((try simp only [Bool.not_true, Bool.not_false] at hg); (try simp only [hg]); (try simp only [push_cast] at hg); (try exact absurd trivial hg); (try (exfalso; omega)))) | ((with_reducible refine pops_guard0 ?_); refine ⟨_, rfl, fun K hK => ⟨rfl, ?_⟩⟩; (try simp (disch := omega) only [push_cast, seval])) | ((with_reducible refine pops_plain fun K hK => ?_); simp (disch := omega) only [push_cast, seval]) | ((with_reducible refine pops_guard ?_); refine ⟨_, rfl, fun K hK => ⟨_, rfl, fun hg => ?_, fun hg => ?_⟩⟩ <;> first | (exact absurd hg (by decide)) | ((try simp only [Bool.not_true, Bool.not_false] at hg); (try simp only [hg]); (try simp only [push_cast] at hg); (try exact absurd trivial hg); (try (exfalso; omega)); (try simp (disch := omega) only [push_cast, seval]))) | ((with_reducible show pcall _ _ _ _ _ _); (first | (refine pcV (cf Tryz.func167) (isTime_p _) ?_) | (refine pcV (cf Tryz.func190) (isHeight_p _) ?_)); (try simp (disch := omega) only [push_cast, seval])) | ((with_reducible refine And.intro ?_ ?_); omega))
    all_goals
      ((with_reducible show PPostR _ _ _ _ _ _); refine finV ?_; (try simp only [push_cast, seval]))
      simp_all [headerOk, isHeight, isTime]
set_option maxHeartbeats 1000000 in
theorem sHeaderOk_p (h : GHeader) : PCalls Tryz.prog 172 [.agg (pHeader h)] [] (RV (.val (.bool (headerOk h)))) := by
  by_cases h1 : h.fHeight = 1
  all_goals
    refine pcalls_ofR okP Tryz.func172 rfl ?_
    simp only [Tryz.f172, List.length_cons, List.length_nil, Nat.reduceAdd, Nat.reduceSub, List.replicate_succ, List.replicate_zero, List.cons_append, List.nil_append, List.length_map]
    repeat' (first | with_reducible (first | refine wA ?_ | refine wB ?_ | refine wC ?_ | refine w1 ?_ | refine w2 ?_ | refine w3 ?_ | refine w4 ?_ | refine w5 ?_ | refine w6 ?_ | refine w7 ?_ | refine w8 ?_ | refine wT ?_ | refine w9 ?_ | refine wE ?_ | refine wS ?_) | ((with_reducible refine hK _ ?_); clear hK K) | ((with_reducible refine PWp.condI ?_); refine ⟨_, rfl, fun hg => ?_, fun hg => ?_⟩ <;> first | (exact absurd hg (by decide)) | ((try simp only [Bool.not_true, Bool.not_false] at hg); (try simp only [hg]); (try simp only [push_cast] at hg); (try exact absurd trivial hg); (try (exfalso; omega)))) | ((with_reducible refine pops_guard0 ?_); refine ⟨_, rfl, fun K hK => ⟨rfl, ?_⟩⟩; (try simp (disch := omega) only [push_cast, seval])) | ((with_reducible refine pops_plain fun K hK => ?_); simp (disch := omega) only [push_cast, seval]) | ((with_reducible refine pops_guard ?_); refine ⟨_, rfl, fun K hK => ⟨_, rfl, fun hg => ?_, fun hg => ?_⟩⟩ <;> first | (exact absurd hg (by decide)) | ((try simp only [Bool.not_true, Bool.not_false] at hg); (try simp only [hg]); (try simp only [push_cast] at hg); (try exact absurd trivial hg); (try (exfalso; omega)); (try simp (disch := omega) only [push_cast, seval]))) | ((with_reducible show pcall _ _ _ _ _ _); (first | (refine pcV (cf Tryz.func79) (l1In_p _ _ _) ?_)); (try simp (disch := omega) only [push_cast, seval])) | ((with_reducible refine And.intro ?_ ?_); omega))
    all_goals
      ((with_reducible show PPostR _ _ _ _ _ _); refine finV ?_; (try simp only [push_cast, seval]))
      simp_all [headerOk, isHeight, isTime]
set_option maxHeartbeats 1000000 in
theorem iShowHeader_p (h : GHeader) : PCalls Tryz.prog 189 [.agg (pHeader h)] [] (RV (.val (.string (showHeader h)))) := by
  cases ok : headerOk h with
  | false =>
    have e : showHeader h = ⟨#[]⟩ := by unfold showHeader; rw [ok]; rfl
    rw [e]
    refine pcalls_ofR okP Tryz.func189 rfl ?_
    simp only [Tryz.f189, List.length_cons, List.length_nil, Nat.reduceAdd, Nat.reduceSub, List.replicate_succ, List.replicate_zero, List.cons_append, List.nil_append, List.length_map]
    repeat' (first | with_reducible (first | refine wA ?_ | refine wB ?_ | refine wC ?_) | with_reducible refine PWp.draw (id := 3) okP true [0, 1, 3, 4, 7, 8, 11, 12, 15, 16, 19, 20, 2, 5, 6, 9, 10, 13, 14, 17, 18, 21, 22, 23] (by kernel_rfl) ?_ | with_reducible (first | refine w1 ?_ | refine w2 ?_ | refine w3 ?_ | refine w4 ?_ | refine w5 ?_ | refine w6 ?_ | refine w7 ?_ | refine w8 ?_ | refine wT ?_ | refine w9 ?_ | refine wE ?_ | refine wS ?_) | ((with_reducible refine hK _ ?_); clear hK K) | ((with_reducible refine PWp.condI ?_); refine ⟨_, rfl, fun hg => ?_, fun hg => ?_⟩ <;> first | (exact absurd hg (by decide)) | ((try simp only [Bool.not_true, Bool.not_false] at hg); (try simp only [hg]); (try simp only [push_cast] at hg); (try exact absurd trivial hg); (try (exfalso; omega)))) | ((with_reducible refine pany_I ?_); refine ⟨_, rfl, fun K hK => ?_⟩) | ((with_reducible refine pops_plain fun K hK => ?_); simp (disch := omega) only [push_cast, seval, ok]) | ((first | ((with_reducible refine pD_y ?_ ?_); exact rfl) | ((with_reducible refine pD_x ?_ ?_); exact rfl)); simp (disch := omega) only [push_cast, seval, ok]) | ((with_reducible show pcall _ _ _ _ _ _); (first | (refine pcV (cf Tryz.func91) (iHeaderOk_p ⟨_, _, _, _, _, _⟩) ?_) | (refine pcV (cf Tryz.func107) (iVar_p _) ?_) | (refine pcV (cf Tryz.func246) (iSized_p _ sd) ?_)); (try simp (disch := omega) only [push_cast, seval, ok])) | ((with_reducible refine And.intro ?_ ?_); omega))
    ((with_reducible show PPostR _ _ _ _ _ _); refine finV ?_; (try simp only [push_cast, seval]))
  | true =>
    have f := headerOk_facts ok
    have f1 := f.v; have f2 := f.n; have f3 := f.l; have f4 := f.d
    have g1 := varS_size h.fHeight; have g2 := varS_size h.fTime
    have k : ∀ s : ByteArray, s.size ≤ 20 → (sizedS s).size ≤ 28 := fun s hs => by unfold sizedS; rw [ByteArray.size_append]; have := varS_size s.size; omega
    have k1 := k _ (show h.fLast.size ≤ 20 by omega); have k2 := k _ (show h.fVals.size ≤ 20 by omega); have k3 := k _ (show h.fNext.size ≤ 20 by omega); have k4 := k _ (show h.fData.size ≤ 20 by omega)
    have e : showHeader h = varS h.fHeight ++ varS h.fTime ++ sizedS h.fLast ++ sizedS h.fVals ++ sizedS h.fNext ++ sizedS h.fData := by unfold showHeader; rw [if_pos ok]
    rw [e]
    have z1 := ByteArray.size_append (a := varS h.fHeight) (b := varS h.fTime)
    have z2 := ByteArray.size_append (a := varS h.fHeight ++ varS h.fTime) (b := sizedS h.fLast)
    have z3 := ByteArray.size_append (a := varS h.fHeight ++ varS h.fTime ++ sizedS h.fLast) (b := sizedS h.fVals)
    have z4 := ByteArray.size_append (a := varS h.fHeight ++ varS h.fTime ++ sizedS h.fLast ++ sizedS h.fVals) (b := sizedS h.fNext)
    refine pcalls_ofR okP Tryz.func189 rfl ?_
    simp only [Tryz.f189, List.length_cons, List.length_nil, Nat.reduceAdd, Nat.reduceSub, List.replicate_succ, List.replicate_zero, List.cons_append, List.nil_append, List.length_map]
    repeat' (first | with_reducible (first | refine wA ?_ | refine wB ?_ | refine wC ?_) | with_reducible refine PWp.draw (id := 3) okP true [0, 1, 3, 4, 7, 8, 11, 12, 15, 16, 19, 20, 2, 5, 6, 9, 10, 13, 14, 17, 18, 21, 22, 23] (by kernel_rfl) ?_ | with_reducible (first | refine w1 ?_ | refine w2 ?_ | refine w3 ?_ | refine w4 ?_ | refine w5 ?_ | refine w6 ?_ | refine w7 ?_ | refine w8 ?_ | refine wT ?_ | refine w9 ?_ | refine wE ?_ | refine wS ?_) | ((with_reducible refine hK _ ?_); clear hK K) | ((with_reducible refine PWp.condI ?_); refine ⟨_, rfl, fun hg => ?_, fun hg => ?_⟩ <;> first | (exact absurd hg (by decide)) | ((try simp only [Bool.not_true, Bool.not_false] at hg); (try simp only [hg]); (try simp only [push_cast] at hg); (try exact absurd trivial hg); (try (exfalso; omega)))) | ((with_reducible refine pany_I ?_); refine ⟨_, rfl, fun K hK => ?_⟩) | ((with_reducible refine pops_plain fun K hK => ?_); simp (disch := omega) only [push_cast, seval, ok]) | ((first | ((with_reducible refine pD_y ?_ ?_); exact rfl) | ((with_reducible refine pD_x ?_ ?_); exact rfl)); simp (disch := omega) only [push_cast, seval, ok]) | ((with_reducible show pcall _ _ _ _ _ _); (first | (refine pcV (cf Tryz.func91) (iHeaderOk_p ⟨_, _, _, _, _, _⟩) ?_) | (refine pcV (cf Tryz.func107) (iVar_p _) ?_) | (refine pcV (cf Tryz.func246) (iSized_p _ sd) ?_)); (try simp (disch := omega) only [push_cast, seval, ok])) | ((with_reducible refine And.intro ?_ ?_); omega))
    ((with_reducible show PPostR _ _ _ _ _ _); refine finV ?_; (try simp only [push_cast, seval]))
set_option maxHeartbeats 1000000 in
theorem sShowHeader_p (h : GHeader) : PCalls Tryz.prog 174 [.agg (pHeader h)] [] (RV (.val (.string (showHeader h)))) := by
  cases ok : headerOk h with
  | false =>
    have e : showHeader h = ⟨#[]⟩ := by unfold showHeader; rw [ok]; rfl
    rw [e]
    refine pcalls_ofR okP Tryz.func174 rfl ?_
    simp only [Tryz.f174, List.length_cons, List.length_nil, Nat.reduceAdd, Nat.reduceSub, List.replicate_succ, List.replicate_zero, List.cons_append, List.nil_append, List.length_map]
    repeat' (first | with_reducible (first | refine wA ?_ | refine wB ?_ | refine wC ?_) | with_reducible refine PWp.draw (id := 3) okP true [0, 1, 3, 4, 7, 8, 11, 12, 15, 16, 19, 20, 2, 5, 6, 9, 10, 13, 14, 17, 18, 21, 22, 23] (by kernel_rfl) ?_ | with_reducible (first | refine w1 ?_ | refine w2 ?_ | refine w3 ?_ | refine w4 ?_ | refine w5 ?_ | refine w6 ?_ | refine w7 ?_ | refine w8 ?_ | refine wT ?_ | refine w9 ?_ | refine wE ?_ | refine wS ?_) | ((with_reducible refine hK _ ?_); clear hK K) | ((with_reducible refine PWp.condI ?_); refine ⟨_, rfl, fun hg => ?_, fun hg => ?_⟩ <;> first | (exact absurd hg (by decide)) | ((try simp only [Bool.not_true, Bool.not_false] at hg); (try simp only [hg]); (try simp only [push_cast] at hg); (try exact absurd trivial hg); (try (exfalso; omega)))) | ((with_reducible refine pany_I ?_); refine ⟨_, rfl, fun K hK => ?_⟩) | ((with_reducible refine pops_plain fun K hK => ?_); simp (disch := omega) only [push_cast, seval, ok]) | ((first | ((with_reducible refine pD_y ?_ ?_); exact rfl) | ((with_reducible refine pD_x ?_ ?_); exact rfl)); simp (disch := omega) only [push_cast, seval, ok]) | ((with_reducible show pcall _ _ _ _ _ _); (first | (refine pcV (cf Tryz.func112) (sVar_p _) ?_) | (refine pcV (cf Tryz.func172) (sHeaderOk_p ⟨_, _, _, _, _, _⟩) ?_) | (refine pcV (cf Tryz.func232) (sPiece_p _ sd) ?_)); (try simp (disch := omega) only [push_cast, seval, ok])) | ((with_reducible refine And.intro ?_ ?_); omega))
    ((with_reducible show PPostR _ _ _ _ _ _); refine finV ?_; (try simp only [push_cast, seval]))
  | true =>
    have f := headerOk_facts ok
    have f1 := f.v; have f2 := f.n; have f3 := f.l; have f4 := f.d
    have g1 := varS_size h.fHeight; have g2 := varS_size h.fTime
    have k : ∀ s : ByteArray, s.size ≤ 20 → (sizedS s).size ≤ 28 := fun s hs => by unfold sizedS; rw [ByteArray.size_append]; have := varS_size s.size; omega
    have k1 := k _ (show h.fLast.size ≤ 20 by omega); have k2 := k _ (show h.fVals.size ≤ 20 by omega); have k3 := k _ (show h.fNext.size ≤ 20 by omega); have k4 := k _ (show h.fData.size ≤ 20 by omega)
    have e : showHeader h = varS h.fHeight ++ varS h.fTime ++ sizedS h.fLast ++ sizedS h.fVals ++ sizedS h.fNext ++ sizedS h.fData := by unfold showHeader; rw [if_pos ok]
    rw [e]
    have z1 := ByteArray.size_append (a := varS h.fHeight) (b := varS h.fTime)
    have z2 := ByteArray.size_append (a := varS h.fHeight ++ varS h.fTime) (b := sizedS h.fLast)
    have z3 := ByteArray.size_append (a := varS h.fHeight ++ varS h.fTime ++ sizedS h.fLast) (b := sizedS h.fVals)
    have z4 := ByteArray.size_append (a := varS h.fHeight ++ varS h.fTime ++ sizedS h.fLast ++ sizedS h.fVals) (b := sizedS h.fNext)
    refine pcalls_ofR okP Tryz.func174 rfl ?_
    simp only [Tryz.f174, List.length_cons, List.length_nil, Nat.reduceAdd, Nat.reduceSub, List.replicate_succ, List.replicate_zero, List.cons_append, List.nil_append, List.length_map]
    repeat' (first | with_reducible (first | refine wA ?_ | refine wB ?_ | refine wC ?_) | with_reducible refine PWp.draw (id := 3) okP true [0, 1, 3, 4, 7, 8, 11, 12, 15, 16, 19, 20, 2, 5, 6, 9, 10, 13, 14, 17, 18, 21, 22, 23] (by kernel_rfl) ?_ | with_reducible (first | refine w1 ?_ | refine w2 ?_ | refine w3 ?_ | refine w4 ?_ | refine w5 ?_ | refine w6 ?_ | refine w7 ?_ | refine w8 ?_ | refine wT ?_ | refine w9 ?_ | refine wE ?_ | refine wS ?_) | ((with_reducible refine hK _ ?_); clear hK K) | ((with_reducible refine PWp.condI ?_); refine ⟨_, rfl, fun hg => ?_, fun hg => ?_⟩ <;> first | (exact absurd hg (by decide)) | ((try simp only [Bool.not_true, Bool.not_false] at hg); (try simp only [hg]); (try simp only [push_cast] at hg); (try exact absurd trivial hg); (try (exfalso; omega)))) | ((with_reducible refine pany_I ?_); refine ⟨_, rfl, fun K hK => ?_⟩) | ((with_reducible refine pops_plain fun K hK => ?_); simp (disch := omega) only [push_cast, seval, ok]) | ((first | ((with_reducible refine pD_y ?_ ?_); exact rfl) | ((with_reducible refine pD_x ?_ ?_); exact rfl)); simp (disch := omega) only [push_cast, seval, ok]) | ((with_reducible show pcall _ _ _ _ _ _); (first | (refine pcV (cf Tryz.func112) (sVar_p _) ?_) | (refine pcV (cf Tryz.func172) (sHeaderOk_p ⟨_, _, _, _, _, _⟩) ?_) | (refine pcV (cf Tryz.func232) (sPiece_p _ sd) ?_)); (try simp (disch := omega) only [push_cast, seval, ok])) | ((with_reducible refine And.intro ?_ ?_); omega))
    ((with_reducible show PPostR _ _ _ _ _ _); refine finV ?_; (try simp only [push_cast, seval]))
theorem iHeadId_p (h : GHeader) : PCalls Tryz.prog 87 [.agg (pHeader h)] [] (RV (.val (.string (headId h)))) := by
  have hz := showHeader_size h
  cases ok : headerOk h with
  | false =>
    have e : headId h = ⟨#[]⟩ := by unfold headId; rw [ok]; rfl
    rw [e]
    refine pcalls_ofR okP Tryz.func87 rfl ?_
    simp only [Tryz.f87, List.length_cons, List.length_nil, Nat.reduceAdd, Nat.reduceSub, List.replicate_succ, List.replicate_zero, List.cons_append, List.nil_append, List.length_map]
    repeat' (first | with_reducible (first | refine wA ?_ | refine wB ?_ | refine wC ?_ | refine w1 ?_ | refine w2 ?_ | refine w3 ?_ | refine w4 ?_ | refine w5 ?_ | refine w6 ?_ | refine w7 ?_ | refine w8 ?_ | refine wT ?_ | refine w9 ?_ | refine wE ?_ | refine wS ?_) | ((with_reducible refine hK _ ?_); clear hK K) | ((with_reducible refine PWp.condI ?_); refine ⟨_, rfl, fun hg => ?_, fun hg => ?_⟩ <;> first | (exact absurd hg (by decide)) | ((try simp only [Bool.not_true, Bool.not_false] at hg); (try simp only [hg]); (try simp only [push_cast] at hg); (try exact absurd trivial hg); (try (exfalso; omega)))) | ((with_reducible refine pops_plain fun K hK => ?_); simp (disch := omega) only [push_cast, seval, ok]) | ((with_reducible show pcall _ _ _ _ _ _); (first | (refine pcV (cf Tryz.func91) (iHeaderOk_p ⟨_, _, _, _, _, _⟩) ?_) | (refine pcV (cf Tryz.func188) (iShort_p _ sd) ?_) | (refine pcV (cf Tryz.func189) (iShowHeader_p ⟨_, _, _, _, _, _⟩) ?_)); (try simp (disch := omega) only [push_cast, seval, ok])) | ((with_reducible refine And.intro ?_ ?_); omega))
    ((with_reducible show PPostR _ _ _ _ _ _); refine finV ?_; (try simp only [push_cast, seval]))
  | true =>
    have e : headId h = short (showHeader h) := by unfold headId; rw [if_pos ok]
    rw [e]
    refine pcalls_ofR okP Tryz.func87 rfl ?_
    simp only [Tryz.f87, List.length_cons, List.length_nil, Nat.reduceAdd, Nat.reduceSub, List.replicate_succ, List.replicate_zero, List.cons_append, List.nil_append, List.length_map]
    repeat' (first | with_reducible (first | refine wA ?_ | refine wB ?_ | refine wC ?_ | refine w1 ?_ | refine w2 ?_ | refine w3 ?_ | refine w4 ?_ | refine w5 ?_ | refine w6 ?_ | refine w7 ?_ | refine w8 ?_ | refine wT ?_ | refine w9 ?_ | refine wE ?_ | refine wS ?_) | ((with_reducible refine hK _ ?_); clear hK K) | ((with_reducible refine PWp.condI ?_); refine ⟨_, rfl, fun hg => ?_, fun hg => ?_⟩ <;> first | (exact absurd hg (by decide)) | ((try simp only [Bool.not_true, Bool.not_false] at hg); (try simp only [hg]); (try simp only [push_cast] at hg); (try exact absurd trivial hg); (try (exfalso; omega)))) | ((with_reducible refine pops_plain fun K hK => ?_); simp (disch := omega) only [push_cast, seval, ok]) | ((with_reducible show pcall _ _ _ _ _ _); (first | (refine pcV (cf Tryz.func91) (iHeaderOk_p ⟨_, _, _, _, _, _⟩) ?_) | (refine pcV (cf Tryz.func188) (iShort_p _ sd) ?_) | (refine pcV (cf Tryz.func189) (iShowHeader_p ⟨_, _, _, _, _, _⟩) ?_)); (try simp (disch := omega) only [push_cast, seval, ok])) | ((with_reducible refine And.intro ?_ ?_); omega))
    ((with_reducible show PPostR _ _ _ _ _ _); refine finV ?_; (try simp only [push_cast, seval]))
theorem sHeadId_p (h : GHeader) : PCalls Tryz.prog 72 [.agg (pHeader h)] [] (RV (.val (.string (headId h)))) := by
  have hz := showHeader_size h
  cases ok : headerOk h with
  | false =>
    have e : headId h = ⟨#[]⟩ := by unfold headId; rw [ok]; rfl
    rw [e]
    refine pcalls_ofR okP Tryz.func72 rfl ?_
    simp only [Tryz.f72, List.length_cons, List.length_nil, Nat.reduceAdd, Nat.reduceSub, List.replicate_succ, List.replicate_zero, List.cons_append, List.nil_append, List.length_map]
    repeat' (first | with_reducible (first | refine wA ?_ | refine wB ?_ | refine wC ?_ | refine w1 ?_ | refine w2 ?_ | refine w3 ?_ | refine w4 ?_ | refine w5 ?_ | refine w6 ?_ | refine w7 ?_ | refine w8 ?_ | refine wT ?_ | refine w9 ?_ | refine wE ?_ | refine wS ?_) | ((with_reducible refine hK _ ?_); clear hK K) | ((with_reducible refine PWp.condI ?_); refine ⟨_, rfl, fun hg => ?_, fun hg => ?_⟩ <;> first | (exact absurd hg (by decide)) | ((try simp only [Bool.not_true, Bool.not_false] at hg); (try simp only [hg]); (try simp only [push_cast] at hg); (try exact absurd trivial hg); (try (exfalso; omega)))) | ((with_reducible refine pops_plain fun K hK => ?_); simp (disch := omega) only [push_cast, seval, ok]) | ((with_reducible show pcall _ _ _ _ _ _); (first | (refine pcV (cf Tryz.func172) (sHeaderOk_p ⟨_, _, _, _, _, _⟩) ?_) | (refine pcV (cf Tryz.func173) (sShort_p _ sd) ?_) | (refine pcV (cf Tryz.func174) (sShowHeader_p ⟨_, _, _, _, _, _⟩) ?_)); (try simp (disch := omega) only [push_cast, seval, ok])) | ((with_reducible refine And.intro ?_ ?_); omega))
    ((with_reducible show PPostR _ _ _ _ _ _); refine finV ?_; (try simp only [push_cast, seval]))
  | true =>
    have e : headId h = short (showHeader h) := by unfold headId; rw [if_pos ok]
    rw [e]
    refine pcalls_ofR okP Tryz.func72 rfl ?_
    simp only [Tryz.f72, List.length_cons, List.length_nil, Nat.reduceAdd, Nat.reduceSub, List.replicate_succ, List.replicate_zero, List.cons_append, List.nil_append, List.length_map]
    repeat' (first | with_reducible (first | refine wA ?_ | refine wB ?_ | refine wC ?_ | refine w1 ?_ | refine w2 ?_ | refine w3 ?_ | refine w4 ?_ | refine w5 ?_ | refine w6 ?_ | refine w7 ?_ | refine w8 ?_ | refine wT ?_ | refine w9 ?_ | refine wE ?_ | refine wS ?_) | ((with_reducible refine hK _ ?_); clear hK K) | ((with_reducible refine PWp.condI ?_); refine ⟨_, rfl, fun hg => ?_, fun hg => ?_⟩ <;> first | (exact absurd hg (by decide)) | ((try simp only [Bool.not_true, Bool.not_false] at hg); (try simp only [hg]); (try simp only [push_cast] at hg); (try exact absurd trivial hg); (try (exfalso; omega)))) | ((with_reducible refine pops_plain fun K hK => ?_); simp (disch := omega) only [push_cast, seval, ok]) | ((with_reducible show pcall _ _ _ _ _ _); (first | (refine pcV (cf Tryz.func172) (sHeaderOk_p ⟨_, _, _, _, _, _⟩) ?_) | (refine pcV (cf Tryz.func173) (sShort_p _ sd) ?_) | (refine pcV (cf Tryz.func174) (sShowHeader_p ⟨_, _, _, _, _, _⟩) ?_)); (try simp (disch := omega) only [push_cast, seval, ok])) | ((with_reducible refine And.intro ?_ ?_); omega))
    ((with_reducible show PPostR _ _ _ _ _ _); refine finV ?_; (try simp only [push_cast, seval]))
theorem iDigest_p (v : GVote) : PCalls Tryz.prog 180 [.agg (pVote v)] [] (RV (.val (.string (digest v)))) := by
  cases ok : voteOk v with
  | false =>
    have e : digest v = ⟨#[]⟩ := by unfold digest; rw [ok]; rfl
    rw [e]
    refine pcalls_ofR okP Tryz.func180 rfl ?_
    simp only [Tryz.f180, List.length_cons, List.length_nil, Nat.reduceAdd, Nat.reduceSub, List.replicate_succ, List.replicate_zero, List.cons_append, List.nil_append, List.length_map]
    repeat' (first | with_reducible (first | refine wA ?_ | refine wB ?_ | refine wC ?_) | with_reducible refine PWp.draw (id := 3) okP true [0, 1, 3, 4, 7, 8, 11, 12, 2, 5, 6, 9, 10, 13, 14] (by kernel_rfl) ?_ | with_reducible (first | refine w1 ?_ | refine w2 ?_ | refine w3 ?_ | refine w4 ?_ | refine w5 ?_ | refine w6 ?_ | refine w7 ?_ | refine w8 ?_ | refine wT ?_ | refine w9 ?_ | refine wE ?_ | refine wS ?_) | ((with_reducible refine hK _ ?_); clear hK K) | ((with_reducible refine PWp.condI ?_); refine ⟨_, rfl, fun hg => ?_, fun hg => ?_⟩ <;> first | (exact absurd hg (by decide)) | ((try simp only [Bool.not_true, Bool.not_false] at hg); (try simp only [hg]); (try simp only [push_cast] at hg); (try exact absurd trivial hg); (try (exfalso; omega)))) | ((with_reducible refine pany_I ?_); refine ⟨_, rfl, fun K hK => ?_⟩) | ((with_reducible refine pops_plain fun K hK => ?_); simp (disch := omega) only [push_cast, seval, ok]) | ((first | ((with_reducible refine pD_y ?_ ?_); exact rfl) | ((with_reducible refine pD_x ?_ ?_); exact rfl)); simp (disch := omega) only [push_cast, seval, ok]) | ((with_reducible show pcall _ _ _ _ _ _); (first | (refine pcV (cf Tryz.func107) (iVar_p _) ?_) | (refine pcV (cf Tryz.func241) (iVoteOk_p ⟨_, _, _, _, _⟩) ?_)); (try simp (disch := omega) only [push_cast, seval, ok])) | ((with_reducible refine And.intro ?_ ?_); omega))
    ((with_reducible show PPostR _ _ _ _ _ _); refine finV ?_; (try simp only [push_cast, seval]))
  | true =>
    have hi : v.fId.size ≤ 8 := by
      have := ok
      unfold voteOk at this
      simp only [Bool.and_eq_true] at this
      exact isId_le this.1.2
    have g1 := varS_size v.fHeight; have g2 := varS_size v.fRound; have g3 := varS_size v.fStep
    have e : digest v = varS v.fHeight ++ varS v.fRound ++ varS v.fStep ++ v.fId := by unfold digest; rw [if_pos ok]
    rw [e]
    have z1 := ByteArray.size_append (a := varS v.fHeight) (b := varS v.fRound)
    have z2 := ByteArray.size_append (a := varS v.fHeight ++ varS v.fRound) (b := varS v.fStep)
    refine pcalls_ofR okP Tryz.func180 rfl ?_
    simp only [Tryz.f180, List.length_cons, List.length_nil, Nat.reduceAdd, Nat.reduceSub, List.replicate_succ, List.replicate_zero, List.cons_append, List.nil_append, List.length_map]
    repeat' (first | with_reducible (first | refine wA ?_ | refine wB ?_ | refine wC ?_) | with_reducible refine PWp.draw (id := 3) okP true [0, 1, 3, 4, 7, 8, 11, 12, 2, 5, 6, 9, 10, 13, 14] (by kernel_rfl) ?_ | with_reducible (first | refine w1 ?_ | refine w2 ?_ | refine w3 ?_ | refine w4 ?_ | refine w5 ?_ | refine w6 ?_ | refine w7 ?_ | refine w8 ?_ | refine wT ?_ | refine w9 ?_ | refine wE ?_ | refine wS ?_) | ((with_reducible refine hK _ ?_); clear hK K) | ((with_reducible refine PWp.condI ?_); refine ⟨_, rfl, fun hg => ?_, fun hg => ?_⟩ <;> first | (exact absurd hg (by decide)) | ((try simp only [Bool.not_true, Bool.not_false] at hg); (try simp only [hg]); (try simp only [push_cast] at hg); (try exact absurd trivial hg); (try (exfalso; omega)))) | ((with_reducible refine pany_I ?_); refine ⟨_, rfl, fun K hK => ?_⟩) | ((with_reducible refine pops_plain fun K hK => ?_); simp (disch := omega) only [push_cast, seval, ok]) | ((first | ((with_reducible refine pD_y ?_ ?_); exact rfl) | ((with_reducible refine pD_x ?_ ?_); exact rfl)); simp (disch := omega) only [push_cast, seval, ok]) | ((with_reducible show pcall _ _ _ _ _ _); (first | (refine pcV (cf Tryz.func107) (iVar_p _) ?_) | (refine pcV (cf Tryz.func241) (iVoteOk_p ⟨_, _, _, _, _⟩) ?_)); (try simp (disch := omega) only [push_cast, seval, ok])) | ((with_reducible refine And.intro ?_ ?_); omega))
    ((with_reducible show PPostR _ _ _ _ _ _); refine finV ?_; (try simp only [push_cast, seval]))
theorem sDigest_p (v : GVote) : PCalls Tryz.prog 186 [.agg (pVote v)] [] (RV (.val (.string (digest v)))) := by
  cases ok : voteOk v with
  | false =>
    have e : digest v = ⟨#[]⟩ := by unfold digest; rw [ok]; rfl
    rw [e]
    refine pcalls_ofR okP Tryz.func186 rfl ?_
    simp only [Tryz.f186, List.length_cons, List.length_nil, Nat.reduceAdd, Nat.reduceSub, List.replicate_succ, List.replicate_zero, List.cons_append, List.nil_append, List.length_map]
    repeat' (first | with_reducible (first | refine wA ?_ | refine wB ?_ | refine wC ?_) | with_reducible refine PWp.draw (id := 3) okP true [0, 1, 3, 4, 7, 8, 11, 12, 2, 5, 6, 9, 10, 13, 14] (by kernel_rfl) ?_ | with_reducible (first | refine w1 ?_ | refine w2 ?_ | refine w3 ?_ | refine w4 ?_ | refine w5 ?_ | refine w6 ?_ | refine w7 ?_ | refine w8 ?_ | refine wT ?_ | refine w9 ?_ | refine wE ?_ | refine wS ?_) | ((with_reducible refine hK _ ?_); clear hK K) | ((with_reducible refine PWp.condI ?_); refine ⟨_, rfl, fun hg => ?_, fun hg => ?_⟩ <;> first | (exact absurd hg (by decide)) | ((try simp only [Bool.not_true, Bool.not_false] at hg); (try simp only [hg]); (try simp only [push_cast] at hg); (try exact absurd trivial hg); (try (exfalso; omega)))) | ((with_reducible refine pany_I ?_); refine ⟨_, rfl, fun K hK => ?_⟩) | ((with_reducible refine pops_plain fun K hK => ?_); simp (disch := omega) only [push_cast, seval, ok]) | ((first | ((with_reducible refine pD_y ?_ ?_); exact rfl) | ((with_reducible refine pD_x ?_ ?_); exact rfl)); simp (disch := omega) only [push_cast, seval, ok]) | ((with_reducible show pcall _ _ _ _ _ _); (first | (refine pcV (cf Tryz.func112) (sVar_p _) ?_) | (refine pcV (cf Tryz.func245) (sVoteOk_p ⟨_, _, _, _, _⟩) ?_)); (try simp (disch := omega) only [push_cast, seval, ok])) | ((with_reducible refine And.intro ?_ ?_); omega))
    ((with_reducible show PPostR _ _ _ _ _ _); refine finV ?_; (try simp only [push_cast, seval]))
  | true =>
    have hi : v.fId.size ≤ 8 := by
      have := ok
      unfold voteOk at this
      simp only [Bool.and_eq_true] at this
      exact isId_le this.1.2
    have g1 := varS_size v.fHeight; have g2 := varS_size v.fRound; have g3 := varS_size v.fStep
    have e : digest v = varS v.fHeight ++ varS v.fRound ++ varS v.fStep ++ v.fId := by unfold digest; rw [if_pos ok]
    rw [e]
    have z1 := ByteArray.size_append (a := varS v.fHeight) (b := varS v.fRound)
    have z2 := ByteArray.size_append (a := varS v.fHeight ++ varS v.fRound) (b := varS v.fStep)
    refine pcalls_ofR okP Tryz.func186 rfl ?_
    simp only [Tryz.f186, List.length_cons, List.length_nil, Nat.reduceAdd, Nat.reduceSub, List.replicate_succ, List.replicate_zero, List.cons_append, List.nil_append, List.length_map]
    repeat' (first | with_reducible (first | refine wA ?_ | refine wB ?_ | refine wC ?_) | with_reducible refine PWp.draw (id := 3) okP true [0, 1, 3, 4, 7, 8, 11, 12, 2, 5, 6, 9, 10, 13, 14] (by kernel_rfl) ?_ | with_reducible (first | refine w1 ?_ | refine w2 ?_ | refine w3 ?_ | refine w4 ?_ | refine w5 ?_ | refine w6 ?_ | refine w7 ?_ | refine w8 ?_ | refine wT ?_ | refine w9 ?_ | refine wE ?_ | refine wS ?_) | ((with_reducible refine hK _ ?_); clear hK K) | ((with_reducible refine PWp.condI ?_); refine ⟨_, rfl, fun hg => ?_, fun hg => ?_⟩ <;> first | (exact absurd hg (by decide)) | ((try simp only [Bool.not_true, Bool.not_false] at hg); (try simp only [hg]); (try simp only [push_cast] at hg); (try exact absurd trivial hg); (try (exfalso; omega)))) | ((with_reducible refine pany_I ?_); refine ⟨_, rfl, fun K hK => ?_⟩) | ((with_reducible refine pops_plain fun K hK => ?_); simp (disch := omega) only [push_cast, seval, ok]) | ((first | ((with_reducible refine pD_y ?_ ?_); exact rfl) | ((with_reducible refine pD_x ?_ ?_); exact rfl)); simp (disch := omega) only [push_cast, seval, ok]) | ((with_reducible show pcall _ _ _ _ _ _); (first | (refine pcV (cf Tryz.func112) (sVar_p _) ?_) | (refine pcV (cf Tryz.func245) (sVoteOk_p ⟨_, _, _, _, _⟩) ?_)); (try simp (disch := omega) only [push_cast, seval, ok])) | ((with_reducible refine And.intro ?_ ?_); omega))
    ((with_reducible show PPostR _ _ _ _ _ _); refine finV ?_; (try simp only [push_cast, seval]))
theorem iSignAs_p (val : Int) (d : ByteArray) (hd : d.size ≤ 1000000) : PCalls Tryz.prog 179 [.val (.int .i64 val), .val (.string d)] [] (RV (.val (.string (signAs val d)))) := by
  cases ok : isVal val with
  | false =>
    have e : signAs val d = ⟨#[]⟩ := by unfold signAs; rw [ok]; rfl
    rw [e]
    have ok' := ok
    unfold isVal at ok'
    refine pcalls_ofR okP Tryz.func179 rfl ?_
    simp only [Tryz.f179, List.length_cons, List.length_nil, Nat.reduceAdd, Nat.reduceSub, List.replicate_succ, List.replicate_zero, List.cons_append, List.nil_append, List.length_map]
    repeat' (first | with_reducible (first | refine wA ?_ | refine wB ?_ | refine wC ?_ | refine w1 ?_ | refine w2 ?_ | refine w3 ?_ | refine w4 ?_ | refine w5 ?_ | refine w6 ?_ | refine w7 ?_ | refine w8 ?_ | refine wT ?_ | refine w9 ?_ | refine wE ?_ | refine wS ?_) | ((with_reducible refine hK _ ?_); clear hK K) | ((with_reducible refine PWp.condI ?_); refine ⟨_, rfl, fun hg => ?_, fun hg => ?_⟩ <;> first | (exact absurd hg (by decide)) | ((try simp only [Bool.not_true, Bool.not_false] at hg); (try simp only [hg]); (try simp only [push_cast] at hg); (try exact absurd trivial hg); (try (exfalso; omega)))) | ((with_reducible refine pops_plain fun K hK => ?_); simp (disch := omega) only [push_cast, seval, ok, ok']) | ((with_reducible show pcall _ _ _ _ _ _); (first | (refine pcV (cf Tryz.func188) (iShort_p _ sd) ?_) | (refine pcV (cf Tryz.func233) (iFixed_p _ _ sd sd sd) ?_) | (refine pcV (cf Tryz.func240) (isVal_p _) ?_)); (try simp (disch := omega) only [push_cast, seval, ok, ok'])) | ((with_reducible refine And.intro ?_ ?_); omega))
    ((with_reducible show PPostR _ _ _ _ _ _); refine finV ?_; (try simp only [push_cast, seval]))
  | true =>
    obtain ⟨v0, v1⟩ := inB_iff.1 ok
    obtain ⟨n, rfl⟩ : ∃ n : Nat, val = n := ⟨val.toNat, by omega⟩
    have e : signAs n d = short (⟨#[4]⟩ ++ fx n 2 ++ d) := by unfold signAs; rw [if_pos ok, Int.toNat_natCast]
    have hf := fx_size n 2
    have ok' := ok
    unfold isVal at ok'
    rw [e]
    have z0 : (⟨#[4]⟩ : ByteArray).size = 1 := rfl
    have z1 := ByteArray.size_append (a := ⟨#[4]⟩) (b := fx n 2)
    have z2 := ByteArray.size_append (a := ⟨#[4]⟩ ++ fx n 2) (b := d)
    refine pcalls_ofR okP Tryz.func179 rfl ?_
    simp only [Tryz.f179, List.length_cons, List.length_nil, Nat.reduceAdd, Nat.reduceSub, List.replicate_succ, List.replicate_zero, List.cons_append, List.nil_append, List.length_map]
    repeat' (first | with_reducible (first | refine wA ?_ | refine wB ?_ | refine wC ?_ | refine w1 ?_ | refine w2 ?_ | refine w3 ?_ | refine w4 ?_ | refine w5 ?_ | refine w6 ?_ | refine w7 ?_ | refine w8 ?_ | refine wT ?_ | refine w9 ?_ | refine wE ?_ | refine wS ?_) | ((with_reducible refine hK _ ?_); clear hK K) | ((with_reducible refine PWp.condI ?_); refine ⟨_, rfl, fun hg => ?_, fun hg => ?_⟩ <;> first | (exact absurd hg (by decide)) | ((try simp only [Bool.not_true, Bool.not_false] at hg); (try simp only [hg]); (try simp only [push_cast] at hg); (try exact absurd trivial hg); (try (exfalso; omega)))) | ((with_reducible refine pops_plain fun K hK => ?_); simp (disch := omega) only [push_cast, seval, ok, ok']) | ((with_reducible show pcall _ _ _ _ _ _); (first | (refine pcV (cf Tryz.func188) (iShort_p _ sd) ?_) | (refine pcV (cf Tryz.func233) (iFixed_p _ 2 (by omega) (by omega) (by omega)) ?_) | (refine pcV (cf Tryz.func240) (isVal_p _) ?_)); (try simp (disch := omega) only [push_cast, seval, ok, ok'])) | ((with_reducible refine And.intro ?_ ?_); omega))
    ((with_reducible show PPostR _ _ _ _ _ _); refine finV ?_; (try simp only [push_cast, seval]))
theorem sSignAs_p (val : Int) (d : ByteArray) (hd : d.size ≤ 1000000) : PCalls Tryz.prog 185 [.val (.int .i64 val), .val (.string d)] [] (RV (.val (.string (signAs val d)))) := by
  cases ok : isVal val with
  | false =>
    have e : signAs val d = ⟨#[]⟩ := by unfold signAs; rw [ok]; rfl
    rw [e]
    have ok' := ok
    unfold isVal at ok'
    refine pcalls_ofR okP Tryz.func185 rfl ?_
    simp only [Tryz.f185, List.length_cons, List.length_nil, Nat.reduceAdd, Nat.reduceSub, List.replicate_succ, List.replicate_zero, List.cons_append, List.nil_append, List.length_map]
    repeat' (first | with_reducible (first | refine wA ?_ | refine wB ?_ | refine wC ?_ | refine w1 ?_ | refine w2 ?_ | refine w3 ?_ | refine w4 ?_ | refine w5 ?_ | refine w6 ?_ | refine w7 ?_ | refine w8 ?_ | refine wT ?_ | refine w9 ?_ | refine wE ?_ | refine wS ?_) | ((with_reducible refine hK _ ?_); clear hK K) | ((with_reducible refine PWp.condI ?_); refine ⟨_, rfl, fun hg => ?_, fun hg => ?_⟩ <;> first | (exact absurd hg (by decide)) | ((try simp only [Bool.not_true, Bool.not_false] at hg); (try simp only [hg]); (try simp only [push_cast] at hg); (try exact absurd trivial hg); (try (exfalso; omega)))) | ((with_reducible refine pops_plain fun K hK => ?_); simp (disch := omega) only [push_cast, seval, ok, ok']) | ((with_reducible show pcall _ _ _ _ _ _); (first | (refine pcV (cf Tryz.func79) (l1In_p _ _ _) ?_) | (refine pcV (cf Tryz.func173) (sShort_p _ sd) ?_) | (refine pcV (cf Tryz.func244) (sFixed_p _ _ sd sd sd) ?_)); (try simp (disch := omega) only [push_cast, seval, ok, ok'])) | ((with_reducible refine And.intro ?_ ?_); omega))
    ((with_reducible show PPostR _ _ _ _ _ _); refine finV ?_; (try simp only [push_cast, seval]))
  | true =>
    obtain ⟨v0, v1⟩ := inB_iff.1 ok
    obtain ⟨n, rfl⟩ : ∃ n : Nat, val = n := ⟨val.toNat, by omega⟩
    have e : signAs n d = short (⟨#[4]⟩ ++ fx n 2 ++ d) := by unfold signAs; rw [if_pos ok, Int.toNat_natCast]
    have hf := fx_size n 2
    have ok' := ok
    unfold isVal at ok'
    rw [e]
    have z0 : (⟨#[4]⟩ : ByteArray).size = 1 := rfl
    have z1 := ByteArray.size_append (a := ⟨#[4]⟩) (b := fx n 2)
    have z2 := ByteArray.size_append (a := ⟨#[4]⟩ ++ fx n 2) (b := d)
    refine pcalls_ofR okP Tryz.func185 rfl ?_
    simp only [Tryz.f185, List.length_cons, List.length_nil, Nat.reduceAdd, Nat.reduceSub, List.replicate_succ, List.replicate_zero, List.cons_append, List.nil_append, List.length_map]
    repeat' (first | with_reducible (first | refine wA ?_ | refine wB ?_ | refine wC ?_ | refine w1 ?_ | refine w2 ?_ | refine w3 ?_ | refine w4 ?_ | refine w5 ?_ | refine w6 ?_ | refine w7 ?_ | refine w8 ?_ | refine wT ?_ | refine w9 ?_ | refine wE ?_ | refine wS ?_) | ((with_reducible refine hK _ ?_); clear hK K) | ((with_reducible refine PWp.condI ?_); refine ⟨_, rfl, fun hg => ?_, fun hg => ?_⟩ <;> first | (exact absurd hg (by decide)) | ((try simp only [Bool.not_true, Bool.not_false] at hg); (try simp only [hg]); (try simp only [push_cast] at hg); (try exact absurd trivial hg); (try (exfalso; omega)))) | ((with_reducible refine pops_plain fun K hK => ?_); simp (disch := omega) only [push_cast, seval, ok, ok']) | ((with_reducible show pcall _ _ _ _ _ _); (first | (refine pcV (cf Tryz.func79) (l1In_p _ _ _) ?_) | (refine pcV (cf Tryz.func173) (sShort_p _ sd) ?_) | (refine pcV (cf Tryz.func244) (sFixed_p _ 2 (by omega) (by omega) (by omega)) ?_)); (try simp (disch := omega) only [push_cast, seval, ok, ok'])) | ((with_reducible refine And.intro ?_ ?_); omega))
    ((with_reducible show PPostR _ _ _ _ _ _); refine finV ?_; (try simp only [push_cast, seval]))
theorem iSigned_p (v : GVote) (s : ByteArray) : PCalls Tryz.prog 250 [.agg (pVote v), .val (.string s)] [] (RV (.val (.bool (signed v s)))) := by
  have hd := digest_size v
  refine pcalls_ofR okP Tryz.func250 rfl ?_
  simp only [Tryz.f250, List.length_cons, List.length_nil, Nat.reduceAdd, Nat.reduceSub, List.replicate_succ, List.replicate_zero, List.cons_append, List.nil_append, List.length_map]
  repeat' (first | with_reducible (first | refine wA ?_ | refine wB ?_ | refine wC ?_) | with_reducible refine PWp.draw (id := 1) okP true [0, 1, 2, 3, 4, 5, 6, 7, 8, 9, 10, 11] (by kernel_rfl) ?_ | with_reducible (first | refine w1 ?_ | refine w2 ?_ | refine w3 ?_ | refine w4 ?_ | refine w5 ?_ | refine w6 ?_ | refine w7 ?_ | refine w8 ?_ | refine wT ?_ | refine w9 ?_ | refine wE ?_ | refine wS ?_) | ((with_reducible refine hK _ ?_); clear hK K) | ((first | ((with_reducible refine pops_guard0 ?_); refine ⟨_, rfl, fun K hK => ⟨rfl, ?_⟩⟩) | ((with_reducible refine pD_g0 ?_); refine ⟨_, rfl, rfl, ?_⟩)); (try simp (disch := omega) only [push_cast, seval])) | ((with_reducible refine pany_I ?_); refine ⟨_, rfl, fun K hK => ?_⟩) | ((with_reducible refine pops_plain fun K hK => ?_); simp (disch := omega) only [push_cast, seval]) | ((first | ((with_reducible refine pD_y ?_ ?_); exact rfl) | ((with_reducible refine pD_x ?_ ?_); exact rfl)); simp (disch := omega) only [push_cast, seval]) | ((first | ((with_reducible refine pops_guard ?_); refine ⟨_, rfl, fun K hK => ⟨_, rfl, fun hg => ?_, fun hg => ?_⟩⟩) | ((first | ((with_reducible refine pD_gy ?_ ?_); exact rfl) | ((with_reducible refine pD_gx ?_ ?_); exact rfl)); refine ⟨_, rfl, _, rfl, fun hg => ?_, fun hg => ?_⟩)) <;> first | (exact absurd hg (by decide)) | ((try simp only [Bool.not_true, Bool.not_false] at hg); (try simp only [hg]); (try simp only [push_cast] at hg); (try exact absurd trivial hg); (try (exfalso; omega)); (try simp (disch := omega) only [push_cast, seval]))) | ((with_reducible show pcall _ _ _ _ _ _); (first | (refine pcV (cf Tryz.func179) (iSignAs_p _ _ sd) ?_) | (refine pcV (cf Tryz.func180) (iDigest_p ⟨_, _, _, _, _⟩) ?_) | (refine pcV (cf Tryz.func241) (iVoteOk_p ⟨_, _, _, _, _⟩) ?_)); (try simp (disch := omega) only [push_cast, seval])) | ((with_reducible refine And.intro ?_ ?_); omega))
  all_goals
    ((with_reducible show PPostR _ _ _ _ _ _); refine finV ?_; (try simp only [push_cast, seval]))
    simp_all [signed]
theorem sSigned_p (v : GVote) (s : ByteArray) : PCalls Tryz.prog 254 [.agg (pVote v), .val (.string s)] [] (RV (.val (.bool (signed v s)))) := by
  have hd := digest_size v
  refine pcalls_ofR okP Tryz.func254 rfl ?_
  simp only [Tryz.f254, List.length_cons, List.length_nil, Nat.reduceAdd, Nat.reduceSub, List.replicate_succ, List.replicate_zero, List.cons_append, List.nil_append, List.length_map]
  repeat' (first | with_reducible (first | refine wA ?_ | refine wB ?_ | refine wC ?_) | with_reducible refine PWp.draw (id := 1) okP true [0, 1, 2, 3, 4, 5, 6, 7, 8, 9, 10, 11] (by kernel_rfl) ?_ | with_reducible (first | refine w1 ?_ | refine w2 ?_ | refine w3 ?_ | refine w4 ?_ | refine w5 ?_ | refine w6 ?_ | refine w7 ?_ | refine w8 ?_ | refine wT ?_ | refine w9 ?_ | refine wE ?_ | refine wS ?_) | ((with_reducible refine hK _ ?_); clear hK K) | ((first | ((with_reducible refine pops_guard0 ?_); refine ⟨_, rfl, fun K hK => ⟨rfl, ?_⟩⟩) | ((with_reducible refine pD_g0 ?_); refine ⟨_, rfl, rfl, ?_⟩)); (try simp (disch := omega) only [push_cast, seval])) | ((with_reducible refine pany_I ?_); refine ⟨_, rfl, fun K hK => ?_⟩) | ((with_reducible refine pops_plain fun K hK => ?_); simp (disch := omega) only [push_cast, seval]) | ((first | ((with_reducible refine pD_y ?_ ?_); exact rfl) | ((with_reducible refine pD_x ?_ ?_); exact rfl)); simp (disch := omega) only [push_cast, seval]) | ((first | ((with_reducible refine pops_guard ?_); refine ⟨_, rfl, fun K hK => ⟨_, rfl, fun hg => ?_, fun hg => ?_⟩⟩) | ((first | ((with_reducible refine pD_gy ?_ ?_); exact rfl) | ((with_reducible refine pD_gx ?_ ?_); exact rfl)); refine ⟨_, rfl, _, rfl, fun hg => ?_, fun hg => ?_⟩)) <;> first | (exact absurd hg (by decide)) | ((try simp only [Bool.not_true, Bool.not_false] at hg); (try simp only [hg]); (try simp only [push_cast] at hg); (try exact absurd trivial hg); (try (exfalso; omega)); (try simp (disch := omega) only [push_cast, seval]))) | ((with_reducible show pcall _ _ _ _ _ _); (first | (refine pcV (cf Tryz.func185) (sSignAs_p _ _ sd) ?_) | (refine pcV (cf Tryz.func186) (sDigest_p ⟨_, _, _, _, _⟩) ?_) | (refine pcV (cf Tryz.func245) (sVoteOk_p ⟨_, _, _, _, _⟩) ?_)); (try simp (disch := omega) only [push_cast, seval])) | ((with_reducible refine And.intro ?_ ?_); omega))
  all_goals
    ((with_reducible show PPostR _ _ _ _ _ _); refine finV ?_; (try simp only [push_cast, seval]))
    simp_all [signed]
end Go.Proofs.YtiboajlnjldalaaGreatDoor
