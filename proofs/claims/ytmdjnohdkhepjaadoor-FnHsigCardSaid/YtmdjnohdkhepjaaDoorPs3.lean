/- Walks on the pure machine: digits of messages, and trees of four leaves. -/
import Derived.Test.YtmdjnohdkhepjaaDoorPs2
namespace Go.Proofs.YtmdjnohdkhepjaaDoor
set_option linter.unusedSimpArgs false
set_option linter.unusedVariables false
open Go.RowKit
set_option maxRecDepth 100000

theorem sha_len (s : ByteArray) : (sha s).data.toList.length = 32 := by rw [Array.length_toList]; exact sha_size s
theorem h_get {h : ByteArray} (hl : h.data.toList.length = 32) {i : Nat} (hi : i < 32) : h.data.toList[i]? = some (h.data.toList.getD i 0) := by
  rw [List.getD_eq_getElem?_getD, List.getElem?_eq_getElem (by omega)]
  rfl
theorem hD_k {h : ByteArray} {k i p : Nat} {u : UInt8} (hu : h.data.toList.getD i 0 = u) (e1 : k / 4 = i) (e2 : 2 ^ (6 - 2 * (k % 4)) = p) : ((hD h k : Nat) : Int) = (u.toNat : Int) / (p : Int) % 4 := by
  unfold hD
  rw [e1, hu, e2]
  rfl
theorem dg_step {h : ByteArray} {k : Nat} {s v : Int} {l : List Int} (hs : s = 24 - (dSum h k : Int)) (hl : l = digs h k) (hv : ((hD h k : Nat) : Int) = v) (hk : k + 1 ≤ 8) : (k + 1 ≤ 8 ∧ s - v = 24 - (dSum h (k + 1) : Int)) ∧ l ++ [v] = digs h (k + 1) := by
  refine ⟨⟨hk, ?_⟩, ?_⟩
  · rw [dSum, hs, ← hv]
    omega
  · rw [digs, hl, hv]
set_option maxHeartbeats 4000000 in
theorem iDigits_p (msg : ByteArray) (h : msg.size ≤ 1000000) : PCalls Tryd.prog 27 [.val (.string msg)] [] (RH (.own 0) [some (.row 3 1 ((digits msg).map pInt))]) := by
  have hsh := iSha_p msg (by omega)
  have hl := sha_len msg
  unfold digits
  have hs32 := sha_size msg
  generalize sha msg = hh at hsh hl hs32 ⊢
  refine pcalls_ofR okP Tryd.func27 rfl ?_
  simp only [Tryd.f27, List.length_cons, List.length_nil, Nat.reduceAdd, Nat.reduceSub, List.replicate_succ, List.replicate_zero, List.cons_append, List.nil_append, List.length_map]
  repeat' (first | with_reducible refine PWp.seq ?_ | with_reducible refine PWp.block ?_ | with_reducible refine PWp.region okP true ?_ | with_reducible (first | refine pops_nil ?_ | refine pany_nil ?_ | refine pthen_normal ?_ | refine pblock_normal ?_ | refine pthen_ret ?_ | refine pblock_ret ?_ | refine pthen_exit ?_ | refine pblock_here ?_ | refine pblock_there rfl ?_ | refine PWp.ret ?_ | refine PWp.exit ?_ | refine PWp.skip ?_) | ((with_reducible refine hK _ ?_); clear hK K) | ((with_reducible refine PWp.condI ?_); refine ⟨_, rfl, fun hg => ?_, fun hg => ?_⟩ <;> first | (exact absurd hg (by decide)) | ((try simp only [Bool.not_true, Bool.not_false] at hg); (try simp only [hg]); (try simp only [push_cast] at hg); (try exact absurd trivial hg); (try (exfalso; omega)))) | ((with_reducible refine pops_plain fun K hK => popO_row ?_); refine ⟨_, _, _, _, _, rfl, rfl, rfl, rfl, rfl, ?_⟩; simp (disch := omega) only [push_cast, seval]) | ((with_reducible refine pops_plain fun K hK => ?_); simp (disch := omega) only [push_cast, seval]) | ((with_reducible show pcall _ _ _ _ _ _); (first | (refine pcV (g := 59) (callable_of Tryd.func59 rfl rfl) (hsh) ?_)); (try simp (disch := omega) only [push_cast, seval])) | ((with_reducible refine And.intro ?_ ?_); omega))
  refine PWp.loopK (α := Nat × Int × List Int) (fun x => match x with | (k, s, l) => [(4, .own 0), (5, .val (.int .i64 s)), (11, .val (.int .i64 (k : Int)))]) [0, 1, 6, 7, 8, 9, 10, 12, 13, 14, 15, 16, 17, 18, 19, 20, 21, 22, 23, 24, 25, 26, 27, 28, 29, 30, 31, 32] (fun x => match x with | (k, s, l) => [some (.row 3 1 (l.map pInt))]) (fun x => match x with | (k, s, l) => (k ≤ 8 ∧ s = 24 - (dSum hh k : Int)) ∧ l = digs hh k) (fun x => match x with | (k, s, l) => 8 - k) ((0, 24, [])) (⟨⟨Nat.zero_le _, rfl⟩, rfl⟩) (by (refine ⟨[?_], ?_, ?_, ?_, ?_⟩; rotate_left 1; (· ((try simp (disch := omega) only [push_cast, seval, List.map_nil]); (repeat' (first | exact trivial | exact rfl | refine And.intro ?_ ?_ | omega)))); (· ((try simp (disch := omega) only [push_cast, seval, List.map_nil]); (repeat' (first | exact trivial | exact rfl | refine And.intro ?_ ?_ | omega)))); (· exact rfl); (· (first | exact trivial | exact ⟨rfl, trivial⟩ | exact ⟨rfl, rfl, trivial⟩)))) ?_
  intro x ρ hI; obtain ⟨k, s, l⟩ := x
  (try dsimp only at hI)
  refine PWp.at (tm' := ?_) (H' := ?_) ?_ ?_ ?_; rotate_left 2; (· ((try simp only [push_cast, seval]); exact rfl)); (· ((try dsimp only); exact rfl))
  obtain ⟨⟨hk, hsv⟩, hlv⟩ := hI
  have hll : l.length = k := by rw [hlv]; exact digs_len hh k
  have hds := dSum_le hh k
  by_cases hlt : k < 8
  case' pos =>
    have hk8 : k = 0 ∨ k = 1 ∨ k = 2 ∨ k = 3 ∨ k = 4 ∨ k = 5 ∨ k = 6 ∨ k = 7 := by omega
    have hg0 := h_get hl (i := 0) (by omega)
    have hg1 := h_get hl (i := 1) (by omega)
    obtain ⟨u0, hu0⟩ : ∃ u, hh.data.toList.getD 0 0 = u := ⟨_, rfl⟩
    obtain ⟨u1, hu1⟩ : ∃ u, hh.data.toList.getD 1 0 = u := ⟨_, rfl⟩
    have hd0 : ((hD hh 0 : Nat) : Int) = (u0.toNat : Int) / 64 % 4 := hD_k hu0 rfl rfl
    have hd1 : ((hD hh 1 : Nat) : Int) = (u0.toNat : Int) / 16 % 4 := hD_k hu0 rfl rfl
    have hd2 : ((hD hh 2 : Nat) : Int) = (u0.toNat : Int) / 4 % 4 := hD_k hu0 rfl rfl
    have hd3 : ((hD hh 3 : Nat) : Int) = (u0.toNat : Int) / 1 % 4 := hD_k hu0 rfl rfl
    have hd4 : ((hD hh 4 : Nat) : Int) = (u1.toNat : Int) / 64 % 4 := hD_k hu1 rfl rfl
    have hd5 : ((hD hh 5 : Nat) : Int) = (u1.toNat : Int) / 16 % 4 := hD_k hu1 rfl rfl
    have hd6 : ((hD hh 6 : Nat) : Int) = (u1.toNat : Int) / 4 % 4 := hD_k hu1 rfl rfl
    have hd7 : ((hD hh 7 : Nat) : Int) = (u1.toNat : Int) / 1 % 4 := hD_k hu1 rfl rfl
    rw [hu0] at hg0
    rw [hu1] at hg1
    have b0 : (u0.toNat : Int) < 256 := by have := u0.toNat_lt; omega
    have b1 : (u1.toNat : Int) < 256 := by have := u1.toNat_lt; omega
    rcases hk8 with rfl | rfl | rfl | rfl | rfl | rfl | rfl | rfl
    all_goals
      repeat' (first | with_reducible refine PWp.seq ?_ | with_reducible refine PWp.block ?_ | with_reducible refine PWp.region okP true ?_ | with_reducible (first | refine pops_nil ?_ | refine pany_nil ?_ | refine pthen_normal ?_ | refine pblock_normal ?_ | refine pthen_ret ?_ | refine pblock_ret ?_ | refine pthen_exit ?_ | refine pblock_here ?_ | refine pblock_there rfl ?_ | refine PWp.ret ?_ | refine PWp.exit ?_ | refine PWp.skip ?_) | ((with_reducible refine hK _ ?_); clear hK K) | ((with_reducible refine PWp.condI ?_); refine ⟨_, rfl, fun hg => ?_, fun hg => ?_⟩ <;> first | (exact absurd hg (by decide)) | ((try simp only [Bool.not_true, Bool.not_false] at hg); (try simp only [hg]); (try simp only [push_cast] at hg); (try exact absurd trivial hg); (try (exfalso; omega)))) | ((with_reducible refine pops_plain fun K hK => popO_row ?_); refine ⟨_, _, _, _, _, rfl, rfl, rfl, rfl, rfl, ?_⟩; simp (disch := omega) only [push_cast, seval, hg0, hg1, hll]) | ((with_reducible refine pops_plain fun K hK => ?_); simp (disch := omega) only [push_cast, seval, hg0, hg1, hll]) | ((with_reducible show pcall _ _ _ _ _ _); (first | (refine pcV (g := 59) (callable_of Tryd.func59 rfl rfl) (hsh) ?_)); (try simp (disch := omega) only [push_cast, seval, hg0, hg1, hll])) | ((with_reducible refine And.intro ?_ ?_); omega))
    · (refine ⟨(1, s - (u0.toNat : Int) / 64 % 4, l ++ [(u0.toNat : Int) / 64 % 4]), by ((try dsimp only); omega), ?_, by (refine ⟨[?_], ?_, ?_, ?_, ?_⟩; rotate_left 1; (· ((try simp (disch := omega) only [push_cast, seval, List.map_append, List.map_cons, List.map_nil, pInt]); (repeat' (first | exact trivial | exact rfl | refine And.intro ?_ ?_ | omega)))); (· ((try simp (disch := omega) only [push_cast, seval, List.map_append, List.map_cons, List.map_nil, pInt]); (repeat' (first | exact trivial | exact rfl | refine And.intro ?_ ?_ | omega)))); (· exact rfl); (· (first | exact trivial | exact ⟨rfl, trivial⟩ | exact ⟨rfl, rfl, trivial⟩)))⟩)
      exact dg_step hsv hlv hd0 (by omega)
    · (refine ⟨(2, s - (u0.toNat : Int) / 16 % 4, l ++ [(u0.toNat : Int) / 16 % 4]), by ((try dsimp only); omega), ?_, by (refine ⟨[?_], ?_, ?_, ?_, ?_⟩; rotate_left 1; (· ((try simp (disch := omega) only [push_cast, seval, List.map_append, List.map_cons, List.map_nil, pInt]); (repeat' (first | exact trivial | exact rfl | refine And.intro ?_ ?_ | omega)))); (· ((try simp (disch := omega) only [push_cast, seval, List.map_append, List.map_cons, List.map_nil, pInt]); (repeat' (first | exact trivial | exact rfl | refine And.intro ?_ ?_ | omega)))); (· exact rfl); (· (first | exact trivial | exact ⟨rfl, trivial⟩ | exact ⟨rfl, rfl, trivial⟩)))⟩)
      exact dg_step hsv hlv hd1 (by omega)
    · (refine ⟨(3, s - (u0.toNat : Int) / 4 % 4, l ++ [(u0.toNat : Int) / 4 % 4]), by ((try dsimp only); omega), ?_, by (refine ⟨[?_], ?_, ?_, ?_, ?_⟩; rotate_left 1; (· ((try simp (disch := omega) only [push_cast, seval, List.map_append, List.map_cons, List.map_nil, pInt]); (repeat' (first | exact trivial | exact rfl | refine And.intro ?_ ?_ | omega)))); (· ((try simp (disch := omega) only [push_cast, seval, List.map_append, List.map_cons, List.map_nil, pInt]); (repeat' (first | exact trivial | exact rfl | refine And.intro ?_ ?_ | omega)))); (· exact rfl); (· (first | exact trivial | exact ⟨rfl, trivial⟩ | exact ⟨rfl, rfl, trivial⟩)))⟩)
      exact dg_step hsv hlv hd2 (by omega)
    · (refine ⟨(4, s - (u0.toNat : Int) / 1 % 4, l ++ [(u0.toNat : Int) / 1 % 4]), by ((try dsimp only); omega), ?_, by (refine ⟨[?_], ?_, ?_, ?_, ?_⟩; rotate_left 1; (· ((try simp (disch := omega) only [push_cast, seval, List.map_append, List.map_cons, List.map_nil, pInt]); (repeat' (first | exact trivial | exact rfl | refine And.intro ?_ ?_ | omega)))); (· ((try simp (disch := omega) only [push_cast, seval, List.map_append, List.map_cons, List.map_nil, pInt]); (repeat' (first | exact trivial | exact rfl | refine And.intro ?_ ?_ | omega)))); (· exact rfl); (· (first | exact trivial | exact ⟨rfl, trivial⟩ | exact ⟨rfl, rfl, trivial⟩)))⟩)
      exact dg_step hsv hlv hd3 (by omega)
    · (refine ⟨(5, s - (u1.toNat : Int) / 64 % 4, l ++ [(u1.toNat : Int) / 64 % 4]), by ((try dsimp only); omega), ?_, by (refine ⟨[?_], ?_, ?_, ?_, ?_⟩; rotate_left 1; (· ((try simp (disch := omega) only [push_cast, seval, List.map_append, List.map_cons, List.map_nil, pInt]); (repeat' (first | exact trivial | exact rfl | refine And.intro ?_ ?_ | omega)))); (· ((try simp (disch := omega) only [push_cast, seval, List.map_append, List.map_cons, List.map_nil, pInt]); (repeat' (first | exact trivial | exact rfl | refine And.intro ?_ ?_ | omega)))); (· exact rfl); (· (first | exact trivial | exact ⟨rfl, trivial⟩ | exact ⟨rfl, rfl, trivial⟩)))⟩)
      exact dg_step hsv hlv hd4 (by omega)
    · (refine ⟨(6, s - (u1.toNat : Int) / 16 % 4, l ++ [(u1.toNat : Int) / 16 % 4]), by ((try dsimp only); omega), ?_, by (refine ⟨[?_], ?_, ?_, ?_, ?_⟩; rotate_left 1; (· ((try simp (disch := omega) only [push_cast, seval, List.map_append, List.map_cons, List.map_nil, pInt]); (repeat' (first | exact trivial | exact rfl | refine And.intro ?_ ?_ | omega)))); (· ((try simp (disch := omega) only [push_cast, seval, List.map_append, List.map_cons, List.map_nil, pInt]); (repeat' (first | exact trivial | exact rfl | refine And.intro ?_ ?_ | omega)))); (· exact rfl); (· (first | exact trivial | exact ⟨rfl, trivial⟩ | exact ⟨rfl, rfl, trivial⟩)))⟩)
      exact dg_step hsv hlv hd5 (by omega)
    · (refine ⟨(7, s - (u1.toNat : Int) / 4 % 4, l ++ [(u1.toNat : Int) / 4 % 4]), by ((try dsimp only); omega), ?_, by (refine ⟨[?_], ?_, ?_, ?_, ?_⟩; rotate_left 1; (· ((try simp (disch := omega) only [push_cast, seval, List.map_append, List.map_cons, List.map_nil, pInt]); (repeat' (first | exact trivial | exact rfl | refine And.intro ?_ ?_ | omega)))); (· ((try simp (disch := omega) only [push_cast, seval, List.map_append, List.map_cons, List.map_nil, pInt]); (repeat' (first | exact trivial | exact rfl | refine And.intro ?_ ?_ | omega)))); (· exact rfl); (· (first | exact trivial | exact ⟨rfl, trivial⟩ | exact ⟨rfl, rfl, trivial⟩)))⟩)
      exact dg_step hsv hlv hd6 (by omega)
    · (refine ⟨(8, s - (u1.toNat : Int) / 1 % 4, l ++ [(u1.toNat : Int) / 1 % 4]), by ((try dsimp only); omega), ?_, by (refine ⟨[?_], ?_, ?_, ?_, ?_⟩; rotate_left 1; (· ((try simp (disch := omega) only [push_cast, seval, List.map_append, List.map_cons, List.map_nil, pInt]); (repeat' (first | exact trivial | exact rfl | refine And.intro ?_ ?_ | omega)))); (· ((try simp (disch := omega) only [push_cast, seval, List.map_append, List.map_cons, List.map_nil, pInt]); (repeat' (first | exact trivial | exact rfl | refine And.intro ?_ ?_ | omega)))); (· exact rfl); (· (first | exact trivial | exact ⟨rfl, trivial⟩ | exact ⟨rfl, rfl, trivial⟩)))⟩)
      exact dg_step hsv hlv hd7 (by omega)
  case' neg =>
    obtain rfl : k = 8 := by omega
    obtain ⟨m, hm⟩ : ∃ m : Nat, 24 - dSum hh 8 = m := ⟨_, rfl⟩
    obtain rfl : s = (m : Int) := by omega
    rw [hm, ← hlv]
    have b0 : (m : Int) ≤ 24 := by omega
    have e2 : (m : Int) / 4 % 4 = (m : Int) % 16 / 4 := by omega
    repeat' (first | with_reducible refine PWp.seq ?_ | with_reducible refine PWp.block ?_ | with_reducible refine PWp.region okP true ?_ | with_reducible (first | refine pops_nil ?_ | refine pany_nil ?_ | refine pthen_normal ?_ | refine pblock_normal ?_ | refine pthen_ret ?_ | refine pblock_ret ?_ | refine pthen_exit ?_ | refine pblock_here ?_ | refine pblock_there rfl ?_ | refine PWp.ret ?_ | refine PWp.exit ?_ | refine PWp.skip ?_) | ((with_reducible refine hK _ ?_); clear hK K) | ((with_reducible refine PWp.condI ?_); refine ⟨_, rfl, fun hg => ?_, fun hg => ?_⟩ <;> first | (exact absurd hg (by decide)) | ((try simp only [Bool.not_true, Bool.not_false] at hg); (try simp only [hg]); (try simp only [push_cast] at hg); (try exact absurd trivial hg); (try (exfalso; omega)))) | ((with_reducible refine pops_plain fun K hK => popO_row ?_); refine ⟨_, _, _, _, _, rfl, rfl, rfl, rfl, rfl, ?_⟩; simp (disch := omega) only [push_cast, seval, hll, e2]) | ((with_reducible refine pops_plain fun K hK => ?_); simp (disch := omega) only [push_cast, seval, hll, e2]) | ((with_reducible show pcall _ _ _ _ _ _); (first | (refine pcV (g := 59) (callable_of Tryd.func59 rfl rfl) (hsh) ?_)); (try simp (disch := omega) only [push_cast, seval, hll, e2])) | ((with_reducible refine And.intro ?_ ?_); omega))
    ((first | with_reducible (first | refine pendH1 [?_] ?_ ?_ ?_ ?_ ?_ | refine pendH2 [?_] ?_ ?_ ?_ ?_ ?_ | refine pendH3 [?_] ?_ ?_ ?_ ?_ ?_ | refine pendH0 [?_] ?_ ?_ ?_ ?_ ?_) | refine pendHG [?_] ?_ ?_ ?_ ?_ ?_); rotate_left 1; (· (first | exact .inl rfl | exact .inr rfl)); (· ((try (apply Exists.intro; apply And.intro; (· repeat' (first | exact presults_nil | apply presults_tmp | (apply presults_agg; (· exact rfl); (· exact rfl); (· exact rfl); (· exact rfl); (· exact rfl); (· first | exact Nat.le_refl _ | decide | simp)) | (apply presults_one; (· exact rfl); (· exact rfl); (· exact rfl); (· exact rfl); (· exact rfl)))))); (try simp (disch := omega) only [push_cast, seval]); (repeat' (first | exact trivial | exact rfl | refine And.intro ?_ ?_ | omega)))); (· ((try simp (disch := omega) only [push_cast, seval]); (repeat' (first | exact trivial | exact rfl | refine And.intro ?_ ?_ | omega)))); (· exact rfl); (· first | exact trivial | exact ⟨rfl, trivial⟩ | exact ⟨rfl, rfl, trivial⟩ | exact ⟨rfl, rfl, rfl, trivial⟩))
set_option maxHeartbeats 4000000 in
theorem sDigits_p (msg : ByteArray) (h : msg.size ≤ 1000000) : PCalls Tryd.prog 36 [.val (.string msg)] [] (RH (.own 0) [some (.row 3 1 ((digits msg).map pInt))]) := by
  have hsh := sSha_p msg (by omega)
  have hl := sha_len msg
  unfold digits
  have hs32 := sha_size msg
  generalize sha msg = hh at hsh hl hs32 ⊢
  refine pcalls_ofR okP Tryd.func36 rfl ?_
  simp only [Tryd.f36, List.length_cons, List.length_nil, Nat.reduceAdd, Nat.reduceSub, List.replicate_succ, List.replicate_zero, List.cons_append, List.nil_append, List.length_map]
  repeat' (first | with_reducible refine PWp.seq ?_ | with_reducible refine PWp.block ?_ | with_reducible refine PWp.region okP true ?_ | with_reducible (first | refine pops_nil ?_ | refine pany_nil ?_ | refine pthen_normal ?_ | refine pblock_normal ?_ | refine pthen_ret ?_ | refine pblock_ret ?_ | refine pthen_exit ?_ | refine pblock_here ?_ | refine pblock_there rfl ?_ | refine PWp.ret ?_ | refine PWp.exit ?_ | refine PWp.skip ?_) | ((with_reducible refine hK _ ?_); clear hK K) | ((with_reducible refine PWp.condI ?_); refine ⟨_, rfl, fun hg => ?_, fun hg => ?_⟩ <;> first | (exact absurd hg (by decide)) | ((try simp only [Bool.not_true, Bool.not_false] at hg); (try simp only [hg]); (try simp only [push_cast] at hg); (try exact absurd trivial hg); (try (exfalso; omega)))) | ((with_reducible refine pops_plain fun K hK => popO_row ?_); refine ⟨_, _, _, _, _, rfl, rfl, rfl, rfl, rfl, ?_⟩; simp (disch := omega) only [push_cast, seval]) | ((with_reducible refine pops_plain fun K hK => ?_); simp (disch := omega) only [push_cast, seval]) | ((with_reducible show pcall _ _ _ _ _ _); (first | (refine pcV (g := 65) (callable_of Tryd.func65 rfl rfl) (hsh) ?_)); (try simp (disch := omega) only [push_cast, seval])) | ((with_reducible refine And.intro ?_ ?_); omega))
  refine PWp.loopK (α := Nat × Int × List Int) (fun x => match x with | (k, s, l) => [(4, .own 0), (5, .val (.int .i64 s)), (6, .val (.int .i64 (k : Int)))]) [0, 1, 7, 8, 9, 10, 11, 12, 13, 14, 15, 16, 17, 18, 19, 20, 21, 22, 23, 24, 25, 26, 27, 28, 29, 30, 31, 32, 33] (fun x => match x with | (k, s, l) => [some (.row 3 1 (l.map pInt))]) (fun x => match x with | (k, s, l) => (k ≤ 8 ∧ s = 24 - (dSum hh k : Int)) ∧ l = digs hh k) (fun x => match x with | (k, s, l) => 8 - k) ((0, 24, [])) (⟨⟨Nat.zero_le _, rfl⟩, rfl⟩) (by (refine ⟨[?_], ?_, ?_, ?_, ?_⟩; rotate_left 1; (· ((try simp (disch := omega) only [push_cast, seval, List.map_nil]); (repeat' (first | exact trivial | exact rfl | refine And.intro ?_ ?_ | omega)))); (· ((try simp (disch := omega) only [push_cast, seval, List.map_nil]); (repeat' (first | exact trivial | exact rfl | refine And.intro ?_ ?_ | omega)))); (· exact rfl); (· (first | exact trivial | exact ⟨rfl, trivial⟩ | exact ⟨rfl, rfl, trivial⟩)))) ?_
  intro x ρ hI; obtain ⟨k, s, l⟩ := x
  (try dsimp only at hI)
  refine PWp.at (tm' := ?_) (H' := ?_) ?_ ?_ ?_; rotate_left 2; (· ((try simp only [push_cast, seval]); exact rfl)); (· ((try dsimp only); exact rfl))
  obtain ⟨⟨hk, hsv⟩, hlv⟩ := hI
  have hll : l.length = k := by rw [hlv]; exact digs_len hh k
  have hds := dSum_le hh k
  by_cases hlt : k < 8
  case' pos =>
    have hk8 : k = 0 ∨ k = 1 ∨ k = 2 ∨ k = 3 ∨ k = 4 ∨ k = 5 ∨ k = 6 ∨ k = 7 := by omega
    have hg0 := h_get hl (i := 0) (by omega)
    have hg1 := h_get hl (i := 1) (by omega)
    obtain ⟨u0, hu0⟩ : ∃ u, hh.data.toList.getD 0 0 = u := ⟨_, rfl⟩
    obtain ⟨u1, hu1⟩ : ∃ u, hh.data.toList.getD 1 0 = u := ⟨_, rfl⟩
    have hd0 : ((hD hh 0 : Nat) : Int) = (u0.toNat : Int) / 64 % 4 := hD_k hu0 rfl rfl
    have hd1 : ((hD hh 1 : Nat) : Int) = (u0.toNat : Int) / 16 % 4 := hD_k hu0 rfl rfl
    have hd2 : ((hD hh 2 : Nat) : Int) = (u0.toNat : Int) / 4 % 4 := hD_k hu0 rfl rfl
    have hd3 : ((hD hh 3 : Nat) : Int) = (u0.toNat : Int) / 1 % 4 := hD_k hu0 rfl rfl
    have hd4 : ((hD hh 4 : Nat) : Int) = (u1.toNat : Int) / 64 % 4 := hD_k hu1 rfl rfl
    have hd5 : ((hD hh 5 : Nat) : Int) = (u1.toNat : Int) / 16 % 4 := hD_k hu1 rfl rfl
    have hd6 : ((hD hh 6 : Nat) : Int) = (u1.toNat : Int) / 4 % 4 := hD_k hu1 rfl rfl
    have hd7 : ((hD hh 7 : Nat) : Int) = (u1.toNat : Int) / 1 % 4 := hD_k hu1 rfl rfl
    rw [hu0] at hg0
    rw [hu1] at hg1
    have b0 : (u0.toNat : Int) < 256 := by have := u0.toNat_lt; omega
    have b1 : (u1.toNat : Int) < 256 := by have := u1.toNat_lt; omega
    rcases hk8 with rfl | rfl | rfl | rfl | rfl | rfl | rfl | rfl
    all_goals
      repeat' (first | with_reducible refine PWp.seq ?_ | with_reducible refine PWp.block ?_ | with_reducible refine PWp.region okP true ?_ | with_reducible (first | refine pops_nil ?_ | refine pany_nil ?_ | refine pthen_normal ?_ | refine pblock_normal ?_ | refine pthen_ret ?_ | refine pblock_ret ?_ | refine pthen_exit ?_ | refine pblock_here ?_ | refine pblock_there rfl ?_ | refine PWp.ret ?_ | refine PWp.exit ?_ | refine PWp.skip ?_) | ((with_reducible refine hK _ ?_); clear hK K) | ((with_reducible refine PWp.condI ?_); refine ⟨_, rfl, fun hg => ?_, fun hg => ?_⟩ <;> first | (exact absurd hg (by decide)) | ((try simp only [Bool.not_true, Bool.not_false] at hg); (try simp only [hg]); (try simp only [push_cast] at hg); (try exact absurd trivial hg); (try (exfalso; omega)))) | ((with_reducible refine pops_plain fun K hK => popO_row ?_); refine ⟨_, _, _, _, _, rfl, rfl, rfl, rfl, rfl, ?_⟩; simp (disch := omega) only [push_cast, seval, hg0, hg1, hll]) | ((with_reducible refine pops_plain fun K hK => ?_); simp (disch := omega) only [push_cast, seval, hg0, hg1, hll]) | ((with_reducible show pcall _ _ _ _ _ _); (first | (refine pcV (g := 65) (callable_of Tryd.func65 rfl rfl) (hsh) ?_)); (try simp (disch := omega) only [push_cast, seval, hg0, hg1, hll])) | ((with_reducible refine And.intro ?_ ?_); omega))
    · (refine ⟨(1, s - (u0.toNat : Int) / 64 % 4, l ++ [(u0.toNat : Int) / 64 % 4]), by ((try dsimp only); omega), ?_, by (refine ⟨[?_], ?_, ?_, ?_, ?_⟩; rotate_left 1; (· ((try simp (disch := omega) only [push_cast, seval, List.map_append, List.map_cons, List.map_nil, pInt]); (repeat' (first | exact trivial | exact rfl | refine And.intro ?_ ?_ | omega)))); (· ((try simp (disch := omega) only [push_cast, seval, List.map_append, List.map_cons, List.map_nil, pInt]); (repeat' (first | exact trivial | exact rfl | refine And.intro ?_ ?_ | omega)))); (· exact rfl); (· (first | exact trivial | exact ⟨rfl, trivial⟩ | exact ⟨rfl, rfl, trivial⟩)))⟩)
      exact dg_step hsv hlv hd0 (by omega)
    · (refine ⟨(2, s - (u0.toNat : Int) / 16 % 4, l ++ [(u0.toNat : Int) / 16 % 4]), by ((try dsimp only); omega), ?_, by (refine ⟨[?_], ?_, ?_, ?_, ?_⟩; rotate_left 1; (· ((try simp (disch := omega) only [push_cast, seval, List.map_append, List.map_cons, List.map_nil, pInt]); (repeat' (first | exact trivial | exact rfl | refine And.intro ?_ ?_ | omega)))); (· ((try simp (disch := omega) only [push_cast, seval, List.map_append, List.map_cons, List.map_nil, pInt]); (repeat' (first | exact trivial | exact rfl | refine And.intro ?_ ?_ | omega)))); (· exact rfl); (· (first | exact trivial | exact ⟨rfl, trivial⟩ | exact ⟨rfl, rfl, trivial⟩)))⟩)
      exact dg_step hsv hlv hd1 (by omega)
    · (refine ⟨(3, s - (u0.toNat : Int) / 4 % 4, l ++ [(u0.toNat : Int) / 4 % 4]), by ((try dsimp only); omega), ?_, by (refine ⟨[?_], ?_, ?_, ?_, ?_⟩; rotate_left 1; (· ((try simp (disch := omega) only [push_cast, seval, List.map_append, List.map_cons, List.map_nil, pInt]); (repeat' (first | exact trivial | exact rfl | refine And.intro ?_ ?_ | omega)))); (· ((try simp (disch := omega) only [push_cast, seval, List.map_append, List.map_cons, List.map_nil, pInt]); (repeat' (first | exact trivial | exact rfl | refine And.intro ?_ ?_ | omega)))); (· exact rfl); (· (first | exact trivial | exact ⟨rfl, trivial⟩ | exact ⟨rfl, rfl, trivial⟩)))⟩)
      exact dg_step hsv hlv hd2 (by omega)
    · (refine ⟨(4, s - (u0.toNat : Int) / 1 % 4, l ++ [(u0.toNat : Int) / 1 % 4]), by ((try dsimp only); omega), ?_, by (refine ⟨[?_], ?_, ?_, ?_, ?_⟩; rotate_left 1; (· ((try simp (disch := omega) only [push_cast, seval, List.map_append, List.map_cons, List.map_nil, pInt]); (repeat' (first | exact trivial | exact rfl | refine And.intro ?_ ?_ | omega)))); (· ((try simp (disch := omega) only [push_cast, seval, List.map_append, List.map_cons, List.map_nil, pInt]); (repeat' (first | exact trivial | exact rfl | refine And.intro ?_ ?_ | omega)))); (· exact rfl); (· (first | exact trivial | exact ⟨rfl, trivial⟩ | exact ⟨rfl, rfl, trivial⟩)))⟩)
      exact dg_step hsv hlv hd3 (by omega)
    · (refine ⟨(5, s - (u1.toNat : Int) / 64 % 4, l ++ [(u1.toNat : Int) / 64 % 4]), by ((try dsimp only); omega), ?_, by (refine ⟨[?_], ?_, ?_, ?_, ?_⟩; rotate_left 1; (· ((try simp (disch := omega) only [push_cast, seval, List.map_append, List.map_cons, List.map_nil, pInt]); (repeat' (first | exact trivial | exact rfl | refine And.intro ?_ ?_ | omega)))); (· ((try simp (disch := omega) only [push_cast, seval, List.map_append, List.map_cons, List.map_nil, pInt]); (repeat' (first | exact trivial | exact rfl | refine And.intro ?_ ?_ | omega)))); (· exact rfl); (· (first | exact trivial | exact ⟨rfl, trivial⟩ | exact ⟨rfl, rfl, trivial⟩)))⟩)
      exact dg_step hsv hlv hd4 (by omega)
    · (refine ⟨(6, s - (u1.toNat : Int) / 16 % 4, l ++ [(u1.toNat : Int) / 16 % 4]), by ((try dsimp only); omega), ?_, by (refine ⟨[?_], ?_, ?_, ?_, ?_⟩; rotate_left 1; (· ((try simp (disch := omega) only [push_cast, seval, List.map_append, List.map_cons, List.map_nil, pInt]); (repeat' (first | exact trivial | exact rfl | refine And.intro ?_ ?_ | omega)))); (· ((try simp (disch := omega) only [push_cast, seval, List.map_append, List.map_cons, List.map_nil, pInt]); (repeat' (first | exact trivial | exact rfl | refine And.intro ?_ ?_ | omega)))); (· exact rfl); (· (first | exact trivial | exact ⟨rfl, trivial⟩ | exact ⟨rfl, rfl, trivial⟩)))⟩)
      exact dg_step hsv hlv hd5 (by omega)
    · (refine ⟨(7, s - (u1.toNat : Int) / 4 % 4, l ++ [(u1.toNat : Int) / 4 % 4]), by ((try dsimp only); omega), ?_, by (refine ⟨[?_], ?_, ?_, ?_, ?_⟩; rotate_left 1; (· ((try simp (disch := omega) only [push_cast, seval, List.map_append, List.map_cons, List.map_nil, pInt]); (repeat' (first | exact trivial | exact rfl | refine And.intro ?_ ?_ | omega)))); (· ((try simp (disch := omega) only [push_cast, seval, List.map_append, List.map_cons, List.map_nil, pInt]); (repeat' (first | exact trivial | exact rfl | refine And.intro ?_ ?_ | omega)))); (· exact rfl); (· (first | exact trivial | exact ⟨rfl, trivial⟩ | exact ⟨rfl, rfl, trivial⟩)))⟩)
      exact dg_step hsv hlv hd6 (by omega)
    · (refine ⟨(8, s - (u1.toNat : Int) / 1 % 4, l ++ [(u1.toNat : Int) / 1 % 4]), by ((try dsimp only); omega), ?_, by (refine ⟨[?_], ?_, ?_, ?_, ?_⟩; rotate_left 1; (· ((try simp (disch := omega) only [push_cast, seval, List.map_append, List.map_cons, List.map_nil, pInt]); (repeat' (first | exact trivial | exact rfl | refine And.intro ?_ ?_ | omega)))); (· ((try simp (disch := omega) only [push_cast, seval, List.map_append, List.map_cons, List.map_nil, pInt]); (repeat' (first | exact trivial | exact rfl | refine And.intro ?_ ?_ | omega)))); (· exact rfl); (· (first | exact trivial | exact ⟨rfl, trivial⟩ | exact ⟨rfl, rfl, trivial⟩)))⟩)
      exact dg_step hsv hlv hd7 (by omega)
  case' neg =>
    obtain rfl : k = 8 := by omega
    obtain ⟨m, hm⟩ : ∃ m : Nat, 24 - dSum hh 8 = m := ⟨_, rfl⟩
    obtain rfl : s = (m : Int) := by omega
    rw [hm, ← hlv]
    have b0 : (m : Int) ≤ 24 := by omega
    have e2 : (m : Int) / 4 % 4 = (m : Int) % 16 / 4 := by omega
    repeat' (first | with_reducible refine PWp.seq ?_ | with_reducible refine PWp.block ?_ | with_reducible refine PWp.region okP true ?_ | with_reducible (first | refine pops_nil ?_ | refine pany_nil ?_ | refine pthen_normal ?_ | refine pblock_normal ?_ | refine pthen_ret ?_ | refine pblock_ret ?_ | refine pthen_exit ?_ | refine pblock_here ?_ | refine pblock_there rfl ?_ | refine PWp.ret ?_ | refine PWp.exit ?_ | refine PWp.skip ?_) | ((with_reducible refine hK _ ?_); clear hK K) | ((with_reducible refine PWp.condI ?_); refine ⟨_, rfl, fun hg => ?_, fun hg => ?_⟩ <;> first | (exact absurd hg (by decide)) | ((try simp only [Bool.not_true, Bool.not_false] at hg); (try simp only [hg]); (try simp only [push_cast] at hg); (try exact absurd trivial hg); (try (exfalso; omega)))) | ((with_reducible refine pops_plain fun K hK => popO_row ?_); refine ⟨_, _, _, _, _, rfl, rfl, rfl, rfl, rfl, ?_⟩; simp (disch := omega) only [push_cast, seval, hll, e2]) | ((with_reducible refine pops_plain fun K hK => ?_); simp (disch := omega) only [push_cast, seval, hll, e2]) | ((with_reducible show pcall _ _ _ _ _ _); (first | (refine pcV (g := 65) (callable_of Tryd.func65 rfl rfl) (hsh) ?_)); (try simp (disch := omega) only [push_cast, seval, hll, e2])) | ((with_reducible refine And.intro ?_ ?_); omega))
    ((first | with_reducible (first | refine pendH1 [?_] ?_ ?_ ?_ ?_ ?_ | refine pendH2 [?_] ?_ ?_ ?_ ?_ ?_ | refine pendH3 [?_] ?_ ?_ ?_ ?_ ?_ | refine pendH0 [?_] ?_ ?_ ?_ ?_ ?_) | refine pendHG [?_] ?_ ?_ ?_ ?_ ?_); rotate_left 1; (· (first | exact .inl rfl | exact .inr rfl)); (· ((try (apply Exists.intro; apply And.intro; (· repeat' (first | exact presults_nil | apply presults_tmp | (apply presults_agg; (· exact rfl); (· exact rfl); (· exact rfl); (· exact rfl); (· exact rfl); (· first | exact Nat.le_refl _ | decide | simp)) | (apply presults_one; (· exact rfl); (· exact rfl); (· exact rfl); (· exact rfl); (· exact rfl)))))); (try simp (disch := omega) only [push_cast, seval]); (repeat' (first | exact trivial | exact rfl | refine And.intro ?_ ?_ | omega)))); (· ((try simp (disch := omega) only [push_cast, seval]); (repeat' (first | exact trivial | exact rfl | refine And.intro ?_ ?_ | omega)))); (· exact rfl); (· first | exact trivial | exact ⟨rfl, trivial⟩ | exact ⟨rfl, rfl, trivial⟩ | exact ⟨rfl, rfl, rfl, trivial⟩))
end Go.Proofs.YtmdjnohdkhepjaaDoor
