/- FnWal: the walk of the law. -/
import Derived.Test.YtkbikihbomnghaaPw5
import Derived.Test.YtkbikihbomnghaaPvK
import Derived.Test.YtkbikihbomnghaaCode
namespace Go.Proofs.Ytkbikihbomnghaa
set_option linter.unusedSimpArgs false
set_option linter.unusedVariables false
open Go.RowKit
set_option maxRecDepth 1000000
theorem at_i (code : List UInt8) (i : Int) (h0 : 0 ≤ i) (hi : i ≤ 1048576) (hc : code.length ≤ 1048576) : PCalls Try.prog 22 [.sl 1 (code.map pU8), .val (.int .i64 i)] [] (RV (.val (.int .i64 ((atC code i.toNat : Nat) : Int)))) := by
  have := at_p code i.toNat (by omega) hc
  rw [show ((i.toNat : Nat) : Int) = i by omega] at this
  exact this
theorem take_pU8 {n : Nat} {l : List UInt8} : List.take n (List.map pU8 l) = List.map pU8 (l.take n) := List.map_take.symm
theorem bytes1 {b : UInt8} {x : List UInt8} : ([pU8 b] = bytesL x) = (x = [b]) := bytes_map (l := [b])
theorem take_pStr {n : Nat} {l : List ByteArray} : List.take n (List.map pStr l) = List.map pStr (l.take n) := List.map_take.symm
theorem walAdd_ok {log s : ByteArray} (h : s.size ≤ 60) (hl : log.size ≤ 1000) : walAdd log s = (log ++ recB s, true) := by
  have hz := rec_big h
  unfold walAdd
  rw [if_neg (by omega), if_neg (by omega)]
theorem sz_wal {b c : UInt8} {i j : Nat} : ((⟨[b].toArray⟩ : ByteArray) ++ ByteArray.extract ⟨#[c]⟩ i j).size ≤ 2 := by
  have e1 : (⟨[b].toArray⟩ : ByteArray).size = 1 := rfl
  have e2 : (⟨#[c]⟩ : ByteArray).size = 1 := rfl
  rw [ByteArray.size_append, ByteArray.size_extract, e1, e2]
  omega
theorem sf_catw {P : Program} {t : TypeId} {x y : Operand} {b c : UInt8} {i j : Nat} : sflat P (do eqGuard .add t x y (.string ⟨[b].toArray⟩) (.string (ByteArray.extract ⟨#[c]⟩ i j)); binOp .add t (.string ⟨[b].toArray⟩) (.string (ByteArray.extract ⟨#[c]⟩ i j))) = some (.string (⟨[b].toArray⟩ ++ ByteArray.extract ⟨#[c]⟩ i j)) := sf_cat (by have := sz_wal (b := b) (c := c) (i := i) (j := j); rw [ByteArray.size_append] at this; omega)
theorem walAdd_w (log s : ByteArray) (h : s.size ≤ 60) (hl : log.size ≤ 1000) : PCalls Try.prog 44 [.val (.string log), .val (.string s)] [] (RV (.tup [.val (.string (log ++ recB s)), .val (.bool true)])) := by
  have := iWalAdd_p log s (by omega) (by omega)
  rw [walAdd_ok h hl] at this
  exact this
theorem walGo_len {log : ByteArray} : ∀ (f a : Nat), (walGo log f a).1.length ≤ f
  | 0, _ => Nat.zero_le _
  | f + 1, a => by
    cases hw : walAt log a with
    | none => rw [walGo_none hw]; exact Nat.zero_le _
    | some r => obtain ⟨s, e⟩ := r; rw [walGo_some hw]; have := walGo_len (log := log) f e; simp; omega
theorem walScan_len {log : ByteArray} (h : log.size ≤ 3000) : (walScan log).1.length ≤ 1000000 := Nat.le_trans (walGo_len _ _) (by omega)
theorem sameTexts_w (a : List ByteArray) (h : a.length ≤ 1000000) : PCalls Try.prog 46 [.sl 1 (a.map pStr), .sl 1 (a.map pStr)] [] (RV (.val (.bool true))) := by
  have := sameTexts_p a a (by omega) (by omega)
  rw [sameT_refl] at this
  exact this
set_option maxHeartbeats 4000000 in
theorem fnWal_p (code : List UInt8) (hc : code.length ≤ 9223372036854775807) : PCalls Try.prog 7 [.sl 1 (code.map pU8)] [] (RV (.val (.bool true))) := by
  by_cases hbig : 1048576 < code.length
  · have hd : decide (1048576 < code.length) = true := by simpa using hbig
    refine pcalls_ofR okP Try.func7 rfl ?_
    simp only [Try.f7, List.length_cons, List.length_nil, Nat.reduceAdd, Nat.reduceSub, List.replicate_succ, List.replicate_zero, List.cons_append, List.nil_append, List.length_map]
    repeat' (first
        | with_reducible refine PWp.seq ?_
        | with_reducible refine PWp.block ?_
        | with_reducible refine PWp.region okP true ?_
        | with_reducible refine PWp.drawT (id := 8) okP true (.step 0 (.step 1 (.step 5 (.step 6 (.step 11 (.step 12 (.step 13 (.step 2 (.step 3 (.step 4 (.step 7 (.step 8 (.fork (.alt 9 (.step 10 (.step 14 (.step 15 (.step 16 (.step 17 (.step 18 .done)))))) (.alt 14 (.step 15 (.step 9 (.step 10 (.step 16 (.step 17 (.step 18 .done)))))) .stop))))))))))))))) (by kernel_rfl) ?_
        | with_reducible (first | refine pops_nil ?_ | refine pany_nil ?_ | refine pthen_normal ?_ | refine pblock_normal ?_ | refine pthen_ret ?_ | refine pblock_ret ?_ | refine pthen_exit ?_ | refine pblock_here ?_ | refine pblock_there rfl ?_ | refine PWp.ret ?_ | refine PWp.exit ?_ | refine PWp.skip ?_)
        | ((with_reducible refine hK _ ?_); clear hK K)
        | ((with_reducible refine PWp.condI ?_); refine ⟨_, rfl, fun hg => ?_, fun hg => ?_⟩ <;> first | (exact absurd hg (by decide)) | ((try simp only [Bool.not_true, Bool.not_false] at hg); (try simp only [hg]); (try simp only [push_cast] at hg); (try exact absurd trivial hg); (try (exfalso; omega))))
        | ((first | ((with_reducible refine pops_guard0 ?_); refine ⟨_, rfl, fun K hK => ⟨rfl, ?_⟩⟩) | ((with_reducible refine pD_g0 ?_); refine ⟨_, rfl, rfl, ?_⟩)); (try simp (disch := omega) only [push_cast, seval, hd]))
        | with_reducible (first | refine ptree_done ?_ | exact ptree_stop | refine ptree_fork ?_)
        | ((with_reducible refine ptree_I ?_); refine ⟨_, rfl, fun K hK => ?_⟩)
        | ((with_reducible refine ptree_A ?_ ?_); (refine ⟨_, rfl, fun K hK => ?_⟩))
        | ((with_reducible refine pany_I ?_); refine ⟨_, rfl, fun K hK => ?_⟩)
        | ((with_reducible refine pops_plain fun K hK => popO_row ?_); refine ⟨_, _, _, _, _, rfl, rfl, rfl, rfl, rfl, ?_⟩; simp (disch := omega) only [push_cast, seval, hd])
        | ((with_reducible refine pD_x ?_ (popO_row ?_)); exact rfl; refine ⟨_, _, _, _, _, rfl, rfl, rfl, rfl, rfl, ?_⟩; simp (disch := omega) only [push_cast, seval, hd])
        | ((with_reducible refine pops_plain fun K hK => ?_); simp (disch := omega) only [push_cast, seval, hd])
        | ((first | ((with_reducible refine pD_y ?_ ?_); exact rfl) | ((with_reducible refine pD_x ?_ ?_); exact rfl)); simp (disch := omega) only [push_cast, seval, hd])
        | ((first | ((with_reducible refine pops_guard ?_); refine ⟨_, rfl, fun K hK => ⟨_, rfl, fun hg => ?_, fun hg => ?_⟩⟩) | ((first | ((with_reducible refine pD_gy ?_ ?_); exact rfl) | ((with_reducible refine pD_gx ?_ ?_); exact rfl)); refine ⟨_, rfl, _, rfl, fun hg => ?_, fun hg => ?_⟩)) <;> first | (exact absurd hg (by decide)) | ((try simp only [Bool.not_true, Bool.not_false] at hg); (try simp only [hg]); (try simp only [push_cast] at hg); (try exact absurd trivial hg); (try (exfalso; omega)); (try simp (disch := omega) only [push_cast, seval, hd])))
        | ((with_reducible show pcall _ _ _ _ _ _); refine pcall_RV (g := 21) (callable_of Try.func21 rfl rfl) (big_p _ (by (first | assumption | omega | (simp; omega) | (simp_all; done) | (simp_all; omega)))) rfl (by (repeat' (first | exact trivial | exact rfl | exact vwOk_clo rfl | exact rowsC fun _ => rfl | exact rowsC2 fun _ => rfl | refine And.intro ?_ ?_ | refine vwOk_ag ?_ | refine vwOk_cl ?_))) ?_; (try simp (disch := omega) only [push_cast, seval, hd]))
        | ((with_reducible show pcall _ _ _ _ _ _); refine pcall_RV (g := 22) (callable_of Try.func22 rfl rfl) (at_p _ _ (by (first | assumption | omega | (simp; omega) | (simp_all; done) | (simp_all; omega))) (by (first | assumption | omega | (simp; omega) | (simp_all; done) | (simp_all; omega)))) rfl (by (repeat' (first | exact trivial | exact rfl | exact vwOk_clo rfl | exact rowsC fun _ => rfl | exact rowsC2 fun _ => rfl | refine And.intro ?_ ?_ | refine vwOk_ag ?_ | refine vwOk_cl ?_))) ?_; (try simp (disch := omega) only [push_cast, seval, hd]))
        | ((with_reducible show pcall _ _ _ _ _ _); refine pcall_X1 (g := 43) (callable_of Try.func43 rfl rfl) (by ((try simp (disch := omega) only [push_cast, seval]); first | done | exact rfl)) (fresh_p _ _ (by (first | assumption | omega | (simp; omega) | (simp_all; done) | (simp_all; omega))) (by (first | assumption | omega | (simp; omega) | (simp_all; done) | (simp_all; omega)))) ?_; rintro l ⟨hl1, hl2⟩; (try simp (disch := omega) only [push_cast, seval, hd]))
        | ((with_reducible show pcall _ _ _ _ _ _); refine pcall_RV (g := 44) (callable_of Try.func44 rfl rfl) (iWalAdd_p _ _ (by (first | assumption | omega | (simp; omega) | (simp_all; done) | (simp_all; omega))) (by (first | assumption | omega | (simp; omega) | (simp_all; done) | (simp_all; omega)))) rfl (by (repeat' (first | exact trivial | exact rfl | exact vwOk_clo rfl | exact rowsC fun _ => rfl | exact rowsC2 fun _ => rfl | refine And.intro ?_ ?_ | refine vwOk_ag ?_ | refine vwOk_cl ?_))) ?_; (try simp (disch := omega) only [push_cast, seval, hd]))
        | ((with_reducible show pcall _ _ _ _ _ _); refine pcall_H1 (g := 45) (callable_of Try.func45 rfl rfl) (by ((try simp (disch := omega) only [push_cast, seval]); first | done | exact rfl)) (iWalScan_p _ (by (first | assumption | omega | (simp; omega) | (simp_all; done) | (simp_all; omega)))) ?_; (try simp (disch := omega) only [push_cast, seval, hd]))
        | ((with_reducible show pcall _ _ _ _ _ _); refine pcall_RV (g := 46) (callable_of Try.func46 rfl rfl) (sameTexts_p _ _ (by (first | assumption | omega | (simp; omega) | (simp_all; done) | (simp_all; omega))) (by (first | assumption | omega | (simp; omega) | (simp_all; done) | (simp_all; omega)))) rfl (by (repeat' (first | exact trivial | exact rfl | exact vwOk_clo rfl | exact rowsC fun _ => rfl | exact rowsC2 fun _ => rfl | refine And.intro ?_ ?_ | refine vwOk_ag ?_ | refine vwOk_cl ?_))) ?_; (try simp (disch := omega) only [push_cast, seval, hd]))
        | ((with_reducible show pcall _ _ _ _ _ _); refine pcall_RV (g := 47) (callable_of Try.func47 rfl rfl) (iWalTrim_p _ (by (first | assumption | omega | (simp; omega) | (simp_all; done) | (simp_all; omega)))) rfl (by (repeat' (first | exact trivial | exact rfl | exact vwOk_clo rfl | exact rowsC fun _ => rfl | exact rowsC2 fun _ => rfl | refine And.intro ?_ ?_ | refine vwOk_ag ?_ | refine vwOk_cl ?_))) ?_; (try simp (disch := omega) only [push_cast, seval, hd]))
        | ((with_reducible show pcall _ _ _ _ _ _); refine pcall_X1 (g := 48) (callable_of Try.func48 rfl rfl) (by ((try simp (disch := omega) only [push_cast, seval]); first | done | exact rfl)) (sDrawWalScan_p _ (by (first | assumption | omega | (simp; omega) | (simp_all; done) | (simp_all; omega)))) ?_; rintro s ⟨hs, -⟩; (try simp (disch := omega) only [push_cast, seval, hd]))
        | ((with_reducible show pcall _ _ _ _ _ _); refine pcall_H1 (g := 49) (callable_of Try.func49 rfl rfl) (by ((try simp (disch := omega) only [push_cast, seval]); first | done | exact rfl)) (sWalScan_p _ (by (first | assumption | omega | (simp; omega) | (simp_all; done) | (simp_all; omega)))) ?_; (try simp (disch := omega) only [push_cast, seval, hd]))
        | ((with_reducible show pcall _ _ _ _ _ _); refine pcall_RV (g := 50) (callable_of Try.func50 rfl rfl) (iWalRec_p _ (by (first | assumption | omega | (simp; omega) | (simp_all; done) | (simp_all; omega)))) rfl (by (repeat' (first | exact trivial | exact rfl | exact vwOk_clo rfl | exact rowsC fun _ => rfl | exact rowsC2 fun _ => rfl | refine And.intro ?_ ?_ | refine vwOk_ag ?_ | refine vwOk_cl ?_))) ?_; (try simp (disch := omega) only [push_cast, seval, hd]))
        | ((with_reducible show pcall _ _ _ _ _ _); refine pcall_RV (g := 51) (callable_of Try.func51 rfl rfl) (sWalRec_p _ (by (first | assumption | omega | (simp; omega) | (simp_all; done) | (simp_all; omega)))) rfl (by (repeat' (first | exact trivial | exact rfl | exact vwOk_clo rfl | exact rowsC fun _ => rfl | exact rowsC2 fun _ => rfl | refine And.intro ?_ ?_ | refine vwOk_ag ?_ | refine vwOk_cl ?_))) ?_; (try simp (disch := omega) only [push_cast, seval, hd]))
        | ((with_reducible refine And.intro ?_ ?_); omega))
    ((first | with_reducible (first | refine pendV1 ?_ ?_ ?_ | refine pendV2 ?_ ?_ ?_ | refine pendV3 ?_ ?_ ?_ | refine pendV0 ?_ ?_ ?_) | refine pendVG ?_ ?_ ?_); (· (first | exact .inl rfl | exact .inr rfl)); rotate_left 1; (· exact rfl); (try (apply Exists.intro; apply And.intro; (· repeat' (first | exact presults_nil | apply presults_tmp | (apply presults_agg; (· exact rfl); (· exact rfl); (· exact rfl); (· exact rfl); (· exact rfl); (· first | exact Nat.le_refl _ | decide | simp)) | (apply presults_one; (· exact rfl); (· exact rfl); (· exact rfl); (· exact rfl); (· exact rfl)))))); (try simp only [push_cast, seval]))
  have hd : decide (1048576 < code.length) = false := by simpa using hbig
  have hA : ∀ i, ((atC code i : Nat) : Int) < 256 := fun i => by have := atC_lt code i; omega
  refine pcalls_ofR okP Try.func7 rfl ?_
  simp only [Try.f7, List.length_cons, List.length_nil, Nat.reduceAdd, Nat.reduceSub, List.replicate_succ, List.replicate_zero, List.cons_append, List.nil_append, List.length_map]
  repeat' (first
      | with_reducible refine PWp.seq ?_
      | with_reducible refine PWp.block ?_
      | with_reducible refine PWp.region okP true ?_
      | with_reducible refine PWp.drawT (id := 8) okP true (.step 0 (.step 1 (.step 5 (.step 6 (.step 11 (.step 12 (.step 13 (.step 2 (.step 3 (.step 4 (.step 7 (.step 8 (.fork (.alt 9 (.step 10 (.step 14 (.step 15 (.step 16 (.step 17 (.step 18 .done)))))) (.alt 14 (.step 15 (.step 9 (.step 10 (.step 16 (.step 17 (.step 18 .done)))))) .stop))))))))))))))) (by kernel_rfl) ?_
      | with_reducible (first | refine pops_nil ?_ | refine pany_nil ?_ | refine pthen_normal ?_ | refine pblock_normal ?_ | refine pthen_ret ?_ | refine pblock_ret ?_ | refine pthen_exit ?_ | refine pblock_here ?_ | refine pblock_there rfl ?_ | refine PWp.ret ?_ | refine PWp.exit ?_ | refine PWp.skip ?_)
      | ((with_reducible refine hK _ ?_); clear hK K)
      | ((with_reducible refine PWp.condI ?_); refine ⟨_, rfl, fun hg => ?_, fun hg => ?_⟩ <;> first | (exact absurd hg (by decide)) | ((try simp only [Bool.not_true, Bool.not_false] at hg); (try simp only [hg]); (try simp only [push_cast] at hg); (try exact absurd trivial hg); (try (exfalso; omega))))
      | ((first | ((with_reducible refine pops_guard0 ?_); refine ⟨_, rfl, fun K hK => ⟨rfl, ?_⟩⟩) | ((with_reducible refine pD_g0 ?_); refine ⟨_, rfl, rfl, ?_⟩)); (try simp (disch := omega) only [push_cast, seval, hd]))
      | with_reducible (first | refine ptree_done ?_ | exact ptree_stop | refine ptree_fork ?_)
      | ((with_reducible refine ptree_I ?_); refine ⟨_, rfl, fun K hK => ?_⟩)
      | ((with_reducible refine ptree_A ?_ ?_); (refine ⟨_, rfl, fun K hK => ?_⟩))
      | ((with_reducible refine pany_I ?_); refine ⟨_, rfl, fun K hK => ?_⟩)
      | ((with_reducible refine pops_plain fun K hK => popO_row ?_); refine ⟨_, _, _, _, _, rfl, rfl, rfl, rfl, rfl, ?_⟩; simp (disch := omega) only [push_cast, seval, hd])
      | ((with_reducible refine pD_x ?_ (popO_row ?_)); exact rfl; refine ⟨_, _, _, _, _, rfl, rfl, rfl, rfl, rfl, ?_⟩; simp (disch := omega) only [push_cast, seval, hd])
      | ((with_reducible refine pops_plain fun K hK => ?_); simp (disch := omega) only [push_cast, seval, hd])
      | ((first | ((with_reducible refine pD_y ?_ ?_); exact rfl) | ((with_reducible refine pD_x ?_ ?_); exact rfl)); simp (disch := omega) only [push_cast, seval, hd])
      | ((first | ((with_reducible refine pops_guard ?_); refine ⟨_, rfl, fun K hK => ⟨_, rfl, fun hg => ?_, fun hg => ?_⟩⟩) | ((first | ((with_reducible refine pD_gy ?_ ?_); exact rfl) | ((with_reducible refine pD_gx ?_ ?_); exact rfl)); refine ⟨_, rfl, _, rfl, fun hg => ?_, fun hg => ?_⟩)) <;> first | (exact absurd hg (by decide)) | ((try simp only [Bool.not_true, Bool.not_false] at hg); (try simp only [hg]); (try simp only [push_cast] at hg); (try exact absurd trivial hg); (try (exfalso; omega)); (try simp (disch := omega) only [push_cast, seval, hd])))
      | ((with_reducible show pcall _ _ _ _ _ _); refine pcall_RV (g := 21) (callable_of Try.func21 rfl rfl) (big_p _ (by (first | assumption | omega | (simp; omega) | (simp_all; done) | (simp_all; omega)))) rfl (by (repeat' (first | exact trivial | exact rfl | exact vwOk_clo rfl | exact rowsC fun _ => rfl | exact rowsC2 fun _ => rfl | refine And.intro ?_ ?_ | refine vwOk_ag ?_ | refine vwOk_cl ?_))) ?_; (try simp (disch := omega) only [push_cast, seval, hd]))
      | ((with_reducible show pcall _ _ _ _ _ _); refine pcall_RV (g := 22) (callable_of Try.func22 rfl rfl) (at_i _ _ (by omega) (by omega) (by omega)) rfl (by (repeat' (first | exact trivial | exact rfl | exact vwOk_clo rfl | exact rowsC fun _ => rfl | exact rowsC2 fun _ => rfl | refine And.intro ?_ ?_ | refine vwOk_ag ?_ | refine vwOk_cl ?_))) ?_; (try simp (disch := omega) only [push_cast, seval, hd]))
      | ((with_reducible show pcall _ _ _ _ _ _); refine pcall_X1 (g := 43) (callable_of Try.func43 rfl rfl) (by ((try simp (disch := omega) only [push_cast, seval]); first | done | exact rfl)) (fresh_p _ _ (by omega) (by omega)) ?_; rintro l ⟨hl1, hl2⟩; obtain ⟨b, r, rfl⟩ : ∃ b r, l = b :: r := by cases l with | nil => simp at hl1 | cons b r => exact ⟨b, r, rfl⟩; (try simp (disch := omega) only [push_cast, seval, hd]))
      | ((with_reducible show pcall _ _ _ _ _ _); refine pcall_RV (g := 44) (callable_of Try.func44 rfl rfl) (walAdd_w _ _ (by first | exact Nat.le_trans sz_wal (by decide) | decide) (by omega)) rfl (by (repeat' (first | exact trivial | exact rfl | exact vwOk_clo rfl | exact rowsC fun _ => rfl | exact rowsC2 fun _ => rfl | refine And.intro ?_ ?_ | refine vwOk_ag ?_ | refine vwOk_cl ?_))) ?_; (try simp (disch := omega) only [push_cast, seval, hd]))
      | ((with_reducible show pcall _ _ _ _ _ _); refine pcall_H1 (g := 45) (callable_of Try.func45 rfl rfl) (by ((try simp (disch := omega) only [push_cast, seval]); first | done | exact rfl)) (iWalScan_p _ (by (first | assumption | omega | (simp; omega) | (simp_all; done) | (simp_all; omega)))) ?_; (try simp (disch := omega) only [push_cast, seval, hd]))
      | ((with_reducible show pcall _ _ _ _ _ _); refine pcall_RV (g := 46) (callable_of Try.func46 rfl rfl) (sameTexts_p _ _ (by (first | assumption | omega | (simp; omega) | (simp_all; done) | (simp_all; omega))) (by (first | assumption | omega | (simp; omega) | (simp_all; done) | (simp_all; omega)))) rfl (by (repeat' (first | exact trivial | exact rfl | exact vwOk_clo rfl | exact rowsC fun _ => rfl | exact rowsC2 fun _ => rfl | refine And.intro ?_ ?_ | refine vwOk_ag ?_ | refine vwOk_cl ?_))) ?_; (try simp (disch := omega) only [push_cast, seval, hd]))
      | ((with_reducible show pcall _ _ _ _ _ _); refine pcall_RV (g := 47) (callable_of Try.func47 rfl rfl) (iWalTrim_p _ (by (first | assumption | omega | (simp; omega) | (simp_all; done) | (simp_all; omega)))) rfl (by (repeat' (first | exact trivial | exact rfl | exact vwOk_clo rfl | exact rowsC fun _ => rfl | exact rowsC2 fun _ => rfl | refine And.intro ?_ ?_ | refine vwOk_ag ?_ | refine vwOk_cl ?_))) ?_; (try simp (disch := omega) only [push_cast, seval, hd]))
      | ((with_reducible show pcall _ _ _ _ _ _); refine pcall_X1 (g := 48) (callable_of Try.func48 rfl rfl) (by ((try simp (disch := omega) only [push_cast, seval]); first | done | exact rfl)) (sDrawWalScan_p _ (by (first | assumption | omega | (simp; omega) | (simp_all; done) | (simp_all; omega)))) ?_; rintro s ⟨hs, -⟩; (try simp (disch := omega) only [push_cast, seval, hd]))
      | ((with_reducible show pcall _ _ _ _ _ _); refine pcall_H1 (g := 49) (callable_of Try.func49 rfl rfl) (by ((try simp (disch := omega) only [push_cast, seval]); first | done | exact rfl)) (sWalScan_p _ (by (first | assumption | omega | (simp; omega) | (simp_all; done) | (simp_all; omega)))) ?_; (try simp (disch := omega) only [push_cast, seval, hd]))
      | ((with_reducible show pcall _ _ _ _ _ _); refine pcall_RV (g := 50) (callable_of Try.func50 rfl rfl) (iWalRec_p _ (by (first | assumption | omega | (simp; omega) | (simp_all; done) | (simp_all; omega)))) rfl (by (repeat' (first | exact trivial | exact rfl | exact vwOk_clo rfl | exact rowsC fun _ => rfl | exact rowsC2 fun _ => rfl | refine And.intro ?_ ?_ | refine vwOk_ag ?_ | refine vwOk_cl ?_))) ?_; (try simp (disch := omega) only [push_cast, seval, hd]))
      | ((with_reducible show pcall _ _ _ _ _ _); refine pcall_RV (g := 51) (callable_of Try.func51 rfl rfl) (sWalRec_p _ (by (first | assumption | omega | (simp; omega) | (simp_all; done) | (simp_all; omega)))) rfl (by (repeat' (first | exact trivial | exact rfl | exact vwOk_clo rfl | exact rowsC fun _ => rfl | exact rowsC2 fun _ => rfl | refine And.intro ?_ ?_ | refine vwOk_ag ?_ | refine vwOk_cl ?_))) ?_; (try simp (disch := omega) only [push_cast, seval, hd]))
      | ((with_reducible refine And.intro ?_ ?_); omega))
  refine PWp.loopK (α := Nat × List ByteArray) (fun x => match x with | (i, rs) => [(5, .val (.int .i64 (i : Int))), (3, .val (.string (catR rs))), (4, .own 0)]) [1, 2, 6, 7, 8, 16, 18, 24, 25, 26, 27, 28, 29, 30, 31, 32, 33, 34, 35, 36, 37, 38, 39, 40, 41, 42, 43, 44, 45, 46, 47, 48, 49, 50, 51, 52, 53, 54, 55, 56, 57, 58, 59, 60, 61] (fun x => match x with | (i, rs) => [some (.row 9 1 (rs.map pStr))]) (fun x => match x with | (i, rs) => i ≤ 6 ∧ rs.length = i ∧ (catR rs).size ≤ 70 * i ∧ ∀ s ∈ rs, s.size ≤ 60) (fun x => match x with | (i, rs) => 6 - i) ((0, [])) (⟨by omega, rfl, by exact Nat.le_refl _, by simp⟩) (by (refine ⟨[?_], ?_, ?_, ?_, ?_⟩; rotate_left 1; (· ((try simp (disch := omega) only [push_cast, seval]); (repeat' (first | exact trivial | exact rfl | refine And.intro ?_ ?_ | omega)))); (· ((try simp (disch := omega) only [push_cast, seval]); (repeat' (first | exact trivial | exact rfl | refine And.intro ?_ ?_ | omega)))); (· exact rfl); (· (first | exact trivial | exact ⟨rfl, trivial⟩ | exact ⟨rfl, rfl, trivial⟩)))) ?_
  intro x ρ hI; obtain ⟨i, rs⟩ := x
  (try dsimp only at hI)
  refine PWp.at (tm' := ?_) (H' := ?_) ?_ ?_ ?_; rotate_left 2; (· ((try simp only [push_cast, seval]); exact rfl)); (· ((try dsimp only); exact rfl))
  obtain ⟨hi, hlen, hcz, hsz⟩ := hI
  by_cases hlt : i < 6
  ·
    repeat' (first
        | with_reducible refine PWp.seq ?_
        | with_reducible refine PWp.block ?_
        | with_reducible refine PWp.region okP true ?_
        | with_reducible refine PWp.drawT (id := 8) okP true (.step 0 (.step 1 (.step 5 (.step 6 (.step 11 (.step 12 (.step 13 (.step 2 (.step 3 (.step 4 (.step 7 (.step 8 (.fork (.alt 9 (.step 10 (.step 14 (.step 15 (.step 16 (.step 17 (.step 18 .done)))))) (.alt 14 (.step 15 (.step 9 (.step 10 (.step 16 (.step 17 (.step 18 .done)))))) .stop))))))))))))))) (by kernel_rfl) ?_
        | with_reducible (first | refine pops_nil ?_ | refine pany_nil ?_ | refine pthen_normal ?_ | refine pblock_normal ?_ | refine pthen_ret ?_ | refine pblock_ret ?_ | refine pthen_exit ?_ | refine pblock_here ?_ | refine pblock_there rfl ?_ | refine PWp.ret ?_ | refine PWp.exit ?_ | refine PWp.skip ?_)
        | ((with_reducible refine hK _ ?_); clear hK K)
        | ((with_reducible refine PWp.condI ?_); refine ⟨_, rfl, fun hg => ?_, fun hg => ?_⟩ <;> first | (exact absurd hg (by decide)) | ((try simp only [Bool.not_true, Bool.not_false] at hg); (try simp only [hg]); (try simp only [push_cast] at hg); (try exact absurd trivial hg); (try (exfalso; omega))))
        | ((first | ((with_reducible refine pops_guard0 ?_); refine ⟨_, rfl, fun K hK => ⟨rfl, ?_⟩⟩) | ((with_reducible refine pD_g0 ?_); refine ⟨_, rfl, rfl, ?_⟩)); (try simp (disch := omega) only [push_cast, seval, bytes1, sf_catw]))
        | with_reducible (first | refine ptree_done ?_ | exact ptree_stop | refine ptree_fork ?_)
        | ((with_reducible refine ptree_I ?_); refine ⟨_, rfl, fun K hK => ?_⟩)
        | ((with_reducible refine ptree_A ?_ ?_); (refine ⟨_, rfl, fun K hK => ?_⟩))
        | ((with_reducible refine pany_I ?_); refine ⟨_, rfl, fun K hK => ?_⟩)
        | ((with_reducible refine pops_plain fun K hK => popO_row ?_); refine ⟨_, _, _, _, _, rfl, rfl, rfl, rfl, rfl, ?_⟩; simp (disch := omega) only [push_cast, seval, bytes1, sf_catw])
        | ((with_reducible refine pD_x ?_ (popO_row ?_)); exact rfl; refine ⟨_, _, _, _, _, rfl, rfl, rfl, rfl, rfl, ?_⟩; simp (disch := omega) only [push_cast, seval, bytes1, sf_catw])
        | ((with_reducible refine pops_plain fun K hK => ?_); simp (disch := omega) only [push_cast, seval, bytes1, sf_catw])
        | ((first | ((with_reducible refine pD_y ?_ ?_); exact rfl) | ((with_reducible refine pD_x ?_ ?_); exact rfl)); simp (disch := omega) only [push_cast, seval, bytes1, sf_catw])
        | ((first | ((with_reducible refine pops_guard ?_); refine ⟨_, rfl, fun K hK => ⟨_, rfl, fun hg => ?_, fun hg => ?_⟩⟩) | ((first | ((with_reducible refine pD_gy ?_ ?_); exact rfl) | ((with_reducible refine pD_gx ?_ ?_); exact rfl)); refine ⟨_, rfl, _, rfl, fun hg => ?_, fun hg => ?_⟩)) <;> first | (exact absurd hg (by decide)) | ((try simp only [Bool.not_true, Bool.not_false] at hg); (try simp only [hg]); (try simp only [push_cast] at hg); (try exact absurd trivial hg); (try (exfalso; omega)); (try simp (disch := omega) only [push_cast, seval, bytes1, sf_catw])))
        | ((with_reducible show pcall _ _ _ _ _ _); refine pcall_RV (g := 21) (callable_of Try.func21 rfl rfl) (big_p _ (by (first | assumption | omega | (simp; omega) | (simp_all; done) | (simp_all; omega)))) rfl (by (repeat' (first | exact trivial | exact rfl | exact vwOk_clo rfl | exact rowsC fun _ => rfl | exact rowsC2 fun _ => rfl | refine And.intro ?_ ?_ | refine vwOk_ag ?_ | refine vwOk_cl ?_))) ?_; (try simp (disch := omega) only [push_cast, seval, bytes1, sf_catw]))
        | ((with_reducible show pcall _ _ _ _ _ _); refine pcall_RV (g := 22) (callable_of Try.func22 rfl rfl) (at_i _ _ (by omega) (by omega) (by omega)) rfl (by (repeat' (first | exact trivial | exact rfl | exact vwOk_clo rfl | exact rowsC fun _ => rfl | exact rowsC2 fun _ => rfl | refine And.intro ?_ ?_ | refine vwOk_ag ?_ | refine vwOk_cl ?_))) ?_; (try simp (disch := omega) only [push_cast, seval, bytes1, sf_catw]))
        | ((with_reducible show pcall _ _ _ _ _ _); refine pcall_X1 (g := 43) (callable_of Try.func43 rfl rfl) (by ((try simp (disch := omega) only [push_cast, seval]); first | done | exact rfl)) (fresh_p _ _ (by omega) (by omega)) ?_; rintro l ⟨hl1, hl2⟩; obtain ⟨b, r, rfl⟩ : ∃ b r, l = b :: r := by cases l with | nil => simp at hl1 | cons b r => exact ⟨b, r, rfl⟩; (try simp (disch := omega) only [push_cast, seval, bytes1, sf_catw]))
        | ((with_reducible show pcall _ _ _ _ _ _); refine pcall_RV (g := 44) (callable_of Try.func44 rfl rfl) (walAdd_w _ _ (by first | exact Nat.le_trans sz_wal (by decide) | decide) (by omega)) rfl (by (repeat' (first | exact trivial | exact rfl | exact vwOk_clo rfl | exact rowsC fun _ => rfl | exact rowsC2 fun _ => rfl | refine And.intro ?_ ?_ | refine vwOk_ag ?_ | refine vwOk_cl ?_))) ?_; (try simp (disch := omega) only [push_cast, seval, bytes1, sf_catw]))
        | ((with_reducible show pcall _ _ _ _ _ _); refine pcall_H1 (g := 45) (callable_of Try.func45 rfl rfl) (by ((try simp (disch := omega) only [push_cast, seval]); first | done | exact rfl)) (iWalScan_p _ (by (first | assumption | omega | (simp; omega) | (simp_all; done) | (simp_all; omega)))) ?_; (try simp (disch := omega) only [push_cast, seval, bytes1, sf_catw]))
        | ((with_reducible show pcall _ _ _ _ _ _); refine pcall_RV (g := 46) (callable_of Try.func46 rfl rfl) (sameTexts_p _ _ (by (first | assumption | omega | (simp; omega) | (simp_all; done) | (simp_all; omega))) (by (first | assumption | omega | (simp; omega) | (simp_all; done) | (simp_all; omega)))) rfl (by (repeat' (first | exact trivial | exact rfl | exact vwOk_clo rfl | exact rowsC fun _ => rfl | exact rowsC2 fun _ => rfl | refine And.intro ?_ ?_ | refine vwOk_ag ?_ | refine vwOk_cl ?_))) ?_; (try simp (disch := omega) only [push_cast, seval, bytes1, sf_catw]))
        | ((with_reducible show pcall _ _ _ _ _ _); refine pcall_RV (g := 47) (callable_of Try.func47 rfl rfl) (iWalTrim_p _ (by (first | assumption | omega | (simp; omega) | (simp_all; done) | (simp_all; omega)))) rfl (by (repeat' (first | exact trivial | exact rfl | exact vwOk_clo rfl | exact rowsC fun _ => rfl | exact rowsC2 fun _ => rfl | refine And.intro ?_ ?_ | refine vwOk_ag ?_ | refine vwOk_cl ?_))) ?_; (try simp (disch := omega) only [push_cast, seval, bytes1, sf_catw]))
        | ((with_reducible show pcall _ _ _ _ _ _); refine pcall_X1 (g := 48) (callable_of Try.func48 rfl rfl) (by ((try simp (disch := omega) only [push_cast, seval]); first | done | exact rfl)) (sDrawWalScan_p _ (by (first | assumption | omega | (simp; omega) | (simp_all; done) | (simp_all; omega)))) ?_; rintro s ⟨hs, -⟩; (try simp (disch := omega) only [push_cast, seval, bytes1, sf_catw]))
        | ((with_reducible show pcall _ _ _ _ _ _); refine pcall_H1 (g := 49) (callable_of Try.func49 rfl rfl) (by ((try simp (disch := omega) only [push_cast, seval]); first | done | exact rfl)) (sWalScan_p _ (by (first | assumption | omega | (simp; omega) | (simp_all; done) | (simp_all; omega)))) ?_; (try simp (disch := omega) only [push_cast, seval, bytes1, sf_catw]))
        | ((with_reducible show pcall _ _ _ _ _ _); refine pcall_RV (g := 50) (callable_of Try.func50 rfl rfl) (iWalRec_p _ (by (first | assumption | omega | (simp; omega) | (simp_all; done) | (simp_all; omega)))) rfl (by (repeat' (first | exact trivial | exact rfl | exact vwOk_clo rfl | exact rowsC fun _ => rfl | exact rowsC2 fun _ => rfl | refine And.intro ?_ ?_ | refine vwOk_ag ?_ | refine vwOk_cl ?_))) ?_; (try simp (disch := omega) only [push_cast, seval, bytes1, sf_catw]))
        | ((with_reducible show pcall _ _ _ _ _ _); refine pcall_RV (g := 51) (callable_of Try.func51 rfl rfl) (sWalRec_p _ (by (first | assumption | omega | (simp; omega) | (simp_all; done) | (simp_all; omega)))) rfl (by (repeat' (first | exact trivial | exact rfl | exact vwOk_clo rfl | exact rowsC fun _ => rfl | exact rowsC2 fun _ => rfl | refine And.intro ?_ ?_ | refine vwOk_ag ?_ | refine vwOk_cl ?_))) ?_; (try simp (disch := omega) only [push_cast, seval, bytes1, sf_catw]))
        | ((with_reducible refine And.intro ?_ ?_); omega))
    all_goals
      (refine ⟨(i + 1, rs ++ [(⟨#[b]⟩ : ByteArray) ++ ByteArray.extract ⟨#[u8 ((atC code i : Nat) : Int)]⟩ 0 (((atC code (i + 1) : Nat) : Int) % 2).toNat]), by ((try dsimp only); omega), ?_, by (refine ⟨[?_], ?_, ?_, ?_, ?_⟩; rotate_left 1; (· ((try simp (disch := omega) only [push_cast, seval, catR_app, catR_one, List.map_append, List.map_cons, List.map_nil, pStr]); (repeat' (first | exact trivial | exact rfl | refine And.intro ?_ ?_ | omega)))); (· ((try simp (disch := omega) only [push_cast, seval, catR_app, catR_one, List.map_append, List.map_cons, List.map_nil, pStr]); (repeat' (first | exact trivial | exact rfl | refine And.intro ?_ ?_ | omega)))); (· exact rfl); (· (first | exact trivial | exact ⟨rfl, trivial⟩ | exact ⟨rfl, rfl, trivial⟩)))⟩)
      have hz2 := sz_wal (b := b) (c := u8 ((atC code i : Nat) : Int)) (i := 0) (j := (((atC code (i + 1) : Nat) : Int) % 2).toNat)
      generalize (⟨#[b]⟩ : ByteArray) ++ ByteArray.extract ⟨#[u8 ((atC code i : Nat) : Int)]⟩ 0 (((atC code (i + 1) : Nat) : Int) % 2).toNat = s at hz2 ⊢
      replace hz2 : s.size ≤ 2 := hz2
      refine ⟨Nat.succ_le_of_lt hlt, by simp [hlen], ?_, fun x hx => ?_⟩
      · dsimp only
        rw [catR_app, catR_one, ByteArray.size_append, recB_size (by omega)]
        omega
      · rcases List.mem_append.1 hx with q | q
        · exact hsz x q
        · obtain rfl := List.mem_singleton.1 q
          omega
  obtain rfl : i = 6 := by omega
  have hS1 := walScan_cat hsz
  obtain ⟨kk, hkk⟩ : ∃ kk, kk = atC code 9 % ((catR rs).size + 1) := ⟨_, rfl⟩
  have hkl : kk ≤ (catR rs).size := by have := Nat.mod_lt (atC code 9) (show 0 < (catR rs).size + 1 by omega); omega
  have hki : ((atC code 9 : Nat) : Int) % (((catR rs).size : Int) + 1) = (kk : Int) := by subst hkk; simp
  obtain ⟨j, hj, hjk, hS2, hT⟩ := walScan_cut hsz hkl
  have hz2 : ((catR rs).extract 0 kk).size = kk := by rw [ByteArray.size_extract]; omega
  have hT2 : (catR rs).extract 0 (catR (rs.take j)).size = catR (rs.take j) := by
    have := hT
    rw [ex_ex, Nat.zero_add, Nat.zero_add, Nat.min_eq_left hjk] at this
    exact this
  obtain ⟨nw, hnw⟩ : ∃ nw : ByteArray, nw = ⟨#[110, 101, 119]⟩ := ⟨_, rfl⟩
  have hnz : nw.size = 3 := by rw [hnw]; rfl
  have hS3 := walScan_cat (recs := rs.take j ++ [nw]) (fun s hs => by
    rcases List.mem_append.1 hs with q | q
    · exact hsz s (List.mem_of_mem_take q)
    · obtain rfl := List.mem_singleton.1 q; omega)
  rw [catR_app, catR_one] at hS3
  have hre := recB_size (s := nw) (by omega)
  have hlj : (rs.take j).length = j := by rw [List.length_take]; omega
  have hsr := sameT_refl rs
  have hsj := sameT_refl (rs.take j)
  have hget : (List.map pStr (rs.take j) ++ [[PV.val (.string nw)]])[j]? = some [PV.val (.string nw)] := by rw [List.getElem?_append_right (by simp; omega), List.length_map, hlj, Nat.sub_self]; rfl
  repeat' (first
      | with_reducible refine PWp.seq ?_
      | with_reducible refine PWp.block ?_
      | with_reducible refine PWp.region okP false ?_
      | with_reducible refine PWp.drawT (id := 8) okP false (.step 0 (.step 1 (.step 5 (.step 6 (.step 11 (.step 12 (.step 13 (.step 2 (.step 3 (.step 4 (.step 7 (.step 8 (.fork (.alt 9 (.step 10 (.step 14 (.step 15 (.step 16 (.step 17 (.step 18 .done)))))) (.alt 14 (.step 15 (.step 9 (.step 10 (.step 16 (.step 17 (.step 18 .done)))))) .stop))))))))))))))) (by kernel_rfl) ?_
      | with_reducible (first | refine pops_nil ?_ | refine pany_nil ?_ | refine pthen_normal ?_ | refine pblock_normal ?_ | refine pthen_ret ?_ | refine pblock_ret ?_ | refine pthen_exit ?_ | refine pblock_here ?_ | refine pblock_there rfl ?_ | refine PWp.ret ?_ | refine PWp.exit ?_ | refine PWp.skip ?_)
      | ((with_reducible refine hK _ ?_); clear hK K)
      | ((with_reducible refine PWp.condI ?_); refine ⟨_, rfl, fun hg => ?_, fun hg => ?_⟩ <;> first | (exact absurd hg (by decide)) | ((try simp only [Bool.not_true, Bool.not_false] at hg); (try simp only [hg]); (try simp only [push_cast] at hg); (try exact absurd trivial hg); (try (exfalso; omega))))
      | ((first | ((with_reducible refine pops_guard0 ?_); refine ⟨_, rfl, fun K hK => ⟨rfl, ?_⟩⟩) | ((with_reducible refine pD_g0 ?_); refine ⟨_, rfl, rfl, ?_⟩)); (try simp (disch := omega) only [push_cast, seval, hS1, hsr, hki, hS2, hT, hT2, ← hnw, hS3, hlj, hsj, hget, eqB_self, take_pStr, Nat.sub_zero]))
      | with_reducible (first | refine ptree_done ?_ | exact ptree_stop | refine ptree_fork ?_)
      | ((with_reducible refine ptree_I ?_); refine ⟨_, rfl, fun K hK => ?_⟩)
      | ((with_reducible refine ptree_A ?_ ?_); (refine ⟨_, rfl, fun K hK => ?_⟩))
      | ((with_reducible refine pany_I ?_); refine ⟨_, rfl, fun K hK => ?_⟩)
      | ((with_reducible refine pops_plain fun K hK => popO_row ?_); refine ⟨_, _, _, _, _, rfl, rfl, rfl, rfl, rfl, ?_⟩; simp (disch := omega) only [push_cast, seval, hS1, hsr, hki, hS2, hT, hT2, ← hnw, hS3, hlj, hsj, hget, eqB_self, take_pStr, Nat.sub_zero])
      | ((with_reducible refine pD_x ?_ (popO_row ?_)); exact rfl; refine ⟨_, _, _, _, _, rfl, rfl, rfl, rfl, rfl, ?_⟩; simp (disch := omega) only [push_cast, seval, hS1, hsr, hki, hS2, hT, hT2, ← hnw, hS3, hlj, hsj, hget, eqB_self, take_pStr, Nat.sub_zero])
      | ((with_reducible refine pops_plain fun K hK => ?_); simp (disch := omega) only [push_cast, seval, hS1, hsr, hki, hS2, hT, hT2, ← hnw, hS3, hlj, hsj, hget, eqB_self, take_pStr, Nat.sub_zero])
      | ((first | ((with_reducible refine pD_y ?_ ?_); exact rfl) | ((with_reducible refine pD_x ?_ ?_); exact rfl)); simp (disch := omega) only [push_cast, seval, hS1, hsr, hki, hS2, hT, hT2, ← hnw, hS3, hlj, hsj, hget, eqB_self, take_pStr, Nat.sub_zero])
      | ((first | ((with_reducible refine pops_guard ?_); refine ⟨_, rfl, fun K hK => ⟨_, rfl, fun hg => ?_, fun hg => ?_⟩⟩) | ((first | ((with_reducible refine pD_gy ?_ ?_); exact rfl) | ((with_reducible refine pD_gx ?_ ?_); exact rfl)); refine ⟨_, rfl, _, rfl, fun hg => ?_, fun hg => ?_⟩)) <;> first | (exact absurd hg (by decide)) | ((try simp only [Bool.not_true, Bool.not_false] at hg); (try simp only [hg]); (try simp only [push_cast] at hg); (try exact absurd trivial hg); (try (exfalso; omega)); (try simp (disch := omega) only [push_cast, seval, hS1, hsr, hki, hS2, hT, hT2, ← hnw, hS3, hlj, hsj, hget, eqB_self, take_pStr, Nat.sub_zero])))
      | ((with_reducible show pcall _ _ _ _ _ _); refine pcall_RV (g := 21) (callable_of Try.func21 rfl rfl) (big_p _ (by (first | assumption | omega | (simp; omega) | (simp_all; done) | (simp_all; omega)))) rfl (by (repeat' (first | exact trivial | exact rfl | exact vwOk_clo rfl | exact rowsC fun _ => rfl | exact rowsC2 fun _ => rfl | refine And.intro ?_ ?_ | refine vwOk_ag ?_ | refine vwOk_cl ?_))) ?_; (try simp (disch := omega) only [push_cast, seval, hS1, hsr, hki, hS2, hT, hT2, ← hnw, hS3, hlj, hsj, hget, eqB_self, take_pStr, Nat.sub_zero]))
      | ((with_reducible show pcall _ _ _ _ _ _); refine pcall_RV (g := 22) (callable_of Try.func22 rfl rfl) (at_i _ _ (by omega) (by omega) (by omega)) rfl (by (repeat' (first | exact trivial | exact rfl | exact vwOk_clo rfl | exact rowsC fun _ => rfl | exact rowsC2 fun _ => rfl | refine And.intro ?_ ?_ | refine vwOk_ag ?_ | refine vwOk_cl ?_))) ?_; (try simp (disch := omega) only [push_cast, seval, hS1, hsr, hki, hS2, hT, hT2, ← hnw, hS3, hlj, hsj, hget, eqB_self, take_pStr, Nat.sub_zero]))
      | ((with_reducible show pcall _ _ _ _ _ _); refine pcall_X1 (g := 43) (callable_of Try.func43 rfl rfl) (by ((try simp (disch := omega) only [push_cast, seval]); first | done | exact rfl)) (fresh_p _ _ (by omega) (by omega)) ?_; rintro l ⟨hl1, hl2⟩; obtain ⟨b, r, rfl⟩ : ∃ b r, l = b :: r := by cases l with | nil => simp at hl1 | cons b r => exact ⟨b, r, rfl⟩; (try simp (disch := omega) only [push_cast, seval, hS1, hsr, hki, hS2, hT, hT2, ← hnw, hS3, hlj, hsj, hget, eqB_self, take_pStr, Nat.sub_zero]))
      | ((with_reducible show pcall _ _ _ _ _ _); refine pcall_RV (g := 44) (callable_of Try.func44 rfl rfl) (walAdd_w _ _ (by first | exact Nat.le_trans sz_wal (by decide) | decide) (by omega)) rfl (by (repeat' (first | exact trivial | exact rfl | exact vwOk_clo rfl | exact rowsC fun _ => rfl | exact rowsC2 fun _ => rfl | refine And.intro ?_ ?_ | refine vwOk_ag ?_ | refine vwOk_cl ?_))) ?_; (try simp (disch := omega) only [push_cast, seval, hS1, hsr, hki, hS2, hT, hT2, ← hnw, hS3, hlj, hsj, hget, eqB_self, take_pStr, Nat.sub_zero]))
      | ((with_reducible show pcall _ _ _ _ _ _); refine pcall_RV (g := 44) (callable_of Try.func44 rfl rfl) (walAdd_w _ _ (by omega) (by omega)) rfl (by (repeat' (first | exact trivial | exact rfl | exact vwOk_clo rfl | exact rowsC fun _ => rfl | exact rowsC2 fun _ => rfl | refine And.intro ?_ ?_ | refine vwOk_ag ?_ | refine vwOk_cl ?_))) ?_; (try simp (disch := omega) only [push_cast, seval, hS1, hsr, hki, hS2, hT, hT2, ← hnw, hS3, hlj, hsj, hget, eqB_self, take_pStr, Nat.sub_zero]))
      | ((with_reducible show pcall _ _ _ _ _ _); refine pcall_H1 (g := 45) (callable_of Try.func45 rfl rfl) (by ((try simp (disch := omega) only [push_cast, seval]); first | done | exact rfl)) (iWalScan_p _ (by (first | assumption | omega | (simp; omega) | (simp_all; done) | (simp_all; omega)))) ?_; (try simp (disch := omega) only [push_cast, seval, hS1, hsr, hki, hS2, hT, hT2, ← hnw, hS3, hlj, hsj, hget, eqB_self, take_pStr, Nat.sub_zero]))
      | ((with_reducible show pcall _ _ _ _ _ _); refine pcall_RV (g := 46) (callable_of Try.func46 rfl rfl) (sameTexts_w _ (by first | omega | exact walScan_len (by assumption))) rfl (by (repeat' (first | exact trivial | exact rfl | exact vwOk_clo rfl | exact rowsC fun _ => rfl | exact rowsC2 fun _ => rfl | refine And.intro ?_ ?_ | refine vwOk_ag ?_ | refine vwOk_cl ?_))) ?_; (try simp (disch := omega) only [push_cast, seval, hS1, hsr, hki, hS2, hT, hT2, ← hnw, hS3, hlj, hsj, hget, eqB_self, take_pStr, Nat.sub_zero]))
      | ((with_reducible show pcall _ _ _ _ _ _); refine pcall_RV (g := 47) (callable_of Try.func47 rfl rfl) (iWalTrim_p _ (by (first | assumption | omega | (simp; omega) | (simp_all; done) | (simp_all; omega)))) rfl (by (repeat' (first | exact trivial | exact rfl | exact vwOk_clo rfl | exact rowsC fun _ => rfl | exact rowsC2 fun _ => rfl | refine And.intro ?_ ?_ | refine vwOk_ag ?_ | refine vwOk_cl ?_))) ?_; (try simp (disch := omega) only [push_cast, seval, hS1, hsr, hki, hS2, hT, hT2, ← hnw, hS3, hlj, hsj, hget, eqB_self, take_pStr, Nat.sub_zero]))
      | ((with_reducible show pcall _ _ _ _ _ _); refine pcall_X1 (g := 48) (callable_of Try.func48 rfl rfl) (by ((try simp (disch := omega) only [push_cast, seval]); first | done | exact rfl)) (sDrawWalScan_p _ (by (first | assumption | omega | (simp; omega) | (simp_all; done) | (simp_all; omega)))) ?_; rintro s ⟨hs, -⟩; (try simp (disch := omega) only [push_cast, seval, hS1, hsr, hki, hS2, hT, hT2, ← hnw, hS3, hlj, hsj, hget, eqB_self, take_pStr, Nat.sub_zero]))
      | ((with_reducible show pcall _ _ _ _ _ _); refine pcall_H1 (g := 49) (callable_of Try.func49 rfl rfl) (by ((try simp (disch := omega) only [push_cast, seval]); first | done | exact rfl)) (sWalScan_p _ (by (first | assumption | omega | (simp; omega) | (simp_all; done) | (simp_all; omega)))) ?_; (try simp (disch := omega) only [push_cast, seval, hS1, hsr, hki, hS2, hT, hT2, ← hnw, hS3, hlj, hsj, hget, eqB_self, take_pStr, Nat.sub_zero]))
      | ((with_reducible show pcall _ _ _ _ _ _); refine pcall_RV (g := 50) (callable_of Try.func50 rfl rfl) (iWalRec_p _ (by decide)) rfl (by (repeat' (first | exact trivial | exact rfl | exact vwOk_clo rfl | exact rowsC fun _ => rfl | exact rowsC2 fun _ => rfl | refine And.intro ?_ ?_ | refine vwOk_ag ?_ | refine vwOk_cl ?_))) ?_; (try simp (disch := omega) only [push_cast, seval, hS1, hsr, hki, hS2, hT, hT2, ← hnw, hS3, hlj, hsj, hget, eqB_self, take_pStr, Nat.sub_zero]))
      | ((with_reducible show pcall _ _ _ _ _ _); refine pcall_RV (g := 51) (callable_of Try.func51 rfl rfl) (sWalRec_p _ (by decide)) rfl (by (repeat' (first | exact trivial | exact rfl | exact vwOk_clo rfl | exact rowsC fun _ => rfl | exact rowsC2 fun _ => rfl | refine And.intro ?_ ?_ | refine vwOk_ag ?_ | refine vwOk_cl ?_))) ?_; (try simp (disch := omega) only [push_cast, seval, hS1, hsr, hki, hS2, hT, hT2, ← hnw, hS3, hlj, hsj, hget, eqB_self, take_pStr, Nat.sub_zero]))
      | ((with_reducible refine And.intro ?_ ?_); omega))
  all_goals first
    | (exfalso; exact (by assumption : ¬True) trivial)
    | (((first | with_reducible (first | refine pendV1 ?_ ?_ ?_ | refine pendV2 ?_ ?_ ?_ | refine pendV3 ?_ ?_ ?_ | refine pendV0 ?_ ?_ ?_) | refine pendVG ?_ ?_ ?_); (· (first | exact .inl rfl | exact .inr rfl)); rotate_left 1; (· exact rfl); (try (apply Exists.intro; apply And.intro; (· repeat' (first | exact presults_nil | apply presults_tmp | (apply presults_agg; (· exact rfl); (· exact rfl); (· exact rfl); (· exact rfl); (· exact rfl); (· first | exact Nat.le_refl _ | decide | simp)) | (apply presults_one; (· exact rfl); (· exact rfl); (· exact rfl); (· exact rfl); (· exact rfl)))))); (try simp only [push_cast, seval])); done)
    | (((first | with_reducible (first | refine pendV1 ?_ ?_ ?_ | refine pendV2 ?_ ?_ ?_ | refine pendV3 ?_ ?_ ?_ | refine pendV0 ?_ ?_ ?_) | refine pendVG ?_ ?_ ?_); (· (first | exact .inl rfl | exact .inr rfl)); rotate_left 1; (· exact rfl); (try (apply Exists.intro; apply And.intro; (· repeat' (first | exact presults_nil | apply presults_tmp | (apply presults_agg; (· exact rfl); (· exact rfl); (· exact rfl); (· exact rfl); (· exact rfl); (· first | exact Nat.le_refl _ | decide | simp)) | (apply presults_one; (· exact rfl); (· exact rfl); (· exact rfl); (· exact rfl); (· exact rfl)))))); (try simp only [push_cast, seval])); simp_all; done)
end Go.Proofs.Ytkbikihbomnghaa
