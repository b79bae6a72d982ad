/- FnHsig: the walk of the law. -/
import Derived.Test.YtmdjnohdkhepjaaDoorPs6
import Derived.Test.YtmdjnohdkhepjaaDoorCode
import Derived.Test.YtmdjnohdkhepjaaDoorEq
import Derived.Test.YtmdjnohdkhepjaaDoorPd2
namespace Go.Proofs.YtmdjnohdkhepjaaDoor
set_option linter.unusedSimpArgs false
set_option linter.unusedVariables false
open Go.RowKit
set_option maxRecDepth 1000000
theorem sf_neb0 {P : Program} {t : TypeId} (h : P.underlying t = some .bool) {x y : Operand} {a b : Bool} : sflat P (do eqGuard .neq t x y (.bool a) (.bool b); binOp .neq t (.bool a) (.bool b)) = some (.bool (!(a == b))) := by
  have e := eqIn_bool (P := P) (t := t) (d := 9999) (a := a) (b := b) h
  simp only [eqGuard, sflat_bind, binOp, Op.equal, Op.maxDepth]
  simp [sflat_pure, e, sflat_bind, sflat, pure]
theorem sf_neb {x y : Operand} {a b : Bool} : sflat Tryd.prog (do eqGuard .neq 4 x y (.bool a) (.bool b); binOp .neq 4 (.bool a) (.bool b)) = some (.bool (!(a == b))) := sf_neb0 (by kernel_rfl)
theorem sf_eqb0 {P : Program} {t : TypeId} (h : P.underlying t = some .bool) {x y : Operand} {a b : Bool} : sflat P (do eqGuard .eql t x y (.bool a) (.bool b); binOp .eql t (.bool a) (.bool b)) = some (.bool (a == b)) := by
  have e := eqIn_bool (P := P) (t := t) (d := 9999) (a := a) (b := b) h
  simp only [eqGuard, sflat_bind, binOp, Op.equal, Op.maxDepth]
  simp [sflat_pure, e, sflat_bind, sflat, pure]
theorem sf_eqb {x y : Operand} {a b : Bool} : sflat Tryd.prog (do eqGuard .eql 4 x y (.bool a) (.bool b); binOp .eql 4 (.bool a) (.bool b)) = some (.bool (a == b)) := sf_eqb0 (by kernel_rfl)
set_option maxHeartbeats 4000000 in
theorem fnHsig_p (code : List UInt8) (hc : code.length ≤ 9223372036854775807) : PCalls Tryd.prog 3 [.sl 1 (code.map pU8)] [] (RV (.val (.bool true))) := by
  have hA : ∀ i, ((atC code i : Nat) : Int) < 256 := fun i => by have := atC_lt code i; omega
  have A0 := hA 0
  have A1 := hA 1
  have A2 := hA 2
  have A4 := hA 4
  refine pcalls_ofR okP Tryd.func3 rfl ?_
  simp only [Tryd.f3, List.length_cons, List.length_nil, Nat.reduceAdd, Nat.reduceSub, List.replicate_succ, List.replicate_zero, List.cons_append, List.nil_append, List.length_map]
  repeat' (first | with_reducible refine mkRegion (id := 6) ?_ | with_reducible refine PWp.seq ?_ | with_reducible refine PWp.block ?_ | with_reducible refine PWp.region okP true ?_ | with_reducible refine PWp.draw (id := 14) okP true [0, 1, 2, 3, 4, 5, 6, 7, 16, 17, 18, 19, 8, 9, 10, 11, 12, 13, 14, 15, 20, 21] (by kernel_rfl) ?_ | with_reducible (first | refine pops_nil ?_ | refine pany_nil ?_ | refine pthen_normal ?_ | refine pblock_normal ?_ | refine pthen_ret ?_ | refine pblock_ret ?_ | refine pthen_exit ?_ | refine pblock_here ?_ | refine pblock_there rfl ?_ | refine PWp.ret ?_ | refine PWp.exit ?_ | refine PWp.skip ?_) | ((with_reducible refine hK _ ?_); clear hK K) | ((with_reducible refine PWp.condI ?_); refine ⟨_, rfl, fun hg => ?_, fun hg => ?_⟩ <;> first | (exact absurd hg (by decide)) | ((try simp only [Bool.not_true, Bool.not_false] at hg); (try simp only [hg]); (try simp only [push_cast] at hg); (try exact absurd trivial hg); (try (exfalso; omega)))) | ((first | ((with_reducible refine pops_guard0 ?_); refine ⟨_, rfl, fun K hK => ⟨rfl, ?_⟩⟩) | ((with_reducible refine pD_g0 ?_); refine ⟨_, rfl, rfl, ?_⟩)); (try simp (disch := omega) only [push_cast, seval])) | ((with_reducible refine pany_I ?_); refine ⟨_, rfl, fun K hK => ?_⟩) | ((with_reducible refine pops_plain fun K hK => popO_row ?_); refine ⟨_, _, _, _, _, rfl, rfl, rfl, rfl, rfl, ?_⟩; simp (disch := omega) only [push_cast, seval]) | ((with_reducible refine pD_x ?_ (popO_row ?_)); exact rfl; refine ⟨_, _, _, _, _, rfl, rfl, rfl, rfl, rfl, ?_⟩; simp (disch := omega) only [push_cast, seval]) | ((with_reducible refine pops_plain fun K hK => ?_); simp (disch := omega) only [push_cast, seval]) | ((first | ((with_reducible refine pD_y ?_ ?_); exact rfl) | ((with_reducible refine pD_x ?_ ?_); exact rfl)); simp (disch := omega) only [push_cast, seval]) | ((first | ((with_reducible refine pops_guard ?_); refine ⟨_, rfl, fun K hK => ⟨_, rfl, fun hg => ?_, fun hg => ?_⟩⟩) | ((first | ((with_reducible refine pD_gy ?_ ?_); exact rfl) | ((with_reducible refine pD_gx ?_ ?_); exact rfl)); refine ⟨_, rfl, _, rfl, fun hg => ?_, fun hg => ?_⟩)) <;> first | (exact absurd hg (by decide)) | ((try simp only [Bool.not_true, Bool.not_false] at hg); (try simp only [hg]); (try simp only [push_cast] at hg); (try exact absurd trivial hg); (try (exfalso; omega)); (try simp (disch := omega) only [push_cast, seval]))) | ((with_reducible show pcall _ _ _ _ _ _); (first | (refine pcV (g := 5) (callable_of Tryd.func5 rfl rfl) (big_p _ (by (first | assumption | omega | (simp; omega) | (simp_all; done) | (simp_all; omega)))) ?_) | (refine pcV (g := 6) (callable_of Tryd.func6 rfl rfl) (at_p _ _ (by (first | assumption | omega | (simp; omega) | (simp_all; done) | (simp_all; omega))) (by (first | assumption | omega | (simp; omega) | (simp_all; done) | (simp_all; omega)))) ?_)); (try simp (disch := omega) only [push_cast, seval])) | ((with_reducible refine And.intro ?_ ?_); omega))
  · ((first | with_reducible (first | refine pendV1 ?_ ?_ ?_ | refine pendV2 ?_ ?_ ?_ | refine pendV3 ?_ ?_ ?_ | refine pendV0 ?_ ?_ ?_) | refine pendVG ?_ ?_ ?_); (· (first | exact .inl rfl | exact .inr rfl)); rotate_left 1; (· exact rfl); (try (apply Exists.intro; apply And.intro; (· repeat' (first | exact presults_nil | apply presults_tmp | (apply presults_agg; (· exact rfl); (· exact rfl); (· exact rfl); (· exact rfl); (· exact rfl); (· first | exact Nat.le_refl _ | decide | simp)) | (apply presults_one; (· exact rfl); (· exact rfl); (· exact rfl); (· exact rfl); (· exact rfl)))))); (try simp only [push_cast, seval]))
  refine Mk.of ?_
  obtain ⟨l, hl, hl4⟩ : ∃ l : Nat, ((atC code 3 : Nat) : Int) % 4 = (l : Int) ∧ l < 4 := ⟨atC code 3 % 4, by simp [Int.natCast_emod], by omega⟩
  obtain ⟨seed, hsd⟩ : ∃ s : ByteArray, (⟨#[u8 ((atC code 0 : Nat) : Int)]⟩ : ByteArray) = s := ⟨_, rfl⟩
  obtain ⟨msg, hmg⟩ : ∃ s : ByteArray, (⟨#[u8 ((atC code 1 : Nat) : Int), u8 ((atC code 2 : Nat) : Int)]⟩ : ByteArray) = s := ⟨_, rfl⟩
  have z1 : seed.size = 1 := by rw [← hsd]; rfl
  have z2 : msg.size = 2 := by rw [← hmg]; rfl
  simp (disch := omega) only [push_cast, seval, hl, hsd, hmg]
  clear hl hsd hmg
  have z3 : (seed ++ ⟨#[120]⟩).size = 2 := by rw [ByteArray.size_append, z1]; rfl
  have z4 : (msg ++ ⟨#[122]⟩).size = 3 := by rw [ByteArray.size_append, z2]; rfl
  have y1 : (⟨#[120]⟩ : ByteArray).size = 1 := rfl
  have y2 : (⟨#[122]⟩ : ByteArray).size = 1 := rfl
  have hR := iHsRoot_p seed (by omega)
  have hR2 := sHsRoot_p seed (by omega)
  have hAw := sHsRoot_p (seed ++ ⟨#[120]⟩) (by omega)
  have hSg := iSign_p seed msg l ⟨⟨by omega, by omega⟩, by omega⟩
  have hB4 : PCalls Tryd.prog 8 [.val (.string seed), .val (.int .i64 4), .val (.string msg)] [] (RV (.val (.string ⟨#[]⟩))) := iSign_bad seed msg 4 rfl
  have hsz := hSign_size seed l msg
  have hck := fun root => hCheck_sign (seed := seed) (leaf := l) hl4 msg root
  have hcI := fun (root m sig : ByteArray) (h : m.size ≤ 1000000 ∧ sig.size ≤ 1000000) => iCheck_p root m sig h
  have hcS := fun (root m sig : ByteArray) (h : m.size ≤ 1000000 ∧ sig.size ≤ 1000000) => sCheck_p root m sig h
  generalize hSign seed l msg = sg at hSg hsz hck
  have hk1 := hck (hRoot seed)
  rw [eqB_self] at hk1
  have hk2 := hck (hRoot (seed ++ ⟨#[120]⟩))
  rw [eqB_comm] at hk2
  generalize hRoot (seed ++ ⟨#[120]⟩) = aw at hAw hk2
  generalize hRoot seed = rt at hR hR2 hk1 hk2
  have hc1 := hcI rt msg sg (by omega)
  have hc2 := hcS rt msg sg (by omega)
  have hc3 := hcI aw msg sg (by omega)
  rw [hk1] at hc1 hc2
  rw [hk2] at hc3
  clear hk1 hk2 hck
  repeat' (first | with_reducible refine mkRegion (id := 14) ?_ | with_reducible refine PWp.seq ?_ | with_reducible refine PWp.block ?_ | with_reducible refine PWp.region okP true ?_ | with_reducible refine PWp.draw (id := 14) okP true [0, 1, 2, 3, 4, 5, 6, 7, 16, 17, 18, 19, 8, 9, 10, 11, 12, 13, 14, 15, 20, 21] (by kernel_rfl) ?_ | with_reducible (first | refine pops_nil ?_ | refine pany_nil ?_ | refine pthen_normal ?_ | refine pblock_normal ?_ | refine pthen_ret ?_ | refine pblock_ret ?_ | refine pthen_exit ?_ | refine pblock_here ?_ | refine pblock_there rfl ?_ | refine PWp.ret ?_ | refine PWp.exit ?_ | refine PWp.skip ?_) | ((with_reducible refine hK _ ?_); clear hK K) | ((with_reducible refine PWp.condI ?_); refine ⟨_, rfl, fun hg => ?_, fun hg => ?_⟩ <;> first | (exact absurd hg (by decide)) | ((try simp only [Bool.not_true, Bool.not_false] at hg); (try simp only [hg]); (try simp only [push_cast] at hg); (try exact absurd trivial hg); (try (exfalso; omega)))) | ((first | ((with_reducible refine pops_guard0 ?_); refine ⟨_, rfl, fun K hK => ⟨rfl, ?_⟩⟩) | ((with_reducible refine pD_g0 ?_); refine ⟨_, rfl, rfl, ?_⟩)); (try simp (disch := omega) only [push_cast, seval, eqB_self, sf_neb, sf_eqb, beq_self_eq_true, hsz])) | ((with_reducible refine pany_I ?_); refine ⟨_, rfl, fun K hK => ?_⟩) | ((with_reducible refine pops_plain fun K hK => popO_row ?_); refine ⟨_, _, _, _, _, rfl, rfl, rfl, rfl, rfl, ?_⟩; simp (disch := omega) only [push_cast, seval, eqB_self, sf_neb, sf_eqb, beq_self_eq_true, hsz]) | ((with_reducible refine pD_x ?_ (popO_row ?_)); exact rfl; refine ⟨_, _, _, _, _, rfl, rfl, rfl, rfl, rfl, ?_⟩; simp (disch := omega) only [push_cast, seval, eqB_self, sf_neb, sf_eqb, beq_self_eq_true, hsz]) | ((with_reducible refine pops_plain fun K hK => ?_); simp (disch := omega) only [push_cast, seval, eqB_self, sf_neb, sf_eqb, beq_self_eq_true, hsz]) | ((first | ((with_reducible refine pD_y ?_ ?_); exact rfl) | ((with_reducible refine pD_x ?_ ?_); exact rfl)); simp (disch := omega) only [push_cast, seval, eqB_self, sf_neb, sf_eqb, beq_self_eq_true, hsz]) | ((first | ((with_reducible refine pops_guard ?_); refine ⟨_, rfl, fun K hK => ⟨_, rfl, fun hg => ?_, fun hg => ?_⟩⟩) | ((first | ((with_reducible refine pD_gy ?_ ?_); exact rfl) | ((with_reducible refine pD_gx ?_ ?_); exact rfl)); refine ⟨_, rfl, _, rfl, fun hg => ?_, fun hg => ?_⟩)) <;> first | (exact absurd hg (by decide)) | ((try simp only [Bool.not_true, Bool.not_false] at hg); (try simp only [hg]); (try simp only [push_cast] at hg); (try exact absurd trivial hg); (try (exfalso; omega)); (try simp (disch := omega) only [push_cast, seval, eqB_self, sf_neb, sf_eqb, beq_self_eq_true, hsz]))) | ((with_reducible show pcall _ _ _ _ _ _); (first | (refine pcV (g := 5) (callable_of Tryd.func5 rfl rfl) (big_p _ (by (first | assumption | omega | (simp; omega) | (simp_all; done) | (simp_all; omega)))) ?_) | (refine pcV (g := 6) (callable_of Tryd.func6 rfl rfl) (at_p _ _ (by (first | assumption | omega | (simp; omega) | (simp_all; done) | (simp_all; omega))) (by (first | assumption | omega | (simp; omega) | (simp_all; done) | (simp_all; omega)))) ?_) | (refine pcV (g := 7) (callable_of Tryd.func7 rfl rfl) (hR) ?_) | (refine pcV (g := 8) (callable_of Tryd.func8 rfl rfl) (hSg) ?_) | (refine pcV (g := 8) (callable_of Tryd.func8 rfl rfl) (hB4) ?_) | (refine pcV (g := 9) (callable_of Tryd.func9 rfl rfl) (hR2) ?_) | (refine pcV (g := 9) (callable_of Tryd.func9 rfl rfl) (hAw) ?_) | (refine pcV (g := 10) (callable_of Tryd.func10 rfl rfl) (hc1) ?_) | (refine pcV (g := 10) (callable_of Tryd.func10 rfl rfl) (hc3) ?_) | (refine pcV (g := 11) (callable_of Tryd.func11 rfl rfl) (hc2) ?_)); (try simp (disch := omega) only [push_cast, seval, eqB_self, sf_neb, sf_eqb, beq_self_eq_true, hsz])) | ((with_reducible refine And.intro ?_ ?_); omega))
  refine Mk.of ?_
  obtain ⟨k, hk, hk153⟩ : ∃ k : Nat, ((atC code 4 : Nat) : Int) % 153 = (k : Int) ∧ k < 153 := ⟨atC code 4 % 153, by simp [Int.natCast_emod], by omega⟩
  have h88 := h_get2 (h := sg) (i := k) (by omega)
  obtain ⟨u, hu⟩ : ∃ u, sg.data.toList.getD k 0 = u := ⟨_, rfl⟩
  rw [hu] at h88
  have hub : (u.toNat : Int) < 256 := by have := u.toNat_lt; omega
  have A5 := hA 5
  have z5 : (sg.extract 0 k).size = k := by rw [ByteArray.size_extract]; omega
  have z6 : (sg.extract (k + 1) 153).size = 152 - k := by rw [ByteArray.size_extract]; omega
  obtain ⟨bb, hbb⟩ : ∃ b : ByteArray, (⟨#[u8 (bits .xor .i64 (u.toNat : Int) (1 + ((atC code 5 : Nat) : Int) % 255))]⟩ : ByteArray) = b := ⟨_, rfl⟩
  have z7 : bb.size = 1 := by rw [← hbb]; rfl
  have z8 : (sg.extract 0 k ++ bb).size = k + 1 := by rw [ByteArray.size_append]; omega
  obtain ⟨bent, hbe⟩ : ∃ b : ByteArray, sg.extract 0 k ++ bb ++ sg.extract (k + 1) 153 = b := ⟨_, rfl⟩
  have z9 : bent.size = 153 := by rw [← hbe, ByteArray.size_append]; omega
  obtain ⟨oth, hot⟩ : ∃ b : ByteArray, msg ++ ⟨#[122]⟩ = b := ⟨_, rfl⟩
  rw [hot] at z4
  have hb1 := hcI rt msg bent (by omega)
  have hb2 := hcS rt msg bent (by omega)
  have ho1 := hcI rt oth sg (by omega)
  have ho2 := hcS rt oth sg (by omega)
  generalize hCheck rt msg bent = c1 at hb1 hb2
  generalize hCheck rt oth sg = c2 at ho1 ho2
  repeat' (first | with_reducible refine PWp.seq ?_ | with_reducible refine PWp.block ?_ | with_reducible refine PWp.region okP true ?_ | with_reducible refine PWp.draw (id := 14) okP true [0, 1, 2, 3, 4, 5, 6, 7, 16, 17, 18, 19, 8, 9, 10, 11, 12, 13, 14, 15, 20, 21] (by kernel_rfl) ?_ | with_reducible (first | refine pops_nil ?_ | refine pany_nil ?_ | refine pthen_normal ?_ | refine pblock_normal ?_ | refine pthen_ret ?_ | refine pblock_ret ?_ | refine pthen_exit ?_ | refine pblock_here ?_ | refine pblock_there rfl ?_ | refine PWp.ret ?_ | refine PWp.exit ?_ | refine PWp.skip ?_) | ((with_reducible refine hK _ ?_); clear hK K) | ((with_reducible refine PWp.condI ?_); refine ⟨_, rfl, fun hg => ?_, fun hg => ?_⟩ <;> first | (exact absurd hg (by decide)) | ((try simp only [Bool.not_true, Bool.not_false] at hg); (try simp only [hg]); (try simp only [push_cast] at hg); (try exact absurd trivial hg); (try (exfalso; omega)))) | ((first | ((with_reducible refine pops_guard0 ?_); refine ⟨_, rfl, fun K hK => ⟨rfl, ?_⟩⟩) | ((with_reducible refine pD_g0 ?_); refine ⟨_, rfl, rfl, ?_⟩)); (try simp (disch := omega) only [push_cast, seval, hk, h88, hsz, z5, z6, hbb, hbe, hot, eqB_self, sf_neb, sf_eqb, beq_self_eq_true])) | ((with_reducible refine pany_I ?_); refine ⟨_, rfl, fun K hK => ?_⟩) | ((with_reducible refine pops_plain fun K hK => popO_row ?_); refine ⟨_, _, _, _, _, rfl, rfl, rfl, rfl, rfl, ?_⟩; simp (disch := omega) only [push_cast, seval, hk, h88, hsz, z5, z6, hbb, hbe, hot, eqB_self, sf_neb, sf_eqb, beq_self_eq_true]) | ((with_reducible refine pD_x ?_ (popO_row ?_)); exact rfl; refine ⟨_, _, _, _, _, rfl, rfl, rfl, rfl, rfl, ?_⟩; simp (disch := omega) only [push_cast, seval, hk, h88, hsz, z5, z6, hbb, hbe, hot, eqB_self, sf_neb, sf_eqb, beq_self_eq_true]) | ((with_reducible refine pops_plain fun K hK => ?_); simp (disch := omega) only [push_cast, seval, hk, h88, hsz, z5, z6, hbb, hbe, hot, eqB_self, sf_neb, sf_eqb, beq_self_eq_true]) | ((first | ((with_reducible refine pD_y ?_ ?_); exact rfl) | ((with_reducible refine pD_x ?_ ?_); exact rfl)); simp (disch := omega) only [push_cast, seval, hk, h88, hsz, z5, z6, hbb, hbe, hot, eqB_self, sf_neb, sf_eqb, beq_self_eq_true]) | ((first | ((with_reducible refine pops_guard ?_); refine ⟨_, rfl, fun K hK => ⟨_, rfl, fun hg => ?_, fun hg => ?_⟩⟩) | ((first | ((with_reducible refine pD_gy ?_ ?_); exact rfl) | ((with_reducible refine pD_gx ?_ ?_); exact rfl)); refine ⟨_, rfl, _, rfl, fun hg => ?_, fun hg => ?_⟩)) <;> first | (exact absurd hg (by decide)) | ((try simp only [Bool.not_true, Bool.not_false] at hg); (try simp only [hg]); (try simp only [push_cast] at hg); (try exact absurd trivial hg); (try (exfalso; omega)); (try simp (disch := omega) only [push_cast, seval, hk, h88, hsz, z5, z6, hbb, hbe, hot, eqB_self, sf_neb, sf_eqb, beq_self_eq_true]))) | ((with_reducible show pcall _ _ _ _ _ _); (first | (refine pcV (g := 5) (callable_of Tryd.func5 rfl rfl) (big_p _ (by (first | assumption | omega | (simp; omega) | (simp_all; done) | (simp_all; omega)))) ?_) | (refine pcV (g := 6) (callable_of Tryd.func6 rfl rfl) (at_p _ _ (by (first | assumption | omega | (simp; omega) | (simp_all; done) | (simp_all; omega))) (by (first | assumption | omega | (simp; omega) | (simp_all; done) | (simp_all; omega)))) ?_) | (refine pcV (g := 7) (callable_of Tryd.func7 rfl rfl) (hR) ?_) | (refine pcV (g := 8) (callable_of Tryd.func8 rfl rfl) (hSg) ?_) | (refine pcV (g := 8) (callable_of Tryd.func8 rfl rfl) (hB4) ?_) | (refine pcV (g := 9) (callable_of Tryd.func9 rfl rfl) (hR2) ?_) | (refine pcV (g := 9) (callable_of Tryd.func9 rfl rfl) (hAw) ?_) | (refine pcV (g := 10) (callable_of Tryd.func10 rfl rfl) (hb1) ?_) | (refine pcV (g := 10) (callable_of Tryd.func10 rfl rfl) (ho1) ?_) | (refine pcV (g := 11) (callable_of Tryd.func11 rfl rfl) (hb2) ?_) | (refine pcV (g := 11) (callable_of Tryd.func11 rfl rfl) (ho2) ?_)); (try simp (disch := omega) only [push_cast, seval, hk, h88, hsz, z5, z6, hbb, hbe, hot, eqB_self, sf_neb, sf_eqb, beq_self_eq_true])) | ((with_reducible refine And.intro ?_ ?_); omega))
  ((first | with_reducible (first | refine pendV1 ?_ ?_ ?_ | refine pendV2 ?_ ?_ ?_ | refine pendV3 ?_ ?_ ?_ | refine pendV0 ?_ ?_ ?_) | refine pendVG ?_ ?_ ?_); (· (first | exact .inl rfl | exact .inr rfl)); rotate_left 1; (· exact rfl); (try (apply Exists.intro; apply And.intro; (· repeat' (first | exact presults_nil | apply presults_tmp | (apply presults_agg; (· exact rfl); (· exact rfl); (· exact rfl); (· exact rfl); (· exact rfl); (· first | exact Nat.le_refl _ | decide | simp)) | (apply presults_one; (· exact rfl); (· exact rfl); (· exact rfl); (· exact rfl); (· exact rfl)))))); (try simp only [push_cast, seval]))
end Go.Proofs.YtmdjnohdkhepjaaDoor
