/- Walks on the pure machine: numbers as texts, and what reads them. -/
import Derived.Test.YtmdjnohdkhepjaaDoorK2
import Derived.Test.YtmdjnohdkhepjaaDoorK1
import Derived.Test.YtmdjnohdkhepjaaDoorReadVarW
namespace Go.Proofs.YtmdjnohdkhepjaaDoor
set_option linter.unusedSimpArgs false
set_option linter.unusedVariables false
open Go.RowKit
set_option maxRecDepth 100000

theorem iReadVar_p (s : ByteArray) (hs : s.size ≤ 1099511627776) : PCalls Tryd.prog 76 [.val (.string s)] [] (RV (.tup [.val (.int .i64 (readVar s.data.toList).1), .val (.int .i64 (readVar s.data.toList).2)])) :=
  pcalls_flat (us := [.string s]) (u := .tuple #[.int .i64 (readVar s.data.toList).1, .int .i64 (readVar s.data.toList).2]) rfl (fun M h => vr_tup (us := [.int .i64 (readVar s.data.toList).1, .int .i64 (readVar s.data.toList).2])) fun w _ => readVar_any s w (by unfold maxLen; omega)
theorem sReadVar_p (s : ByteArray) (hs : s.size ≤ 1099511627776) : PCalls Tryd.prog 79 [.val (.string s)] [] (RV (.tup [.val (.int .i64 (readVar s.data.toList).1), .val (.int .i64 (readVar s.data.toList).2)])) :=
  pcalls_flat (us := [.string s]) (u := .tuple #[.int .i64 (readVar s.data.toList).1, .int .i64 (readVar s.data.toList).2]) rfl (fun M h => vr_tup (us := [.int .i64 (readVar s.data.toList).1, .int .i64 (readVar s.data.toList).2])) fun w _ => sReadVar_any s w (by unfold maxLen; omega)
/-- What num leaves: the number, the rest, whether something was bad. -/
def scanNum (s : ByteArray) (bad : Bool) : Int × ByteArray × Bool :=
  if bad || (readVar s.data.toList).2 == 0 then (0, s, true) else ((readVar s.data.toList).1, s.extract (readVar s.data.toList).2 s.size, false)
theorem scan_bad {s : ByteArray} {bad : Bool} (h : bad = true ∨ (readVar s.data.toList).2 = 0) : scanNum s bad = (0, s, true) := by
  unfold scanNum
  rcases h with h | h <;> simp [h]
theorem scan_ok {s : ByteArray} (hk : (readVar s.data.toList).2 ≠ 0) : scanNum s false = (((readVar s.data.toList).1 : Int), s.extract (readVar s.data.toList).2 s.size, false) := by
  unfold scanNum
  rw [if_neg (by simp [hk])]
theorem scan_size {s : ByteArray} {bad : Bool} : (scanNum s bad).2.1.size ≤ s.size := by
  unfold scanNum
  split
  · exact Nat.le_refl _
  · rw [ByteArray.size_extract]; omega
def pScan (s : ByteArray) (bad : Bool) : List PV := [.val (.string s), .val (.bool bad)]
attribute [push_cast] pScan
theorem scanNum_p (s : ByteArray) (bad : Bool) (hs : s.size ≤ 1099511627776) : PCalls Tryd.prog 52 [.ptr 0 0] [some (.box (pScan s bad))] (RH (.val (.int .i64 (scanNum s bad).1)) [some (.box (pScan (scanNum s bad).2.1 (scanNum s bad).2.2))]) := by
  obtain ⟨b1, b2, b3⟩ := readVar_bd s.data.toList
  rw [bytes_len] at b3
  have hbad : bad = true → scanNum s bad = (0, s, true) := fun h => scan_bad (.inl h)
  have hzero : (readVar s.data.toList).2 = 0 → scanNum s bad = (0, s, true) := fun h => scan_bad (.inr h)
  have hok : bad = false → (readVar s.data.toList).2 ≠ 0 → scanNum s bad = (((readVar s.data.toList).1 : Int), s.extract (readVar s.data.toList).2 s.size, false) := fun h k => by subst h; exact scan_ok k
  generalize scanNum s bad = r at hbad hzero hok ⊢
  refine pcalls_ofR okP Tryd.func52 rfl ?_
  simp only [Tryd.f52, List.length_cons, List.length_nil, Nat.reduceAdd, Nat.reduceSub, List.replicate_succ, List.replicate_zero, List.cons_append, List.nil_append, List.length_map]
  repeat' (first | with_reducible refine PWp.seq ?_ | with_reducible refine PWp.block ?_ | with_reducible refine PWp.region okP true ?_ | with_reducible (first | refine pops_nil ?_ | refine pany_nil ?_ | refine pthen_normal ?_ | refine pblock_normal ?_ | refine pthen_ret ?_ | refine pblock_ret ?_ | refine pthen_exit ?_ | refine pblock_here ?_ | refine pblock_there rfl ?_ | refine PWp.ret ?_ | refine PWp.exit ?_ | refine PWp.skip ?_) | ((with_reducible refine hK _ ?_); clear hK K) | ((with_reducible refine PWp.condI ?_); refine ⟨_, rfl, fun hg => ?_, fun hg => ?_⟩ <;> first | (exact absurd hg (by decide)) | ((try simp only [Bool.not_true, Bool.not_false] at hg); (try simp only [hg]); (try simp only [push_cast] at hg); (try exact absurd trivial hg); (try (exfalso; omega)))) | ((with_reducible refine pops_guard0 ?_); refine ⟨_, rfl, fun K hK => ⟨rfl, ?_⟩⟩; (try simp (disch := omega) only [push_cast, seval])) | ((with_reducible refine pops_plain fun K hK => ?_); simp (disch := omega) only [push_cast, seval]) | ((with_reducible refine pops_guard ?_); refine ⟨_, rfl, fun K hK => ⟨_, rfl, fun hg => ?_, fun hg => ?_⟩⟩ <;> first | (exact absurd hg (by decide)) | ((try simp only [Bool.not_true, Bool.not_false] at hg); (try simp only [hg]); (try simp only [push_cast] at hg); (try exact absurd trivial hg); (try (exfalso; omega)); (try simp (disch := omega) only [push_cast, seval]))) | ((with_reducible show pcall _ _ _ _ _ _); (first | (refine pcV (g := 76) (callable_of Tryd.func76 rfl rfl) (iReadVar_p _ (by (first | assumption | omega | (simp; omega) | (simp_all; done) | (simp_all; omega)))) ?_)); (try simp (disch := omega) only [push_cast, seval])) | ((with_reducible refine And.intro ?_ ?_); omega))
  all_goals first
    | (rw [hbad (by assumption)]; ((first | with_reducible (first | refine pendH1 [0] ?_ ?_ ?_ ?_ ?_ | refine pendH2 [0] ?_ ?_ ?_ ?_ ?_ | refine pendH3 [0] ?_ ?_ ?_ ?_ ?_ | refine pendH0 [0] ?_ ?_ ?_ ?_ ?_) | refine pendHG [0] ?_ ?_ ?_ ?_ ?_); rotate_left 0; (· (first | exact .inl rfl | exact .inr rfl)); (· ((try (apply Exists.intro; apply And.intro; (· repeat' (first | exact presults_nil | apply presults_tmp | (apply presults_agg; (· exact rfl); (· exact rfl); (· exact rfl); (· exact rfl); (· exact rfl); (· first | exact Nat.le_refl _ | decide | simp)) | (apply presults_one; (· exact rfl); (· exact rfl); (· exact rfl); (· exact rfl); (· exact rfl)))))); (try simp (disch := omega) only [push_cast, seval]); (repeat' (first | exact trivial | exact rfl | refine And.intro ?_ ?_ | omega)))); (· ((try simp (disch := omega) only [push_cast, seval]); (repeat' (first | exact trivial | exact rfl | refine And.intro ?_ ?_ | omega)))); (· exact rfl); (· first | exact trivial | exact ⟨rfl, trivial⟩ | exact ⟨rfl, rfl, trivial⟩ | exact ⟨rfl, rfl, rfl, trivial⟩)))
    | (rw [hzero (by omega)]; ((first | with_reducible (first | refine pendH1 [0] ?_ ?_ ?_ ?_ ?_ | refine pendH2 [0] ?_ ?_ ?_ ?_ ?_ | refine pendH3 [0] ?_ ?_ ?_ ?_ ?_ | refine pendH0 [0] ?_ ?_ ?_ ?_ ?_) | refine pendHG [0] ?_ ?_ ?_ ?_ ?_); rotate_left 0; (· (first | exact .inl rfl | exact .inr rfl)); (· ((try (apply Exists.intro; apply And.intro; (· repeat' (first | exact presults_nil | apply presults_tmp | (apply presults_agg; (· exact rfl); (· exact rfl); (· exact rfl); (· exact rfl); (· exact rfl); (· first | exact Nat.le_refl _ | decide | simp)) | (apply presults_one; (· exact rfl); (· exact rfl); (· exact rfl); (· exact rfl); (· exact rfl)))))); (try simp (disch := omega) only [push_cast, seval]); (repeat' (first | exact trivial | exact rfl | refine And.intro ?_ ?_ | omega)))); (· ((try simp (disch := omega) only [push_cast, seval]); (repeat' (first | exact trivial | exact rfl | refine And.intro ?_ ?_ | omega)))); (· exact rfl); (· first | exact trivial | exact ⟨rfl, trivial⟩ | exact ⟨rfl, rfl, trivial⟩ | exact ⟨rfl, rfl, rfl, trivial⟩)))
    | (rw [hok (by assumption) (by omega)]; ((first | with_reducible (first | refine pendH1 [0] ?_ ?_ ?_ ?_ ?_ | refine pendH2 [0] ?_ ?_ ?_ ?_ ?_ | refine pendH3 [0] ?_ ?_ ?_ ?_ ?_ | refine pendH0 [0] ?_ ?_ ?_ ?_ ?_) | refine pendHG [0] ?_ ?_ ?_ ?_ ?_); rotate_left 0; (· (first | exact .inl rfl | exact .inr rfl)); (· ((try (apply Exists.intro; apply And.intro; (· repeat' (first | exact presults_nil | apply presults_tmp | (apply presults_agg; (· exact rfl); (· exact rfl); (· exact rfl); (· exact rfl); (· exact rfl); (· first | exact Nat.le_refl _ | decide | simp)) | (apply presults_one; (· exact rfl); (· exact rfl); (· exact rfl); (· exact rfl); (· exact rfl)))))); (try simp (disch := omega) only [push_cast, seval]); (repeat' (first | exact trivial | exact rfl | refine And.intro ?_ ?_ | omega)))); (· ((try simp (disch := omega) only [push_cast, seval]); (repeat' (first | exact trivial | exact rfl | refine And.intro ?_ ?_ | omega)))); (· exact rfl); (· first | exact trivial | exact ⟨rfl, trivial⟩ | exact ⟨rfl, rfl, trivial⟩ | exact ⟨rfl, rfl, rfl, trivial⟩)))
/-- What cut leaves: so many bytes, the rest, whether something was bad. -/
def scanCut (s : ByteArray) (bad : Bool) (n : Int) : ByteArray × ByteArray × Bool := if bad || !(inB n 0 s.size) then (⟨#[]⟩, s, true) else (s.extract 0 n.toNat, s.extract n.toNat s.size, false)
def scanText (s : ByteArray) (bad : Bool) : ByteArray × ByteArray × Bool := scanCut (scanNum s bad).2.1 (scanNum s bad).2.2 (scanNum s bad).1
end Go.Proofs.YtmdjnohdkhepjaaDoor
