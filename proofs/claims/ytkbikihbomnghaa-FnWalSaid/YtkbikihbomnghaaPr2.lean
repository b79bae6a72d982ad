/- Walks on the pure machine: several numbers, one behind the other. -/
import Derived.Test.YtkbikihbomnghaaPr
namespace Go.Proofs.Ytkbikihbomnghaa
set_option linter.unusedSimpArgs false
set_option linter.unusedVariables false
open Go.RowKit
set_option maxRecDepth 100000

/-- n numbers from a place on, and where they end. -/
def varsM (l : List UInt8) : Nat → Nat → Option (List Int × Nat)
  | 0, a => some ([], a)
  | n + 1, a => if (readVar (l.drop a)).2 = 0 then none else (varsM l n (a + (readVar (l.drop a)).2)).map fun r => (((readVar (l.drop a)).1 : Int) :: r.1, r.2)
theorem vars_none {l : List UInt8} {n a : Nat} (h : (readVar (l.drop a)).2 = 0) : varsM l (n + 1) a = none := by rw [varsM, if_pos h]
theorem vars_some {l : List UInt8} {n a : Nat} (h : (readVar (l.drop a)).2 ≠ 0) : varsM l (n + 1) a = (varsM l n (a + (readVar (l.drop a)).2)).map fun r => (((readVar (l.drop a)).1 : Int) :: r.1, r.2) := by rw [varsM, if_neg h]
theorem bytes_drop (s : ByteArray) (a : Nat) : (s.extract a s.size).data.toList = s.data.toList.drop a := by
  have h : s.data.toList.length = s.size := bytes_len s
  have e : (s.extract a s.size).data = s.data.extract a s.size := ByteArray.data_extract
  rw [e, Array.toList_extract, List.extract, ← h, ← List.length_drop, List.take_length]
theorem readVar_nil : (readVar []).2 = 0 := rfl
theorem vars_far {l : List UInt8} {n a : Nat} (h : l.length ≤ a) : varsM l (n + 1) a = none := vars_none (by rw [List.drop_eq_nil_of_le h]; exact readVar_nil)
set_option maxHeartbeats 1000000 in
theorem sL6Vars_p (s : ByteArray) (a n : Nat) (hs : s.size ≤ 1099511627776) (ha : a ≤ 2199023255552) (hn : n ≤ 1000) : PCalls Try.prog 158 [.val (.string s), .val (.int .i64 (a : Int)), .val (.int .i64 (n : Int))] [] (RX (α := List Int × Int) (fun x => .tup [.own 0, .val (.int .i64 x.2)]) (fun x => [some (.row 3 1 (x.1.map pInt))])
    fun | (l, k) => (varsM s.data.toList n a = none → k = -1) ∧ ∀ r, varsM s.data.toList n a = some r → l = r.1 ∧ k = (r.2 : Int)) := by
  have hL : s.data.toList.length = s.size := rfl
  generalize hv : varsM s.data.toList n a = V
  refine pcalls_ofR okP Try.func158 rfl ?_
  simp only [Try.f158, List.length_cons, List.length_nil, Nat.reduceAdd, Nat.reduceSub, List.replicate_succ, List.replicate_zero, List.cons_append, List.nil_append, List.length_map]
  repeat' (first
      | with_reducible refine PWp.seq ?_
      | with_reducible refine PWp.block ?_
      | with_reducible refine PWp.region okP true ?_
      | with_reducible (first | refine pops_nil ?_ | refine pany_nil ?_ | refine pthen_normal ?_ | refine pblock_normal ?_ | refine pthen_ret ?_ | refine pblock_ret ?_ | refine pthen_exit ?_ | refine pblock_here ?_ | refine pblock_there rfl ?_ | refine PWp.ret ?_ | refine PWp.exit ?_ | refine PWp.skip ?_)
      | ((with_reducible refine hK _ ?_); clear hK K)
      | ((with_reducible refine PWp.condI ?_); refine ⟨_, rfl, fun hg => ?_, fun hg => ?_⟩ <;> first | (exact absurd hg (by decide)) | ((try simp only [Bool.not_true, Bool.not_false] at hg); (try simp only [hg]); (try simp only [push_cast] at hg); (try (exfalso; omega))))
      | ((first | ((with_reducible refine pops_guard0 ?_); refine ⟨_, rfl, fun K hK => ⟨rfl, ?_⟩⟩) | ((with_reducible refine pD_g0 ?_); refine ⟨_, rfl, rfl, ?_⟩)); (try simp (disch := omega) only [push_cast, seval]))
      | ((with_reducible refine pany_I ?_); refine ⟨_, rfl, fun K hK => ?_⟩)
      | ((with_reducible refine pops_plain fun K hK => popO_row ?_); refine ⟨_, _, _, _, _, rfl, rfl, rfl, rfl, rfl, ?_⟩; simp (disch := omega) only [push_cast, seval])
      | ((with_reducible refine pD_x ?_ (popO_row ?_)); exact rfl; refine ⟨_, _, _, _, _, rfl, rfl, rfl, rfl, rfl, ?_⟩; simp (disch := omega) only [push_cast, seval])
      | ((with_reducible refine pops_plain fun K hK => ?_); simp (disch := omega) only [push_cast, seval])
      | ((first | ((with_reducible refine pD_y ?_ ?_); exact rfl) | ((with_reducible refine pD_x ?_ ?_); exact rfl)); simp (disch := omega) only [push_cast, seval])
      | ((first | ((with_reducible refine pops_guard ?_); refine ⟨_, rfl, fun K hK => ⟨_, rfl, fun hg => ?_, fun hg => ?_⟩⟩) | ((first | ((with_reducible refine pD_gy ?_ ?_); exact rfl) | ((with_reducible refine pD_gx ?_ ?_); exact rfl)); refine ⟨_, rfl, _, rfl, fun hg => ?_, fun hg => ?_⟩)) <;> first | (exact absurd hg (by decide)) | ((try simp only [Bool.not_true, Bool.not_false] at hg); (try simp only [hg]); (try simp only [push_cast] at hg); (try (exfalso; omega)); (try simp (disch := omega) only [push_cast, seval])))
      | ((with_reducible show pcall _ _ _ _ _ _); refine pcall_RV (g := 182) (callable_of Try.func182 rfl rfl) (sReadVar_p _ (by (first | assumption | omega | (simp; omega) | (simp_all; done) | (simp_all; omega)))) rfl (by (repeat' (first | exact trivial | exact rfl | exact vwOk_clo rfl | exact rowsC fun _ => rfl | exact rowsC2 fun _ => rfl | refine And.intro ?_ ?_ | refine vwOk_ag ?_ | refine vwOk_cl ?_))) ?_; (try simp (disch := omega) only [push_cast, seval]))
      | ((with_reducible refine And.intro ?_ ?_); omega))
  refine PWp.loopK (α := Nat × Nat × List Int) (fun x => match x with | (i, b, acc) => [(1, .val (.int .i64 (b : Int))), (8, .own 0), (9, .val (.int .i64 (i : Int)))]) [3, 4, 5, 6, 7, 10, 11, 12, 13, 14, 15, 16, 17, 18, 19, 20, 21, 22, 23, 24, 25, 26, 27, 28, 29, 30, 31, 32, 33, 34, 35, 36, 37, 38, 39, 40, 41, 42, 43] (fun x => match x with | (i, b, acc) => [some (.row 3 1 (acc.map pInt))]) (fun x => match x with | (i, b, acc) => i ≤ n ∧ b ≤ 2199023255552 + 7 * i ∧ acc.length = i ∧ V = (varsM s.data.toList (n - i) b).map fun r => (acc ++ r.1, r.2)) (fun x => match x with | (i, b, acc) => n - i) ((0, a, [])) (⟨by omega, by omega, rfl, by rw [← hv]; simp⟩) (by (refine ⟨[?_], ?_, ?_, ?_, ?_⟩; rotate_left 1; (· ((try simp (disch := omega) only [push_cast, seval]); (repeat' (first | exact trivial | exact rfl | refine And.intro ?_ ?_ | omega)))); (· ((try simp (disch := omega) only [push_cast, seval]); (repeat' (first | exact trivial | exact rfl | refine And.intro ?_ ?_ | omega)))); (· exact rfl); (· (first | exact trivial | exact ⟨rfl, trivial⟩ | exact ⟨rfl, rfl, trivial⟩)))) ?_
  intro x ρ hI; obtain ⟨i, b, acc⟩ := x
  (try dsimp only at hI)
  refine PWp.at (tm' := ?_) (H' := ?_) ?_ ?_ ?_; rotate_left 2; (· ((try simp only [push_cast, seval]); exact rfl)); (· ((try dsimp only); exact rfl))
  obtain ⟨hi, hb, hacc, hV⟩ := hI
  by_cases hlt : i < n
  · obtain ⟨m, hm⟩ : ∃ m, n - i = m + 1 := ⟨n - i - 1, by omega⟩
    rw [hm] at hV
    by_cases hfar : s.size ≤ b
    · rw [vars_far (by omega)] at hV
      have hz : (readVar (s.extract b s.size).data.toList).2 = 0 := by rw [bytes_drop, List.drop_eq_nil_of_le (by omega)]; rfl
      have e0 : (s.extract b s.size).size = s.size - b := by rw [ByteArray.size_extract]; omega
      repeat' (first
          | with_reducible refine PWp.seq ?_
          | with_reducible refine PWp.block ?_
          | with_reducible refine PWp.region okP true ?_
          | with_reducible (first | refine pops_nil ?_ | refine pany_nil ?_ | refine pthen_normal ?_ | refine pblock_normal ?_ | refine pthen_ret ?_ | refine pblock_ret ?_ | refine pthen_exit ?_ | refine pblock_here ?_ | refine pblock_there rfl ?_ | refine PWp.ret ?_ | refine PWp.exit ?_ | refine PWp.skip ?_)
          | ((with_reducible refine hK _ ?_); clear hK K)
          | ((with_reducible refine PWp.condI ?_); refine ⟨_, rfl, fun hg => ?_, fun hg => ?_⟩ <;> first | (exact absurd hg (by decide)) | ((try simp only [Bool.not_true, Bool.not_false] at hg); (try simp only [hg]); (try simp only [push_cast] at hg); (try (exfalso; omega))))
          | ((first | ((with_reducible refine pops_guard0 ?_); refine ⟨_, rfl, fun K hK => ⟨rfl, ?_⟩⟩) | ((with_reducible refine pD_g0 ?_); refine ⟨_, rfl, rfl, ?_⟩)); (try simp (disch := omega) only [push_cast, seval, hz]))
          | ((with_reducible refine pany_I ?_); refine ⟨_, rfl, fun K hK => ?_⟩)
          | ((with_reducible refine pops_plain fun K hK => popO_row ?_); refine ⟨_, _, _, _, _, rfl, rfl, rfl, rfl, rfl, ?_⟩; simp (disch := omega) only [push_cast, seval, hz])
          | ((with_reducible refine pD_x ?_ (popO_row ?_)); exact rfl; refine ⟨_, _, _, _, _, rfl, rfl, rfl, rfl, rfl, ?_⟩; simp (disch := omega) only [push_cast, seval, hz])
          | ((with_reducible refine pops_plain fun K hK => ?_); simp (disch := omega) only [push_cast, seval, hz])
          | ((first | ((with_reducible refine pD_y ?_ ?_); exact rfl) | ((with_reducible refine pD_x ?_ ?_); exact rfl)); simp (disch := omega) only [push_cast, seval, hz])
          | ((first | ((with_reducible refine pops_guard ?_); refine ⟨_, rfl, fun K hK => ⟨_, rfl, fun hg => ?_, fun hg => ?_⟩⟩) | ((first | ((with_reducible refine pD_gy ?_ ?_); exact rfl) | ((with_reducible refine pD_gx ?_ ?_); exact rfl)); refine ⟨_, rfl, _, rfl, fun hg => ?_, fun hg => ?_⟩)) <;> first | (exact absurd hg (by decide)) | ((try simp only [Bool.not_true, Bool.not_false] at hg); (try simp only [hg]); (try simp only [push_cast] at hg); (try (exfalso; omega)); (try simp (disch := omega) only [push_cast, seval, hz])))
          | ((with_reducible show pcall _ _ _ _ _ _); refine pcall_RV (g := 182) (callable_of Try.func182 rfl rfl) (sReadVar_p _ (by (first | assumption | omega | (simp; omega) | (simp_all; done) | (simp_all; omega)))) rfl (by (repeat' (first | exact trivial | exact rfl | exact vwOk_clo rfl | exact rowsC fun _ => rfl | exact rowsC2 fun _ => rfl | refine And.intro ?_ ?_ | refine vwOk_ag ?_ | refine vwOk_cl ?_))) ?_; (try simp (disch := omega) only [push_cast, seval, hz]))
          | ((with_reducible refine And.intro ?_ ?_); omega))
      all_goals
        ((first | with_reducible (first | refine pendX1 (acc, -1) [?_] ?_ ?_ ?_ ?_ ?_ ?_ | refine pendX2 (acc, -1) [?_] ?_ ?_ ?_ ?_ ?_ ?_ | refine pendX3 (acc, -1) [?_] ?_ ?_ ?_ ?_ ?_ ?_ | refine pendX0 (acc, -1) [?_] ?_ ?_ ?_ ?_ ?_ ?_) | refine pendXG (acc, -1) [?_] ?_ ?_ ?_ ?_ ?_ ?_); (try (any_goals ((with_reducible show ∃ _ : List PV, _); (apply Exists.intro; apply And.intro; (· repeat' (first | exact presults_nil | apply presults_tmp | (apply presults_agg; (· exact rfl); (· exact rfl); (· exact rfl); (· exact rfl); (· exact rfl); (· first | exact Nat.le_refl _ | decide | simp)) | (apply presults_one; (· exact rfl); (· exact rfl); (· exact rfl); (· exact rfl); (· exact rfl)))))))); (any_goals ((with_reducible show _ ∨ _); (first | exact Or.inl rfl | exact Or.inr rfl))); (any_goals ((with_reducible show (_ : PV) = _); ((try simp (disch := omega) only [push_cast, seval]); (repeat' (first | exact trivial | exact rfl | refine And.intro ?_ ?_ | omega))))); (any_goals ((with_reducible show blkR _ _ _ _ _); ((try simp (disch := omega) only [push_cast, seval]); (repeat' (first | exact trivial | exact rfl | refine And.intro ?_ ?_ | omega))))); (any_goals ((with_reducible show nodupR _ = true); exact rfl)); (any_goals ((with_reducible show preR _ _); (first | exact trivial | exact ⟨rfl, trivial⟩ | exact ⟨rfl, rfl, trivial⟩ | exact ⟨rfl, rfl, rfl, trivial⟩))))
        exact ⟨fun _ => rfl, fun r hr => by rw [hV] at hr; simp at hr⟩
    · have e0 : (s.extract b s.size).size = s.size - b := by rw [ByteArray.size_extract]; omega
      obtain ⟨b1, b2, b3⟩ := readVar_bd (s.data.toList.drop b)
      have hd := bytes_drop s b
      by_cases hz : (readVar (s.data.toList.drop b)).2 = 0
      · rw [vars_none hz] at hV
        repeat' (first
            | with_reducible refine PWp.seq ?_
            | with_reducible refine PWp.block ?_
            | with_reducible refine PWp.region okP true ?_
            | with_reducible (first | refine pops_nil ?_ | refine pany_nil ?_ | refine pthen_normal ?_ | refine pblock_normal ?_ | refine pthen_ret ?_ | refine pblock_ret ?_ | refine pthen_exit ?_ | refine pblock_here ?_ | refine pblock_there rfl ?_ | refine PWp.ret ?_ | refine PWp.exit ?_ | refine PWp.skip ?_)
            | ((with_reducible refine hK _ ?_); clear hK K)
            | ((with_reducible refine PWp.condI ?_); refine ⟨_, rfl, fun hg => ?_, fun hg => ?_⟩ <;> first | (exact absurd hg (by decide)) | ((try simp only [Bool.not_true, Bool.not_false] at hg); (try simp only [hg]); (try simp only [push_cast] at hg); (try (exfalso; omega))))
            | ((first | ((with_reducible refine pops_guard0 ?_); refine ⟨_, rfl, fun K hK => ⟨rfl, ?_⟩⟩) | ((with_reducible refine pD_g0 ?_); refine ⟨_, rfl, rfl, ?_⟩)); (try simp (disch := omega) only [push_cast, seval, hd, hz]))
            | ((with_reducible refine pany_I ?_); refine ⟨_, rfl, fun K hK => ?_⟩)
            | ((with_reducible refine pops_plain fun K hK => popO_row ?_); refine ⟨_, _, _, _, _, rfl, rfl, rfl, rfl, rfl, ?_⟩; simp (disch := omega) only [push_cast, seval, hd, hz])
            | ((with_reducible refine pD_x ?_ (popO_row ?_)); exact rfl; refine ⟨_, _, _, _, _, rfl, rfl, rfl, rfl, rfl, ?_⟩; simp (disch := omega) only [push_cast, seval, hd, hz])
            | ((with_reducible refine pops_plain fun K hK => ?_); simp (disch := omega) only [push_cast, seval, hd, hz])
            | ((first | ((with_reducible refine pD_y ?_ ?_); exact rfl) | ((with_reducible refine pD_x ?_ ?_); exact rfl)); simp (disch := omega) only [push_cast, seval, hd, hz])
            | ((first | ((with_reducible refine pops_guard ?_); refine ⟨_, rfl, fun K hK => ⟨_, rfl, fun hg => ?_, fun hg => ?_⟩⟩) | ((first | ((with_reducible refine pD_gy ?_ ?_); exact rfl) | ((with_reducible refine pD_gx ?_ ?_); exact rfl)); refine ⟨_, rfl, _, rfl, fun hg => ?_, fun hg => ?_⟩)) <;> first | (exact absurd hg (by decide)) | ((try simp only [Bool.not_true, Bool.not_false] at hg); (try simp only [hg]); (try simp only [push_cast] at hg); (try (exfalso; omega)); (try simp (disch := omega) only [push_cast, seval, hd, hz])))
            | ((with_reducible show pcall _ _ _ _ _ _); refine pcall_RV (g := 182) (callable_of Try.func182 rfl rfl) (sReadVar_p _ (by (first | assumption | omega | (simp; omega) | (simp_all; done) | (simp_all; omega)))) rfl (by (repeat' (first | exact trivial | exact rfl | exact vwOk_clo rfl | exact rowsC fun _ => rfl | exact rowsC2 fun _ => rfl | refine And.intro ?_ ?_ | refine vwOk_ag ?_ | refine vwOk_cl ?_))) ?_; (try simp (disch := omega) only [push_cast, seval, hd, hz]))
            | ((with_reducible refine And.intro ?_ ?_); omega))
        all_goals
          ((first | with_reducible (first | refine pendX1 (acc, -1) [?_] ?_ ?_ ?_ ?_ ?_ ?_ | refine pendX2 (acc, -1) [?_] ?_ ?_ ?_ ?_ ?_ ?_ | refine pendX3 (acc, -1) [?_] ?_ ?_ ?_ ?_ ?_ ?_ | refine pendX0 (acc, -1) [?_] ?_ ?_ ?_ ?_ ?_ ?_) | refine pendXG (acc, -1) [?_] ?_ ?_ ?_ ?_ ?_ ?_); (try (any_goals ((with_reducible show ∃ _ : List PV, _); (apply Exists.intro; apply And.intro; (· repeat' (first | exact presults_nil | apply presults_tmp | (apply presults_agg; (· exact rfl); (· exact rfl); (· exact rfl); (· exact rfl); (· exact rfl); (· first | exact Nat.le_refl _ | decide | simp)) | (apply presults_one; (· exact rfl); (· exact rfl); (· exact rfl); (· exact rfl); (· exact rfl)))))))); (any_goals ((with_reducible show _ ∨ _); (first | exact Or.inl rfl | exact Or.inr rfl))); (any_goals ((with_reducible show (_ : PV) = _); ((try simp (disch := omega) only [push_cast, seval]); (repeat' (first | exact trivial | exact rfl | refine And.intro ?_ ?_ | omega))))); (any_goals ((with_reducible show blkR _ _ _ _ _); ((try simp (disch := omega) only [push_cast, seval]); (repeat' (first | exact trivial | exact rfl | refine And.intro ?_ ?_ | omega))))); (any_goals ((with_reducible show nodupR _ = true); exact rfl)); (any_goals ((with_reducible show preR _ _); (first | exact trivial | exact ⟨rfl, trivial⟩ | exact ⟨rfl, rfl, trivial⟩ | exact ⟨rfl, rfl, rfl, trivial⟩))))
          exact ⟨fun _ => rfl, fun r hr => by rw [hV] at hr; simp at hr⟩
      · rw [vars_some hz] at hV
        obtain ⟨v, k, hrv⟩ : ∃ v k, readVar (s.data.toList.drop b) = (v, k) := ⟨_, _, rfl⟩
        rw [hrv] at hz hV b1 b2 b3
        dsimp only at hz hV b1 b2 b3
        have hk : k ≤ s.size - b := by rw [List.length_drop] at b3; omega
        have eb : (b : Int) + (k : Int) = ((b + k : Nat) : Int) := by omega
        repeat' (first
            | with_reducible refine PWp.seq ?_
            | with_reducible refine PWp.block ?_
            | with_reducible refine PWp.region okP true ?_
            | with_reducible (first | refine pops_nil ?_ | refine pany_nil ?_ | refine pthen_normal ?_ | refine pblock_normal ?_ | refine pthen_ret ?_ | refine pblock_ret ?_ | refine pthen_exit ?_ | refine pblock_here ?_ | refine pblock_there rfl ?_ | refine PWp.ret ?_ | refine PWp.exit ?_ | refine PWp.skip ?_)
            | ((with_reducible refine hK _ ?_); clear hK K)
            | ((with_reducible refine PWp.condI ?_); refine ⟨_, rfl, fun hg => ?_, fun hg => ?_⟩ <;> first | (exact absurd hg (by decide)) | ((try simp only [Bool.not_true, Bool.not_false] at hg); (try simp only [hg]); (try simp only [push_cast] at hg); (try (exfalso; omega))))
            | ((first | ((with_reducible refine pops_guard0 ?_); refine ⟨_, rfl, fun K hK => ⟨rfl, ?_⟩⟩) | ((with_reducible refine pD_g0 ?_); refine ⟨_, rfl, rfl, ?_⟩)); (try simp (disch := omega) only [push_cast, seval, hd, hrv]))
            | ((with_reducible refine pany_I ?_); refine ⟨_, rfl, fun K hK => ?_⟩)
            | ((with_reducible refine pops_plain fun K hK => popO_row ?_); refine ⟨_, _, _, _, _, rfl, rfl, rfl, rfl, rfl, ?_⟩; simp (disch := omega) only [push_cast, seval, hd, hrv])
            | ((with_reducible refine pD_x ?_ (popO_row ?_)); exact rfl; refine ⟨_, _, _, _, _, rfl, rfl, rfl, rfl, rfl, ?_⟩; simp (disch := omega) only [push_cast, seval, hd, hrv])
            | ((with_reducible refine pops_plain fun K hK => ?_); simp (disch := omega) only [push_cast, seval, hd, hrv])
            | ((first | ((with_reducible refine pD_y ?_ ?_); exact rfl) | ((with_reducible refine pD_x ?_ ?_); exact rfl)); simp (disch := omega) only [push_cast, seval, hd, hrv])
            | ((first | ((with_reducible refine pops_guard ?_); refine ⟨_, rfl, fun K hK => ⟨_, rfl, fun hg => ?_, fun hg => ?_⟩⟩) | ((first | ((with_reducible refine pD_gy ?_ ?_); exact rfl) | ((with_reducible refine pD_gx ?_ ?_); exact rfl)); refine ⟨_, rfl, _, rfl, fun hg => ?_, fun hg => ?_⟩)) <;> first | (exact absurd hg (by decide)) | ((try simp only [Bool.not_true, Bool.not_false] at hg); (try simp only [hg]); (try simp only [push_cast] at hg); (try (exfalso; omega)); (try simp (disch := omega) only [push_cast, seval, hd, hrv])))
            | ((with_reducible show pcall _ _ _ _ _ _); refine pcall_RV (g := 182) (callable_of Try.func182 rfl rfl) (sReadVar_p _ (by (first | assumption | omega | (simp; omega) | (simp_all; done) | (simp_all; omega)))) rfl (by (repeat' (first | exact trivial | exact rfl | exact vwOk_clo rfl | exact rowsC fun _ => rfl | exact rowsC2 fun _ => rfl | refine And.intro ?_ ?_ | refine vwOk_ag ?_ | refine vwOk_cl ?_))) ?_; (try simp (disch := omega) only [push_cast, seval, hd, hrv]))
            | ((with_reducible refine And.intro ?_ ?_); omega))
        (refine ⟨(i + 1, b + k, acc ++ [(v : Int)]), by ((try dsimp only); omega), ?_, by (refine ⟨[?_], ?_, ?_, ?_, ?_⟩; rotate_left 1; (· ((try simp (disch := omega) only [push_cast, seval]); (repeat' (first | exact trivial | exact rfl | refine And.intro ?_ ?_ | omega)))); (· ((try simp (disch := omega) only [push_cast, seval]); (repeat' (first | exact trivial | exact rfl | refine And.intro ?_ ?_ | omega)))); (· exact rfl); (· (first | exact trivial | exact ⟨rfl, trivial⟩ | exact ⟨rfl, rfl, trivial⟩)))⟩)
        · dsimp only
          exact ⟨by omega, by omega, by simp [hacc], by
            rw [hV, show n - (i + 1) = m by omega, Option.map_map]
            congr 1
            funext r
            simp⟩
  · obtain rfl : i = n := by omega
    rw [Nat.sub_self, varsM] at hV
    repeat' (first
        | with_reducible refine PWp.seq ?_
        | with_reducible refine PWp.block ?_
        | with_reducible refine PWp.region okP true ?_
        | with_reducible (first | refine pops_nil ?_ | refine pany_nil ?_ | refine pthen_normal ?_ | refine pblock_normal ?_ | refine pthen_ret ?_ | refine pblock_ret ?_ | refine pthen_exit ?_ | refine pblock_here ?_ | refine pblock_there rfl ?_ | refine PWp.ret ?_ | refine PWp.exit ?_ | refine PWp.skip ?_)
        | ((with_reducible refine hK _ ?_); clear hK K)
        | ((with_reducible refine PWp.condI ?_); refine ⟨_, rfl, fun hg => ?_, fun hg => ?_⟩ <;> first | (exact absurd hg (by decide)) | ((try simp only [Bool.not_true, Bool.not_false] at hg); (try simp only [hg]); (try simp only [push_cast] at hg); (try (exfalso; omega))))
        | ((first | ((with_reducible refine pops_guard0 ?_); refine ⟨_, rfl, fun K hK => ⟨rfl, ?_⟩⟩) | ((with_reducible refine pD_g0 ?_); refine ⟨_, rfl, rfl, ?_⟩)); (try simp (disch := omega) only [push_cast, seval]))
        | ((with_reducible refine pany_I ?_); refine ⟨_, rfl, fun K hK => ?_⟩)
        | ((with_reducible refine pops_plain fun K hK => popO_row ?_); refine ⟨_, _, _, _, _, rfl, rfl, rfl, rfl, rfl, ?_⟩; simp (disch := omega) only [push_cast, seval])
        | ((with_reducible refine pD_x ?_ (popO_row ?_)); exact rfl; refine ⟨_, _, _, _, _, rfl, rfl, rfl, rfl, rfl, ?_⟩; simp (disch := omega) only [push_cast, seval])
        | ((with_reducible refine pops_plain fun K hK => ?_); simp (disch := omega) only [push_cast, seval])
        | ((first | ((with_reducible refine pD_y ?_ ?_); exact rfl) | ((with_reducible refine pD_x ?_ ?_); exact rfl)); simp (disch := omega) only [push_cast, seval])
        | ((first | ((with_reducible refine pops_guard ?_); refine ⟨_, rfl, fun K hK => ⟨_, rfl, fun hg => ?_, fun hg => ?_⟩⟩) | ((first | ((with_reducible refine pD_gy ?_ ?_); exact rfl) | ((with_reducible refine pD_gx ?_ ?_); exact rfl)); refine ⟨_, rfl, _, rfl, fun hg => ?_, fun hg => ?_⟩)) <;> first | (exact absurd hg (by decide)) | ((try simp only [Bool.not_true, Bool.not_false] at hg); (try simp only [hg]); (try simp only [push_cast] at hg); (try (exfalso; omega)); (try simp (disch := omega) only [push_cast, seval])))
        | ((with_reducible show pcall _ _ _ _ _ _); refine pcall_RV (g := 182) (callable_of Try.func182 rfl rfl) (sReadVar_p _ (by (first | assumption | omega | (simp; omega) | (simp_all; done) | (simp_all; omega)))) rfl (by (repeat' (first | exact trivial | exact rfl | exact vwOk_clo rfl | exact rowsC fun _ => rfl | exact rowsC2 fun _ => rfl | refine And.intro ?_ ?_ | refine vwOk_ag ?_ | refine vwOk_cl ?_))) ?_; (try simp (disch := omega) only [push_cast, seval]))
        | ((with_reducible refine And.intro ?_ ?_); omega))
    ((first | with_reducible (first | refine pendX1 (acc, (b : Int)) [?_] ?_ ?_ ?_ ?_ ?_ ?_ | refine pendX2 (acc, (b : Int)) [?_] ?_ ?_ ?_ ?_ ?_ ?_ | refine pendX3 (acc, (b : Int)) [?_] ?_ ?_ ?_ ?_ ?_ ?_ | refine pendX0 (acc, (b : Int)) [?_] ?_ ?_ ?_ ?_ ?_ ?_) | refine pendXG (acc, (b : Int)) [?_] ?_ ?_ ?_ ?_ ?_ ?_); (try (any_goals ((with_reducible show ∃ _ : List PV, _); (apply Exists.intro; apply And.intro; (· repeat' (first | exact presults_nil | apply presults_tmp | (apply presults_agg; (· exact rfl); (· exact rfl); (· exact rfl); (· exact rfl); (· exact rfl); (· first | exact Nat.le_refl _ | decide | simp)) | (apply presults_one; (· exact rfl); (· exact rfl); (· exact rfl); (· exact rfl); (· exact rfl)))))))); (any_goals ((with_reducible show _ ∨ _); (first | exact Or.inl rfl | exact Or.inr rfl))); (any_goals ((with_reducible show (_ : PV) = _); ((try simp (disch := omega) only [push_cast, seval]); (repeat' (first | exact trivial | exact rfl | refine And.intro ?_ ?_ | omega))))); (any_goals ((with_reducible show blkR _ _ _ _ _); ((try simp (disch := omega) only [push_cast, seval]); (repeat' (first | exact trivial | exact rfl | refine And.intro ?_ ?_ | omega))))); (any_goals ((with_reducible show nodupR _ = true); exact rfl)); (any_goals ((with_reducible show preR _ _); (first | exact trivial | exact ⟨rfl, trivial⟩ | exact ⟨rfl, rfl, trivial⟩ | exact ⟨rfl, rfl, rfl, trivial⟩))))
    exact ⟨fun h => by rw [hV] at h; simp at h, fun r hr => by rw [hV] at hr; simp at hr; subst hr; simp⟩
theorem sL6Vars_none (s : ByteArray) (a n : Nat) (hs : s.size ≤ 1099511627776) (ha : a ≤ 2199023255552) (hn : n ≤ 1000) (h : varsM s.data.toList n a = none) : PCalls Try.prog 158 [.val (.string s), .val (.int .i64 (a : Int)), .val (.int .i64 (n : Int))] [] (RX (α := List Int) (fun _ => .tup [.own 0, .val (.int .i64 (-1))]) (fun x => [some (.row 3 1 (x.map pInt))]) fun _ => True) :=
  (sL6Vars_p s a n hs ha hn).mono fun _ _ ⟨x, ⟨p1, p2⟩, h1, h2⟩ => ⟨x.1, trivial, by rw [h1]; dsimp only; rw [p1 h], h2⟩
theorem sL6Vars_some (s : ByteArray) (a n : Nat) (hs : s.size ≤ 1099511627776) (ha : a ≤ 2199023255552) (hn : n ≤ 1000) {r : List Int × Nat} (h : varsM s.data.toList n a = some r) : PCalls Try.prog 158 [.val (.string s), .val (.int .i64 (a : Int)), .val (.int .i64 (n : Int))] [] (RH (.tup [.own 0, .val (.int .i64 (r.2 : Int))]) [some (.row 3 1 (r.1.map pInt))]) :=
  (sL6Vars_p s a n hs ha hn).mono fun _ _ ⟨x, ⟨p1, p2⟩, h1, h2⟩ => by
    obtain ⟨e1, e2⟩ := p2 r h
    obtain ⟨l, k⟩ := x
    dsimp only at e1 e2
    subst e1
    subst e2
    exact ⟨h1, h2⟩
/-- So many bytes as a number ahead of them says. -/
def takeM (s : ByteArray) (a : Nat) : ByteArray × Int :=
  if (readVar (s.data.toList.drop a)).2 = 0 then (⟨#[]⟩, -1) else
  if s.size < a + (readVar (s.data.toList.drop a)).2 + (readVar (s.data.toList.drop a)).1 then (⟨#[]⟩, -1) else
    (s.extract (a + (readVar (s.data.toList.drop a)).2) (a + (readVar (s.data.toList.drop a)).2 + (readVar (s.data.toList.drop a)).1), ((a + (readVar (s.data.toList.drop a)).2 + (readVar (s.data.toList.drop a)).1 : Nat) : Int))
theorem takeM_bd (s : ByteArray) (a : Nat) : -1 ≤ (takeM s a).2 ∧ (takeM s a).2 ≤ s.size ∧ (takeM s a).1.size ≤ s.size := by
  unfold takeM
  split
  · exact ⟨by simp, by dsimp only; omega, Nat.zero_le _⟩
  · split
    · exact ⟨by simp, by dsimp only; omega, Nat.zero_le _⟩
    · refine ⟨by dsimp only; omega, by dsimp only; omega, ?_⟩
      rw [ByteArray.size_extract]; omega
set_option maxHeartbeats 1000000 in
theorem sL6Take_p (s : ByteArray) (a : Nat) (hs : s.size ≤ 1099511627776) (ha : a ≤ 2199023255552) : PCalls Try.prog 110 [.val (.string s), .val (.int .i64 (a : Int))] [] (RV (.tup [.val (.string (takeM s a).1), .val (.int .i64 (takeM s a).2)])) := by
  have hL : s.data.toList.length = s.size := rfl
  by_cases hz : (readVar (s.data.toList.drop a)).2 = 0
  · have hm : varsM s.data.toList 1 a = none := vars_none hz
    have ht : takeM s a = (⟨#[]⟩, -1) := by unfold takeM; rw [if_pos hz]
    refine pcalls_ofR okP Try.func110 rfl ?_
    simp only [Try.f110, List.length_cons, List.length_nil, Nat.reduceAdd, Nat.reduceSub, List.replicate_succ, List.replicate_zero, List.cons_append, List.nil_append, List.length_map]
    repeat' (first
        | with_reducible refine PWp.seq ?_
        | with_reducible refine PWp.block ?_
        | with_reducible refine PWp.region okP true ?_
        | with_reducible refine PWp.draw (id := 4) okP true [0, 1, 2, 3, 4, 5, 6, 7, 8, 9, 10, 11, 12, 13, 14] (by kernel_rfl) ?_
        | with_reducible (first | refine pops_nil ?_ | refine pany_nil ?_ | refine pthen_normal ?_ | refine pblock_normal ?_ | refine pthen_ret ?_ | refine pblock_ret ?_ | refine pthen_exit ?_ | refine pblock_here ?_ | refine pblock_there rfl ?_ | refine PWp.ret ?_ | refine PWp.exit ?_ | refine PWp.skip ?_)
        | ((with_reducible refine hK _ ?_); clear hK K)
        | ((with_reducible refine PWp.condI ?_); refine ⟨_, rfl, fun hg => ?_, fun hg => ?_⟩ <;> first | (exact absurd hg (by decide)) | ((try simp only [Bool.not_true, Bool.not_false] at hg); (try simp only [hg]); (try simp only [push_cast] at hg); (try (exfalso; omega))))
        | ((first | ((with_reducible refine pops_guard0 ?_); refine ⟨_, rfl, fun K hK => ⟨rfl, ?_⟩⟩) | ((with_reducible refine pD_g0 ?_); refine ⟨_, rfl, rfl, ?_⟩)); (try simp (disch := omega) only [push_cast, seval]))
        | ((with_reducible refine pany_I ?_); refine ⟨_, rfl, fun K hK => ?_⟩)
        | ((with_reducible refine pops_plain fun K hK => ?_); simp (disch := omega) only [push_cast, seval])
        | ((first | ((with_reducible refine pD_y ?_ ?_); exact rfl) | ((with_reducible refine pD_x ?_ ?_); exact rfl)); simp (disch := omega) only [push_cast, seval])
        | ((first | ((with_reducible refine pops_guard ?_); refine ⟨_, rfl, fun K hK => ⟨_, rfl, fun hg => ?_, fun hg => ?_⟩⟩) | ((first | ((with_reducible refine pD_gy ?_ ?_); exact rfl) | ((with_reducible refine pD_gx ?_ ?_); exact rfl)); refine ⟨_, rfl, _, rfl, fun hg => ?_, fun hg => ?_⟩)) <;> first | (exact absurd hg (by decide)) | ((try simp only [Bool.not_true, Bool.not_false] at hg); (try simp only [hg]); (try simp only [push_cast] at hg); (try (exfalso; omega)); (try simp (disch := omega) only [push_cast, seval])))
        | ((with_reducible show pcall _ _ _ _ _ _); refine pcall_X1 (g := 158) (callable_of Try.func158 rfl rfl) (by ((try simp (disch := omega) only [push_cast, seval]); first | done | exact rfl)) (sL6Vars_none s a 1 hs ha (by omega) hm) ?_; rintro l _; (try simp (disch := omega) only [push_cast, seval]))
        | ((with_reducible refine And.intro ?_ ?_); omega))
    all_goals (rw [ht]; ((first | with_reducible (first | refine pendV1 ?_ ?_ ?_ | refine pendV2 ?_ ?_ ?_ | refine pendV3 ?_ ?_ ?_ | refine pendV0 ?_ ?_ ?_) | refine pendVG ?_ ?_ ?_); (· (first | exact .inl rfl | exact .inr rfl)); rotate_left 1; (· exact rfl); (try (apply Exists.intro; apply And.intro; (· repeat' (first | exact presults_nil | apply presults_tmp | (apply presults_agg; (· exact rfl); (· exact rfl); (· exact rfl); (· exact rfl); (· exact rfl); (· first | exact Nat.le_refl _ | decide | simp)) | (apply presults_one; (· exact rfl); (· exact rfl); (· exact rfl); (· exact rfl); (· exact rfl)))))); (try simp only [push_cast, seval])))
  · have hm : varsM s.data.toList 1 a = some ([((readVar (s.data.toList.drop a)).1 : Int)], a + (readVar (s.data.toList.drop a)).2) := by rw [vars_some hz]; rfl
    obtain ⟨b1, b2, b3⟩ := readVar_bd (s.data.toList.drop a)
    rw [List.length_drop] at b3
    obtain ⟨v, k, hrv⟩ : ∃ v k, readVar (s.data.toList.drop a) = (v, k) := ⟨_, _, rfl⟩
    rw [hrv] at hz hm b1 b2 b3
    dsimp only at hz hm b1 b2 b3
    by_cases hlt : s.size < a + k + v
    · have ht : takeM s a = (⟨#[]⟩, -1) := by unfold takeM; rw [hrv]; rw [if_neg hz, if_pos hlt]
      refine pcalls_ofR okP Try.func110 rfl ?_
      simp only [Try.f110, List.length_cons, List.length_nil, Nat.reduceAdd, Nat.reduceSub, List.replicate_succ, List.replicate_zero, List.cons_append, List.nil_append, List.length_map]
      repeat' (first
          | with_reducible refine PWp.seq ?_
          | with_reducible refine PWp.block ?_
          | with_reducible refine PWp.region okP true ?_
          | with_reducible refine PWp.draw (id := 4) okP true [0, 1, 2, 3, 4, 5, 6, 7, 8, 9, 10, 11, 12, 13, 14] (by kernel_rfl) ?_
          | with_reducible (first | refine pops_nil ?_ | refine pany_nil ?_ | refine pthen_normal ?_ | refine pblock_normal ?_ | refine pthen_ret ?_ | refine pblock_ret ?_ | refine pthen_exit ?_ | refine pblock_here ?_ | refine pblock_there rfl ?_ | refine PWp.ret ?_ | refine PWp.exit ?_ | refine PWp.skip ?_)
          | ((with_reducible refine hK _ ?_); clear hK K)
          | ((with_reducible refine PWp.condI ?_); refine ⟨_, rfl, fun hg => ?_, fun hg => ?_⟩ <;> first | (exact absurd hg (by decide)) | ((try simp only [Bool.not_true, Bool.not_false] at hg); (try simp only [hg]); (try simp only [push_cast] at hg); (try (exfalso; omega))))
          | ((first | ((with_reducible refine pops_guard0 ?_); refine ⟨_, rfl, fun K hK => ⟨rfl, ?_⟩⟩) | ((with_reducible refine pD_g0 ?_); refine ⟨_, rfl, rfl, ?_⟩)); (try simp (disch := omega) only [push_cast, seval]))
          | ((with_reducible refine pany_I ?_); refine ⟨_, rfl, fun K hK => ?_⟩)
          | ((with_reducible refine pops_plain fun K hK => ?_); simp (disch := omega) only [push_cast, seval])
          | ((first | ((with_reducible refine pD_y ?_ ?_); exact rfl) | ((with_reducible refine pD_x ?_ ?_); exact rfl)); simp (disch := omega) only [push_cast, seval])
          | ((first | ((with_reducible refine pops_guard ?_); refine ⟨_, rfl, fun K hK => ⟨_, rfl, fun hg => ?_, fun hg => ?_⟩⟩) | ((first | ((with_reducible refine pD_gy ?_ ?_); exact rfl) | ((with_reducible refine pD_gx ?_ ?_); exact rfl)); refine ⟨_, rfl, _, rfl, fun hg => ?_, fun hg => ?_⟩)) <;> first | (exact absurd hg (by decide)) | ((try simp only [Bool.not_true, Bool.not_false] at hg); (try simp only [hg]); (try simp only [push_cast] at hg); (try (exfalso; omega)); (try simp (disch := omega) only [push_cast, seval])))
          | ((with_reducible show pcall _ _ _ _ _ _); refine pcall_H1 (g := 158) (callable_of Try.func158 rfl rfl) (by ((try simp (disch := omega) only [push_cast, seval]); first | done | exact rfl)) (sL6Vars_some s a 1 hs ha (by omega) hm) ?_; (try simp (disch := omega) only [push_cast, seval]))
          | ((with_reducible refine And.intro ?_ ?_); omega))
      all_goals (rw [ht]; ((first | with_reducible (first | refine pendV1 ?_ ?_ ?_ | refine pendV2 ?_ ?_ ?_ | refine pendV3 ?_ ?_ ?_ | refine pendV0 ?_ ?_ ?_) | refine pendVG ?_ ?_ ?_); (· (first | exact .inl rfl | exact .inr rfl)); rotate_left 1; (· exact rfl); (try (apply Exists.intro; apply And.intro; (· repeat' (first | exact presults_nil | apply presults_tmp | (apply presults_agg; (· exact rfl); (· exact rfl); (· exact rfl); (· exact rfl); (· exact rfl); (· first | exact Nat.le_refl _ | decide | simp)) | (apply presults_one; (· exact rfl); (· exact rfl); (· exact rfl); (· exact rfl); (· exact rfl)))))); (try simp only [push_cast, seval])))
    · have ht : takeM s a = (s.extract (a + k) (a + k + v), ((a + k + v : Nat) : Int)) := by unfold takeM; rw [hrv]; rw [if_neg hz, if_neg hlt]
      have e1 : ((a + k : Nat) : Int) + (v : Int) = ((a + k + v : Nat) : Int) := by omega
      have e0 : (s.extract (a + k) (a + k + v)).size = v := by rw [ByteArray.size_extract]; omega
      refine pcalls_ofR okP Try.func110 rfl ?_
      simp only [Try.f110, List.length_cons, List.length_nil, Nat.reduceAdd, Nat.reduceSub, List.replicate_succ, List.replicate_zero, List.cons_append, List.nil_append, List.length_map]
      repeat' (first
          | with_reducible refine PWp.seq ?_
          | with_reducible refine PWp.block ?_
          | with_reducible refine PWp.region okP true ?_
          | with_reducible refine PWp.draw (id := 4) okP true [0, 1, 2, 3, 4, 5, 6, 7, 8, 9, 10, 11, 12, 13, 14] (by kernel_rfl) ?_
          | with_reducible (first | refine pops_nil ?_ | refine pany_nil ?_ | refine pthen_normal ?_ | refine pblock_normal ?_ | refine pthen_ret ?_ | refine pblock_ret ?_ | refine pthen_exit ?_ | refine pblock_here ?_ | refine pblock_there rfl ?_ | refine PWp.ret ?_ | refine PWp.exit ?_ | refine PWp.skip ?_)
          | ((with_reducible refine hK _ ?_); clear hK K)
          | ((with_reducible refine PWp.condI ?_); refine ⟨_, rfl, fun hg => ?_, fun hg => ?_⟩ <;> first | (exact absurd hg (by decide)) | ((try simp only [Bool.not_true, Bool.not_false] at hg); (try simp only [hg]); (try simp only [push_cast] at hg); (try (exfalso; omega))))
          | ((first | ((with_reducible refine pops_guard0 ?_); refine ⟨_, rfl, fun K hK => ⟨rfl, ?_⟩⟩) | ((with_reducible refine pD_g0 ?_); refine ⟨_, rfl, rfl, ?_⟩)); (try simp (disch := omega) only [push_cast, seval]))
          | ((with_reducible refine pany_I ?_); refine ⟨_, rfl, fun K hK => ?_⟩)
          | ((with_reducible refine pops_plain fun K hK => ?_); simp (disch := omega) only [push_cast, seval])
          | ((first | ((with_reducible refine pD_y ?_ ?_); exact rfl) | ((with_reducible refine pD_x ?_ ?_); exact rfl)); simp (disch := omega) only [push_cast, seval])
          | ((first | ((with_reducible refine pops_guard ?_); refine ⟨_, rfl, fun K hK => ⟨_, rfl, fun hg => ?_, fun hg => ?_⟩⟩) | ((first | ((with_reducible refine pD_gy ?_ ?_); exact rfl) | ((with_reducible refine pD_gx ?_ ?_); exact rfl)); refine ⟨_, rfl, _, rfl, fun hg => ?_, fun hg => ?_⟩)) <;> first | (exact absurd hg (by decide)) | ((try simp only [Bool.not_true, Bool.not_false] at hg); (try simp only [hg]); (try simp only [push_cast] at hg); (try (exfalso; omega)); (try simp (disch := omega) only [push_cast, seval])))
          | ((with_reducible show pcall _ _ _ _ _ _); refine pcall_H1 (g := 158) (callable_of Try.func158 rfl rfl) (by ((try simp (disch := omega) only [push_cast, seval]); first | done | exact rfl)) (sL6Vars_some s a 1 hs ha (by omega) hm) ?_; (try simp (disch := omega) only [push_cast, seval]))
          | ((with_reducible refine And.intro ?_ ?_); omega))
      all_goals (rw [ht]; ((first | with_reducible (first | refine pendV1 ?_ ?_ ?_ | refine pendV2 ?_ ?_ ?_ | refine pendV3 ?_ ?_ ?_ | refine pendV0 ?_ ?_ ?_) | refine pendVG ?_ ?_ ?_); (· (first | exact .inl rfl | exact .inr rfl)); rotate_left 1; (· exact rfl); (try (apply Exists.intro; apply And.intro; (· repeat' (first | exact presults_nil | apply presults_tmp | (apply presults_agg; (· exact rfl); (· exact rfl); (· exact rfl); (· exact rfl); (· exact rfl); (· first | exact Nat.le_refl _ | decide | simp)) | (apply presults_one; (· exact rfl); (· exact rfl); (· exact rfl); (· exact rfl); (· exact rfl)))))); (try simp only [push_cast, seval])); congr 1 <;> omega)
end Go.Proofs.Ytkbikihbomnghaa
