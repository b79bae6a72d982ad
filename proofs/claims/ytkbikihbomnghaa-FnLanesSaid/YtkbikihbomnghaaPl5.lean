/- Walks on the pure machine: how long a row waits. -/
import Derived.Test.YtkbikihbomnghaaPl4
namespace Go.Proofs.Ytkbikihbomnghaa
set_option linter.unusedSimpArgs false
set_option linter.unusedVariables false
open Go.RowKit
set_option maxRecDepth 100000

theorem frz_rows {rows : List (List Int)} : ((ownL 1 rows.length).map fun row => row.map (frz (bLa rows) 1)) = rows.map pRow := by
  apply List.ext_getElem?
  intro j
  by_cases hj : j < rows.length
  · obtain ⟨r, hr⟩ : ∃ r, rows[j]? = some r := ⟨_, List.getElem?_eq_getElem hj⟩
    rw [List.getElem?_map, ownL_get hj, List.getElem?_map, hr]
    have : (bLa rows)[1 + j]? = some (some (.row 3 1 (r.map pInt))) := by
      rw [show 1 + j = j + 1 by omega]
      unfold bLa
      rw [List.getElem?_cons_succ, List.getElem?_map, hr]
      rfl
    have e : (List.map (fun row : List PV => List.map (fun x => x) row) (List.map pInt r)) = r.map pInt := by simp
    simp only [Option.map_some, List.map_cons, List.map_nil, frz, this, pRow]
    rw [e]
  · rw [List.getElem?_eq_none (by rw [List.length_map, ownL_len]; omega), List.getElem?_eq_none (by simp; omega)]
theorem frz_lanes {l : GLanes} : frz (bLa l.fRows) 3 (.agg (pLaO l)) = .agg (pLanes l) := by
  have : (bLa l.fRows)[0]? = some (some (.row 51 1 (ownL 1 l.fRows.length))) := rfl
  simp only [pLaO, frz, List.map_cons, List.map_nil, this, frz_rows, pLanes]
theorem frzOk_lanes {l : GLanes} : frzOk (bLa l.fRows) 3 (.agg (pLaO l)) := by
  have h0 : (bLa l.fRows)[0]? = some (some (.row 51 1 (ownL 1 l.fRows.length))) := rfl
  intro p hp
  simp only [pLaO, List.mem_cons, List.not_mem_nil, or_false] at hp
  rcases hp with rfl | rfl
  · simp only [frzOk, h0]
    intro row hrow p hp
    obtain ⟨j, hj, rfl⟩ := List.getElem_of_mem hrow
    rw [ownL_len] at hj
    have e := ownL_get (a := 1) hj
    rw [List.getElem?_eq_getElem (by rw [ownL_len]; exact hj)] at e
    injection e with e
    rw [e] at hp
    rw [List.mem_singleton] at hp
    subst hp
    obtain ⟨r, hr⟩ : ∃ r, l.fRows[j]? = some r := ⟨_, List.getElem?_eq_getElem hj⟩
    have : (bLa l.fRows)[1 + j]? = some (some (.row 3 1 (r.map pInt))) := by
      rw [show 1 + j = j + 1 by omega]
      unfold bLa
      rw [List.getElem?_cons_succ, List.getElem?_map, hr]
      rfl
    simp only [frzOk, this]
    intro row hrow p hp
    obtain ⟨x, _, rfl⟩ := List.mem_map.1 hrow
    rw [pInt, List.mem_singleton] at hp
    subst hp
    rfl
  · rfl
theorem next_frz {P : Program} {f : FuncId} {args : List PV} {l : GLanes} {a b : Int} (c : PCalls P f args [] (RH (.tup [.agg (pLaO l), .val (.int .i64 a), .val (.int .i64 b)]) (bLa l.fRows))) : PCalls P f args [] (RH (.tup [.agg (pLanes l), .val (.int .i64 a), .val (.int .i64 b)]) []) := by
  refine c.freeze 4 fun r H ⟨h1, h2⟩ => ?_
  subst h1
  subst h2
  refine ⟨?_, ?_, rfl⟩
  · intro p hp
    simp only [List.mem_cons, List.not_mem_nil, or_false] at hp
    rcases hp with rfl | rfl | rfl
    · exact frzOk_lanes
    · rfl
    · rfl
  · show PV.tup [frz _ 3 _, frz _ 3 _, frz _ 3 _] = _
    rw [frz_lanes]
    rfl
theorem put_frz {P : Program} {f : FuncId} {args : List PV} {l : GLanes} {b : Bool} (c : PCalls P f args [] (RH (.tup [.agg (pLaO l), .val (.bool b)]) (bLa l.fRows))) : PCalls P f args [] (RH (.tup [.agg (pLanes l), .val (.bool b)]) []) := by
  refine c.freeze 4 fun r H ⟨h1, h2⟩ => ?_
  subst h1
  subst h2
  refine ⟨?_, ?_, rfl⟩
  · intro p hp
    simp only [List.mem_cons, List.not_mem_nil, or_false] at hp
    rcases hp with rfl | rfl
    · exact frzOk_lanes
    · rfl
  · show PV.tup [frz _ 3 _, frz _ 3 _] = _
    rw [frz_lanes]
    rfl
set_option maxHeartbeats 2000000 in
theorem iLanesWait_p (l : GLanes) (lane : Int) (hl : l.fRows.length ≤ 1099511627776) (hr : ∀ r ∈ l.fRows, r.length ≤ 1099511627776) : PCalls Try.prog 53 [.agg (pLanes l), .val (.int .i64 lane)] [] (RV (.val (.int .i64 (lanesWait l lane)))) := by
  cases ok : lanesOk l with
  | false =>
    have e : lanesWait l lane = 0 := by unfold lanesWait; rw [ok]; rfl
    rw [e]
    refine pcalls_ofR okP Try.func53 rfl ?_
    simp only [Try.f53, List.length_cons, List.length_nil, Nat.reduceAdd, Nat.reduceSub, List.replicate_succ, List.replicate_zero, List.cons_append, List.nil_append, List.length_map]
    repeat' (first | with_reducible refine PWp.seq ?_ | with_reducible refine PWp.block ?_ | with_reducible refine PWp.region okP true ?_ | with_reducible (first | refine pops_nil ?_ | refine pany_nil ?_ | refine pthen_normal ?_ | refine pblock_normal ?_ | refine pthen_ret ?_ | refine pblock_ret ?_ | refine pthen_exit ?_ | refine pblock_here ?_ | refine pblock_there rfl ?_ | refine PWp.ret ?_ | refine PWp.exit ?_ | refine PWp.skip ?_) | ((with_reducible refine hK _ ?_); clear hK K) | ((with_reducible refine PWp.condI ?_); refine ⟨_, rfl, fun hg => ?_, fun hg => ?_⟩ <;> first | (exact absurd hg (by decide)) | ((try simp only [Bool.not_true, Bool.not_false] at hg); (try simp only [hg]); (try simp only [push_cast] at hg); (try exact absurd trivial hg); (try (exfalso; omega)))) | ((with_reducible refine pops_guard0 ?_); refine ⟨_, rfl, fun K hK => ⟨rfl, ?_⟩⟩; (try simp (disch := omega) only [push_cast, seval, ok])) | ((with_reducible refine pops_plain fun K hK => ?_); simp (disch := omega) only [push_cast, seval, ok]) | ((with_reducible refine pops_guard ?_); refine ⟨_, rfl, fun K hK => ⟨_, rfl, fun hg => ?_, fun hg => ?_⟩⟩ <;> first | (exact absurd hg (by decide)) | ((try simp only [Bool.not_true, Bool.not_false] at hg); (try simp only [hg]); (try simp only [push_cast] at hg); (try exact absurd trivial hg); (try (exfalso; omega)); (try simp (disch := omega) only [push_cast, seval, ok]))) | ((with_reducible show pcall _ _ _ _ _ _); (first | (refine pcF (g := 56) (callable_of Try.func56 rfl rfl) (iLanesNext_p ⟨_, _⟩ (by (first | assumption | omega | (simp; omega) | (simp_all; done) | (simp_all; omega)))) ?_) | (refine pcV (g := 84) (callable_of Try.func84 rfl rfl) (within_p _ _ _) ?_) | (refine pcV (g := 118) (callable_of Try.func118 rfl rfl) (iLanesOk_p ⟨_, _⟩ (by (first | assumption | omega | (simp; omega) | (simp_all; done) | (simp_all; omega))) (by assumption)) ?_)); (try simp (disch := omega) only [push_cast, seval, ok])) | ((with_reducible refine And.intro ?_ ?_); omega))
    ((first | with_reducible (first | refine pendV1 ?_ ?_ ?_ | refine pendV2 ?_ ?_ ?_ | refine pendV3 ?_ ?_ ?_ | refine pendV0 ?_ ?_ ?_) | refine pendVG ?_ ?_ ?_); (· (first | exact .inl rfl | exact .inr rfl)); rotate_left 1; (· exact rfl); (try (apply Exists.intro; apply And.intro; (· repeat' (first | exact presults_nil | apply presults_tmp | (apply presults_agg; (· exact rfl); (· exact rfl); (· exact rfl); (· exact rfl); (· exact rfl); (· first | exact Nat.le_refl _ | decide | simp)) | (apply presults_one; (· exact rfl); (· exact rfl); (· exact rfl); (· exact rfl); (· exact rfl)))))); (try simp only [push_cast, seval]))
  | true =>
  cases hin : inB lane 0 ((l.fRows.length : Int) - 1) with
  | false =>
    have e : lanesWait l lane = 0 := by unfold lanesWait; rw [ok, hin]; rfl
    rw [e]
    refine pcalls_ofR okP Try.func53 rfl ?_
    simp only [Try.f53, List.length_cons, List.length_nil, Nat.reduceAdd, Nat.reduceSub, List.replicate_succ, List.replicate_zero, List.cons_append, List.nil_append, List.length_map]
    repeat' (first | with_reducible refine PWp.seq ?_ | with_reducible refine PWp.block ?_ | with_reducible refine PWp.region okP true ?_ | with_reducible (first | refine pops_nil ?_ | refine pany_nil ?_ | refine pthen_normal ?_ | refine pblock_normal ?_ | refine pthen_ret ?_ | refine pblock_ret ?_ | refine pthen_exit ?_ | refine pblock_here ?_ | refine pblock_there rfl ?_ | refine PWp.ret ?_ | refine PWp.exit ?_ | refine PWp.skip ?_) | ((with_reducible refine hK _ ?_); clear hK K) | ((with_reducible refine PWp.condI ?_); refine ⟨_, rfl, fun hg => ?_, fun hg => ?_⟩ <;> first | (exact absurd hg (by decide)) | ((try simp only [Bool.not_true, Bool.not_false] at hg); (try simp only [hg]); (try simp only [push_cast] at hg); (try exact absurd trivial hg); (try (exfalso; omega)))) | ((with_reducible refine pops_guard0 ?_); refine ⟨_, rfl, fun K hK => ⟨rfl, ?_⟩⟩; (try simp (disch := omega) only [push_cast, seval, ok, hin])) | ((with_reducible refine pops_plain fun K hK => ?_); simp (disch := omega) only [push_cast, seval, ok, hin]) | ((with_reducible refine pops_guard ?_); refine ⟨_, rfl, fun K hK => ⟨_, rfl, fun hg => ?_, fun hg => ?_⟩⟩ <;> first | (exact absurd hg (by decide)) | ((try simp only [Bool.not_true, Bool.not_false] at hg); (try simp only [hg]); (try simp only [push_cast] at hg); (try exact absurd trivial hg); (try (exfalso; omega)); (try simp (disch := omega) only [push_cast, seval, ok, hin]))) | ((with_reducible show pcall _ _ _ _ _ _); (first | (refine pcF (g := 56) (callable_of Try.func56 rfl rfl) (iLanesNext_p ⟨_, _⟩ (by (first | assumption | omega | (simp; omega) | (simp_all; done) | (simp_all; omega)))) ?_) | (refine pcV (g := 84) (callable_of Try.func84 rfl rfl) (within_p _ _ _) ?_) | (refine pcV (g := 118) (callable_of Try.func118 rfl rfl) (iLanesOk_p ⟨_, _⟩ (by (first | assumption | omega | (simp; omega) | (simp_all; done) | (simp_all; omega))) (by assumption)) ?_)); (try simp (disch := omega) only [push_cast, seval, ok, hin])) | ((with_reducible refine And.intro ?_ ?_); omega))
    ((first | with_reducible (first | refine pendV1 ?_ ?_ ?_ | refine pendV2 ?_ ?_ ?_ | refine pendV3 ?_ ?_ ?_ | refine pendV0 ?_ ?_ ?_) | refine pendVG ?_ ?_ ?_); (· (first | exact .inl rfl | exact .inr rfl)); rotate_left 1; (· exact rfl); (try (apply Exists.intro; apply And.intro; (· repeat' (first | exact presults_nil | apply presults_tmp | (apply presults_agg; (· exact rfl); (· exact rfl); (· exact rfl); (· exact rfl); (· exact rfl); (· first | exact Nat.le_refl _ | decide | simp)) | (apply presults_one; (· exact rfl); (· exact rfl); (· exact rfl); (· exact rfl); (· exact rfl)))))); (try simp only [push_cast, seval]))
  | true =>
  obtain ⟨k, rfl⟩ : ∃ k : Nat, lane = k := ⟨lane.toNat, by rw [inB_iff] at hin; omega⟩
  have hk : k < l.fRows.length := by rw [inB_iff] at hin; omega
  have e : lanesWait l k = (waitN l k : Int) := by unfold lanesWait; rw [ok, hin, Int.toNat_natCast]; rfl
  rw [e]
  have t30 := total30 ok
  refine pcalls_ofR okP Try.func53 rfl ?_
  simp only [Try.f53, List.length_cons, List.length_nil, Nat.reduceAdd, Nat.reduceSub, List.replicate_succ, List.replicate_zero, List.cons_append, List.nil_append, List.length_map]
  repeat' (first | with_reducible refine PWp.seq ?_ | with_reducible refine PWp.block ?_ | with_reducible refine PWp.region okP true ?_ | with_reducible (first | refine pops_nil ?_ | refine pany_nil ?_ | refine pthen_normal ?_ | refine pblock_normal ?_ | refine pthen_ret ?_ | refine pblock_ret ?_ | refine pthen_exit ?_ | refine pblock_here ?_ | refine pblock_there rfl ?_ | refine PWp.ret ?_ | refine PWp.exit ?_ | refine PWp.skip ?_) | ((with_reducible refine hK _ ?_); clear hK K) | ((with_reducible refine PWp.condI ?_); refine ⟨_, rfl, fun hg => ?_, fun hg => ?_⟩ <;> first | (exact absurd hg (by decide)) | ((try simp only [Bool.not_true, Bool.not_false] at hg); (try simp only [hg]); (try simp only [push_cast] at hg); (try exact absurd trivial hg); (try (exfalso; omega)))) | ((with_reducible refine pops_guard0 ?_); refine ⟨_, rfl, fun K hK => ⟨rfl, ?_⟩⟩; (try simp (disch := omega) only [push_cast, seval, ok, hin])) | ((with_reducible refine pops_plain fun K hK => ?_); simp (disch := omega) only [push_cast, seval, ok, hin]) | ((with_reducible refine pops_guard ?_); refine ⟨_, rfl, fun K hK => ⟨_, rfl, fun hg => ?_, fun hg => ?_⟩⟩ <;> first | (exact absurd hg (by decide)) | ((try simp only [Bool.not_true, Bool.not_false] at hg); (try simp only [hg]); (try simp only [push_cast] at hg); (try exact absurd trivial hg); (try (exfalso; omega)); (try simp (disch := omega) only [push_cast, seval, ok, hin]))) | ((with_reducible show pcall _ _ _ _ _ _); (first | (refine pcF (g := 56) (callable_of Try.func56 rfl rfl) (iLanesNext_p ⟨_, _⟩ (by (first | assumption | omega | (simp; omega) | (simp_all; done) | (simp_all; omega)))) ?_) | (refine pcV (g := 84) (callable_of Try.func84 rfl rfl) (within_p _ _ _) ?_) | (refine pcV (g := 118) (callable_of Try.func118 rfl rfl) (iLanesOk_p ⟨_, _⟩ (by (first | assumption | omega | (simp; omega) | (simp_all; done) | (simp_all; omega))) (by assumption)) ?_)); (try simp (disch := omega) only [push_cast, seval, ok, hin])) | ((with_reducible refine And.intro ?_ ?_); omega))
  refine PWp.loopK (α := GLanes × Nat) (fun x => match x with | (q, n) => [(2, .ptr 0 0), (5, .val (.int .i64 (n : Int)))]) [0, 3, 6, 7, 8, 9, 10, 11, 12, 13, 14, 15, 16, 17, 18, 19, 20, 21, 22, 23, 24, 25, 26, 27, 28, 29, 30, 31, 32] (fun x => match x with | (q, n) => [some (.box (pLanes q))]) (fun x => match x with | (q, n) => lanesOk q = true ∧ q.fRows.length = l.fRows.length ∧ waitN l k = n + waitN q k ∧ n + total q.fRows ≤ 30) (fun x => match x with | (q, n) => total q.fRows) ((l, 0)) (⟨ok, rfl, by simp, by simpa using t30⟩) (by (refine ⟨[?_], ?_, ?_, ?_, ?_⟩; rotate_left 1; (· ((try simp (disch := omega) only [push_cast, seval]); (repeat' (first | exact trivial | exact rfl | refine And.intro ?_ ?_ | omega)))); (· ((try simp (disch := omega) only [push_cast, seval]); (repeat' (first | exact trivial | exact rfl | refine And.intro ?_ ?_ | omega)))); (· exact rfl); (· (first | exact trivial | exact ⟨rfl, trivial⟩ | exact ⟨rfl, rfl, trivial⟩)))) ?_
  intro x ρ hI; obtain ⟨q, n⟩ := x
  (try dsimp only at hI)
  refine PWp.at (tm' := ?_) (H' := ?_) ?_ ?_ ?_; rotate_left 2; (· ((try simp only [push_cast, seval]); exact rfl)); (· ((try dsimp only); exact rfl))
  obtain ⟨ok2, hlen, hw, htot⟩ := hI
  have hk2 : k < q.fRows.length := by omega
  have hq5 := (lanesOk_iff.1 ok2).n5
  obtain ⟨r, hx⟩ : ∃ r, q.fRows[k]? = some r := ⟨_, List.getElem?_eq_getElem hk2⟩
  have hR := laneR_get hx
  cases r with
  | nil =>
    rw [waitN_empty hR] at hw
    obtain ⟨rows, t⟩ := q
    dsimp only at *
    repeat' (first | with_reducible refine PWp.seq ?_ | with_reducible refine PWp.block ?_ | with_reducible refine PWp.region okP true ?_ | with_reducible (first | refine pops_nil ?_ | refine pany_nil ?_ | refine pthen_normal ?_ | refine pblock_normal ?_ | refine pthen_ret ?_ | refine pblock_ret ?_ | refine pthen_exit ?_ | refine pblock_here ?_ | refine pblock_there rfl ?_ | refine PWp.ret ?_ | refine PWp.exit ?_ | refine PWp.skip ?_) | ((with_reducible refine hK _ ?_); clear hK K) | ((with_reducible refine PWp.condI ?_); refine ⟨_, rfl, fun hg => ?_, fun hg => ?_⟩ <;> first | (exact absurd hg (by decide)) | ((try simp only [Bool.not_true, Bool.not_false] at hg); (try simp only [hg]); (try simp only [push_cast] at hg); (try exact absurd trivial hg); (try (exfalso; omega)))) | ((with_reducible refine pops_guard0 ?_); refine ⟨_, rfl, fun K hK => ⟨rfl, ?_⟩⟩; (try simp (disch := omega) only [push_cast, seval, hx])) | ((with_reducible refine pops_plain fun K hK => ?_); simp (disch := omega) only [push_cast, seval, hx]) | ((with_reducible refine pops_guard ?_); refine ⟨_, rfl, fun K hK => ⟨_, rfl, fun hg => ?_, fun hg => ?_⟩⟩ <;> first | (exact absurd hg (by decide)) | ((try simp only [Bool.not_true, Bool.not_false] at hg); (try simp only [hg]); (try simp only [push_cast] at hg); (try exact absurd trivial hg); (try (exfalso; omega)); (try simp (disch := omega) only [push_cast, seval, hx]))) | ((with_reducible show pcall _ _ _ _ _ _); (first | (refine pcF (g := 56) (callable_of Try.func56 rfl rfl) (iLanesNext_p ⟨_, _⟩ (by (first | assumption | omega | (simp; omega) | (simp_all; done) | (simp_all; omega)))) ?_) | (refine pcV (g := 84) (callable_of Try.func84 rfl rfl) (within_p _ _ _) ?_) | (refine pcV (g := 118) (callable_of Try.func118 rfl rfl) (iLanesOk_p ⟨_, _⟩ (by (first | assumption | omega | (simp; omega) | (simp_all; done) | (simp_all; omega))) (by assumption)) ?_)); (try simp (disch := omega) only [push_cast, seval, hx])) | ((with_reducible refine And.intro ?_ ?_); omega))
    ((first | with_reducible (first | refine pendV1 ?_ ?_ ?_ | refine pendV2 ?_ ?_ ?_ | refine pendV3 ?_ ?_ ?_ | refine pendV0 ?_ ?_ ?_) | refine pendVG ?_ ?_ ?_); (· (first | exact .inl rfl | exact .inr rfl)); rotate_left 1; (· exact rfl); (try (apply Exists.intro; apply And.intro; (· repeat' (first | exact presults_nil | apply presults_tmp | (apply presults_agg; (· exact rfl); (· exact rfl); (· exact rfl); (· exact rfl); (· exact rfl); (· first | exact Nat.le_refl _ | decide | simp)) | (apply presults_one; (· exact rfl); (· exact rfl); (· exact rfl); (· exact rfl); (· exact rfl)))))); (try simp only [push_cast, seval]))
    rw [hw]
    rfl
  | cons x r =>
    have hne : laneR q k ≠ [] := by rw [hR]; simp
    rw [waitN_step ok2 hk2 hne] at hw
    obtain ⟨i, hi⟩ := next_found ok2 hk2 hne
    have ht := next_total hi
    have nx := next_frz (iLanesNext_p q ok2)
    have okn := lanesOk_next ok2
    have hln := next_len q
    generalize lanesNext q = y at nx ht hw okn hln
    obtain ⟨⟨rows', t'⟩, a, b⟩ := y
    obtain ⟨rows, t⟩ := q
    dsimp only at *
    repeat' (first | with_reducible refine PWp.seq ?_ | with_reducible refine PWp.block ?_ | with_reducible refine PWp.region okP true ?_ | with_reducible (first | refine pops_nil ?_ | refine pany_nil ?_ | refine pthen_normal ?_ | refine pblock_normal ?_ | refine pthen_ret ?_ | refine pblock_ret ?_ | refine pthen_exit ?_ | refine pblock_here ?_ | refine pblock_there rfl ?_ | refine PWp.ret ?_ | refine PWp.exit ?_ | refine PWp.skip ?_) | ((with_reducible refine hK _ ?_); clear hK K) | ((with_reducible refine PWp.condI ?_); refine ⟨_, rfl, fun hg => ?_, fun hg => ?_⟩ <;> first | (exact absurd hg (by decide)) | ((try simp only [Bool.not_true, Bool.not_false] at hg); (try simp only [hg]); (try simp only [push_cast] at hg); (try exact absurd trivial hg); (try (exfalso; omega)))) | ((with_reducible refine pops_guard0 ?_); refine ⟨_, rfl, fun K hK => ⟨rfl, ?_⟩⟩; (try simp (disch := omega) only [push_cast, seval, hx])) | ((with_reducible refine pops_plain fun K hK => ?_); simp (disch := omega) only [push_cast, seval, hx]) | ((with_reducible refine pops_guard ?_); refine ⟨_, rfl, fun K hK => ⟨_, rfl, fun hg => ?_, fun hg => ?_⟩⟩ <;> first | (exact absurd hg (by decide)) | ((try simp only [Bool.not_true, Bool.not_false] at hg); (try simp only [hg]); (try simp only [push_cast] at hg); (try exact absurd trivial hg); (try (exfalso; omega)); (try simp (disch := omega) only [push_cast, seval, hx]))) | ((with_reducible show pcall _ _ _ _ _ _); (first | (refine pcF (g := 56) (callable_of Try.func56 rfl rfl) (nx) ?_) | (refine pcV (g := 84) (callable_of Try.func84 rfl rfl) (within_p _ _ _) ?_) | (refine pcV (g := 118) (callable_of Try.func118 rfl rfl) (iLanesOk_p ⟨_, _⟩ (by (first | assumption | omega | (simp; omega) | (simp_all; done) | (simp_all; omega))) (by assumption)) ?_)); (try simp (disch := omega) only [push_cast, seval, hx])) | ((with_reducible refine And.intro ?_ ?_); omega))
    (refine ⟨(⟨rows', t'⟩, n + 1), by ((try dsimp only); omega), ?_, by (refine ⟨[?_], ?_, ?_, ?_, ?_⟩; rotate_left 1; (· ((try simp (disch := omega) only [push_cast, seval]); (repeat' (first | exact trivial | exact rfl | refine And.intro ?_ ?_ | omega)))); (· ((try simp (disch := omega) only [push_cast, seval]); (repeat' (first | exact trivial | exact rfl | refine And.intro ?_ ?_ | omega)))); (· exact rfl); (· (first | exact trivial | exact ⟨rfl, trivial⟩ | exact ⟨rfl, rfl, trivial⟩)))⟩)
    exact ⟨okn, by dsimp only; omega, by dsimp only; omega, by dsimp only; omega⟩
theorem wsets_rngT (f : Option Blk → Option Blk) : ∀ (L' pre L tl rest : Hp) (a : Nat), pre.length = a → L.length = L'.length → wsets f (List.range' a L'.length) (L' ++ rest) (pre ++ (L ++ tl)) = pre ++ (L'.map f ++ tl)
  | [], pre, L, tl, rest, a, _, h => by
    have : L = [] := List.eq_nil_of_length_eq_zero (by simpa using h)
    subst this
    rfl
  | B :: L', pre, [], tl, rest, a, _, h => by simp at h
  | B :: L', pre, C :: L, tl, rest, a, hp, h => by
    rw [List.length_cons, List.range'_succ]
    show wsets f (List.range' (a + 1) L'.length) (L' ++ rest) ((pre ++ C :: (L ++ tl)).set a (f B)) = _
    have : (pre ++ C :: (L ++ tl)).set a (f B) = (pre ++ [f B]) ++ (L ++ tl) := by
      rw [List.set_append_right _ _ (by omega), show a - pre.length = 0 by omega]
      simp
    rw [this, wsets_rngT f L' (pre ++ [f B]) L tl rest (a + 1) (by simp; omega) (by simpa using h)]
    simp
theorem wback_rowsT {n N : Nat} {b0 o o' : Option Blk} {L L' tl ext : Hp} (h1 : L.length = n) (h2 : L'.length = n) (hN : N = n + 2 + tl.length) : wback (1 :: List.range' 2 n) (b0 :: o :: (L ++ tl)) (o' :: (L' ++ ext)) = b0 :: renB (1 :: List.range' 2 n) N o' :: (L'.map (renB (1 :: List.range' 2 n) N) ++ (tl ++ ext.map (renB (1 :: List.range' 2 n) N))) := by
  unfold wback
  have hl : (b0 :: o :: (L ++ tl)).length = N := by simp [h1, hN]; omega
  rw [hl]
  have hd : (o' :: (L' ++ ext)).drop (1 :: List.range' 2 n).length = ext := by
    simp only [List.length_cons, List.length_range', List.drop_succ_cons]
    rw [← h2, List.drop_left]
  rw [hd]
  show wsets _ (List.range' 2 n) (L' ++ ext) ([b0, renB (1 :: List.range' 2 n) N o'] ++ (L ++ tl)) ++ _ = _
  rw [← h2, wsets_rngT _ L' _ L tl ext 2 rfl (by omega)]
  simp
theorem own_backT {n k N : Nat} : ((ownL 1 n).set k [.own (n + 1)]).map (renL (1 :: List.range' 2 n) N) = (ownL 2 n).set k [.own N] := by
  rw [List.map_set, own_shift]
  have : rn (1 :: List.range' 2 n) N (n + 1) = N := by rw [rn_ge (by simp)]; simp
  simp only [renL_cons, renL_nil, ren_own, this]
theorem rn_w {n k m z N i : Nat} (h : i < n) : rn (0 :: 1 :: ((List.range' 2 n).set k m ++ [z])) N (2 + i) = if k = i then m else 2 + i := by
  refine rn_at ?_
  rw [show 2 + i = i + 1 + 1 by omega]
  simp only [List.getElem?_cons_succ]
  rw [List.getElem?_append_left (by simpa using h)]
  by_cases e : k = i
  · subst e; rw [List.getElem?_set_self (by simpa using h), if_pos rfl]
  · rw [List.getElem?_set_ne e, List.getElem?_range' h, if_neg e]; simp; omega
theorem rn_wz {n k m z N : Nat} : rn (0 :: 1 :: ((List.range' 2 n).set k m ++ [z])) N (n + 1 + 1) = z := by
  refine rn_at ?_
  simp only [List.getElem?_cons_succ]
  rw [List.getElem?_append_right (by simp)]
  simp
theorem own_w {n k m z N : Nat} : (ownL 2 n).map (renL (0 :: 1 :: ((List.range' 2 n).set k m ++ [z])) N) = (ownL 2 n).set k [.own m] := by
  refine ownL_ren (by simp [ownL_len]) fun j hj => ?_
  rw [rn_w hj]
  by_cases e : k = j
  · subst e
    rw [List.getElem?_set_self (by rw [ownL_len]; exact hj), if_pos rfl]
  · rw [List.getElem?_set_ne e, ownL_get hj, if_neg e]
theorem nodup_w {n k m z : Nat} (h1 : n + 2 ≤ m) (h2 : n + 2 ≤ z) (h3 : m ≠ z) : nodupR (0 :: 1 :: ((List.range' 2 n).set k m ++ [z])) = true := by
  have hs := nodup_set (c := 1) (a := 2) (n := n) (k := k) (m := m) (by omega) (by omega)
  have hs2 := (List.nodup_cons.1 (nodupR_ok hs)).2
  have mem : ∀ x, x ∈ (List.range' 2 n).set k m → 2 ≤ x ∧ x ≠ z := fun x hx => by
    rcases List.mem_or_eq_of_mem_set hx with q | q
    · have := List.mem_range'_1.1 q; omega
    · omega
  refine nodupR_of (List.nodup_cons.2 ⟨fun hx => ?_, List.nodup_cons.2 ⟨fun hx => ?_, List.nodup_append.2 ⟨hs2, by simp, fun a ha b hb => by have := mem a ha; have := List.mem_singleton.1 hb; omega⟩⟩⟩)
  · simp only [List.mem_cons, List.mem_append, List.not_mem_nil, or_false] at hx
    rcases hx with hx | hx | hx
    · omega
    · have := mem _ hx; omega
    · omega
  · simp only [List.mem_append, List.mem_cons, List.not_mem_nil, or_false] at hx
    rcases hx with hx | hx
    · have := mem _ hx; omega
    · omega
theorem blk_w {φ : List Nat} {N k m z : Nat} {rows : List (List Int)} {r' : List Int} {b0 o B : Option Blk} {H : Hp} {ext : Hp} (hH : H = b0 :: o :: ((rows.map bRow).set k none ++ ext)) (hk : k < rows.length) (hm : H[m]? = some (bRow r')) (hz : ∃ X, B = some X ∧ H[z]? = some (renB φ N (some X))) : blkR φ N H ((List.range' 2 rows.length).set k m ++ [z]) ((rows.set k r').map bRow ++ [B]) := by
  obtain ⟨X, rfl, hz⟩ := hz
  refine blkR_app (blk_set (fun i r hi hr => ?_) hm) ⟨hz, trivial⟩
  rw [hH, show 2 + i = i + 1 + 1 by omega]
  simp only [List.getElem?_cons_succ]
  have := (List.getElem?_eq_some_iff.1 hr).1
  rw [List.getElem?_append_left (by simpa using this), List.getElem?_set_ne (fun q => hi q.symm), List.getElem?_map, hr]
  rfl
theorem wait_same {l : GLanes} {N : Nat} : blkR (List.range (l.fRows.length + 3)) N (some (.box (pLanes l)) :: some (.row 51 1 (ownL 2 l.fRows.length)) :: (l.fRows.map bRow ++ [some (.box [.own 1, .val (.int .i64 l.fTurn)])])) (List.range (l.fRows.length + 3)) (some (.box (pLanes l)) :: some (.row 51 1 (ownL 2 l.fRows.length)) :: (l.fRows.map bRow ++ [some (.box [.own 1, .val (.int .i64 l.fTurn)])])) := by
  refine blkR_same (by simp) fun B hB => ?_
  simp only [List.mem_cons, List.mem_append, List.mem_map, Option.some.injEq, List.not_mem_nil, or_false] at hB
  rcases hB with rfl | rfl | ⟨r, _, h⟩ | rfl
  · simp only [renB_box, pLanes_one]
  · rw [renB_row, ownL_fix (by omega)]
  · rw [← h]; exact bRow_fix
  · simp only [renB_box, renL_cons, renL_nil, ren_val, ren_own]; rw [rn_rng (by omega)]
set_option maxHeartbeats 2000000 in
theorem sLanesWait_p (l : GLanes) (lane : Int) (hl : l.fRows.length ≤ 1099511627776) (hr : ∀ r ∈ l.fRows, r.length ≤ 1099511627776) : PCalls Try.prog 54 [.agg (pLanes l), .val (.int .i64 lane)] [] (RV (.val (.int .i64 (lanesWait l lane)))) := by
  cases ok : lanesOk l with
  | false =>
    have e : lanesWait l lane = 0 := by unfold lanesWait; rw [ok]; rfl
    rw [e]
    refine pcalls_ofR okP Try.func54 rfl ?_
    simp only [Try.f54, List.length_cons, List.length_nil, Nat.reduceAdd, Nat.reduceSub, List.replicate_succ, List.replicate_zero, List.cons_append, List.nil_append, List.length_map]
    repeat' (first | with_reducible refine PWp.seq ?_ | with_reducible refine PWp.block ?_ | with_reducible refine PWp.region okP true ?_ | with_reducible (first | refine pops_nil ?_ | refine pany_nil ?_ | refine pthen_normal ?_ | refine pblock_normal ?_ | refine pthen_ret ?_ | refine pblock_ret ?_ | refine pthen_exit ?_ | refine pblock_here ?_ | refine pblock_there rfl ?_ | refine PWp.ret ?_ | refine PWp.exit ?_ | refine PWp.skip ?_) | ((with_reducible refine hK _ ?_); clear hK K) | ((with_reducible refine PWp.condI ?_); refine ⟨_, rfl, fun hg => ?_, fun hg => ?_⟩ <;> first | (exact absurd hg (by decide)) | ((try simp only [Bool.not_true, Bool.not_false] at hg); (try simp only [hg]); (try simp only [push_cast] at hg); (try exact absurd trivial hg); (try (exfalso; omega)))) | ((with_reducible refine pops_guard0 ?_); refine ⟨_, rfl, fun K hK => ⟨rfl, ?_⟩⟩; (try simp (disch := omega) only [push_cast, seval, ok])) | ((with_reducible refine pops_plain fun K hK => ?_); simp (disch := omega) only [push_cast, seval, ok]) | ((with_reducible refine pops_guard ?_); refine ⟨_, rfl, fun K hK => ⟨_, rfl, fun hg => ?_, fun hg => ?_⟩⟩ <;> first | (exact absurd hg (by decide)) | ((try simp only [Bool.not_true, Bool.not_false] at hg); (try simp only [hg]); (try simp only [push_cast] at hg); (try exact absurd trivial hg); (try (exfalso; omega)); (try simp (disch := omega) only [push_cast, seval, ok]))) | ((with_reducible show pcall _ _ _ _ _ _); (first | (refine pcV (g := 55) (callable_of Try.func55 rfl rfl) (sLanesOk_p ⟨_, _⟩ (by (first | assumption | omega | (simp; omega) | (simp_all; done) | (simp_all; omega))) (by assumption)) ?_) | (refine pcF (g := 119) (callable_of Try.func119 rfl rfl) (sL21Copy_p ⟨_, _⟩ (by (first | assumption | omega | (simp; omega) | (simp_all; done) | (simp_all; omega))) (by assumption)) ?_)); (try simp (disch := omega) only [push_cast, seval, ok])) | ((with_reducible refine And.intro ?_ ?_); omega))
    ((first | with_reducible (first | refine pendV1 ?_ ?_ ?_ | refine pendV2 ?_ ?_ ?_ | refine pendV3 ?_ ?_ ?_ | refine pendV0 ?_ ?_ ?_) | refine pendVG ?_ ?_ ?_); (· (first | exact .inl rfl | exact .inr rfl)); rotate_left 1; (· exact rfl); (try (apply Exists.intro; apply And.intro; (· repeat' (first | exact presults_nil | apply presults_tmp | (apply presults_agg; (· exact rfl); (· exact rfl); (· exact rfl); (· exact rfl); (· exact rfl); (· first | exact Nat.le_refl _ | decide | simp)) | (apply presults_one; (· exact rfl); (· exact rfl); (· exact rfl); (· exact rfl); (· exact rfl)))))); (try simp only [push_cast, seval]))
  | true =>
  have f := lanesOk_iff.1 ok
  have hn := f.n5
  have hr5 : ∀ r ∈ l.fRows, r.length ≤ 6 := fun r hr => by obtain ⟨k, hk, rfl⟩ := List.getElem_of_mem hr; exact (f.row k _ (List.getElem?_eq_getElem hk)).1
  have hr2 : ∀ r ∈ l.fRows, r.length ≤ 2000000 := fun r hr => by have := hr5 r hr; omega
  by_cases hin : 0 ≤ lane ∧ lane < l.fRows.length
  case neg =>
    have e : lanesWait l lane = 0 := by
      have : inB lane 0 ((l.fRows.length : Int) - 1) = false := by rw [← Bool.not_eq_true, inB_iff]; omega
      unfold lanesWait; rw [ok, this]; rfl
    rw [e]
    by_cases h0 : lane < 0
    ·
      refine pcalls_ofR okP Try.func54 rfl ?_
      simp only [Try.f54, List.length_cons, List.length_nil, Nat.reduceAdd, Nat.reduceSub, List.replicate_succ, List.replicate_zero, List.cons_append, List.nil_append, List.length_map]
      repeat' (first | with_reducible refine PWp.seq ?_ | with_reducible refine PWp.block ?_ | with_reducible refine PWp.region okP true ?_ | with_reducible (first | refine pops_nil ?_ | refine pany_nil ?_ | refine pthen_normal ?_ | refine pblock_normal ?_ | refine pthen_ret ?_ | refine pblock_ret ?_ | refine pthen_exit ?_ | refine pblock_here ?_ | refine pblock_there rfl ?_ | refine PWp.ret ?_ | refine PWp.exit ?_ | refine PWp.skip ?_) | ((with_reducible refine hK _ ?_); clear hK K) | ((with_reducible refine PWp.condI ?_); refine ⟨_, rfl, fun hg => ?_, fun hg => ?_⟩ <;> first | (exact absurd hg (by decide)) | ((try simp only [Bool.not_true, Bool.not_false] at hg); (try simp only [hg]); (try simp only [push_cast] at hg); (try exact absurd trivial hg); (try (exfalso; omega)))) | ((with_reducible refine pops_guard0 ?_); refine ⟨_, rfl, fun K hK => ⟨rfl, ?_⟩⟩; (try simp (disch := omega) only [push_cast, seval, ok])) | ((with_reducible refine pops_plain fun K hK => ?_); simp (disch := omega) only [push_cast, seval, ok]) | ((with_reducible refine pops_guard ?_); refine ⟨_, rfl, fun K hK => ⟨_, rfl, fun hg => ?_, fun hg => ?_⟩⟩ <;> first | (exact absurd hg (by decide)) | ((try simp only [Bool.not_true, Bool.not_false] at hg); (try simp only [hg]); (try simp only [push_cast] at hg); (try exact absurd trivial hg); (try (exfalso; omega)); (try simp (disch := omega) only [push_cast, seval, ok]))) | ((with_reducible show pcall _ _ _ _ _ _); (first | (refine pcV (g := 55) (callable_of Try.func55 rfl rfl) (sLanesOk_p ⟨_, _⟩ (by (first | assumption | omega | (simp; omega) | (simp_all; done) | (simp_all; omega))) (by assumption)) ?_) | (refine pcF (g := 119) (callable_of Try.func119 rfl rfl) (sL21Copy_p ⟨_, _⟩ (by (first | assumption | omega | (simp; omega) | (simp_all; done) | (simp_all; omega))) (by assumption)) ?_)); (try simp (disch := omega) only [push_cast, seval, ok])) | ((with_reducible refine And.intro ?_ ?_); omega))
      ((first | with_reducible (first | refine pendV1 ?_ ?_ ?_ | refine pendV2 ?_ ?_ ?_ | refine pendV3 ?_ ?_ ?_ | refine pendV0 ?_ ?_ ?_) | refine pendVG ?_ ?_ ?_); (· (first | exact .inl rfl | exact .inr rfl)); rotate_left 1; (· exact rfl); (try (apply Exists.intro; apply And.intro; (· repeat' (first | exact presults_nil | apply presults_tmp | (apply presults_agg; (· exact rfl); (· exact rfl); (· exact rfl); (· exact rfl); (· exact rfl); (· first | exact Nat.le_refl _ | decide | simp)) | (apply presults_one; (· exact rfl); (· exact rfl); (· exact rfl); (· exact rfl); (· exact rfl)))))); (try simp only [push_cast, seval]))
    ·
      refine pcalls_ofR okP Try.func54 rfl ?_
      simp only [Try.f54, List.length_cons, List.length_nil, Nat.reduceAdd, Nat.reduceSub, List.replicate_succ, List.replicate_zero, List.cons_append, List.nil_append, List.length_map]
      repeat' (first | with_reducible refine PWp.seq ?_ | with_reducible refine PWp.block ?_ | with_reducible refine PWp.region okP true ?_ | with_reducible (first | refine pops_nil ?_ | refine pany_nil ?_ | refine pthen_normal ?_ | refine pblock_normal ?_ | refine pthen_ret ?_ | refine pblock_ret ?_ | refine pthen_exit ?_ | refine pblock_here ?_ | refine pblock_there rfl ?_ | refine PWp.ret ?_ | refine PWp.exit ?_ | refine PWp.skip ?_) | ((with_reducible refine hK _ ?_); clear hK K) | ((with_reducible refine PWp.condI ?_); refine ⟨_, rfl, fun hg => ?_, fun hg => ?_⟩ <;> first | (exact absurd hg (by decide)) | ((try simp only [Bool.not_true, Bool.not_false] at hg); (try simp only [hg]); (try simp only [push_cast] at hg); (try exact absurd trivial hg); (try (exfalso; omega)))) | ((with_reducible refine pops_guard0 ?_); refine ⟨_, rfl, fun K hK => ⟨rfl, ?_⟩⟩; (try simp (disch := omega) only [push_cast, seval, ok])) | ((with_reducible refine pops_plain fun K hK => ?_); simp (disch := omega) only [push_cast, seval, ok]) | ((with_reducible refine pops_guard ?_); refine ⟨_, rfl, fun K hK => ⟨_, rfl, fun hg => ?_, fun hg => ?_⟩⟩ <;> first | (exact absurd hg (by decide)) | ((try simp only [Bool.not_true, Bool.not_false] at hg); (try simp only [hg]); (try simp only [push_cast] at hg); (try exact absurd trivial hg); (try (exfalso; omega)); (try simp (disch := omega) only [push_cast, seval, ok]))) | ((with_reducible show pcall _ _ _ _ _ _); (first | (refine pcV (g := 55) (callable_of Try.func55 rfl rfl) (sLanesOk_p ⟨_, _⟩ (by (first | assumption | omega | (simp; omega) | (simp_all; done) | (simp_all; omega))) (by assumption)) ?_) | (refine pcF (g := 119) (callable_of Try.func119 rfl rfl) (sL21Copy_p ⟨_, _⟩ (by (first | assumption | omega | (simp; omega) | (simp_all; done) | (simp_all; omega))) (by assumption)) ?_)); (try simp (disch := omega) only [push_cast, seval, ok])) | ((with_reducible refine And.intro ?_ ?_); omega))
      ((first | with_reducible (first | refine pendV1 ?_ ?_ ?_ | refine pendV2 ?_ ?_ ?_ | refine pendV3 ?_ ?_ ?_ | refine pendV0 ?_ ?_ ?_) | refine pendVG ?_ ?_ ?_); (· (first | exact .inl rfl | exact .inr rfl)); rotate_left 1; (· exact rfl); (try (apply Exists.intro; apply And.intro; (· repeat' (first | exact presults_nil | apply presults_tmp | (apply presults_agg; (· exact rfl); (· exact rfl); (· exact rfl); (· exact rfl); (· exact rfl); (· first | exact Nat.le_refl _ | decide | simp)) | (apply presults_one; (· exact rfl); (· exact rfl); (· exact rfl); (· exact rfl); (· exact rfl)))))); (try simp only [push_cast, seval]))
  obtain ⟨k, rfl⟩ : ∃ k : Nat, lane = k := ⟨lane.toNat, by omega⟩
  have hk : k < l.fRows.length := by omega
  have hin2 : inB (k : Int) 0 ((l.fRows.length : Int) - 1) = true := inB_iff.2 (by omega)
  have e : lanesWait l k = (waitN l k : Int) := by unfold lanesWait; rw [ok, hin2, Int.toNat_natCast]; rfl
  rw [e]
  have t30 := total30 ok
  refine pcalls_ofR okP Try.func54 rfl ?_
  simp only [Try.f54, List.length_cons, List.length_nil, Nat.reduceAdd, Nat.reduceSub, List.replicate_succ, List.replicate_zero, List.cons_append, List.nil_append, List.length_map]
  repeat' (first | with_reducible refine PWp.seq ?_ | with_reducible refine PWp.block ?_ | with_reducible refine PWp.region okP true ?_ | with_reducible (first | refine pops_nil ?_ | refine pany_nil ?_ | refine pthen_normal ?_ | refine pblock_normal ?_ | refine pthen_ret ?_ | refine pblock_ret ?_ | refine pthen_exit ?_ | refine pblock_here ?_ | refine pblock_there rfl ?_ | refine PWp.ret ?_ | refine PWp.exit ?_ | refine PWp.skip ?_) | ((with_reducible refine hK _ ?_); clear hK K) | ((with_reducible refine PWp.condI ?_); refine ⟨_, rfl, fun hg => ?_, fun hg => ?_⟩ <;> first | (exact absurd hg (by decide)) | ((try simp only [Bool.not_true, Bool.not_false] at hg); (try simp only [hg]); (try simp only [push_cast] at hg); (try exact absurd trivial hg); (try (exfalso; omega)))) | ((with_reducible refine pops_guard0 ?_); refine ⟨_, rfl, fun K hK => ⟨rfl, ?_⟩⟩; (try simp (disch := omega) only [push_cast, seval, ok])) | ((with_reducible refine pops_plain fun K hK => ?_); simp (disch := omega) only [push_cast, seval, ok]) | ((with_reducible refine pops_guard ?_); refine ⟨_, rfl, fun K hK => ⟨_, rfl, fun hg => ?_, fun hg => ?_⟩⟩ <;> first | (exact absurd hg (by decide)) | ((try simp only [Bool.not_true, Bool.not_false] at hg); (try simp only [hg]); (try simp only [push_cast] at hg); (try exact absurd trivial hg); (try (exfalso; omega)); (try simp (disch := omega) only [push_cast, seval, ok]))) | ((with_reducible show pcall _ _ _ _ _ _); (first | (refine pcV (g := 55) (callable_of Try.func55 rfl rfl) (sLanesOk_p ⟨_, _⟩ (by (first | assumption | omega | (simp; omega) | (simp_all; done) | (simp_all; omega))) (by assumption)) ?_) | (refine pcF (g := 119) (callable_of Try.func119 rfl rfl) (sL21Copy_p ⟨_, _⟩ (by (first | assumption | omega | (simp; omega) | (simp_all; done) | (simp_all; omega))) (by assumption)) ?_)); (try simp (disch := omega) only [push_cast, seval, ok])) | ((with_reducible refine And.intro ?_ ?_); omega))
  refine PWp.loopK (α := GLanes × Nat) (fun x => match x with | (q, n) => [(2, .ptr 0 0), (5, .ptr (l.fRows.length + 1 + 1) 0), (6, .val (.int .i64 (n : Int)))]) [0, 3, 7, 8, 9, 10, 11, 12, 13, 14, 15, 16, 17, 18, 19, 20, 21, 22, 23, 24, 25, 26, 27, 28, 29, 30, 31, 32, 33, 34, 35, 36, 37, 38, 39, 40, 41] (fun x => match x with | (q, n) => some (.box (pLanes l)) :: some (.row 51 1 (ownL 2 q.fRows.length)) :: (q.fRows.map bRow ++ [some (.box [.own 1, .val (.int .i64 q.fTurn)])])) (fun x => match x with | (q, n) => lanesOk q = true ∧ q.fRows.length = l.fRows.length ∧ waitN l k = n + waitN q k ∧ n + total q.fRows ≤ 30) (fun x => match x with | (q, n) => total q.fRows) ((l, 0)) (⟨ok, rfl, by simp, by simpa using t30⟩) (⟨List.range (l.fRows.length + 3), by ((try simp (disch := omega) only [push_cast, seval, rn_rng]); (repeat' (first | exact trivial | exact rfl | refine And.intro ?_ ?_ | omega))), wait_same, nodup_rng, trivial⟩) ?_
  intro x ρ hI; obtain ⟨q, n⟩ := x
  (try dsimp only at hI)
  refine PWp.at (tm' := ?_) (H' := ?_) ?_ ?_ ?_; rotate_left 2; (· ((try simp only [push_cast, seval]); exact rfl)); (· ((try dsimp only); exact rfl))
  obtain ⟨ok2, hlen, hw, htot⟩ := hI
  have hk2 : k < q.fRows.length := by omega
  have hq5 := (lanesOk_iff.1 ok2).n5
  obtain ⟨r, hx⟩ : ∃ r, q.fRows[k]? = some r := ⟨_, List.getElem?_eq_getElem hk2⟩
  have hR := laneR_get hx
  have hLk : (q.fRows.map bRow)[k]? = some (some (.row 3 1 (r.map pInt))) := by rw [List.getElem?_map, hx]; rfl
  dsimp only
  rw [← hlen]
  cases r with
  | nil =>
    rw [waitN_empty hR] at hw
    obtain ⟨rows, t⟩ := q
    dsimp only at *
    repeat' (first | with_reducible refine PWp.seq ?_ | with_reducible refine PWp.block ?_ | with_reducible refine PWp.region okP true ?_ | with_reducible (first | refine pops_nil ?_ | refine pany_nil ?_ | refine pthen_normal ?_ | refine pblock_normal ?_ | refine pthen_ret ?_ | refine pblock_ret ?_ | refine pthen_exit ?_ | refine pblock_here ?_ | refine pblock_there rfl ?_ | refine PWp.ret ?_ | refine PWp.exit ?_ | refine PWp.skip ?_) | ((with_reducible refine hK _ ?_); clear hK K) | ((with_reducible refine PWp.condI ?_); refine ⟨_, rfl, fun hg => ?_, fun hg => ?_⟩ <;> first | (exact absurd hg (by decide)) | ((try simp only [Bool.not_true, Bool.not_false] at hg); (try simp only [hg]); (try simp only [push_cast] at hg); (try exact absurd trivial hg); (try (exfalso; omega)))) | ((with_reducible refine pops_guard0 ?_); refine ⟨_, rfl, fun K hK => ⟨rfl, ?_⟩⟩; (try simp (disch := omega) only [push_cast, seval, ownL_at hk2, app_get hLk])) | ((with_reducible refine pops_plain fun K hK => ?_); simp (disch := omega) only [push_cast, seval, ownL_at hk2, app_get hLk]) | ((with_reducible refine pops_guard ?_); refine ⟨_, rfl, fun K hK => ⟨_, rfl, fun hg => ?_, fun hg => ?_⟩⟩ <;> first | (exact absurd hg (by decide)) | ((try simp only [Bool.not_true, Bool.not_false] at hg); (try simp only [hg]); (try simp only [push_cast] at hg); (try exact absurd trivial hg); (try (exfalso; omega)); (try simp (disch := omega) only [push_cast, seval, ownL_at hk2, app_get hLk]))) | ((with_reducible show pcall _ _ _ _ _ _); (first | (refine pcV (g := 55) (callable_of Try.func55 rfl rfl) (sLanesOk_p ⟨_, _⟩ (by (first | assumption | omega | (simp; omega) | (simp_all; done) | (simp_all; omega))) (by assumption)) ?_) | (refine pcF (g := 119) (callable_of Try.func119 rfl rfl) (sL21Copy_p ⟨_, _⟩ (by (first | assumption | omega | (simp; omega) | (simp_all; done) | (simp_all; omega))) (by assumption)) ?_)); (try simp (disch := omega) only [push_cast, seval, ownL_at hk2, app_get hLk])) | ((with_reducible refine And.intro ?_ ?_); omega))
    ((first | with_reducible (first | refine pendV1 ?_ ?_ ?_ | refine pendV2 ?_ ?_ ?_ | refine pendV3 ?_ ?_ ?_ | refine pendV0 ?_ ?_ ?_) | refine pendVG ?_ ?_ ?_); (· (first | exact .inl rfl | exact .inr rfl)); rotate_left 1; (· exact rfl); (try (apply Exists.intro; apply And.intro; (· repeat' (first | exact presults_nil | apply presults_tmp | (apply presults_agg; (· exact rfl); (· exact rfl); (· exact rfl); (· exact rfl); (· exact rfl); (· first | exact Nat.le_refl _ | decide | simp)) | (apply presults_one; (· exact rfl); (· exact rfl); (· exact rfl); (· exact rfl); (· exact rfl)))))); (try simp only [push_cast, seval]))
    rw [hw]
    rfl
  | cons x r =>
    have hne : laneR q k ≠ [] := by rw [hR]; simp
    rw [waitN_step ok2 hk2 hne] at hw
    obtain ⟨i, hi⟩ := next_found ok2 hk2 hne
    have ht := next_total hi
    have okn := lanesOk_next ok2
    have hln := next_len q
    obtain ⟨x', r', hx'⟩ := laneK_row hi
    have e := next_some hi hx'
    generalize hka : laneAt q i = j at hx' e
    have nx := sL21Next_some q ok2 hi hka hx'
    rw [e] at ht hw okn hln
    obtain ⟨rows, t⟩ := q
    dsimp only at *
    have hjl := (List.getElem?_eq_some_iff.1 hx').1
    generalize (j + 1) % rows.length = t' at nx ht hw okn hln
    repeat' (first | with_reducible refine PWp.seq ?_ | with_reducible refine PWp.block ?_ | with_reducible refine PWp.region okP true ?_ | with_reducible (first | refine pops_nil ?_ | refine pany_nil ?_ | refine pthen_normal ?_ | refine pblock_normal ?_ | refine pthen_ret ?_ | refine pblock_ret ?_ | refine pthen_exit ?_ | refine pblock_here ?_ | refine pblock_there rfl ?_ | refine PWp.ret ?_ | refine PWp.exit ?_ | refine PWp.skip ?_) | ((with_reducible refine hK _ ?_); clear hK K) | ((with_reducible refine PWp.condI ?_); refine ⟨_, rfl, fun hg => ?_, fun hg => ?_⟩ <;> first | (exact absurd hg (by decide)) | ((try simp only [Bool.not_true, Bool.not_false] at hg); (try simp only [hg]); (try simp only [push_cast] at hg); (try exact absurd trivial hg); (try (exfalso; omega)))) | ((with_reducible refine pops_guard0 ?_); refine ⟨_, rfl, fun K hK => ⟨rfl, ?_⟩⟩; (try simp (disch := omega) only [push_cast, seval, ownL_at hk2, app_get hLk])) | ((with_reducible refine pops_plain fun K hK => ?_); simp (disch := omega) only [push_cast, seval, ownL_at hk2, app_get hLk]) | ((with_reducible refine pops_guard ?_); refine ⟨_, rfl, fun K hK => ⟨_, rfl, fun hg => ?_, fun hg => ?_⟩⟩ <;> first | (exact absurd hg (by decide)) | ((try simp only [Bool.not_true, Bool.not_false] at hg); (try simp only [hg]); (try simp only [push_cast] at hg); (try exact absurd trivial hg); (try (exfalso; omega)); (try simp (disch := omega) only [push_cast, seval, ownL_at hk2, app_get hLk]))) | ((with_reducible show pcall _ _ _ _ _ _); (first | (refine pcV (g := 55) (callable_of Try.func55 rfl rfl) (sLanesOk_p ⟨_, _⟩ (by (first | assumption | omega | (simp; omega) | (simp_all; done) | (simp_all; omega))) (by assumption)) ?_) | (refine pcF (g := 119) (callable_of Try.func119 rfl rfl) (sL21Copy_p ⟨_, _⟩ (by (first | assumption | omega | (simp; omega) | (simp_all; done) | (simp_all; omega))) (by assumption)) ?_) | ((refine pcall_RG (g := 120) (1 :: List.range' 2 rows.length) (callable_of Try.func120 rfl rfl) nx (by ((try simp (disch := omega) only [push_cast, seval]); (repeat' (first | exact trivial | exact rfl | refine And.intro ?_ ?_ | omega)))) ⟨by ((try simp (disch := omega) only [push_cast, seval, own_shift]); (repeat' (first | exact trivial | exact rfl | refine And.intro ?_ ?_ | omega))), blk_shiftE [_, _] _ rfl⟩ bLa_some (nodup_shift (by omega)) ?_; rw [wback_rowsT (N := rows.length + 3) (by simp) (by simp) (by simp), bRows_fixS, renB_row, own_backT, List.map_cons, List.map_nil, bRow_fix]; dsimp only))); (try simp (disch := omega) only [push_cast, seval, ownL_at hk2, app_get hLk])) | ((with_reducible refine And.intro ?_ ?_); omega))
    refine ⟨(⟨rows.set j r', t'⟩, n + 1), by dsimp only; omega, ⟨okn, by dsimp only; omega, by dsimp only; omega, by dsimp only; omega⟩, 0 :: 1 :: ((List.range' 2 rows.length).set j (rows.length + 3) ++ [rows.length + 1 + 1]), ?_, ⟨?_, ?_, blk_w rfl hjl ?_ ⟨_, rfl, ?_⟩⟩, nodup_w (by omega) (by omega) (by omega), trivial⟩
    · ((try simp (disch := omega) only [push_cast, seval, rn_wz]); (repeat' (first | exact trivial | exact rfl | refine And.intro ?_ ?_ | omega)))
    · ((try simp (disch := omega) only [push_cast, seval]); (repeat' (first | exact trivial | exact rfl | refine And.intro ?_ ?_ | omega)))
    · ((try simp (disch := omega) only [push_cast, seval, List.length_set, own_w]); (repeat' (first | exact trivial | exact rfl | refine And.intro ?_ ?_ | omega)))
    · ((try simp (disch := omega) only [push_cast, seval]); (repeat' (first | exact trivial | exact rfl | refine And.intro ?_ ?_ | omega)))
    · ((try simp (disch := omega) only [push_cast, seval]); (repeat' (first | exact trivial | exact rfl | refine And.intro ?_ ?_ | omega)))
end Go.Proofs.Ytkbikihbomnghaa
