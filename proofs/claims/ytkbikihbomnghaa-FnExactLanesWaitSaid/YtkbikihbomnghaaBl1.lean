/- What the laws ask of rows that wait in turn, in the model's worlds. -/
import Derived.Test.YtkbikihbomnghaaPl5
import Derived.Test.YtkbikihbomnghaaT1
import Derived.Test.YtkbikihbomnghaaK6
namespace Go.Proofs.Ytkbikihbomnghaa
set_option linter.unusedSimpArgs false
set_option linter.unusedVariables false
open Go.RowKit
set_option maxRecDepth 100000
theorem GlobW.ext {w w' : World} (h : GlobW w) (e : Ext w w') : GlobW w' := fun i n q => e.cellSome (h i n q)
def mLanesWait (l : GLanes) (lane : Int) : Int := lanesWait l lane
def lanes0 : GLanes := ⟨[], 0⟩
def mLanesPut (l : GLanes) (lane x : Int) : GLanes × Bool := if lanesOk l then lanesPut l lane x else (lanes0, false)
def mLanesNext (l : GLanes) : GLanes × Int × Int := if lanesOk l then lanesNext l else (lanes0, -1, -1)
theorem sz_rows : ∀ (rows : List (List Int)), szL (rows.flatMap encRow) = total rows
  | [] => by simp [szL, total]
  | r :: rows => by
    rw [List.flatMap_cons, szL_append, sz_rows rows]
    simp [encRow, slD, szL, szL_zero (enc := encInt) (fun x => by simp [encInt, szL]), total]
theorem sz_lanes (q : GLanes) : szL (encLanes q) = q.fRows.length + total q.fRows := by
  simp only [encLanes, slD, szL, sz_rows]
  omega
theorem rows_sm {x : GLanes} (z : szL (encLanes x) ≤ 1048576) : ∀ r ∈ x.fRows, r.length ≤ 1099511627776 := fun r hr => by
  rw [sz_lanes] at z
  have : r.length ≤ total x.fRows := by
    obtain ⟨k, hk, rfl⟩ := List.getElem_of_mem hr
    have := total_set (r' := []) (List.getElem?_eq_getElem hk)
    simp only [List.length_nil] at this
    omega
  omega
theorem cnt_lanes {q : GLanes} (h : q.fRows.length ≤ 5) (h2 : total q.fRows ≤ 36) : cntT (encLanes q) ≤ 1000000000000 := by
  have h1 := cntT_le (encLanes q)
  have h3 := cnt_Lanes q
  have h4 := sz_lanes q
  omega
theorem mLanesPut_cnt (l : GLanes) (lane x : Int) (_z : szL (encLanes l) ≤ 1048576) : cntT (encLanes (mLanesPut l lane x).1) ≤ 1000000000000 := by
  unfold mLanesPut
  cases ok : lanesOk l with
  | false => exact cnt_lanes (by simp [lanes0]) (by simp [lanes0, total])
  | true =>
    have f := lanesOk_iff.1 ok
    have t := total30 ok
    simp only [if_true]
    unfold lanesPut
    split
    · rename_i hc
      rw [Bool.and_eq_true, inB_iff] at hc
      obtain ⟨r, hr⟩ : ∃ r, l.fRows[lane.toNat]? = some r := ⟨_, List.getElem?_eq_getElem (by omega)⟩
      have := total_set (r' := laneR l lane.toNat ++ [x]) hr
      rw [laneR_get hr] at this
      simp only [List.length_append, List.length_singleton] at this
      refine cnt_lanes (by simpa using f.n5) ?_
      rw [laneR_get hr]
      dsimp only
      omega
    · exact cnt_lanes f.n5 (by dsimp only; omega)
theorem mLanesNext_cnt (l : GLanes) (_z : szL (encLanes l) ≤ 1048576) : cntT (encLanes (mLanesNext l).1) ≤ 1000000000000 := by
  unfold mLanesNext
  cases ok : lanesOk l with
  | false => exact cnt_lanes (by simp [lanes0]) (by simp [lanes0, total])
  | true =>
    have ok2 := lanesOk_next ok
    have t := total30 ok2
    simp only [if_true]
    exact cnt_lanes (lanesOk_iff.1 ok2).n5 (by omega)
/-! ### In memory of one's own -/
theorem owd_ownL {H : Hp} : ∀ (rows : List (List Int)) (a : Nat), (∀ (j : Nat) r, rows[j]? = some r → H[a + j]? = some (bRow r)) → OwD H (ownL a rows.length).flatten (rows.flatMap encRow) (List.range' a rows.length)
  | [], a, _ => .nil
  | r :: rows, a, h => by
    have ih := owd_ownL rows (a + 1) fun j q hq => by rw [show a + 1 + j = a + (j + 1) by omega]; exact h (j + 1) q (by simpa using hq)
    have e : ownL a (r :: rows).length = [.own a] :: ownL (a + 1) rows.length := by unfold ownL; rw [List.length_cons, List.range'_succ]; rfl
    rw [e, List.length_cons, List.range'_succ, List.flatten_cons, List.flatMap_cons]
    have h0 := h 0 r rfl
    have := OwD.own a 3 1 (es := r.map pInt) (by omega) h0 (OwD.rows (enc := encInt) (p := pInt) (fun x => (pv_int x).symm) (fun x => rfl) r) ih
    simpa [encRow, slD] using this
theorem owd_lanes (l : GLanes) : OwD (bLa l.fRows) (pLaO l) (encLanes l) (0 :: List.range' 1 l.fRows.length) := by
  have h1 := owd_ownL (H := bLa l.fRows) l.fRows 1 fun j r hr => by
    rw [show 1 + j = j + 1 by omega]
    unfold bLa
    rw [List.getElem?_cons_succ, List.getElem?_map, hr]
    rfl
  have := OwD.own 0 51 1 (es := ownL 1 l.fRows.length) (by omega) rfl h1 (.int l.fTurn .nil)
  simp only [ownL_len, List.append_nil] at this
  exact this
theorem ro_put {l : GLanes} {b : Bool} : ∀ pv H, RH (.tup [.agg (pLaO l), .val (.bool b)]) (bLa l.fRows) pv H → RO2 (encLanes l) (.bool b) pv H := fun pv H ⟨h1, h2⟩ => by
  subst h1
  subst h2
  exact ⟨_, _, rfl, owd_lanes l, nodup_shift (by omega)⟩
theorem ro_next {l : GLanes} {a b : Int} : ∀ pv H, RH (.tup [.agg (pLaO l), .val (.int .i64 a), .val (.int .i64 b)]) (bLa l.fRows) pv H → RO3 (encLanes l) (.int .i64 a) (.int .i64 b) pv H := fun pv H ⟨h1, h2⟩ => by
  subst h1
  subst h2
  exact ⟨_, _, rfl, owd_lanes l, nodup_shift (by omega)⟩
theorem owd_lanes0 {H : Hp} : OwD H [.val (.slice none 0 0), .val (.int .i64 0)] (encLanes lanes0) [] := owd_nil _ _ (.int 0 .nil)
theorem ro_put0 : ∀ pv H, RH (.tup [.agg [.val (.slice none 0 0), .val (.int .i64 0)], .val (.bool false)]) [] pv H → RO2 (encLanes lanes0) (.bool false) pv H := fun pv H ⟨h1, h2⟩ => by
  subst h1
  exact ⟨_, _, rfl, owd_lanes0, rfl⟩
theorem ro_next0 : ∀ pv H, RH (.tup [.agg [.val (.slice none 0 0), .val (.int .i64 0)], .val (.int .i64 (-1)), .val (.int .i64 (-1))]) [] pv H → RO3 (encLanes lanes0) (.int .i64 (-1)) (.int .i64 (-1)) pv H := fun pv H ⟨h1, h2⟩ => by
  subst h1
  exact ⟨_, _, rfl, owd_lanes0, rfl⟩
theorem iLanesPut_o (l : GLanes) (lane x : Int) (hl : l.fRows.length ≤ 1099511627776) (hr : ∀ r ∈ l.fRows, r.length ≤ 1099511627776) : PCalls Try.prog 58 [.agg (pLanes l), .val (.int .i64 lane), .val (.int .i64 x)] [] (RO2 (encLanes (mLanesPut l lane x).1) (.bool (mLanesPut l lane x).2)) := by
  cases ok : lanesOk l with
  | true =>
    have e : mLanesPut l lane x = lanesPut l lane x := by unfold mLanesPut; rw [if_pos ok]
    rw [e]
    exact (iLanesPut_p l lane x ok).mono ro_put
  | false =>
    have e : mLanesPut l lane x = (lanes0, false) := by unfold mLanesPut; rw [ok]; rfl
    rw [e]
    refine PCalls.mono ?_ ro_put0
    refine pcalls_ofR okP Try.func58 rfl ?_
    simp only [Try.f58, List.length_cons, List.length_nil, Nat.reduceAdd, Nat.reduceSub, List.replicate_succ, List.replicate_zero, List.cons_append, List.nil_append, List.length_map]
    repeat' (first | with_reducible refine PWp.seq ?_ | with_reducible refine PWp.block ?_ | with_reducible refine PWp.region okP true ?_ | with_reducible refine PWp.drawT (id := 6) okP true (.step 0 (.step 2 (.step 3 (.step 4 (.step 5 (.step 6 (.step 7 (.step 8 (.fork (.alt 1 (.step 9 (.step 10 (.step 11 (.step 12 .done)))) (.alt 9 (.fork (.alt 1 (.step 10 (.step 11 (.step 12 .done))) (.alt 10 (.step 1 (.step 11 (.step 12 .done))) .stop))) .stop))))))))))) (by kernel_rfl) ?_ | with_reducible (first | refine pops_nil ?_ | refine pany_nil ?_ | refine pthen_normal ?_ | refine pblock_normal ?_ | refine pthen_ret ?_ | refine pblock_ret ?_ | refine pthen_exit ?_ | refine pblock_here ?_ | refine pblock_there rfl ?_ | refine PWp.ret ?_ | refine PWp.exit ?_ | refine PWp.skip ?_) | ((with_reducible refine hK _ ?_); clear hK K) | ((with_reducible refine PWp.condI ?_); refine ⟨_, rfl, fun hg => ?_, fun hg => ?_⟩ <;> first | (exact absurd hg (by decide)) | ((try simp only [Bool.not_true, Bool.not_false] at hg); (try simp only [hg]); (try simp only [push_cast] at hg); (try exact absurd trivial hg); (try (exfalso; omega)))) | ((first | ((with_reducible refine pops_guard0 ?_); refine ⟨_, rfl, fun K hK => ⟨rfl, ?_⟩⟩) | ((with_reducible refine pD_g0 ?_); refine ⟨_, rfl, rfl, ?_⟩)); (try simp (disch := omega) only [push_cast, seval, ok])) | with_reducible (first | refine ptree_done ?_ | exact ptree_stop | refine ptree_fork ?_) | ((with_reducible refine ptree_I ?_); refine ⟨_, rfl, fun K hK => ?_⟩) | ((with_reducible refine ptree_A ?_ ?_); (refine ⟨_, rfl, fun K hK => ?_⟩)) | ((with_reducible refine pany_I ?_); refine ⟨_, rfl, fun K hK => ?_⟩) | ((with_reducible refine pops_plain fun K hK => popO_row ?_); refine ⟨_, _, _, _, _, rfl, rfl, rfl, rfl, rfl, ?_⟩; simp (disch := omega) only [push_cast, seval, ok]) | ((with_reducible refine pD_x ?_ (popO_row ?_)); exact rfl; refine ⟨_, _, _, _, _, rfl, rfl, rfl, rfl, rfl, ?_⟩; simp (disch := omega) only [push_cast, seval, ok]) | ((with_reducible refine pops_plain fun K hK => popO_build ?_); refine ⟨_, rfl, _, rfl, ?_⟩; simp (disch := omega) only [push_cast, seval, ok]) | ((with_reducible refine pD_y ?_ (py_build ?_)); exact rfl; refine ⟨_, rfl, _, rfl, ?_⟩; simp (disch := omega) only [push_cast, seval, ok]) | ((with_reducible refine pbuild_cs ?_); refine ⟨_, rfl, _, rfl, ?_⟩; simp (disch := omega) only [push_cast, seval, ok]) | ((with_reducible refine pops_plain fun K hK => ?_); simp (disch := omega) only [push_cast, seval, ok]) | ((first | ((with_reducible refine pD_y ?_ ?_); exact rfl) | ((with_reducible refine pD_x ?_ ?_); exact rfl)); simp (disch := omega) only [push_cast, seval, ok]) | ((first | ((with_reducible refine pops_guard ?_); refine ⟨_, rfl, fun K hK => ⟨_, rfl, fun hg => ?_, fun hg => ?_⟩⟩) | ((first | ((with_reducible refine pD_gy ?_ ?_); exact rfl) | ((with_reducible refine pD_gx ?_ ?_); exact rfl)); refine ⟨_, rfl, _, rfl, fun hg => ?_, fun hg => ?_⟩)) <;> first | (exact absurd hg (by decide)) | ((try simp only [Bool.not_true, Bool.not_false] at hg); (try simp only [hg]); (try simp only [push_cast] at hg); (try exact absurd trivial hg); (try (exfalso; omega)); (try simp (disch := omega) only [push_cast, seval, ok]))) | ((with_reducible show pcall _ _ _ _ _ _); (first | (refine pcV (g := 84) (callable_of Try.func84 rfl rfl) (within_p _ _ _) ?_) | (refine pcV (g := 118) (callable_of Try.func118 rfl rfl) (iLanesOk_p ⟨_, _⟩ (by (first | assumption | omega | (simp; omega) | (simp_all; done) | (simp_all; omega))) (by assumption)) ?_) | (refine pcF (g := 121) (callable_of Try.func121 rfl rfl) (iCopyLanes_p ⟨_, _⟩ (by (first | assumption | omega | (simp; omega) | (simp_all; done) | (simp_all; omega))) (by assumption)) ?_)); (try simp (disch := omega) only [push_cast, seval, ok])) | ((with_reducible refine And.intro ?_ ?_); omega))
    ((first | with_reducible (first | refine pendH1 [] ?_ ?_ ?_ ?_ ?_ | refine pendH2 [] ?_ ?_ ?_ ?_ ?_ | refine pendH3 [] ?_ ?_ ?_ ?_ ?_ | refine pendH0 [] ?_ ?_ ?_ ?_ ?_) | refine pendHG [] ?_ ?_ ?_ ?_ ?_); rotate_left 0; (· (first | exact .inl rfl | exact .inr rfl)); (· ((try (apply Exists.intro; apply And.intro; (· repeat' (first | exact presults_nil | apply presults_tmp | (apply presults_agg; (· exact rfl); (· exact rfl); (· exact rfl); (· exact rfl); (· exact rfl); (· first | exact Nat.le_refl _ | decide | simp)) | (apply presults_one; (· exact rfl); (· exact rfl); (· exact rfl); (· exact rfl); (· exact rfl)))))); (try simp (disch := omega) only [push_cast, seval]); (repeat' (first | exact trivial | exact rfl | refine And.intro ?_ ?_ | omega)))); (· ((try simp (disch := omega) only [push_cast, seval]); (repeat' (first | exact trivial | exact rfl | refine And.intro ?_ ?_ | omega)))); (· exact rfl); (· first | exact trivial | exact ⟨rfl, trivial⟩ | exact ⟨rfl, rfl, trivial⟩ | exact ⟨rfl, rfl, rfl, trivial⟩))
theorem iLanesNext_o (l : GLanes) (hl : l.fRows.length ≤ 1099511627776) (hr : ∀ r ∈ l.fRows, r.length ≤ 1099511627776) : PCalls Try.prog 56 [.agg (pLanes l)] [] (RO3 (encLanes (mLanesNext l).1) (.int .i64 (mLanesNext l).2.1) (.int .i64 (mLanesNext l).2.2)) := by
  cases ok : lanesOk l with
  | true =>
    have e : mLanesNext l = lanesNext l := by unfold mLanesNext; rw [if_pos ok]
    rw [e]
    exact (iLanesNext_p l ok).mono ro_next
  | false =>
    have e : mLanesNext l = (lanes0, -1, -1) := by unfold mLanesNext; rw [ok]; rfl
    rw [e]
    refine PCalls.mono ?_ ro_next0
    refine pcalls_ofR okP Try.func56 rfl ?_
    simp only [Try.f56, List.length_cons, List.length_nil, Nat.reduceAdd, Nat.reduceSub, List.replicate_succ, List.replicate_zero, List.cons_append, List.nil_append, List.length_map]
    repeat' (first | with_reducible refine PWp.seq ?_ | with_reducible refine PWp.block ?_ | with_reducible refine PWp.region okP true ?_ | with_reducible refine PWp.draw (id := 10) okP true [0, 1, 2, 3, 4, 5, 6, 7, 8, 9, 10, 11] (by kernel_rfl) ?_ | with_reducible refine PWp.drawT (id := 12) okP true (.step 0 (.step 1 (.step 2 (.step 4 (.fork (.alt 3 (.step 5 (.fork (.alt 6 (.step 7 (.fork (.alt 8 (.step 9 (.step 10 (.step 11 .done))) (.alt 9 (.step 8 (.step 10 (.step 11 .done))) .stop)))) (.alt 9 (.step 6 (.step 7 (.step 8 (.step 10 (.step 11 .done))))) .stop)))) (.alt 9 (.step 3 (.step 5 (.step 6 (.step 7 (.step 8 (.step 10 (.step 11 .done))))))) .stop))))))) (by kernel_rfl) ?_ | with_reducible (first | refine pops_nil ?_ | refine pany_nil ?_ | refine pthen_normal ?_ | refine pblock_normal ?_ | refine pthen_ret ?_ | refine pblock_ret ?_ | refine pthen_exit ?_ | refine pblock_here ?_ | refine pblock_there rfl ?_ | refine PWp.ret ?_ | refine PWp.exit ?_ | refine PWp.skip ?_) | ((with_reducible refine hK _ ?_); clear hK K) | ((with_reducible refine PWp.condI ?_); refine ⟨_, rfl, fun hg => ?_, fun hg => ?_⟩ <;> first | (exact absurd hg (by decide)) | ((try simp only [Bool.not_true, Bool.not_false] at hg); (try simp only [hg]); (try simp only [push_cast] at hg); (try exact absurd trivial hg); (try (exfalso; omega)))) | with_reducible (first | refine ptree_done ?_ | exact ptree_stop | refine ptree_fork ?_) | ((with_reducible refine ptree_I ?_); refine ⟨_, rfl, fun K hK => ?_⟩) | ((with_reducible refine ptree_A ?_ ?_); (refine ⟨_, rfl, fun K hK => ?_⟩)) | ((with_reducible refine pany_I ?_); refine ⟨_, rfl, fun K hK => ?_⟩) | ((with_reducible refine pops_plain fun K hK => popO_build ?_); refine ⟨_, rfl, _, rfl, ?_⟩; simp (disch := omega) only [push_cast, seval, ok]) | ((with_reducible refine pD_y ?_ (py_build ?_)); exact rfl; refine ⟨_, rfl, _, rfl, ?_⟩; simp (disch := omega) only [push_cast, seval, ok]) | ((with_reducible refine pbuild_cs ?_); refine ⟨_, rfl, _, rfl, ?_⟩; simp (disch := omega) only [push_cast, seval, ok]) | ((with_reducible refine pops_plain fun K hK => ?_); simp (disch := omega) only [push_cast, seval, ok]) | ((first | ((with_reducible refine pD_y ?_ ?_); exact rfl) | ((with_reducible refine pD_x ?_ ?_); exact rfl)); simp (disch := omega) only [push_cast, seval, ok]) | ((with_reducible show pcall _ _ _ _ _ _); (first | (refine pcV (g := 118) (callable_of Try.func118 rfl rfl) (iLanesOk_p ⟨_, _⟩ (by (first | assumption | omega | (simp; omega) | (simp_all; done) | (simp_all; omega))) (by assumption)) ?_) | (refine pcF (g := 121) (callable_of Try.func121 rfl rfl) (iCopyLanes_p ⟨_, _⟩ (by (first | assumption | omega | (simp; omega) | (simp_all; done) | (simp_all; omega))) (by assumption)) ?_)); (try simp (disch := omega) only [push_cast, seval, ok])) | ((with_reducible refine And.intro ?_ ?_); omega))
    ((first | with_reducible (first | refine pendH1 [] ?_ ?_ ?_ ?_ ?_ | refine pendH2 [] ?_ ?_ ?_ ?_ ?_ | refine pendH3 [] ?_ ?_ ?_ ?_ ?_ | refine pendH0 [] ?_ ?_ ?_ ?_ ?_) | refine pendHG [] ?_ ?_ ?_ ?_ ?_); rotate_left 0; (· (first | exact .inl rfl | exact .inr rfl)); (· ((try (apply Exists.intro; apply And.intro; (· repeat' (first | exact presults_nil | apply presults_tmp | (apply presults_agg; (· exact rfl); (· exact rfl); (· exact rfl); (· exact rfl); (· exact rfl); (· first | exact Nat.le_refl _ | decide | simp)) | (apply presults_one; (· exact rfl); (· exact rfl); (· exact rfl); (· exact rfl); (· exact rfl)))))); (try simp (disch := omega) only [push_cast, seval]); (repeat' (first | exact trivial | exact rfl | refine And.intro ?_ ?_ | omega)))); (· ((try simp (disch := omega) only [push_cast, seval]); (repeat' (first | exact trivial | exact rfl | refine And.intro ?_ ?_ | omega)))); (· exact rfl); (· first | exact trivial | exact ⟨rfl, trivial⟩ | exact ⟨rfl, rfl, trivial⟩ | exact ⟨rfl, rfl, rfl, trivial⟩))
theorem sLanesPut_o (l : GLanes) (lane x : Int) (hl : l.fRows.length ≤ 1099511627776) (hr : ∀ r ∈ l.fRows, r.length ≤ 1099511627776) : PCalls Try.prog 59 [.agg (pLanes l), .val (.int .i64 lane), .val (.int .i64 x)] [] (RO2 (encLanes (mLanesPut l lane x).1) (.bool (mLanesPut l lane x).2)) := by
  cases ok : lanesOk l with
  | true =>
    have e : mLanesPut l lane x = lanesPut l lane x := by unfold mLanesPut; rw [if_pos ok]
    rw [e]
    exact (sLanesPut_p l lane x ok).mono ro_put
  | false =>
    have e : mLanesPut l lane x = (lanes0, false) := by unfold mLanesPut; rw [ok]; rfl
    rw [e]
    refine PCalls.mono ?_ ro_put0
    refine pcalls_ofR okP Try.func59 rfl ?_
    simp only [Try.f59, List.length_cons, List.length_nil, Nat.reduceAdd, Nat.reduceSub, List.replicate_succ, List.replicate_zero, List.cons_append, List.nil_append, List.length_map]
    repeat' (first | with_reducible refine PWp.seq ?_ | with_reducible refine PWp.block ?_ | with_reducible refine PWp.region okP true ?_ | with_reducible refine PWp.drawT (id := 7) okP true (.step 0 (.step 2 (.step 3 (.step 4 (.fork (.alt 1 (.step 5 (.step 6 (.step 7 (.step 8 .done)))) (.alt 5 (.fork (.alt 1 (.step 6 (.step 7 (.step 8 .done))) (.alt 6 (.step 1 (.step 7 (.step 8 .done))) .stop))) .stop))))))) (by kernel_rfl) ?_ | with_reducible (first | refine pops_nil ?_ | refine pany_nil ?_ | refine pthen_normal ?_ | refine pblock_normal ?_ | refine pthen_ret ?_ | refine pblock_ret ?_ | refine pthen_exit ?_ | refine pblock_here ?_ | refine pblock_there rfl ?_ | refine PWp.ret ?_ | refine PWp.exit ?_ | refine PWp.skip ?_) | ((with_reducible refine hK _ ?_); clear hK K) | ((with_reducible refine PWp.condI ?_); refine ⟨_, rfl, fun hg => ?_, fun hg => ?_⟩ <;> first | (exact absurd hg (by decide)) | ((try simp only [Bool.not_true, Bool.not_false] at hg); (try simp only [hg]); (try simp only [push_cast] at hg); (try exact absurd trivial hg); (try (exfalso; omega)))) | ((first | ((with_reducible refine pops_guard0 ?_); refine ⟨_, rfl, fun K hK => ⟨rfl, ?_⟩⟩) | ((with_reducible refine pD_g0 ?_); refine ⟨_, rfl, rfl, ?_⟩)); (try simp (disch := omega) only [push_cast, seval, ok])) | with_reducible (first | refine ptree_done ?_ | exact ptree_stop | refine ptree_fork ?_) | ((with_reducible refine ptree_I ?_); refine ⟨_, rfl, fun K hK => ?_⟩) | ((with_reducible refine ptree_A ?_ ?_); (refine ⟨_, rfl, fun K hK => ?_⟩)) | ((with_reducible refine pany_I ?_); refine ⟨_, rfl, fun K hK => ?_⟩) | ((with_reducible refine pops_plain fun K hK => popO_row ?_); refine ⟨_, _, _, _, _, rfl, rfl, rfl, rfl, rfl, ?_⟩; simp (disch := omega) only [push_cast, seval, ok]) | ((with_reducible refine pD_x ?_ (popO_row ?_)); exact rfl; refine ⟨_, _, _, _, _, rfl, rfl, rfl, rfl, rfl, ?_⟩; simp (disch := omega) only [push_cast, seval, ok]) | ((with_reducible refine pops_plain fun K hK => popO_build ?_); refine ⟨_, rfl, _, rfl, ?_⟩; simp (disch := omega) only [push_cast, seval, ok]) | ((with_reducible refine pD_y ?_ (py_build ?_)); exact rfl; refine ⟨_, rfl, _, rfl, ?_⟩; simp (disch := omega) only [push_cast, seval, ok]) | ((with_reducible refine pbuild_cs ?_); refine ⟨_, rfl, _, rfl, ?_⟩; simp (disch := omega) only [push_cast, seval, ok]) | ((with_reducible refine pops_plain fun K hK => ?_); simp (disch := omega) only [push_cast, seval, ok]) | ((first | ((with_reducible refine pD_y ?_ ?_); exact rfl) | ((with_reducible refine pD_x ?_ ?_); exact rfl)); simp (disch := omega) only [push_cast, seval, ok]) | ((first | ((with_reducible refine pops_guard ?_); refine ⟨_, rfl, fun K hK => ⟨_, rfl, fun hg => ?_, fun hg => ?_⟩⟩) | ((first | ((with_reducible refine pD_gy ?_ ?_); exact rfl) | ((with_reducible refine pD_gx ?_ ?_); exact rfl)); refine ⟨_, rfl, _, rfl, fun hg => ?_, fun hg => ?_⟩)) <;> first | (exact absurd hg (by decide)) | ((try simp only [Bool.not_true, Bool.not_false] at hg); (try simp only [hg]); (try simp only [push_cast] at hg); (try exact absurd trivial hg); (try (exfalso; omega)); (try simp (disch := omega) only [push_cast, seval, ok]))) | ((with_reducible show pcall _ _ _ _ _ _); (first | (refine pcV (g := 55) (callable_of Try.func55 rfl rfl) (sLanesOk_p ⟨_, _⟩ (by (first | assumption | omega | (simp; omega) | (simp_all; done) | (simp_all; omega))) (by assumption)) ?_) | (refine pcV (g := 78) (callable_of Try.func78 rfl rfl) (l1In_p _ _ _) ?_) | (refine pcF (g := 119) (callable_of Try.func119 rfl rfl) (sL21Copy_p ⟨_, _⟩ (by (first | assumption | omega | (simp; omega) | (simp_all; done) | (simp_all; omega))) (by assumption)) ?_)); (try simp (disch := omega) only [push_cast, seval, ok])) | ((with_reducible refine And.intro ?_ ?_); omega))
    ((first | with_reducible (first | refine pendH1 [] ?_ ?_ ?_ ?_ ?_ | refine pendH2 [] ?_ ?_ ?_ ?_ ?_ | refine pendH3 [] ?_ ?_ ?_ ?_ ?_ | refine pendH0 [] ?_ ?_ ?_ ?_ ?_) | refine pendHG [] ?_ ?_ ?_ ?_ ?_); rotate_left 0; (· (first | exact .inl rfl | exact .inr rfl)); (· ((try (apply Exists.intro; apply And.intro; (· repeat' (first | exact presults_nil | apply presults_tmp | (apply presults_agg; (· exact rfl); (· exact rfl); (· exact rfl); (· exact rfl); (· exact rfl); (· first | exact Nat.le_refl _ | decide | simp)) | (apply presults_one; (· exact rfl); (· exact rfl); (· exact rfl); (· exact rfl); (· exact rfl)))))); (try simp (disch := omega) only [push_cast, seval]); (repeat' (first | exact trivial | exact rfl | refine And.intro ?_ ?_ | omega)))); (· ((try simp (disch := omega) only [push_cast, seval]); (repeat' (first | exact trivial | exact rfl | refine And.intro ?_ ?_ | omega)))); (· exact rfl); (· first | exact trivial | exact ⟨rfl, trivial⟩ | exact ⟨rfl, rfl, trivial⟩ | exact ⟨rfl, rfl, rfl, trivial⟩))
theorem sLanesNext_o (l : GLanes) (hl : l.fRows.length ≤ 1099511627776) (hr : ∀ r ∈ l.fRows, r.length ≤ 1099511627776) : PCalls Try.prog 61 [.agg (pLanes l)] [] (RO3 (encLanes (mLanesNext l).1) (.int .i64 (mLanesNext l).2.1) (.int .i64 (mLanesNext l).2.2)) := by
  cases ok : lanesOk l with
  | true =>
    have e : mLanesNext l = lanesNext l := by unfold mLanesNext; rw [if_pos ok]
    rw [e]
    exact (sLanesNext_p l ok).mono ro_next
  | false =>
    have e : mLanesNext l = (lanes0, -1, -1) := by unfold mLanesNext; rw [ok]; rfl
    rw [e]
    refine PCalls.mono ?_ ro_next0
    refine pcalls_ofR okP Try.func61 rfl ?_
    simp only [Try.f61, List.length_cons, List.length_nil, Nat.reduceAdd, Nat.reduceSub, List.replicate_succ, List.replicate_zero, List.cons_append, List.nil_append, List.length_map]
    repeat' (first | with_reducible refine PWp.seq ?_ | with_reducible refine PWp.block ?_ | with_reducible refine PWp.region okP true ?_ | with_reducible (first | refine pops_nil ?_ | refine pany_nil ?_ | refine pthen_normal ?_ | refine pblock_normal ?_ | refine pthen_ret ?_ | refine pblock_ret ?_ | refine pthen_exit ?_ | refine pblock_here ?_ | refine pblock_there rfl ?_ | refine PWp.ret ?_ | refine PWp.exit ?_ | refine PWp.skip ?_) | ((with_reducible refine hK _ ?_); clear hK K) | ((with_reducible refine PWp.condI ?_); refine ⟨_, rfl, fun hg => ?_, fun hg => ?_⟩ <;> first | (exact absurd hg (by decide)) | ((try simp only [Bool.not_true, Bool.not_false] at hg); (try simp only [hg]); (try simp only [push_cast] at hg); (try exact absurd trivial hg); (try (exfalso; omega)))) | ((with_reducible refine pops_plain fun K hK => popO_build ?_); refine ⟨_, rfl, _, rfl, ?_⟩; simp (disch := omega) only [push_cast, seval, ok]) | ((with_reducible refine pbuild_cs ?_); refine ⟨_, rfl, _, rfl, ?_⟩; simp (disch := omega) only [push_cast, seval, ok]) | ((with_reducible refine pops_plain fun K hK => ?_); simp (disch := omega) only [push_cast, seval, ok]) | ((with_reducible show pcall _ _ _ _ _ _); (first | (refine pcV (g := 55) (callable_of Try.func55 rfl rfl) (sLanesOk_p ⟨_, _⟩ (by (first | assumption | omega | (simp; omega) | (simp_all; done) | (simp_all; omega))) (by assumption)) ?_) | (refine pcF (g := 119) (callable_of Try.func119 rfl rfl) (sL21Copy_p ⟨_, _⟩ (by (first | assumption | omega | (simp; omega) | (simp_all; done) | (simp_all; omega))) (by assumption)) ?_)); (try simp (disch := omega) only [push_cast, seval, ok])) | ((with_reducible refine And.intro ?_ ?_); omega))
    ((first | with_reducible (first | refine pendH1 [] ?_ ?_ ?_ ?_ ?_ | refine pendH2 [] ?_ ?_ ?_ ?_ ?_ | refine pendH3 [] ?_ ?_ ?_ ?_ ?_ | refine pendH0 [] ?_ ?_ ?_ ?_ ?_) | refine pendHG [] ?_ ?_ ?_ ?_ ?_); rotate_left 0; (· (first | exact .inl rfl | exact .inr rfl)); (· ((try (apply Exists.intro; apply And.intro; (· repeat' (first | exact presults_nil | apply presults_tmp | (apply presults_agg; (· exact rfl); (· exact rfl); (· exact rfl); (· exact rfl); (· exact rfl); (· first | exact Nat.le_refl _ | decide | simp)) | (apply presults_one; (· exact rfl); (· exact rfl); (· exact rfl); (· exact rfl); (· exact rfl)))))); (try simp (disch := omega) only [push_cast, seval]); (repeat' (first | exact trivial | exact rfl | refine And.intro ?_ ?_ | omega)))); (· ((try simp (disch := omega) only [push_cast, seval]); (repeat' (first | exact trivial | exact rfl | refine And.intro ?_ ?_ | omega)))); (· exact rfl); (· first | exact trivial | exact ⟨rfl, trivial⟩ | exact ⟨rfl, rfl, trivial⟩ | exact ⟨rfl, rfl, rfl, trivial⟩))
theorem shp_Lanes {w : World} {x : GLanes} {vs : List Value} (h : Rds w (encLanes x) vs) : ∃ (o1 : Option Addr) (c1 : Nat), vs = [.slice o1 x.fRows.length c1, .int .i64 x.fTurn] := by
  obtain ⟨_, l_0, e_0, b_0, h⟩ := rds_slD.1 h
  obtain ⟨o1, c1, rfl⟩ := RS.val b_0
  obtain ⟨l_1, e_1, h⟩ := rds_int.1 h
  have z := rds_nil.1 h
  subst z
  subst e_1
  exact ⟨o1, c1, e_0⟩
theorem sLanesWait_any (x0 : GLanes) (x1 : Int) (o1 : Option Addr) (c1 : Nat) (w : World) (h0 : Rds w (encLanes x0) [.slice o1 x0.fRows.length c1, .int .i64 x0.fTurn]) (z0 : szL (encLanes x0) ≤ 1048576) (k0 : okL (encLanes x0)) (k1 : -9223372036854775808 ≤ x1 ∧ x1 ≤ 9223372036854775807) (hG : GlobW w) :
    Calls Try.prog 54 #[.agg #[.slice o1 x0.fRows.length c1, .int .i64 x0.fTurn], .int .i64 x1] w fun e w' => e = .returned (.int .i64 (mLanesWait x0 x1)) ∧ Ext w w' := by
  have zz0 := z0; simp only [encLanes, slD, szL] at zz0
  have hp := sLanesWait_p x0 x1 (by omega) (rows_sm z0)
  refine (hp.use (w := w) hG.mem (vs := #[.agg #[.slice o1 x0.fRows.length c1, .int .i64 x0.fTurn], .int .i64 x1]) ⟨rfl, fun i pv v a b => ?_⟩).mono fun e w' ⟨v, M', h', pv, H', e1, e2, e3, e4, e5, e6⟩ => ?_
  · match i with
    | 0 => simp at a b; subst a; subst b; rw [← pv_Lanes]; exact Rds.agg h0 _
    | 1 => simp at a b; subst a; subst b; exact .val _
    | i + 2 => simp at a
  · cases e2; have q := vr_val e3; subst q; exact ⟨e1, e5⟩
theorem iLanesWait_any (x0 : GLanes) (x1 : Int) (o1 : Option Addr) (c1 : Nat) (w : World) (h0 : Rds w (encLanes x0) [.slice o1 x0.fRows.length c1, .int .i64 x0.fTurn]) (z0 : szL (encLanes x0) ≤ 1048576) (k0 : okL (encLanes x0)) (k1 : -9223372036854775808 ≤ x1 ∧ x1 ≤ 9223372036854775807) (hG : GlobW w) :
    Calls Try.prog 53 #[.agg #[.slice o1 x0.fRows.length c1, .int .i64 x0.fTurn], .int .i64 x1] w fun e w' => e = .returned (.int .i64 (mLanesWait x0 x1)) ∧ Ext w w' := by
  have zz0 := z0; simp only [encLanes, slD, szL] at zz0
  have hp := iLanesWait_p x0 x1 (by omega) (rows_sm z0)
  refine (hp.use (w := w) hG.mem (vs := #[.agg #[.slice o1 x0.fRows.length c1, .int .i64 x0.fTurn], .int .i64 x1]) ⟨rfl, fun i pv v a b => ?_⟩).mono fun e w' ⟨v, M', h', pv, H', e1, e2, e3, e4, e5, e6⟩ => ?_
  · match i with
    | 0 => simp at a b; subst a; subst b; rw [← pv_Lanes]; exact Rds.agg h0 _
    | 1 => simp at a b; subst a; subst b; exact .val _
    | i + 2 => simp at a
  · cases e2; have q := vr_val e3; subst q; exact ⟨e1, e5⟩
theorem sLanesPut_any (x0 : GLanes) (x1 : Int) (x2 : Int) (o1 : Option Addr) (c1 : Nat) (w : World) (h0 : Rds w (encLanes x0) [.slice o1 x0.fRows.length c1, .int .i64 x0.fTurn]) (z0 : szL (encLanes x0) ≤ 1048576) (k0 : okL (encLanes x0)) (k1 : -9223372036854775808 ≤ x1 ∧ x1 ≤ 9223372036854775807) (k2 : -9223372036854775808 ≤ x2 ∧ x2 ≤ 9223372036854775807) (hG : GlobW w) :
    Calls Try.prog 59 #[.agg #[.slice o1 x0.fRows.length c1, .int .i64 x0.fTurn], .int .i64 x1, .int .i64 x2] w fun e w' => ∃ (p1 : Option Addr) (q1 : Nat), e = .returned (.tuple #[.agg #[.slice p1 (mLanesPut x0 x1 x2).1.fRows.length q1, .int .i64 (mLanesPut x0 x1 x2).1.fTurn], .bool (mLanesPut x0 x1 x2).2]) ∧ Obj w' w.heap.size w'.heap.size (encLanes ((mLanesPut x0 x1 x2).1)) [.slice p1 ((mLanesPut x0 x1 x2).1).fRows.length q1, .int .i64 ((mLanesPut x0 x1 x2).1).fTurn] ∧ Ext w w' := by
  have zz0 := z0; simp only [encLanes, slD, szL] at zz0
  have hp := sLanesPut_o x0 x1 x2 (by omega) (rows_sm z0)
  refine (hp.use (w := w) hG.mem (vs := #[.agg #[.slice o1 x0.fRows.length c1, .int .i64 x0.fTurn], .int .i64 x1, .int .i64 x2]) ⟨rfl, fun i pv v a b => ?_⟩).mono fun e w' ⟨v, M', h', pv, H', e1, e2, e3, e4, e5, e6⟩ => ?_
  · match i with
    | 0 => simp at a b; subst a; subst b; rw [← pv_Lanes]; exact Rds.agg h0 _
    | 1 => simp at a b; subst a; subst b; exact .val _
    | 2 => simp at a b; subst a; subst b; exact .val _
    | i + 3 => simp at a
  · obtain ⟨vs, rfl, O⟩ := RO2.obj e2 e4 e6 e3
    obtain ⟨p1, q1, rfl⟩ := shp_Lanes O.read
    exact ⟨p1, q1, e1, O, e5⟩
theorem iLanesPut_any (x0 : GLanes) (x1 : Int) (x2 : Int) (o1 : Option Addr) (c1 : Nat) (w : World) (h0 : Rds w (encLanes x0) [.slice o1 x0.fRows.length c1, .int .i64 x0.fTurn]) (z0 : szL (encLanes x0) ≤ 1048576) (k0 : okL (encLanes x0)) (k1 : -9223372036854775808 ≤ x1 ∧ x1 ≤ 9223372036854775807) (k2 : -9223372036854775808 ≤ x2 ∧ x2 ≤ 9223372036854775807) (hG : GlobW w) :
    Calls Try.prog 58 #[.agg #[.slice o1 x0.fRows.length c1, .int .i64 x0.fTurn], .int .i64 x1, .int .i64 x2] w fun e w' => ∃ (p1 : Option Addr) (q1 : Nat), e = .returned (.tuple #[.agg #[.slice p1 (mLanesPut x0 x1 x2).1.fRows.length q1, .int .i64 (mLanesPut x0 x1 x2).1.fTurn], .bool (mLanesPut x0 x1 x2).2]) ∧ Obj w' w.heap.size w'.heap.size (encLanes ((mLanesPut x0 x1 x2).1)) [.slice p1 ((mLanesPut x0 x1 x2).1).fRows.length q1, .int .i64 ((mLanesPut x0 x1 x2).1).fTurn] ∧ Ext w w' := by
  have zz0 := z0; simp only [encLanes, slD, szL] at zz0
  have hp := iLanesPut_o x0 x1 x2 (by omega) (rows_sm z0)
  refine (hp.use (w := w) hG.mem (vs := #[.agg #[.slice o1 x0.fRows.length c1, .int .i64 x0.fTurn], .int .i64 x1, .int .i64 x2]) ⟨rfl, fun i pv v a b => ?_⟩).mono fun e w' ⟨v, M', h', pv, H', e1, e2, e3, e4, e5, e6⟩ => ?_
  · match i with
    | 0 => simp at a b; subst a; subst b; rw [← pv_Lanes]; exact Rds.agg h0 _
    | 1 => simp at a b; subst a; subst b; exact .val _
    | 2 => simp at a b; subst a; subst b; exact .val _
    | i + 3 => simp at a
  · obtain ⟨vs, rfl, O⟩ := RO2.obj e2 e4 e6 e3
    obtain ⟨p1, q1, rfl⟩ := shp_Lanes O.read
    exact ⟨p1, q1, e1, O, e5⟩
theorem sLanesNext_any (x0 : GLanes) (o1 : Option Addr) (c1 : Nat) (w : World) (h0 : Rds w (encLanes x0) [.slice o1 x0.fRows.length c1, .int .i64 x0.fTurn]) (z0 : szL (encLanes x0) ≤ 1048576) (k0 : okL (encLanes x0)) (hG : GlobW w) :
    Calls Try.prog 61 #[.agg #[.slice o1 x0.fRows.length c1, .int .i64 x0.fTurn]] w fun e w' => ∃ (p1 : Option Addr) (q1 : Nat), e = .returned (.tuple #[.agg #[.slice p1 (mLanesNext x0).1.fRows.length q1, .int .i64 (mLanesNext x0).1.fTurn], .int .i64 (mLanesNext x0).2.1, .int .i64 (mLanesNext x0).2.2]) ∧ Obj w' w.heap.size w'.heap.size (encLanes ((mLanesNext x0).1)) [.slice p1 ((mLanesNext x0).1).fRows.length q1, .int .i64 ((mLanesNext x0).1).fTurn] ∧ Ext w w' := by
  have zz0 := z0; simp only [encLanes, slD, szL] at zz0
  have hp := sLanesNext_o x0 (by omega) (rows_sm z0)
  refine (hp.use (w := w) hG.mem (vs := #[.agg #[.slice o1 x0.fRows.length c1, .int .i64 x0.fTurn]]) ⟨rfl, fun i pv v a b => ?_⟩).mono fun e w' ⟨v, M', h', pv, H', e1, e2, e3, e4, e5, e6⟩ => ?_
  · match i with
    | 0 => simp at a b; subst a; subst b; rw [← pv_Lanes]; exact Rds.agg h0 _
    | i + 1 => simp at a
  · obtain ⟨vs, rfl, O⟩ := RO3.obj e2 e4 e6 e3
    obtain ⟨p1, q1, rfl⟩ := shp_Lanes O.read
    exact ⟨p1, q1, e1, O, e5⟩
theorem iLanesNext_any (x0 : GLanes) (o1 : Option Addr) (c1 : Nat) (w : World) (h0 : Rds w (encLanes x0) [.slice o1 x0.fRows.length c1, .int .i64 x0.fTurn]) (z0 : szL (encLanes x0) ≤ 1048576) (k0 : okL (encLanes x0)) (hG : GlobW w) :
    Calls Try.prog 56 #[.agg #[.slice o1 x0.fRows.length c1, .int .i64 x0.fTurn]] w fun e w' => ∃ (p1 : Option Addr) (q1 : Nat), e = .returned (.tuple #[.agg #[.slice p1 (mLanesNext x0).1.fRows.length q1, .int .i64 (mLanesNext x0).1.fTurn], .int .i64 (mLanesNext x0).2.1, .int .i64 (mLanesNext x0).2.2]) ∧ Obj w' w.heap.size w'.heap.size (encLanes ((mLanesNext x0).1)) [.slice p1 ((mLanesNext x0).1).fRows.length q1, .int .i64 ((mLanesNext x0).1).fTurn] ∧ Ext w w' := by
  have zz0 := z0; simp only [encLanes, slD, szL] at zz0
  have hp := iLanesNext_o x0 (by omega) (rows_sm z0)
  refine (hp.use (w := w) hG.mem (vs := #[.agg #[.slice o1 x0.fRows.length c1, .int .i64 x0.fTurn]]) ⟨rfl, fun i pv v a b => ?_⟩).mono fun e w' ⟨v, M', h', pv, H', e1, e2, e3, e4, e5, e6⟩ => ?_
  · match i with
    | 0 => simp at a b; subst a; subst b; rw [← pv_Lanes]; exact Rds.agg h0 _
    | i + 1 => simp at a
  · obtain ⟨vs, rfl, O⟩ := RO3.obj e2 e4 e6 e3
    obtain ⟨p1, q1, rfl⟩ := shp_Lanes O.read
    exact ⟨p1, q1, e1, O, e5⟩

end Go.Proofs.Ytkbikihbomnghaa
