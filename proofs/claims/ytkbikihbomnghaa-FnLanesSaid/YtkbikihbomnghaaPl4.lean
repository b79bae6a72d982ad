/- Walks on the pure machine: the next number of the rows, as the reference takes it. -/
import Derived.Test.YtkbikihbomnghaaPl3
import Derived.Test.YtkbikihbomnghaaPvK
namespace Go.Proofs.Ytkbikihbomnghaa
set_option linter.unusedSimpArgs false
set_option linter.unusedVariables false
open Go.RowKit
set_option maxRecDepth 100000

theorem bLa_len {rows : List (List Int)} : (bLa rows).length = rows.length + 1 := by simp [bLa]
theorem thaw_rows {b sz : Nat} {es : List (List PV)} {rows : List (List Int)} : (rows.map bRow).map (thawB b sz es) = rows.map bRow := by
  rw [List.map_map]
  refine List.map_congr_left fun r _ => ?_
  show some (Blk.row _ _ _) = some (Blk.row _ _ _)
  rw [List.map_map]
  congr 1
theorem thaw_rowsS {b sz : Nat} {es : List (List PV)} {rows : List (List Int)} {k : Nat} : ((rows.map bRow).set k none).map (thawB b sz es) = (rows.map bRow).set k none := by rw [List.map_set, thaw_rows]; rfl
theorem thaw_ownL {k n sz : Nat} {es : List (List PV)} : ((ownL 1 n).map fun row => row.map (thaw1 (k + 1) sz es)) = (ownL 1 n).set k [.sl sz es] := by
  apply List.ext_getElem?
  intro j
  by_cases hj : j < n
  · rw [List.getElem?_map, ownL_get hj]
    by_cases e : k = j
    · subst e
      rw [List.getElem?_set_self (by rw [ownL_len]; exact hj)]
      simp [thaw1, Nat.add_comm]
    · rw [List.getElem?_set_ne e, ownL_get hj]
      simp [thaw1]
      omega
  · rw [List.getElem?_eq_none (by rw [List.length_map, ownL_len]; omega), List.getElem?_eq_none (by rw [List.length_set, ownL_len]; omega)]
theorem ownS_at {a n k : Nat} {y : List PV} (h : k < n) : ((ownL a n).set k y)[k]? = some y := List.getElem?_set_self (by rw [ownL_len]; exact h)
attribute [push_cast] List.set_set
theorem next_same {rows : List (List Int)} {t : Int} {N : Nat} : blkR (List.range (rows.length + 3)) N (some (.row 51 1 (ownL 1 rows.length)) :: (rows.map bRow ++ [some (.box [.own 0, .val (.int .i64 t)]), some (.box [.val (.slice none 0 0), .val (.int .i64 0)])])) (List.range (rows.length + 3)) (some (.row 51 1 (ownL 1 rows.length)) :: (rows.map bRow ++ [some (.box [.own 0, .val (.int .i64 t)]), some (.box [.val (.slice none 0 0), .val (.int .i64 0)])])) := by
  refine blkR_same (by simp) fun B hB => ?_
  simp only [List.mem_cons, List.mem_append, List.mem_map, Option.some.injEq, List.not_mem_nil, or_false] at hB
  rcases hB with rfl | ⟨r, _, h⟩ | rfl | rfl
  · rw [renB_row, ownL_fix (by omega)]
  · rw [← h]; exact bRow_fix
  · simp only [renB_box, renL_cons, renL_nil, ren_val, ren_own]; rw [rn_rng (by omega)]
  · simp only [renB_box, renL_cons, renL_nil, ren_val]
theorem blk_pre {N : Nat} {H ext : Hp} (h : ∀ B : Blk, some B ∈ H → renB (List.range H.length) N (some B) = some B) : blkR (List.range H.length) N (H ++ ext) (List.range H.length) H := by
  refine blkR_all (by simp) fun i b B h1 h2 => ?_
  have hi := (List.getElem?_eq_some_iff.1 h2).1
  have : b = i := by rw [List.getElem?_range hi] at h1; cases h1; rfl
  subst this
  rw [List.getElem?_append_left hi, h2, h B (List.mem_of_getElem? h2)]
theorem next_pre {rows : List (List Int)} {N : Nat} {ext : Hp} : blkR (List.range (rows.length + 1)) N (some (.row 51 1 (ownL 1 rows.length)) :: (rows.map bRow ++ ext)) (List.range (rows.length + 1)) (bLa rows) := by
  have := blk_pre (N := N) (H := bLa rows) (ext := ext) fun B hB => by
    rw [bLa_len]
    simp only [bLa, List.mem_cons, List.mem_map, Option.some.injEq] at hB
    rcases hB with rfl | ⟨r, _, h⟩
    · rw [renB_row, ownL_fix (by omega)]
    · rw [← h]; exact bRow_fix
  rw [bLa_len] at this
  exact this
theorem bLa_some {rows : List (List Int)} : (bLa rows).all (·.isSome) = true := by
  rw [List.all_eq_true]
  intro B hB
  simp only [bLa, List.mem_cons, List.mem_map] at hB
  rcases hB with rfl | ⟨r, _, rfl⟩ <;> rfl
theorem own_rng {n m N k : Nat} (hk : k < n) : ((ownL 1 n).set k [.own (n + 1)]).map (renL (List.range (n + 1) ++ [m]) N) = (ownL 1 n).set k [.own m] := by
  apply List.ext_getElem?
  intro j
  rw [List.getElem?_map]
  by_cases hj : j < n
  · by_cases e : k = j
    · subst e
      rw [List.getElem?_set_self (by rw [ownL_len]; exact hj), List.getElem?_set_self (by rw [ownL_len]; exact hj)]
      have : rn (List.range (n + 1) ++ [m]) N (n + 1) = m := rn_at (by rw [List.getElem?_append_right (by simp)]; simp)
      simp only [Option.map_some, renL_cons, renL_nil, ren_own, this]
    · rw [List.getElem?_set_ne e, List.getElem?_set_ne e, ownL_get hj]
      have : rn (List.range (n + 1) ++ [m]) N (1 + j) = 1 + j := rn_at (by rw [List.getElem?_append_left (by simp; omega), List.getElem?_range (by omega)])
      simp only [Option.map_some, renL_cons, renL_nil, ren_own, this]
  · rw [List.getElem?_eq_none (by rw [List.length_set, ownL_len]; omega), List.getElem?_eq_none (by rw [List.length_set, ownL_len]; omega)]
    rfl
theorem rn_rngA {n m N i : Nat} (h : i < n) : rn (List.range n ++ [m]) N i = i := rn_at (by rw [List.getElem?_append_left (by simpa using h), List.getElem?_range h])
theorem nodup_rngA {n m : Nat} (h : n ≤ m) : nodupR (List.range n ++ [m]) = true := nodupR_of (List.nodup_append.2 ⟨List.nodup_range, by simp, fun a ha b hb => by have := List.mem_range.1 ha; have := List.mem_singleton.1 hb; omega⟩)
theorem pre_rngA {n m : Nat} : ∀ {k : Nat}, k ≤ n → preR (List.range n ++ [m]) k
  | 0, _ => trivial
  | k + 1, h => ⟨by rw [List.getElem?_append_left (by simp; omega)]; exact List.getElem?_range (by omega), pre_rngA (k := k) (by omega)⟩
theorem next_found_blk {rows : List (List Int)} {N k m : Nat} {r' : List Int} {ext : Hp} (hk : k < rows.length) (he : (some (.row 51 1 ((ownL 1 rows.length).set k [.own m])) :: ((rows.map bRow).set k none ++ ext))[m]? = some (bRow r')) :
    blkR (List.range (rows.length + 1) ++ [m]) N (some (.row 51 1 ((ownL 1 rows.length).set k [.own m])) :: ((rows.map bRow).set k none ++ ext)) (List.range (rows.length + 1) ++ [m]) (some (.row 51 1 ((ownL 1 rows.length).set k [.own (rows.length + 1)])) :: ((rows.map bRow).set k none ++ [bRow r'])) := by
  refine blkR_all (by simp) fun i b B h1 h2 => ?_
  cases i with
  | zero =>
    have : b = 0 := by
      rw [List.getElem?_append_left (by simp), List.getElem?_range (by omega)] at h1
      cases h1; rfl
    subst this
    cases h2
    rw [renB_row, own_rng hk]
    rfl
  | succ i =>
    rw [List.getElem?_cons_succ] at h2
    by_cases hi : i < rows.length
    · have : b = i + 1 := by
        rw [List.getElem?_append_left (by simp; omega), List.getElem?_range (by omega)] at h1
        cases h1; rfl
      subst this
      rw [List.getElem?_append_left (by simpa using hi)] at h2
      rw [List.getElem?_cons_succ, List.getElem?_append_left (by simpa using hi), h2]
      by_cases e : k = i
      · subst e
        rw [List.getElem?_set_self (by simpa using hi)] at h2
        cases h2
      · rw [List.getElem?_set_ne e, List.getElem?_map, List.getElem?_eq_getElem hi] at h2
        injection h2 with h2
        rw [← h2, bRow_fix]
    · have hl : i = rows.length := by
        have := (List.getElem?_eq_some_iff.1 h2).1
        simp at this
        omega
      subst hl
      have : b = m := by
        rw [List.getElem?_append_right (by simp)] at h1
        simp at h1
        exact h1.symm
      subst this
      rw [List.getElem?_append_right (by simp)] at h2
      simp at h2
      rw [he, ← h2, bRow_fix]
set_option maxHeartbeats 2000000 in
theorem sL21Next_none (l : GLanes) (ok : lanesOk l = true) (hK : laneK l = none) : PCalls Try.prog 120 [.agg (pLaO l)] (bLa l.fRows) (RH (.tup [.agg (pLaO l), .val (.int .i64 (-1)), .val (.int .i64 (-1))]) (bLa l.fRows)) := by
  have f := lanesOk_iff.1 ok
  have hn := f.n5
  have hn1 := f.n1
  have hT0 := laneK_no hK
  obtain ⟨rows, turn⟩ := l
  obtain ⟨t, rfl⟩ : ∃ t : Nat, turn = t := ⟨turn.toNat, by have := f.t0; simp only at this; omega⟩
  have htn := f.t1
  dsimp only at *
  have at_ : ∀ i, laneAt ⟨rows, t⟩ i = (t + i) % rows.length := fun i => by unfold laneAt; simp only [Int.toNat_natCast]
  refine pcalls_ofR okP Try.func120 rfl ?_
  simp only [Try.f120, List.length_cons, List.length_nil, Nat.reduceAdd, Nat.reduceSub, List.replicate_succ, List.replicate_zero, List.cons_append, List.nil_append, List.length_map]
  repeat' (first | with_reducible refine PWp.seq ?_ | with_reducible refine PWp.block ?_ | with_reducible refine PWp.region okP true ?_ | with_reducible refine PWp.drawT (id := 8) okP true (.step 0 (.step 2 (.step 4 (.step 5 (.step 6 (.step 7 (.step 8 (.step 9 (.fork (.alt 1 (.step 3 (.step 10 (.step 11 (.step 12 .done)))) (.alt 3 (.fork (.alt 1 (.step 10 (.step 11 (.step 12 .done))) (.alt 10 (.step 1 (.step 11 (.step 12 .done))) .stop))) .stop))))))))))) (by kernel_rfl) ?_ | with_reducible (first | refine pops_nil ?_ | refine pany_nil ?_ | refine pthen_normal ?_ | refine pblock_normal ?_ | refine pthen_ret ?_ | refine pblock_ret ?_ | refine pthen_exit ?_ | refine pblock_here ?_ | refine pblock_there rfl ?_ | refine PWp.ret ?_ | refine PWp.exit ?_ | refine PWp.skip ?_) | ((with_reducible refine hK _ ?_); clear hK K) | ((with_reducible refine PWp.condI ?_); refine ⟨_, rfl, fun hg => ?_, fun hg => ?_⟩ <;> first | (exact absurd hg (by decide)) | ((try simp only [Bool.not_true, Bool.not_false] at hg); (try simp only [hg]); (try simp only [push_cast] at hg); (try exact absurd trivial hg); (try (exfalso; omega)))) | with_reducible (first | refine ptree_done ?_ | exact ptree_stop | refine ptree_fork ?_) | ((with_reducible refine ptree_I ?_); refine ⟨_, rfl, fun K hK => ?_⟩) | ((with_reducible refine ptree_A ?_ ?_); (refine ⟨_, rfl, fun K hK => ?_⟩)) | ((with_reducible refine pany_I ?_); refine ⟨_, rfl, fun K hK => ?_⟩) | ((with_reducible refine pops_plain fun K hK => popO_row ?_); refine ⟨_, _, _, _, _, rfl, rfl, rfl, rfl, rfl, ?_⟩; simp (disch := omega) only [push_cast, seval]) | ((with_reducible refine pD_x ?_ (popO_row ?_)); exact rfl; refine ⟨_, _, _, _, _, rfl, rfl, rfl, rfl, rfl, ?_⟩; simp (disch := omega) only [push_cast, seval]) | ((with_reducible refine pops_plain fun K hK => ?_); simp (disch := omega) only [push_cast, seval]) | ((first | ((with_reducible refine pD_y ?_ ?_); exact rfl) | ((with_reducible refine pD_x ?_ ?_); exact rfl)); simp (disch := omega) only [push_cast, seval]) | ((with_reducible refine And.intro ?_ ?_); omega))
  refine PWp.loopK (α := Nat) (fun i => [(1, .ptr (rows.length + 1) 0), (2, .ptr (rows.length + 1 + 1) 0), (6, .val (.int .i64 (i : Int)))]) [0, 3, 4, 7, 8, 9, 10, 11, 12, 13, 14, 15, 16, 17, 18, 19, 20, 21, 22, 23, 24, 25, 26, 27, 28, 29, 30, 31, 32, 33, 34, 35, 36, 37, 38, 39, 40, 41, 42, 43, 44, 45, 46, 47, 48, 49, 50, 51, 52, 53, 54, 55, 56] (fun i => some (.row 51 1 (ownL 1 rows.length)) :: (rows.map bRow ++ [some (.box [.own 0, .val (.int .i64 t)]), some (.box [.val (.slice none 0 0), .val (.int .i64 0)])])) (fun i => i ≤ rows.length) (fun i => rows.length - i) (0) (Nat.zero_le _) (⟨List.range (rows.length + 3), by ((try simp (disch := omega) only [push_cast, seval, rn_rng]); (repeat' (first | exact trivial | exact rfl | refine And.intro ?_ ?_ | omega))), next_same, nodup_rng, pre_rng (by rw [bLa_len]; omega)⟩) ?_
  intro i ρ hI
  (try dsimp only at hI)
  refine PWp.at (tm' := ?_) (H' := ?_) ?_ ?_ ?_; rotate_left 2; (· ((try simp only [push_cast, seval]); exact rfl)); (· ((try dsimp only); exact rfl))
  by_cases hlt : i < rows.length
  · obtain ⟨k, hk⟩ : ∃ k, k = (t + i) % rows.length := ⟨_, rfl⟩
    have hkl : k < rows.length := by rw [hk]; exact Nat.mod_lt _ (by omega)
    have hc : ((t : Int) + (i : Int)) % (rows.length : Int) = (k : Int) := by rw [hk]; simp
    have hka : laneAt ⟨rows, t⟩ i = k := by rw [at_, hk]
    obtain ⟨r, hx⟩ : ∃ r, rows[k]? = some r := ⟨_, List.getElem?_eq_getElem hkl⟩
    have hr := laneR_get (l := ⟨rows, t⟩) hx
    have hr0 := hT0 i hlt
    rw [hka, hr] at hr0
    subst hr0
    clear hk
    have hLk : (rows.map bRow)[k]? = some (some (.row 3 1 [])) := by rw [List.getElem?_map, hx]; rfl
    repeat' (first | with_reducible refine PWp.seq ?_ | with_reducible refine PWp.block ?_ | with_reducible refine PWp.region okP true ?_ | with_reducible refine PWp.drawT (id := 8) okP true (.step 0 (.step 2 (.step 4 (.step 5 (.step 6 (.step 7 (.step 8 (.step 9 (.fork (.alt 1 (.step 3 (.step 10 (.step 11 (.step 12 .done)))) (.alt 3 (.fork (.alt 1 (.step 10 (.step 11 (.step 12 .done))) (.alt 10 (.step 1 (.step 11 (.step 12 .done))) .stop))) .stop))))))))))) (by kernel_rfl) ?_ | with_reducible (first | refine pops_nil ?_ | refine pany_nil ?_ | refine pthen_normal ?_ | refine pblock_normal ?_ | refine pthen_ret ?_ | refine pblock_ret ?_ | refine pthen_exit ?_ | refine pblock_here ?_ | refine pblock_there rfl ?_ | refine PWp.ret ?_ | refine PWp.exit ?_ | refine PWp.skip ?_) | ((with_reducible refine hK _ ?_); clear hK K) | ((with_reducible refine PWp.condI ?_); refine ⟨_, rfl, fun hg => ?_, fun hg => ?_⟩ <;> first | (exact absurd hg (by decide)) | ((try simp only [Bool.not_true, Bool.not_false] at hg); (try simp only [hg]); (try simp only [push_cast] at hg); (try exact absurd trivial hg); (try (exfalso; omega)))) | with_reducible (first | refine ptree_done ?_ | exact ptree_stop | refine ptree_fork ?_) | ((with_reducible refine ptree_I ?_); refine ⟨_, rfl, fun K hK => ?_⟩) | ((with_reducible refine ptree_A ?_ ?_); (refine ⟨_, rfl, fun K hK => ?_⟩)) | ((with_reducible refine pany_I ?_); refine ⟨_, rfl, fun K hK => ?_⟩) | ((with_reducible refine pops_plain fun K hK => popO_row ?_); refine ⟨_, _, _, _, _, rfl, rfl, rfl, rfl, rfl, ?_⟩; simp (disch := omega) only [push_cast, seval, hc, ownL_at hkl, app_get hLk]) | ((with_reducible refine pD_x ?_ (popO_row ?_)); exact rfl; refine ⟨_, _, _, _, _, rfl, rfl, rfl, rfl, rfl, ?_⟩; simp (disch := omega) only [push_cast, seval, hc, ownL_at hkl, app_get hLk]) | ((with_reducible refine pops_plain fun K hK => ?_); simp (disch := omega) only [push_cast, seval, hc, ownL_at hkl, app_get hLk]) | ((first | ((with_reducible refine pD_y ?_ ?_); exact rfl) | ((with_reducible refine pD_x ?_ ?_); exact rfl)); simp (disch := omega) only [push_cast, seval, hc, ownL_at hkl, app_get hLk]) | ((with_reducible refine And.intro ?_ ?_); omega))
    refine ⟨i + 1, by (try dsimp only); omega, hlt, List.range (rows.length + 3), ?_, next_same, nodup_rng, pre_rng (by rw [bLa_len]; omega)⟩
    ((try simp (disch := omega) only [push_cast, seval, rn_rng]); (repeat' (first | exact trivial | exact rfl | refine And.intro ?_ ?_ | omega)))
  obtain rfl : i = rows.length := by omega
  repeat' (first | with_reducible refine PWp.seq ?_ | with_reducible refine PWp.block ?_ | with_reducible refine PWp.region okP true ?_ | with_reducible refine PWp.drawT (id := 8) okP true (.step 0 (.step 2 (.step 4 (.step 5 (.step 6 (.step 7 (.step 8 (.step 9 (.fork (.alt 1 (.step 3 (.step 10 (.step 11 (.step 12 .done)))) (.alt 3 (.fork (.alt 1 (.step 10 (.step 11 (.step 12 .done))) (.alt 10 (.step 1 (.step 11 (.step 12 .done))) .stop))) .stop))))))))))) (by kernel_rfl) ?_ | with_reducible (first | refine pops_nil ?_ | refine pany_nil ?_ | refine pthen_normal ?_ | refine pblock_normal ?_ | refine pthen_ret ?_ | refine pblock_ret ?_ | refine pthen_exit ?_ | refine pblock_here ?_ | refine pblock_there rfl ?_ | refine PWp.ret ?_ | refine PWp.exit ?_ | refine PWp.skip ?_) | ((with_reducible refine hK _ ?_); clear hK K) | ((with_reducible refine PWp.condI ?_); refine ⟨_, rfl, fun hg => ?_, fun hg => ?_⟩ <;> first | (exact absurd hg (by decide)) | ((try simp only [Bool.not_true, Bool.not_false] at hg); (try simp only [hg]); (try simp only [push_cast] at hg); (try exact absurd trivial hg); (try (exfalso; omega)))) | with_reducible (first | refine ptree_done ?_ | exact ptree_stop | refine ptree_fork ?_) | ((with_reducible refine ptree_I ?_); refine ⟨_, rfl, fun K hK => ?_⟩) | ((with_reducible refine ptree_A ?_ ?_); (refine ⟨_, rfl, fun K hK => ?_⟩)) | ((with_reducible refine pany_I ?_); refine ⟨_, rfl, fun K hK => ?_⟩) | ((with_reducible refine pops_plain fun K hK => popO_row ?_); refine ⟨_, _, _, _, _, rfl, rfl, rfl, rfl, rfl, ?_⟩; simp (disch := omega) only [push_cast, seval]) | ((with_reducible refine pD_x ?_ (popO_row ?_)); exact rfl; refine ⟨_, _, _, _, _, rfl, rfl, rfl, rfl, rfl, ?_⟩; simp (disch := omega) only [push_cast, seval]) | ((with_reducible refine pops_plain fun K hK => ?_); simp (disch := omega) only [push_cast, seval]) | ((first | ((with_reducible refine pD_y ?_ ?_); exact rfl) | ((with_reducible refine pD_x ?_ ?_); exact rfl)); simp (disch := omega) only [push_cast, seval]) | ((with_reducible refine And.intro ?_ ?_); omega))
  refine pendHG (List.range (rows.length + 1)) (.inl rfl) ⟨_, presults_agg (b := rows.length + 1 + 1) (o := 0) rfl (by ((try simp (disch := omega) only [push_cast, seval]); (repeat' (first | exact trivial | exact rfl | refine And.intro ?_ ?_ | omega)))) rfl rfl rfl (by exact Nat.le_refl _) (presults_tmp (presults_tmp presults_nil)), ?_⟩ next_pre nodup_rng (pre_rng (by rw [bLa_len]; omega))
  ((try simp (disch := omega) only [push_cast, seval, rn_rng]); (repeat' (first | exact trivial | exact rfl | refine And.intro ?_ ?_ | omega)))
set_option maxHeartbeats 2000000 in
theorem sL21Next_some (l : GLanes) (ok : lanesOk l = true) {i0 k : Nat} {x : Int} {r : List Int} (hK : laneK l = some i0) (hk0 : laneAt l i0 = k) (hx : l.fRows[k]? = some (x :: r)) : PCalls Try.prog 120 [.agg (pLaO l)] (bLa l.fRows) (RH (.tup [.agg [.own 0, .val (.int .i64 (((k + 1) % l.fRows.length : Nat) : Int))], .val (.int .i64 (k : Int)), .val (.int .i64 x)]) (some (.row 51 1 ((ownL 1 l.fRows.length).set k [.own (l.fRows.length + 1)])) :: ((l.fRows.map bRow).set k none ++ [bRow r]))) := by
  have f := lanesOk_iff.1 ok
  have hn := f.n5
  have hn1 := f.n1
  have hr5 : ∀ r ∈ l.fRows, r.length ≤ 6 := fun r hr => by obtain ⟨k, hk, rfl⟩ := List.getElem_of_mem hr; exact (f.row k _ (List.getElem?_eq_getElem hk)).1
  obtain ⟨hi0, _, hT0⟩ := laneK_spec hK
  obtain ⟨rows, turn⟩ := l
  obtain ⟨t, rfl⟩ : ∃ t : Nat, turn = t := ⟨turn.toNat, by have := f.t0; simp only at this; omega⟩
  have htn := f.t1
  dsimp only at *
  have at_ : ∀ i, laneAt ⟨rows, t⟩ i = (t + i) % rows.length := fun i => by unfold laneAt; simp only [Int.toNat_natCast]
  have hkl := (List.getElem?_eq_some_iff.1 hx).1
  have hrl := hr5 _ (List.mem_of_getElem? hx)
  simp only [List.length_cons] at hrl
  refine pcalls_ofR okP Try.func120 rfl ?_
  simp only [Try.f120, List.length_cons, List.length_nil, Nat.reduceAdd, Nat.reduceSub, List.replicate_succ, List.replicate_zero, List.cons_append, List.nil_append, List.length_map]
  repeat' (first | with_reducible refine PWp.seq ?_ | with_reducible refine PWp.block ?_ | with_reducible refine PWp.region okP true ?_ | with_reducible refine PWp.drawT (id := 8) okP true (.step 0 (.step 2 (.step 4 (.step 5 (.step 6 (.step 7 (.step 8 (.step 9 (.fork (.alt 1 (.step 3 (.step 10 (.step 11 (.step 12 .done)))) (.alt 3 (.fork (.alt 1 (.step 10 (.step 11 (.step 12 .done))) (.alt 10 (.step 1 (.step 11 (.step 12 .done))) .stop))) .stop))))))))))) (by kernel_rfl) ?_ | with_reducible (first | refine pops_nil ?_ | refine pany_nil ?_ | refine pthen_normal ?_ | refine pblock_normal ?_ | refine pthen_ret ?_ | refine pblock_ret ?_ | refine pthen_exit ?_ | refine pblock_here ?_ | refine pblock_there rfl ?_ | refine PWp.ret ?_ | refine PWp.exit ?_ | refine PWp.skip ?_) | ((with_reducible refine hK _ ?_); clear hK K) | ((with_reducible refine PWp.condI ?_); refine ⟨_, rfl, fun hg => ?_, fun hg => ?_⟩ <;> first | (exact absurd hg (by decide)) | ((try simp only [Bool.not_true, Bool.not_false] at hg); (try simp only [hg]); (try simp only [push_cast] at hg); (try exact absurd trivial hg); (try (exfalso; omega)))) | with_reducible (first | refine ptree_done ?_ | exact ptree_stop | refine ptree_fork ?_) | ((with_reducible refine ptree_I ?_); refine ⟨_, rfl, fun K hK => ?_⟩) | ((with_reducible refine ptree_A ?_ ?_); (refine ⟨_, rfl, fun K hK => ?_⟩)) | ((with_reducible refine pany_I ?_); refine ⟨_, rfl, fun K hK => ?_⟩) | ((with_reducible refine pops_plain fun K hK => popO_row ?_); refine ⟨_, _, _, _, _, rfl, rfl, rfl, rfl, rfl, ?_⟩; simp (disch := omega) only [push_cast, seval]) | ((with_reducible refine pD_x ?_ (popO_row ?_)); exact rfl; refine ⟨_, _, _, _, _, rfl, rfl, rfl, rfl, rfl, ?_⟩; simp (disch := omega) only [push_cast, seval]) | ((with_reducible refine pops_plain fun K hK => ?_); simp (disch := omega) only [push_cast, seval]) | ((first | ((with_reducible refine pD_y ?_ ?_); exact rfl) | ((with_reducible refine pD_x ?_ ?_); exact rfl)); simp (disch := omega) only [push_cast, seval]) | ((with_reducible refine And.intro ?_ ?_); omega))
  refine PWp.loopK (α := Nat) (fun i => [(1, .ptr (rows.length + 1) 0), (2, .ptr (rows.length + 1 + 1) 0), (6, .val (.int .i64 (i : Int)))]) [0, 3, 4, 7, 8, 9, 10, 11, 12, 13, 14, 15, 16, 17, 18, 19, 20, 21, 22, 23, 24, 25, 26, 27, 28, 29, 30, 31, 32, 33, 34, 35, 36, 37, 38, 39, 40, 41, 42, 43, 44, 45, 46, 47, 48, 49, 50, 51, 52, 53, 54, 55, 56] (fun i => some (.row 51 1 (ownL 1 rows.length)) :: (rows.map bRow ++ [some (.box [.own 0, .val (.int .i64 t)]), some (.box [.val (.slice none 0 0), .val (.int .i64 0)])])) (fun i => i ≤ i0) (fun i => i0 - i) (0) (Nat.zero_le _) (⟨List.range (rows.length + 3), by ((try simp (disch := omega) only [push_cast, seval, rn_rng]); (repeat' (first | exact trivial | exact rfl | refine And.intro ?_ ?_ | omega))), next_same, nodup_rng, pre_rng (by rw [bLa_len]; omega)⟩) ?_
  intro i ρ hI
  (try dsimp only at hI)
  refine PWp.at (tm' := ?_) (H' := ?_) ?_ ?_ ?_; rotate_left 2; (· ((try simp only [push_cast, seval]); exact rfl)); (· ((try dsimp only); exact rfl))
  obtain ⟨q, hq⟩ : ∃ q, q = (t + i) % rows.length := ⟨_, rfl⟩
  have hql : q < rows.length := by rw [hq]; exact Nat.mod_lt _ (by omega)
  have hc : ((t : Int) + (i : Int)) % (rows.length : Int) = (q : Int) := by rw [hq]; simp
  have hka : laneAt ⟨rows, t⟩ i = q := by rw [at_, hq]
  by_cases hlt : i < i0
  · obtain ⟨s, hs⟩ : ∃ s, rows[q]? = some s := ⟨_, List.getElem?_eq_getElem hql⟩
    have hs0 := hT0 i hlt
    rw [hka, laneR_get (l := ⟨rows, t⟩) hs] at hs0
    subst hs0
    clear hq
    have hLk : (rows.map bRow)[q]? = some (some (.row 3 1 [])) := by rw [List.getElem?_map, hs]; rfl
    repeat' (first | with_reducible refine PWp.seq ?_ | with_reducible refine PWp.block ?_ | with_reducible refine PWp.region okP true ?_ | with_reducible refine PWp.drawT (id := 8) okP true (.step 0 (.step 2 (.step 4 (.step 5 (.step 6 (.step 7 (.step 8 (.step 9 (.fork (.alt 1 (.step 3 (.step 10 (.step 11 (.step 12 .done)))) (.alt 3 (.fork (.alt 1 (.step 10 (.step 11 (.step 12 .done))) (.alt 10 (.step 1 (.step 11 (.step 12 .done))) .stop))) .stop))))))))))) (by kernel_rfl) ?_ | with_reducible (first | refine pops_nil ?_ | refine pany_nil ?_ | refine pthen_normal ?_ | refine pblock_normal ?_ | refine pthen_ret ?_ | refine pblock_ret ?_ | refine pthen_exit ?_ | refine pblock_here ?_ | refine pblock_there rfl ?_ | refine PWp.ret ?_ | refine PWp.exit ?_ | refine PWp.skip ?_) | ((with_reducible refine hK _ ?_); clear hK K) | ((with_reducible refine PWp.condI ?_); refine ⟨_, rfl, fun hg => ?_, fun hg => ?_⟩ <;> first | (exact absurd hg (by decide)) | ((try simp only [Bool.not_true, Bool.not_false] at hg); (try simp only [hg]); (try simp only [push_cast] at hg); (try exact absurd trivial hg); (try (exfalso; omega)))) | with_reducible (first | refine ptree_done ?_ | exact ptree_stop | refine ptree_fork ?_) | ((with_reducible refine ptree_I ?_); refine ⟨_, rfl, fun K hK => ?_⟩) | ((with_reducible refine ptree_A ?_ ?_); (refine ⟨_, rfl, fun K hK => ?_⟩)) | ((with_reducible refine pany_I ?_); refine ⟨_, rfl, fun K hK => ?_⟩) | ((with_reducible refine pops_plain fun K hK => popO_row ?_); refine ⟨_, _, _, _, _, rfl, rfl, rfl, rfl, rfl, ?_⟩; simp (disch := omega) only [push_cast, seval, hc, ownL_at hql, app_get hLk]) | ((with_reducible refine pD_x ?_ (popO_row ?_)); exact rfl; refine ⟨_, _, _, _, _, rfl, rfl, rfl, rfl, rfl, ?_⟩; simp (disch := omega) only [push_cast, seval, hc, ownL_at hql, app_get hLk]) | ((with_reducible refine pops_plain fun K hK => ?_); simp (disch := omega) only [push_cast, seval, hc, ownL_at hql, app_get hLk]) | ((first | ((with_reducible refine pD_y ?_ ?_); exact rfl) | ((with_reducible refine pD_x ?_ ?_); exact rfl)); simp (disch := omega) only [push_cast, seval, hc, ownL_at hql, app_get hLk]) | ((with_reducible refine And.intro ?_ ?_); omega))
    refine ⟨i + 1, by (try dsimp only); omega, hlt, List.range (rows.length + 3), ?_, next_same, nodup_rng, pre_rng (by rw [bLa_len]; omega)⟩
    ((try simp (disch := omega) only [push_cast, seval, rn_rng]); (repeat' (first | exact trivial | exact rfl | refine And.intro ?_ ?_ | omega)))
  obtain rfl : i = i0 := by omega
  obtain rfl : q = k := by rw [← hka, hk0]
  clear hq
  have hm : (((q : Int) + 1) % (rows.length : Int)) = (((q + 1) % rows.length : Nat) : Int) := by simp
  generalize (q + 1) % rows.length = t' at hm ⊢
  have hLk : (rows.map bRow)[q]? = some (some (.row 3 1 ((x :: r).map pInt))) := by rw [List.getElem?_map, hx]; rfl
  have hkL : q < (rows.map bRow).length := by simpa using hkl
  have htk : List.take r.length (List.map pInt r) = List.map pInt r := List.take_of_length_le (by simp)
  repeat' (first | with_reducible refine mkRegion (id := 8) ?_ | with_reducible refine PWp.seq ?_ | with_reducible refine PWp.block ?_ | with_reducible refine PWp.region okP true ?_ | with_reducible refine PWp.drawT (id := 8) okP true (.step 0 (.step 2 (.step 4 (.step 5 (.step 6 (.step 7 (.step 8 (.step 9 (.fork (.alt 1 (.step 3 (.step 10 (.step 11 (.step 12 .done)))) (.alt 3 (.fork (.alt 1 (.step 10 (.step 11 (.step 12 .done))) (.alt 10 (.step 1 (.step 11 (.step 12 .done))) .stop))) .stop))))))))))) (by kernel_rfl) ?_ | with_reducible (first | refine pops_nil ?_ | refine pany_nil ?_ | refine pthen_normal ?_ | refine pblock_normal ?_ | refine pthen_ret ?_ | refine pblock_ret ?_ | refine pthen_exit ?_ | refine pblock_here ?_ | refine pblock_there rfl ?_ | refine PWp.ret ?_ | refine PWp.exit ?_ | refine PWp.skip ?_) | ((with_reducible refine hK _ ?_); clear hK K) | ((with_reducible refine PWp.condI ?_); refine ⟨_, rfl, fun hg => ?_, fun hg => ?_⟩ <;> first | (exact absurd hg (by decide)) | ((try simp only [Bool.not_true, Bool.not_false] at hg); (try simp only [hg]); (try simp only [push_cast] at hg); (try exact absurd trivial hg); (try (exfalso; omega)))) | with_reducible (first | refine ptree_done ?_ | exact ptree_stop | refine ptree_fork ?_) | ((with_reducible refine ptree_I ?_); refine ⟨_, rfl, fun K hK => ?_⟩) | ((with_reducible refine ptree_A ?_ ?_); (refine ⟨_, rfl, fun K hK => ?_⟩)) | ((with_reducible refine pany_I ?_); refine ⟨_, rfl, fun K hK => ?_⟩) | ((with_reducible refine pops_plain fun K hK => popO_row ?_); refine ⟨_, _, _, _, _, rfl, rfl, rfl, rfl, rfl, ?_⟩; simp (disch := omega) only [push_cast, seval, hc, hm, ownL_at hql, app_get hLk]) | ((with_reducible refine pD_x ?_ (popO_row ?_)); exact rfl; refine ⟨_, _, _, _, _, rfl, rfl, rfl, rfl, rfl, ?_⟩; simp (disch := omega) only [push_cast, seval, hc, hm, ownL_at hql, app_get hLk]) | ((with_reducible refine pops_plain fun K hK => ?_); simp (disch := omega) only [push_cast, seval, hc, hm, ownL_at hql, app_get hLk]) | ((first | ((with_reducible refine pD_y ?_ ?_); exact rfl) | ((with_reducible refine pD_x ?_ ?_); exact rfl)); simp (disch := omega) only [push_cast, seval, hc, hm, ownL_at hql, app_get hLk]) | ((with_reducible refine And.intro ?_ ?_); omega))
  refine Mk.of (PWp.frz (q + 1) (e := 3) (sz := 1) (es := (x :: r).map pInt) (by ((try simp (disch := omega) only [push_cast, seval, app_get hLk]); (repeat' (first | exact trivial | exact rfl | refine And.intro ?_ ?_ | omega)))) (rowsC fun _ => rfl) ?_)
  refine PWp.at (tm' := ?_) (H' := ?_) ?_ ?_ ?_; rotate_left 2
  · simp (disch := omega) only [push_cast, seval, thaw, thaw1]
    exact rfl
  · simp (disch := omega) only [push_cast, seval, thaw, thaw1, thawB, set_app hkL, thaw_rowsS, thaw_ownL]
    exact rfl
  repeat' (first | with_reducible refine PWp.seq ?_ | with_reducible refine PWp.block ?_ | with_reducible refine PWp.region okP true ?_ | with_reducible refine PWp.drawT (id := 8) okP true (.step 0 (.step 2 (.step 4 (.step 5 (.step 6 (.step 7 (.step 8 (.step 9 (.fork (.alt 1 (.step 3 (.step 10 (.step 11 (.step 12 .done)))) (.alt 3 (.fork (.alt 1 (.step 10 (.step 11 (.step 12 .done))) (.alt 10 (.step 1 (.step 11 (.step 12 .done))) .stop))) .stop))))))))))) (by kernel_rfl) ?_ | with_reducible (first | refine pops_nil ?_ | refine pany_nil ?_ | refine pthen_normal ?_ | refine pblock_normal ?_ | refine pthen_ret ?_ | refine pblock_ret ?_ | refine pthen_exit ?_ | refine pblock_here ?_ | refine pblock_there rfl ?_ | refine PWp.ret ?_ | refine PWp.exit ?_ | refine PWp.skip ?_) | ((with_reducible refine hK _ ?_); clear hK K) | ((with_reducible refine PWp.condI ?_); refine ⟨_, rfl, fun hg => ?_, fun hg => ?_⟩ <;> first | (exact absurd hg (by decide)) | ((try simp only [Bool.not_true, Bool.not_false] at hg); (try simp only [hg]); (try simp only [push_cast] at hg); (try exact absurd trivial hg); (try (exfalso; omega)))) | with_reducible (first | refine ptree_done ?_ | exact ptree_stop | refine ptree_fork ?_) | ((with_reducible refine ptree_I ?_); refine ⟨_, rfl, fun K hK => ?_⟩) | ((with_reducible refine ptree_A ?_ ?_); (refine ⟨_, rfl, fun K hK => ?_⟩)) | ((with_reducible refine pany_I ?_); refine ⟨_, rfl, fun K hK => ?_⟩) | ((with_reducible refine pops_plain fun K hK => popO_row ?_); refine ⟨_, _, _, _, _, rfl, rfl, rfl, rfl, rfl, ?_⟩; simp (disch := omega) only [push_cast, seval, hc, hm, ownS_at hql, htk, List.length_set]) | ((with_reducible refine pD_x ?_ (popO_row ?_)); exact rfl; refine ⟨_, _, _, _, _, rfl, rfl, rfl, rfl, rfl, ?_⟩; simp (disch := omega) only [push_cast, seval, hc, hm, ownS_at hql, htk, List.length_set]) | ((with_reducible refine pops_plain fun K hK => ?_); simp (disch := omega) only [push_cast, seval, hc, hm, ownS_at hql, htk, List.length_set]) | ((first | ((with_reducible refine pD_y ?_ ?_); exact rfl) | ((with_reducible refine pD_x ?_ ?_); exact rfl)); simp (disch := omega) only [push_cast, seval, hc, hm, ownS_at hql, htk, List.length_set]) | ((with_reducible refine And.intro ?_ ?_); omega))
  all_goals
    refine pendHG (List.range (rows.length + 1) ++ [rows.length + 3 + 1]) (.inl rfl) ⟨_, presults_agg (b := rows.length + 1 + 1) (o := 0) rfl (by ((try simp (disch := omega) only [push_cast, seval]); (repeat' (first | exact trivial | exact rfl | refine And.intro ?_ ?_ | omega)))) rfl rfl rfl (by exact Nat.le_refl _) (presults_tmp (presults_tmp presults_nil)), ?_⟩ (next_found_blk hql ?_) (nodup_rngA (by omega)) (pre_rngA (by rw [bLa_len]; omega))
    · ((try simp (disch := omega) only [push_cast, seval, rn_rngA]); (repeat' (first | exact trivial | exact rfl | refine And.intro ?_ ?_ | omega)))
    · ((try simp (disch := omega) only [push_cast, seval, bRow]); (repeat' (first | exact trivial | exact rfl | refine And.intro ?_ ?_ | omega)))
theorem wsets_rng (f : Option Blk → Option Blk) : ∀ (L' pre L rest : Hp) (a : Nat), pre.length = a → L.length = L'.length → wsets f (List.range' a L'.length) (L' ++ rest) (pre ++ L) = pre ++ L'.map f
  | [], pre, L, rest, a, _, h => by
    have : L = [] := List.eq_nil_of_length_eq_zero (by simpa using h)
    subst this
    rfl
  | B :: L', pre, [], rest, a, _, h => by simp at h
  | B :: L', pre, C :: L, rest, a, hp, h => by
    rw [List.length_cons, List.range'_succ]
    show wsets f (List.range' (a + 1) L'.length) (L' ++ rest) ((pre ++ C :: L).set a (f B)) = _
    have : (pre ++ C :: L).set a (f B) = (pre ++ [f B]) ++ L := by
      rw [List.set_append_right _ _ (by omega), show a - pre.length = 0 by omega]
      simp
    rw [this, wsets_rng f L' (pre ++ [f B]) L rest (a + 1) (by simp; omega) (by simpa using h)]
    simp
/-- The memory behind a call to which a row of rows was handed over. -/
theorem wback_rows {n : Nat} {b0 b1 o o' : Option Blk} {L L' ext : Hp} (h1 : L.length = n) (h2 : L'.length = n) : wback (2 :: List.range' 3 n) (b0 :: b1 :: o :: L) (o' :: (L' ++ ext)) = b0 :: b1 :: renB (2 :: List.range' 3 n) (n + 3) o' :: (L'.map (renB (2 :: List.range' 3 n) (n + 3)) ++ ext.map (renB (2 :: List.range' 3 n) (n + 3))) := by
  unfold wback
  have hl : (b0 :: b1 :: o :: L).length = n + 3 := by simp [h1]
  rw [hl]
  have hd : (o' :: (L' ++ ext)).drop (2 :: List.range' 3 n).length = ext := by
    simp only [List.length_cons, List.length_range', List.drop_succ_cons]
    rw [← h2, List.drop_left]
  rw [hd]
  show wsets _ (List.range' 3 n) (L' ++ ext) ([b0, b1, renB (2 :: List.range' 3 n) (n + 3) o'] ++ L) ++ _ = _
  rw [← h2, wsets_rng _ L' _ L ext 3 rfl (by omega)]
  rfl
theorem bRows_fix {φ : List Nat} {N : Nat} {rows : List (List Int)} : (rows.map bRow).map (renB φ N) = rows.map bRow := by
  rw [List.map_map]
  exact List.map_congr_left fun r _ => bRow_fix
theorem bRows_fixS {φ : List Nat} {N k : Nat} {rows : List (List Int)} : ((rows.map bRow).set k none).map (renB φ N) = (rows.map bRow).set k none := by rw [List.map_set, bRows_fix]; rfl
theorem own_back {n k : Nat} : ((ownL 1 n).set k [.own (n + 1)]).map (renL (2 :: List.range' 3 n) (n + 3)) = (ownL 3 n).set k [.own (n + 3)] := by
  rw [List.map_set, own_shift]
  have : rn (2 :: List.range' 3 n) (n + 3) (n + 1) = n + 3 := by rw [rn_ge (by simp)]; simp
  simp only [renL_cons, renL_nil, ren_own, this]
set_option maxHeartbeats 2000000 in
theorem sLanesNext_p (l : GLanes) (ok : lanesOk l = true) : PCalls Try.prog 61 [.agg (pLanes l)] [] (RH (.tup [.agg (pLaO (lanesNext l).1), .val (.int .i64 (lanesNext l).2.1), .val (.int .i64 (lanesNext l).2.2)]) (bLa (lanesNext l).1.fRows)) := by
  have f := lanesOk_iff.1 ok
  have hn := f.n5
  have hn1 := f.n1
  have hr5 : ∀ r ∈ l.fRows, r.length ≤ 6 := fun r hr => by obtain ⟨k, hk, rfl⟩ := List.getElem_of_mem hr; exact (f.row k _ (List.getElem?_eq_getElem hk)).1
  have hr1 : ∀ r ∈ l.fRows, r.length ≤ 1099511627776 := fun r hr => by have := hr5 r hr; omega
  have hr2 : ∀ r ∈ l.fRows, r.length ≤ 2000000 := fun r hr => by have := hr5 r hr; omega
  cases hK : laneK l with
  | none =>
    have nx := sL21Next_none l ok hK
    rw [next_none hK]
    obtain ⟨rows, t⟩ := l
    dsimp only at *
    refine pcalls_ofR okP Try.func61 rfl ?_
    simp only [Try.f61, List.length_cons, List.length_nil, Nat.reduceAdd, Nat.reduceSub, List.replicate_succ, List.replicate_zero, List.cons_append, List.nil_append, List.length_map]
    repeat' (first | with_reducible refine PWp.seq ?_ | with_reducible refine PWp.block ?_ | with_reducible refine PWp.region okP true ?_ | with_reducible (first | refine pops_nil ?_ | refine pany_nil ?_ | refine pthen_normal ?_ | refine pblock_normal ?_ | refine pthen_ret ?_ | refine pblock_ret ?_ | refine pthen_exit ?_ | refine pblock_here ?_ | refine pblock_there rfl ?_ | refine PWp.ret ?_ | refine PWp.exit ?_ | refine PWp.skip ?_) | ((with_reducible refine hK _ ?_); clear hK K) | ((with_reducible refine PWp.condI ?_); refine ⟨_, rfl, fun hg => ?_, fun hg => ?_⟩ <;> first | (exact absurd hg (by decide)) | ((try simp only [Bool.not_true, Bool.not_false] at hg); (try simp only [hg]); (try simp only [push_cast] at hg); (try exact absurd trivial hg); (try (exfalso; omega)))) | ((with_reducible refine pops_plain fun K hK => popO_build ?_); refine ⟨_, rfl, _, rfl, ?_⟩; simp (disch := omega) only [push_cast, seval, ok]) | ((with_reducible refine pbuild_cs ?_); refine ⟨_, rfl, _, rfl, ?_⟩; simp (disch := omega) only [push_cast, seval, ok]) | ((with_reducible refine pops_plain fun K hK => ?_); simp (disch := omega) only [push_cast, seval, ok]) | ((with_reducible show pcall _ _ _ _ _ _); (first | (refine pcV (g := 55) (callable_of Try.func55 rfl rfl) (sLanesOk_p ⟨_, _⟩ (by (first | assumption | omega | (simp; omega) | (simp_all; done) | (simp_all; omega))) (by assumption)) ?_) | (refine pcF (g := 119) (callable_of Try.func119 rfl rfl) (sL21Copy_p ⟨_, _⟩ (by (first | assumption | omega | (simp; omega) | (simp_all; done) | (simp_all; omega))) (by assumption)) ?_) | ((refine pcall_RG (g := 120) (2 :: List.range' 3 rows.length) (callable_of Try.func120 rfl rfl) nx (by ((try simp (disch := omega) only [push_cast, seval]); (repeat' (first | exact trivial | exact rfl | refine And.intro ?_ ?_ | omega)))) ⟨by ((try simp (disch := omega) only [push_cast, seval, own_shift]); (repeat' (first | exact trivial | exact rfl | refine And.intro ?_ ?_ | omega))), blk_shift [_, _, _] rfl⟩ bLa_some (nodup_shift (by omega)) ?_; rw [show bLa rows = some (.row 51 1 (ownL 1 rows.length)) :: (rows.map bRow ++ []) by simp [bLa], wback_rows (by simp) (by simp), bRows_fix, renB_row, own_shift]; dsimp only))); (try simp (disch := omega) only [push_cast, seval, ok])) | ((with_reducible refine And.intro ?_ ?_); omega))
    refine pendHG (2 :: List.range' 3 rows.length) (.inl rfl) ?_ ⟨?_, ?_⟩ (nodup_shift (by omega)) trivial
    · ((try (apply Exists.intro; apply And.intro; (· repeat' (first | exact presults_nil | apply presults_tmp | (apply presults_agg; (· exact rfl); (· exact rfl); (· exact rfl); (· exact rfl); (· exact rfl); (· first | exact Nat.le_refl _ | decide | simp)) | (apply presults_one; (· exact rfl); (· exact rfl); (· exact rfl); (· exact rfl); (· exact rfl)))))); (try simp (disch := omega) only [push_cast, seval]); (repeat' (first | exact trivial | exact rfl | refine And.intro ?_ ?_ | omega)))
    · ((try simp (disch := omega) only [push_cast, seval, own_shift]); (repeat' (first | exact trivial | exact rfl | refine And.intro ?_ ?_ | omega)))
    · exact blk_shiftE [_, _, _] _ rfl
  | some i =>
    obtain ⟨x, r, hx⟩ := laneK_row hK
    have e := next_some hK hx
    generalize hk : laneAt l i = k at hx e
    have nx := sL21Next_some l ok hK hk hx
    rw [e]
    obtain ⟨rows, t⟩ := l
    dsimp only at *
    generalize (k + 1) % rows.length = t' at nx ⊢
    have hkl := (List.getElem?_eq_some_iff.1 hx).1
    refine pcalls_ofR okP Try.func61 rfl ?_
    simp only [Try.f61, List.length_cons, List.length_nil, Nat.reduceAdd, Nat.reduceSub, List.replicate_succ, List.replicate_zero, List.cons_append, List.nil_append, List.length_map]
    repeat' (first | with_reducible refine PWp.seq ?_ | with_reducible refine PWp.block ?_ | with_reducible refine PWp.region okP true ?_ | with_reducible (first | refine pops_nil ?_ | refine pany_nil ?_ | refine pthen_normal ?_ | refine pblock_normal ?_ | refine pthen_ret ?_ | refine pblock_ret ?_ | refine pthen_exit ?_ | refine pblock_here ?_ | refine pblock_there rfl ?_ | refine PWp.ret ?_ | refine PWp.exit ?_ | refine PWp.skip ?_) | ((with_reducible refine hK _ ?_); clear hK K) | ((with_reducible refine PWp.condI ?_); refine ⟨_, rfl, fun hg => ?_, fun hg => ?_⟩ <;> first | (exact absurd hg (by decide)) | ((try simp only [Bool.not_true, Bool.not_false] at hg); (try simp only [hg]); (try simp only [push_cast] at hg); (try exact absurd trivial hg); (try (exfalso; omega)))) | ((with_reducible refine pops_plain fun K hK => popO_build ?_); refine ⟨_, rfl, _, rfl, ?_⟩; simp (disch := omega) only [push_cast, seval, ok]) | ((with_reducible refine pbuild_cs ?_); refine ⟨_, rfl, _, rfl, ?_⟩; simp (disch := omega) only [push_cast, seval, ok]) | ((with_reducible refine pops_plain fun K hK => ?_); simp (disch := omega) only [push_cast, seval, ok]) | ((with_reducible show pcall _ _ _ _ _ _); (first | (refine pcV (g := 55) (callable_of Try.func55 rfl rfl) (sLanesOk_p ⟨_, _⟩ (by (first | assumption | omega | (simp; omega) | (simp_all; done) | (simp_all; omega))) (by assumption)) ?_) | (refine pcF (g := 119) (callable_of Try.func119 rfl rfl) (sL21Copy_p ⟨_, _⟩ (by (first | assumption | omega | (simp; omega) | (simp_all; done) | (simp_all; omega))) (by assumption)) ?_) | ((refine pcall_RG (g := 120) (2 :: List.range' 3 rows.length) (callable_of Try.func120 rfl rfl) nx (by ((try simp (disch := omega) only [push_cast, seval]); (repeat' (first | exact trivial | exact rfl | refine And.intro ?_ ?_ | omega)))) ⟨by ((try simp (disch := omega) only [push_cast, seval, own_shift]); (repeat' (first | exact trivial | exact rfl | refine And.intro ?_ ?_ | omega))), blk_shift [_, _, _] rfl⟩ bLa_some (nodup_shift (by omega)) ?_; rw [wback_rows (by simp) (by simp), bRows_fixS, renB_row, own_back, List.map_cons, List.map_nil, bRow_fix]; dsimp only))); (try simp (disch := omega) only [push_cast, seval, ok])) | ((with_reducible refine And.intro ?_ ?_); omega))
    refine pendHG (2 :: (List.range' 3 rows.length).set k (rows.length + 3)) (.inl rfl) ?_ ⟨?_, ?_⟩ (nodup_set (by omega) (by omega)) trivial
    · ((try (apply Exists.intro; apply And.intro; (· repeat' (first | exact presults_nil | apply presults_tmp | (apply presults_agg; (· exact rfl); (· exact rfl); (· exact rfl); (· exact rfl); (· exact rfl); (· first | exact Nat.le_refl _ | decide | simp)) | (apply presults_one; (· exact rfl); (· exact rfl); (· exact rfl); (· exact rfl); (· exact rfl)))))); (try simp (disch := omega) only [push_cast, seval]); (repeat' (first | exact trivial | exact rfl | refine And.intro ?_ ?_ | omega)))
    · ((try simp (disch := omega) only [push_cast, seval, List.length_set, own_put hkl]); (repeat' (first | exact trivial | exact rfl | refine And.intro ?_ ?_ | omega)))
    · refine blk_set (fun j q hj hq => ?_) ?_
      · rw [show 3 + j = j + 1 + 1 + 1 by omega]
        simp only [List.getElem?_cons_succ]
        rw [List.getElem?_append_left (by have := (List.getElem?_eq_some_iff.1 hq).1; simpa using this), List.getElem?_set_ne (fun q => hj q.symm), List.getElem?_map, hq]
        rfl
      · ((try simp (disch := omega) only [push_cast, seval, bRow]); (repeat' (first | exact trivial | exact rfl | refine And.intro ?_ ?_ | omega)))
end Go.Proofs.Ytkbikihbomnghaa
