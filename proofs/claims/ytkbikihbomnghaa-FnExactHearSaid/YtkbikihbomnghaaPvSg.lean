/- The comparisons of addresses, and rows sorted by them. -/
import Derived.Test.YtkbikihbomnghaaPvSf
namespace Go.Proofs.Ytkbikihbomnghaa
set_option linter.unusedSimpArgs false
set_option linter.unusedVariables false
open Go.RowKit Go.Sort
set_option maxRecDepth 100000

def cfL (x y : GA) : Int := if x.1.fSeen = y.1.fSeen then x.1.fId - y.1.fId else y.1.fSeen - x.1.fSeen
def cfI (x y : GA) : Int := x.1.fId - y.1.fId
theorem ltL (x y : GA) : ltOf cfL x y = laB x.1 y.1 := by
  unfold ltOf cfL laB
  rw [Bool.eq_iff_iff]
  simp only [decide_eq_true_eq, Bool.or_eq_true, Bool.and_eq_true]
  split <;> omega
theorem ltI (x y : GA) : ltOf cfI x y = decide (x.1.fId < y.1.fId) := by
  unfold ltOf cfI
  rw [Bool.eq_iff_iff]
  simp only [decide_eq_true_eq]
  omega
theorem swoL : SWO (ltOf cfL) where
  irrefl x := by rw [ltL, ← Bool.not_eq_true, laB_iff]; omega
  trans x y z h1 h2 := by rw [ltL, laB_iff] at *; omega
  ntrans x y z h1 h2 := by rw [ltL, ← Bool.not_eq_true, laB_iff] at *; omega
theorem swoI : SWO (ltOf cfI) where
  irrefl x := by rw [ltI]; simp
  trans x y z h1 h2 := by rw [ltI, decide_eq_true_eq] at *; omega
  ntrans x y z h1 h2 := by rw [ltI, decide_eq_false_iff_not] at *; omega
theorem totL (x y : GA) (h1 : ltOf cfL x y = false) (h2 : ltOf cfL y x = false) : x = y := by
  rw [ltL] at h1 h2
  exact Subtype.ext (late_anti (by rw [h2]; rfl) (by rw [h1]; rfl))
set_option maxHeartbeats 1000000 in
theorem latest_c (x y : GA) (W : World) : Calls Try.prog 133 #[.agg #[.int .i64 x.1.fId, .int .i64 x.1.fSeen], .agg #[.int .i64 y.1.fId, .int .i64 y.1.fSeen]] W fun e w' => e = .returned (.int .i64 (cfL x y)) ∧ ∃ q os', w' = grow (W.drewN q) os' := by
  obtain ⟨⟨i, s⟩, hx⟩ := x
  obtain ⟨⟨j, t⟩, hy⟩ := y
  dsimp only at hx hy
  unfold cfL
  dsimp only
  by_cases h : s = t
  · rw [if_pos h]
    subst h
    go_enter Try.func133, Try.ntmps133
    go_wp2
    go_ret
    exact ⟨rfl, 0, _, by rw [alloc_eq_grow, alloc_eq_grow, grow_grow]; rfl⟩
  · rw [if_neg h]
    go_enter Try.func133, Try.ntmps133
    go_wp2
    go_ret
    exact ⟨rfl, 0, _, by rw [alloc_eq_grow, alloc_eq_grow, grow_grow]; rfl⟩
set_option maxHeartbeats 1000000 in
theorem byId_c (x y : GA) (W : World) : Calls Try.prog 139 #[.agg #[.int .i64 x.1.fId, .int .i64 x.1.fSeen], .agg #[.int .i64 y.1.fId, .int .i64 y.1.fSeen]] W fun e w' => e = .returned (.int .i64 (cfI x y)) ∧ ∃ q os', w' = grow (W.drewN q) os' := by
  obtain ⟨⟨i, s⟩, hx⟩ := x
  obtain ⟨⟨j, t⟩, hy⟩ := y
  dsimp only at hx hy
  unfold cfI
  dsimp only
  go_enter Try.func139, Try.ntmps139
  go_wp2
  go_ret
  exact ⟨rfl, 0, _, by rw [alloc_eq_grow, alloc_eq_grow, grow_grow]; rfl⟩
theorem isAggA : ∀ w, (isAgg 144).run Try.prog w = .ok true w := fun w => by simp [go_sem]
theorem sizeOfA : ∀ w, (Go.sizeOf 144).run Try.prog w = .ok 2 w := fun w => by simp [go_sem]
theorem gV_one (x : GA) : ∀ v ∈ gV x, v.oneCell' = true := fun v hv => by simp [gV, adV] at hv; rcases hv with rfl | rfl <;> rfl
def srtL (zs : List GA) : List GA := zs.mergeSort fun x y => !(ltOf cfL) y x
theorem sortL_c (blk cap : Nat) (zs : List GA) (w : World) (hH : HoldsK gV 2 w blk 0 zs.toArray) (hb : blk < w.heap.size) (hz : zs.length < 4611686018427387904) :
    Calls Try.prog 132 #[.slice (some ⟨blk, 0, none⟩) zs.length cap, .func (.func 133) #[] #[]] w fun e w' => e = .returned (.tuple #[]) ∧ ∃ n os, w' = sortWorldK gV 2 w blk 0 n (srtL zs).toArray os := by
  have eg : ∀ args w, (callFunc 133 args).run Try.prog w = .ok (.enter 133 args) w := enters_of Try.func133 (by kernel_rfl) rfl
  exact AnyQ.slices_SortFunc_total Try.laysSortFunc 2 isAggA sizeOfA gV (fun _ => rfl) gV_one cfL swoL 133 #[] blk 0 cap zs.toArray w eg (fun _ _ _ _ x y => latest_c x y _) hH hb (by simpa using hz) totL
theorem sortL_n (w : World) : Calls Try.prog 132 #[.slice none 0 0, .func (.func 133) #[] #[]] w fun e w' => e = .returned (.tuple #[]) ∧ w' = w :=
  AnyF.slices_SortFunc_none { Try.laysSortFunc with } none 0 _ w
theorem srtL_late (zs : List GA) : (srtL zs).map (·.1) = late (zs.map (·.1)) := by
  refine late_uniq ((List.mergeSort_perm _ _).map _) ?_
  rw [List.pairwise_map]
  refine (List.pairwise_mergeSort (fun a b c h1 h2 => ?_) (fun a b => ?_) zs).imp fun h => ?_
  · rw [ltL, laB_no] at *; omega
  · rw [Bool.or_eq_true, ltL, ltL, laB_no, laB_no]; omega
  · rw [ltL] at h; exact h
theorem sortL_p (xs : List GAddr) (h : xs.length ≤ 1099511627776 ∧ ∀ x ∈ xs, aOk x = true) : PCalls Try.prog 132 [.own 0, .val (.func (.func 133) #[] #[])] [some (.row 144 2 (xs.map pAddr))] (RH (.tup []) [some (.row 144 2 ((late xs).map pAddr))]) := by
  obtain ⟨hl, hx⟩ := h
  obtain ⟨ys, rfl⟩ : ∃ ys : List GA, xs = ys.map (·.1) := ⟨xs.attach.map fun x => ⟨x.1, aOk_facts (hx x.1 x.2)⟩, by simp⟩
  rw [← srtL_late]
  exact pcalls_sortF (xs := ys) (ys := srtL ys) (List.length_mergeSort ys) (fun b c w => sortL_c b c ys w) sortL_n _ (by simpa using hl)
end Go.Proofs.Ytkbikihbomnghaa
