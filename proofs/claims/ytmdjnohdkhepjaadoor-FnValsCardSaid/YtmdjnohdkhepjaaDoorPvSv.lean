/- The library's sort by a comparison, at the program's own rows of validators. -/
import Derived.Test.YtmdjnohdkhepjaaDoorK1
import Derived.Ground.SlsfProg
import Derived.Shelf.SlSortCmp.NoneTotal
namespace Go.Proofs
open Go.Shelf
def Tryd.laysSortFuncV_ren : Go.Shelf.Ren := ⟨fun | 6 => 49 | 15 => 75 | 14 => 74 | 28 => 98 | 29 => 99 | 20 => 90 | 21 => 91 | 22 => 92 | 23 => 93 | 24 => 94 | 25 => 95 | 26 => 96 | 27 => 97 | 46 => 104 | 47 => 105 | 48 => 106 | 49 => 107 | 50 => 108 | 57 => 109 | n => n, fun | 22 => 28 | 24 => 42 | 25 => 63 | 3 => 3 | 39 => 80 | 0 => 0 | 53 => 90 | 55 => 106 | 4 => 4 | 46 => 98 | 45 => 97 | 50 => 102 | 5 => 5 | 9 => 9 | 66 => 111 | 70 => 115 | 76 => 117 | 77 => 86 | n => n, fun | n => n⟩
theorem Tryd.laysSortFuncV : Go.Proofs.SlLaysF0.n6 Tryd.prog Tryd.laysSortFuncV_ren := {
  mixed := by kernel_rfl
  f6 := ⟨Tryd.f49.name, by decide, Tryd.func49.trans (congrArg some (by kernel_rfl))⟩
  f14 := ⟨Tryd.f74.name, by decide, Tryd.func74.trans (congrArg some (by kernel_rfl))⟩
  f15 := Tryd.func75.trans (congrArg some (by kernel_rfl))
  f20 := ⟨Tryd.f90.name, by decide, Tryd.func90.trans (congrArg some (by kernel_rfl))⟩
  f21 := ⟨Tryd.f91.name, by decide, Tryd.func91.trans (congrArg some (by kernel_rfl))⟩
  f22 := ⟨Tryd.f92.name, by decide, Tryd.func92.trans (congrArg some (by kernel_rfl))⟩
  f23 := ⟨Tryd.f93.name, by decide, Tryd.func93.trans (congrArg some (by kernel_rfl))⟩
  f24 := ⟨Tryd.f94.name, by decide, Tryd.func94.trans (congrArg some (by kernel_rfl))⟩
  f25 := ⟨Tryd.f95.name, by decide, Tryd.func95.trans (congrArg some (by kernel_rfl))⟩
  f26 := ⟨Tryd.f96.name, by decide, Tryd.func96.trans (congrArg some (by kernel_rfl))⟩
  f27 := ⟨Tryd.f97.name, by decide, Tryd.func97.trans (congrArg some (by kernel_rfl))⟩
  f28 := Tryd.func98.trans (congrArg some (by kernel_rfl))
  f29 := Tryd.func99.trans (congrArg some (by kernel_rfl))
  f46 := ⟨Tryd.f104.name, by decide, Tryd.func104.trans (congrArg some (by kernel_rfl))⟩
  f47 := Tryd.func105.trans (congrArg some (by kernel_rfl))
  f48 := Tryd.func106.trans (congrArg some (by kernel_rfl))
  f49 := ⟨Tryd.f107.name, by decide, Tryd.func107.trans (congrArg some (by kernel_rfl))⟩
  f50 := ⟨Tryd.f108.name, by decide, Tryd.func108.trans (congrArg some (by kernel_rfl))⟩
  f57 := ⟨Tryd.f109.name, by decide, Tryd.func109.trans (congrArg some (by kernel_rfl))⟩
  t0 := Tryd.underlying0
  a0 := Tryd.isAgg0
  z0 := Tryd.sizeOf0
  v0 := Tryd.zeroValue0
  t3 := Tryd.underlying3
  a3 := Tryd.isAgg3
  z3 := Tryd.sizeOf3
  v3 := Tryd.zeroValue3
  t4 := Tryd.underlying4
  a4 := Tryd.isAgg4
  z4 := Tryd.sizeOf4
  v4 := Tryd.zeroValue4
  t5 := Tryd.underlying5
  a5 := Tryd.isAgg5
  z5 := Tryd.sizeOf5
  v5 := Tryd.zeroValue5
  t9 := Tryd.underlying9
  a9 := Tryd.isAgg9
  z9 := Tryd.sizeOf9
  v9 := Tryd.zeroValue9
  t22 := Tryd.underlying28
  a22 := Tryd.isAgg28
  z22 := Tryd.sizeOf28
  v22 := Tryd.zeroValue28
  t25 := Tryd.underlying63
  a25 := Tryd.isAgg63
  z25 := Tryd.sizeOf63
  v25 := Tryd.zeroValue63
  t39 := Tryd.underlying80
  a39 := Tryd.isAgg80
  z39 := Tryd.sizeOf80
  v39 := Tryd.zeroValue80
  t45 := Tryd.underlying97
  a45 := Tryd.isAgg97
  z45 := Tryd.sizeOf97
  v45 := Tryd.zeroValue97
  t46 := Tryd.underlying98
  a46 := Tryd.isAgg98
  z46 := Tryd.sizeOf98
  v46 := Tryd.zeroValue98
  t50 := Tryd.underlying102
  a50 := Tryd.isAgg102
  z50 := Tryd.sizeOf102
  v50 := Tryd.zeroValue102
  t53 := Tryd.underlying90
  a53 := Tryd.isAgg90
  z53 := Tryd.sizeOf90
  v53 := Tryd.zeroValue90
  t55 := Tryd.underlying106
  a55 := Tryd.isAgg106
  z55 := Tryd.sizeOf106
  v55 := Tryd.zeroValue106
  t66 := Tryd.underlying111
  a66 := Tryd.isAgg111
  z66 := Tryd.sizeOf111
  v66 := Tryd.zeroValue111
  t70 := Tryd.underlying115
  a70 := Tryd.isAgg115
  z70 := Tryd.sizeOf115
  v70 := Tryd.zeroValue115
  t76 := Tryd.underlying117
  a76 := Tryd.isAgg117
  z76 := Tryd.sizeOf117
  v76 := Tryd.zeroValue117
  t77 := Tryd.underlying86
  a77 := Tryd.isAgg86
  z77 := Tryd.sizeOf86
  v77 := Tryd.zeroValue86 }
end Go.Proofs
namespace Go.Proofs.YtmdjnohdkhepjaaDoor
set_option linter.unusedSimpArgs false
set_option linter.unusedVariables false
open Go.RowKit Go.Sort
set_option maxRecDepth 100000

def vaD (x : GVal) : List D := [.int x.fId, .int x.fPower]
instance : Inhabited GVal := ⟨⟨0, 0⟩⟩
def gV (x : GVal) : List Value := [.int .i64 x.fId, .int .i64 x.fPower]
theorem vaD_val (xs : List GVal) : (xs.flatMap vaD).map valD = xs.flatMap gV := by
  induction xs with
  | nil => rfl
  | cons x r ih => rw [List.flatMap_cons, List.map_append, ih, List.flatMap_cons]; rfl
theorem gV_get : ∀ (ys : List GVal) (i j : Nat) (hi : i < ys.length), j < 2 → (ys.flatMap gV)[i * 2 + j]? = (gV ys[i])[j]?
  | y :: ys, 0, j, hi, hj => by
    rw [List.flatMap_cons, Nat.zero_mul, Nat.zero_add, List.getElem?_append_left (by simpa [gV] using hj)]
    rfl
  | y :: ys, i + 1, j, hi, hj => by
    rw [List.flatMap_cons, List.getElem?_append_right (by simp [gV]; omega)]
    have e : (i + 1) * 2 + j - (gV y).length = i * 2 + j := by simp [gV]; omega
    rw [e, gV_get ys i j (by simpa using hi) hj]
    rfl
theorem gV_len (ys : List GVal) : (ys.flatMap gV).length = ys.length * 2 := by
  induction ys with
  | nil => rfl
  | cons y r ih => rw [List.flatMap_cons, List.length_append, ih, List.length_cons]; simp [gV]; omega
theorem gV_flatK (ys : List GVal) : flatK gV 2 ys.toArray = (ys.flatMap gV).toArray := by
  refine ext_get! (by rw [size_flatK, List.size_toArray, List.size_toArray, gV_len]) fun t ht => ?_
  have ht' : t < ys.length * 2 := by simpa using ht
  rw [get_flatK _ _ _ t (by simpa using ht')]
  have h1 : t / 2 < ys.length := by omega
  have h2 : t % 2 < 2 := by omega
  have e := gV_get ys (t / 2) (t % 2) h1 h2
  rw [show t / 2 * 2 + t % 2 = t by omega] at e
  have e1 : (ys.toArray)[t / 2]! = ys[t / 2] := by simp [h1]
  rw [e1]
  simp only [List.getElem!_toArray, List.getElem!_eq_getElem?_getD, e]
theorem holds_of_block {w : World} {g : Nat} {cur : Array Value} {e : TypeId} {L : List Value} (hb : w.heap[g]? = some (.cells cur e (0, 0))) (ht : cur.toList.take L.length = L) : Holds id w g 0 L.toArray := by
  intro j hj
  have hj' : j < L.length := by simpa using hj
  refine ⟨?_, by simp [World.frozen?, hb]⟩
  have h1 : (cur.toList.take L.length)[j]? = L[j]? := by rw [ht]
  rw [List.getElem?_take_of_lt hj'] at h1
  simp only [World.cell?, hb, Nat.zero_add]
  simp only [Option.isSome_none, Bool.false_eq_true, if_false]
  rw [← Array.getElem?_toList, h1]
  simp [hj']
theorem heap_sortedV {w : World} {g n : Nat} {os : Array Go.Obj} {cur : Array Value} {e : TypeId} {fr : Nat × Nat} (d : Array Value) (hb : w.heap[g]? = some (.cells cur e fr)) :
    (grow (putRow id (Sort.ahead w n) g 0 d) os).heap[g]? = some (.cells (putCells id 0 d cur) e fr) := by
  have hg : g < w.heap.size := (Array.getElem?_eq_some_iff.1 hb).1
  rw [heap_grow_old _ _ (by simpa using hg)]
  simp [putRow, mapBlock, Sort.ahead, Array.getElem?_modify, hb, onCells]
theorem grownBy_sortedV {w : World} {g n : Nat} {os : Array Go.Obj} (d : Array Value) : w.grownBy (grow (putRow id (Sort.ahead w n) g 0 d) os) (some g) := by
  refine ⟨rfl, rfl, rfl, by simp, fun k hk hne => ?_⟩
  rw [heap_grow_old _ _ (by simpa using hk)]
  have : g ≠ k := fun e => hne (by rw [e])
  simp [putRow, mapBlock, Sort.ahead, Array.getElem?_modify, this]
theorem take_putCellsV (cur : Array Value) (L : List Value) (h : L.length ≤ cur.size) : (putCells id 0 L.toArray cur).toList.take L.length = L := by
  apply List.ext_getElem?
  intro j
  by_cases hj : j < L.length
  · rw [List.getElem?_take_of_lt hj, Array.getElem?_toList]
    simp [putCells, hj, show j < cur.size by omega]
  · rw [List.getElem?_take_eq_none (by omega), List.getElem?_eq_none (by omega)]
theorem row_va {M : Mem} {h : Home} {w : World} {t : TypeId} {v : Value} {ys : List GVal} (hv : ∃ o n c, v = .slice o n c) (ho : w.ownsRow 0 t 2 v ys.length (ys.flatMap gV)) : BR M h w v (.row t 2 (ys.map pVal)) := by
  refine ⟨hv, ys.flatMap gV, by simpa using ho, fun row hr => by obtain ⟨x, _, rfl⟩ := List.mem_map.1 hr; rfl, fun u hu => ?_, fun i j row pv u a b d => ?_⟩
  · obtain ⟨x, _, hx⟩ := List.mem_flatMap.1 hu
    simp [gV] at hx
    rcases hx with rfl | rfl <;> rfl
  · rw [List.getElem?_map, Option.map_eq_some_iff] at a
    obtain ⟨x, a, rfl⟩ := a
    have hj : j < 2 := (List.getElem?_eq_some_iff.1 b).1
    obtain ⟨hi, e⟩ := List.getElem?_eq_some_iff.1 a
    rw [gV_get ys i j hi hj, e] at d
    match j, hj with
    | 0, _ => simp [gV] at d; simp [pVal] at b; subst d; subst b; exact .val _
    | 1, _ => simp [gV] at d; simp [pVal] at b; subst d; subst b; exact .val _
section
variable {P : Program} {f g : FuncId}
theorem pcalls_sortF {xs ys : List GVal} (hyl : ys.length = xs.length) (hs : ∀ (blk cap : Nat) (w : World), HoldsK gV 2 w blk 0 xs.toArray → blk < w.heap.size → xs.length < 4611686018427387904 → Calls P f #[.slice (some ⟨blk, 0, none⟩) xs.length cap, .func (.func g) #[] #[]] w fun e w' => e = .returned (.tuple #[]) ∧ ∃ n os, w' = sortWorldK gV 2 w blk 0 n ys.toArray os)
    (hn : ∀ w : World, Calls P f #[.slice none 0 0, .func (.func g) #[] #[]] w fun e w' => e = .returned (.tuple #[]) ∧ w' = w) (t : TypeId) (hl : xs.length ≤ 1099511627776) :
    PCalls P f [.own 0, .val (.func (.func g) #[] #[])] [some (.row t 2 (xs.map pVal))] (RH (.tup []) [some (.row t 2 (ys.map pVal))]) := by
  intro M h w vs I rv
  obtain ⟨v, u, rfl⟩ : ∃ v u, vs = #[v, u] := ⟨vs[0]'(by have := rv.1; simp at this; omega), vs[1]'(by have := rv.1; simp at this; omega), by
    have := rv.1
    simp at this
    exact Array.ext (by simp; try omega) fun i h1 h2 => by
      simp at h2
      match i, h2 with
      | 0, _ => rfl
      | 1, _ => rfl⟩
  have r := rv.2 0 _ v rfl rfl
  have ru := vr_val (rv.2 1 _ u rfl rfl)
  subst ru
  cases r with
  | own _ oo n c hb =>
    have q1 := I.row_own (enc := vaD) (sz := 2) (xs := xs) (fun _ => rfl) (by decide) (fun _ => rfl) (b := 0) rfl hb
    rw [vaD_val] at q1
    by_cases hv : (Value.slice oo n c) = .slice none 0 0
    · rw [hv] at q1 hb ⊢
      have hx : xs = [] := by
        rcases q1.2 with ⟨_, g2⟩ | ⟨g, cap, cur, g1, _⟩
        · exact List.length_eq_zero_iff.1 g2
        · cases g1
      subst hx
      have hnil : ys = [] := List.length_eq_zero_iff.1 hyl
      exact (hn w).mono fun e w' ⟨e1, e2⟩ => by subst e2; exact ⟨_, M, h, .tup [], _, e1, ⟨rfl, by rw [hnil]⟩, .tup [] #[] rfl (fun i pv v a => by simp at a), .refl I⟩
    · rcases q1.2 with ⟨g1', _⟩ | ⟨g', cap', cur, hv', hbase, hbk, k1, k2, k3, k4⟩
      · exact absurd g1' hv
      cases hv'
      have hH : HoldsK gV 2 w g' 0 xs.toArray := by
        unfold HoldsK
        rw [gV_flatK]
        exact holds_of_block hbk (by rw [gV_len]; exact k4)
      have hc := hs g' c w hH (Array.getElem?_eq_some_iff.1 hbk).1 (by omega)
      refine hc.mono fun e w' ⟨e2, nn, os, e3⟩ => ?_
      have hs2 : w'.ownsRow 0 t 2 (.slice (some ⟨g', 0, none⟩) xs.length c) ys.length (ys.flatMap gV) := by
        rw [e3]
        unfold sortWorldK putRowK
        rw [gV_flatK]
        refine ⟨gV_len _, .inr ⟨g', c, _, by rw [hyl], hbase, heap_sortedV _ hbk, by rw [hyl]; exact k1, k2, by simp [putCells, k3], ?_⟩⟩
        rw [← gV_len]
        refine take_putCellsV _ _ ?_
        rw [gV_len, hyl]
        omega
      exact ⟨_, M, h, .tup [], _, e2, ⟨rfl, rfl⟩, .tup [] #[] rfl (fun i pv v a => by simp at a), Step.turn I (b := 0) rfl hb rfl (by rw [e3]; unfold sortWorldK putRowK; exact grownBy_sortedV _) (row_va ⟨_, _, _, rfl⟩ hs2)⟩
end

theorem vsame_of_id {l : List GVal} (h : (l.map (·.fId)).Nodup) {a b : GVal} (ha : a ∈ l) (hb : b ∈ l) (e : a.fId = b.fId) : a = b := by
  obtain ⟨i, hi, rfl⟩ := List.getElem_of_mem ha
  obtain ⟨j, hj, rfl⟩ := List.getElem_of_mem hb
  rw [List.Nodup, List.pairwise_map, List.pairwise_iff_getElem] at h
  rcases Nat.lt_trichotomy i j with q | q | q
  · exact absurd e (h i j hi hj q)
  · subst q; rfl
  · exact absurd e.symm (h j i hj hi q)
def vcf (x y : GVal) : Int := if x.fId < y.fId then -1 else 1
theorem vlt (x y : GVal) : ltOf vcf x y = decide (x.fId < y.fId) := by
  unfold ltOf vcf
  rw [Bool.eq_iff_iff]
  simp only [decide_eq_true_eq]
  split <;> omega
theorem vswo : SWO (ltOf vcf) where
  irrefl x := by rw [vlt]; simp
  trans x y z h1 h2 := by rw [vlt, decide_eq_true_eq] at *; omega
  ntrans x y z h1 h2 := by rw [vlt, decide_eq_false_iff_not] at *; omega
def vSort (xs : List GVal) : List GVal := xs.mergeSort fun x y => decide (x.fId ≤ y.fId)
theorem vSort_perm (xs : List GVal) : (vSort xs).Perm xs := List.mergeSort_perm xs _
theorem vSort_len (xs : List GVal) : (vSort xs).length = xs.length := (vSort_perm xs).length_eq
theorem vSort_sorted (xs : List GVal) : (vSort xs).Pairwise fun a b => a.fId ≤ b.fId := by
  refine (List.pairwise_mergeSort (le := fun x y : GVal => decide (x.fId ≤ y.fId)) (fun a b c h1 h2 => ?_) (fun a b => ?_) xs).imp fun h => of_decide_eq_true h
  · rw [decide_eq_true_eq] at *; omega
  · rw [Bool.or_eq_true, decide_eq_true_eq, decide_eq_true_eq]; omega
theorem vSort_uniq {xs r : List GVal} (hn : (xs.map (·.fId)).Nodup) (hp : r.Perm xs) (hs : r.Pairwise fun a b => a.fId ≤ b.fId) : r = vSort xs :=
  List.Perm.eq_of_pairwise (le := fun a b : GVal => a.fId ≤ b.fId) (fun a b ha hb h1 h2 => vsame_of_id hn (hp.mem_iff.1 ha) ((vSort_perm xs).mem_iff.1 hb) (by omega)) hs (vSort_sorted xs) (hp.trans (vSort_perm xs).symm)
set_option maxHeartbeats 1000000 in
theorem vcmp_c (x y : GVal) (W : World) : Calls Tryd.prog 50 #[.agg #[.int .i64 x.fId, .int .i64 x.fPower], .agg #[.int .i64 y.fId, .int .i64 y.fPower]] W fun e w' => e = .returned (.int .i64 (vcf x y)) ∧ ∃ q os', w' = grow (W.drewN q) os' := by
  obtain ⟨i, s⟩ := x
  obtain ⟨j, t⟩ := y
  unfold vcf
  dsimp only
  by_cases h : i < j
  · rw [if_pos h]
    go_enter Tryd.func50, Tryd.ntmps50
    go_wp2
    go_ret
    exact ⟨rfl, 0, _, by rw [alloc_eq_grow, alloc_eq_grow, grow_grow]; rfl⟩
  · rw [if_neg h]
    go_enter Tryd.func50, Tryd.ntmps50
    go_wp2
    go_ret
    exact ⟨rfl, 0, _, by rw [alloc_eq_grow, alloc_eq_grow, grow_grow]; rfl⟩
theorem isAggV : ∀ w, (isAgg 42).run Tryd.prog w = .ok true w := fun w => by simp [go_sem]
theorem sizeOfV : ∀ w, (Go.sizeOf 42).run Tryd.prog w = .ok 2 w := fun w => by simp [go_sem]
theorem gV_one (x : GVal) : ∀ v ∈ gV x, v.oneCell' = true := fun v hv => by simp [gV] at hv; rcases hv with rfl | rfl <;> rfl
theorem vsort_u {zs : List GVal} (hnd : (zs.map (·.fId)).Nodup) {d' : Array GVal} (hp : PermIn 0 zs.toArray.size zs.toArray d') (hs : SortedIn (ltOf vcf) 0 zs.toArray.size d') : d' = (vSort zs).toArray := by
  obtain ⟨hsz, _, hperm⟩ := hp
  have e1 : d'.extract 0 zs.toArray.size = d' := by rw [← hsz]; exact Array.extract_size
  rw [e1, Array.extract_size] at hperm
  have key : d'.toList = vSort zs := by
    refine vSort_uniq hnd hperm ?_
    rw [List.pairwise_iff_getElem]
    intro i j hi hj hij
    have hi' : i < d'.size := by simpa using hi
    have hj' : j < d'.size := by simpa using hj
    have := hs i j (Nat.zero_le _) hij (by omega)
    rw [getElem!_pos d' j hj', getElem!_pos d' i hi', vlt, decide_eq_false_iff_not] at this
    simp only [Array.getElem_toList]
    omega
  rw [← key]
theorem vsort_n (w : World) : Calls Tryd.prog 49 #[.slice none 0 0, .func (.func 50) #[] #[]] w fun e w' => e = .returned (.tuple #[]) ∧ w' = w :=
  AnyF.slices_SortFunc_none { Tryd.laysSortFuncV with } none 0 _ w
theorem vsort_p (xs : List GVal) (h : xs.length ≤ 1099511627776 ∧ (xs.map (·.fId)).Nodup) : PCalls Tryd.prog 49 [.own 0, .val (.func (.func 50) #[] #[])] [some (.row 42 2 (xs.map pVal))] (RH (.tup []) [some (.row 42 2 ((vSort xs).map pVal))]) := by
  obtain ⟨hl, hnd⟩ := h
  have eg : ∀ args w, (callFunc 50 args).run Tryd.prog w = .ok (.enter 50 args) w := enters_of Tryd.func50 (by kernel_rfl) rfl
  refine pcalls_sortF (xs := xs) (ys := vSort xs) (vSort_len xs) (fun blk cap w hH hb hz => ?_) vsort_n _ hl
  have hcon := AnyQ.slices_SortFunc Tryd.laysSortFuncV 2 isAggV sizeOfV gV (fun _ => rfl) gV_one vcf vswo 50 #[] blk 0 cap xs.toArray w eg (fun _ _ _ _ x y => vcmp_c x y _) hH hb (by simpa using hz)
  exact hcon.mono fun e w' ⟨h1, d', n, os, h2, h3, h4⟩ => ⟨h1, n, os, by rw [h4, vsort_u hnd h2 h3]⟩
end Go.Proofs.YtmdjnohdkhepjaaDoor
