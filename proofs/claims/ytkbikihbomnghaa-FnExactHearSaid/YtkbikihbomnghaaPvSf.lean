/- The library's sort by a comparison, at the program's own rows of addresses. -/
import Derived.Test.YtkbikihbomnghaaMa
import Derived.Test.YtkbikihbomnghaaK1
import Derived.Ground.SlsfProg
import Derived.Shelf.SlSortCmp.NoneTotal
namespace Go.Proofs
open Go.Shelf
def Try.laysSortFunc_ren : Go.Shelf.Ren := ⟨fun | 6 => 132 | 15 => 150 | 14 => 163 | 28 => 177 | 29 => 178 | 20 => 183 | 21 => 184 | 22 => 185 | 23 => 186 | 24 => 187 | 25 => 188 | 26 => 189 | 27 => 190 | 46 => 198 | 47 => 192 | 48 => 193 | 49 => 199 | 50 => 200 | 57 => 202 | n => n, fun | 22 => 97 | 24 => 144 | 25 => 149 | 3 => 3 | 39 => 157 | 0 => 0 | 53 => 189 | 55 => 191 | 4 => 4 | 46 => 181 | 45 => 180 | 50 => 186 | 5 => 5 | 9 => 9 | 66 => 200 | 70 => 204 | 76 => 208 | 77 => 193 | n => n, fun | n => n⟩
theorem Try.laysSortFunc : Go.Proofs.SlLaysF0.n6 Try.prog Try.laysSortFunc_ren := {
  mixed := by kernel_rfl
  f6 := ⟨Try.f132.name, by decide, Try.func132.trans (congrArg some (by kernel_rfl))⟩
  f14 := ⟨Try.f163.name, by decide, Try.func163.trans (congrArg some (by kernel_rfl))⟩
  f15 := Try.func150.trans (congrArg some (by kernel_rfl))
  f20 := ⟨Try.f183.name, by decide, Try.func183.trans (congrArg some (by kernel_rfl))⟩
  f21 := ⟨Try.f184.name, by decide, Try.func184.trans (congrArg some (by kernel_rfl))⟩
  f22 := ⟨Try.f185.name, by decide, Try.func185.trans (congrArg some (by kernel_rfl))⟩
  f23 := ⟨Try.f186.name, by decide, Try.func186.trans (congrArg some (by kernel_rfl))⟩
  f24 := ⟨Try.f187.name, by decide, Try.func187.trans (congrArg some (by kernel_rfl))⟩
  f25 := ⟨Try.f188.name, by decide, Try.func188.trans (congrArg some (by kernel_rfl))⟩
  f26 := ⟨Try.f189.name, by decide, Try.func189.trans (congrArg some (by kernel_rfl))⟩
  f27 := ⟨Try.f190.name, by decide, Try.func190.trans (congrArg some (by kernel_rfl))⟩
  f28 := Try.func177.trans (congrArg some (by kernel_rfl))
  f29 := Try.func178.trans (congrArg some (by kernel_rfl))
  f46 := ⟨Try.f198.name, by decide, Try.func198.trans (congrArg some (by kernel_rfl))⟩
  f47 := Try.func192.trans (congrArg some (by kernel_rfl))
  f48 := Try.func193.trans (congrArg some (by kernel_rfl))
  f49 := ⟨Try.f199.name, by decide, Try.func199.trans (congrArg some (by kernel_rfl))⟩
  f50 := ⟨Try.f200.name, by decide, Try.func200.trans (congrArg some (by kernel_rfl))⟩
  f57 := ⟨Try.f202.name, by decide, Try.func202.trans (congrArg some (by kernel_rfl))⟩
  t0 := Try.underlying0
  a0 := Try.isAgg0
  z0 := Try.sizeOf0
  v0 := Try.zeroValue0
  t3 := Try.underlying3
  a3 := Try.isAgg3
  z3 := Try.sizeOf3
  v3 := Try.zeroValue3
  t4 := Try.underlying4
  a4 := Try.isAgg4
  z4 := Try.sizeOf4
  v4 := Try.zeroValue4
  t5 := Try.underlying5
  a5 := Try.isAgg5
  z5 := Try.sizeOf5
  v5 := Try.zeroValue5
  t9 := Try.underlying9
  a9 := Try.isAgg9
  z9 := Try.sizeOf9
  v9 := Try.zeroValue9
  t22 := Try.underlying97
  a22 := Try.isAgg97
  z22 := Try.sizeOf97
  v22 := Try.zeroValue97
  t25 := Try.underlying149
  a25 := Try.isAgg149
  z25 := Try.sizeOf149
  v25 := Try.zeroValue149
  t39 := Try.underlying157
  a39 := Try.isAgg157
  z39 := Try.sizeOf157
  v39 := Try.zeroValue157
  t45 := Try.underlying180
  a45 := Try.isAgg180
  z45 := Try.sizeOf180
  v45 := Try.zeroValue180
  t46 := Try.underlying181
  a46 := Try.isAgg181
  z46 := Try.sizeOf181
  v46 := Try.zeroValue181
  t50 := Try.underlying186
  a50 := Try.isAgg186
  z50 := Try.sizeOf186
  v50 := Try.zeroValue186
  t53 := Try.underlying189
  a53 := Try.isAgg189
  z53 := Try.sizeOf189
  v53 := Try.zeroValue189
  t55 := Try.underlying191
  a55 := Try.isAgg191
  z55 := Try.sizeOf191
  v55 := Try.zeroValue191
  t66 := Try.underlying200
  a66 := Try.isAgg200
  z66 := Try.sizeOf200
  v66 := Try.zeroValue200
  t70 := Try.underlying204
  a70 := Try.isAgg204
  z70 := Try.sizeOf204
  v70 := Try.zeroValue204
  t76 := Try.underlying208
  a76 := Try.isAgg208
  z76 := Try.sizeOf208
  v76 := Try.zeroValue208
  t77 := Try.underlying193
  a77 := Try.isAgg193
  z77 := Try.sizeOf193
  v77 := Try.zeroValue193 }
end Go.Proofs
namespace Go.Proofs.Ytkbikihbomnghaa
set_option linter.unusedSimpArgs false
set_option linter.unusedVariables false
open Go.RowKit Go.Sort
set_option maxRecDepth 100000

def adV (x : GAddr) : List Value := [.int .i64 x.fId, .int .i64 x.fSeen]
def adD (x : GAddr) : List D := [.int x.fId, .int x.fSeen]
theorem adD_val (xs : List GAddr) : (xs.flatMap adD).map valD = xs.flatMap adV := by
  induction xs with
  | nil => rfl
  | cons x r ih => rw [List.flatMap_cons, List.map_append, ih, List.flatMap_cons]; rfl
abbrev GA := { a : GAddr // (1 ≤ a.fId ∧ a.fId ≤ 99) ∧ 0 ≤ a.fSeen ∧ a.fSeen ≤ 1000000 }
instance : Inhabited GA := ⟨⟨⟨1, 0⟩, by decide⟩⟩
def gV (x : GA) : List Value := adV x.1
theorem gV_get : ∀ (ys : List GA) (i j : Nat) (hi : i < ys.length), j < 2 → (ys.flatMap gV)[i * 2 + j]? = (gV ys[i])[j]?
  | y :: ys, 0, j, hi, hj => by
    rw [List.flatMap_cons, Nat.zero_mul, Nat.zero_add, List.getElem?_append_left (by simpa [gV, adV] using hj)]
    rfl
  | y :: ys, i + 1, j, hi, hj => by
    rw [List.flatMap_cons, List.getElem?_append_right (by simp [gV, adV]; omega)]
    have e : (i + 1) * 2 + j - (gV y).length = i * 2 + j := by simp [gV, adV]; omega
    rw [e, gV_get ys i j (by simpa using hi) hj]
    rfl
theorem gV_len (ys : List GA) : (ys.flatMap gV).length = ys.length * 2 := by
  induction ys with
  | nil => rfl
  | cons y r ih => rw [List.flatMap_cons, List.length_append, ih, List.length_cons]; simp [gV, adV]; omega
theorem gV_flatK (ys : List GA) : flatK gV 2 ys.toArray = (ys.flatMap gV).toArray := by
  refine ext_get! (by rw [size_flatK, List.size_toArray, List.size_toArray, gV_len]) fun t ht => ?_
  have ht' : t < ys.length * 2 := by simpa using ht
  rw [get_flatK _ _ _ t (by simpa using ht')]
  have h1 : t / 2 < ys.length := by omega
  have h2 : t % 2 < 2 := by omega
  have e := gV_get ys (t / 2) (t % 2) h1 h2
  rw [show t / 2 * 2 + t % 2 = t by omega] at e
  have e1 : (ys.toArray)[t / 2]! = ys[t / 2] := by simp [h1]
  rw [e1]
  simp only [List.getElem!_toArray, List.getElem!_eq_getElem?_getD, e]
theorem holds_of_block {w : World} {g : Nat} {cur : Array Value} {e : TypeId} {L : List Value} (hb : w.heap[g]? = some (.cells cur e (0, 0))) (ht : cur.toList.take L.length = L) : Holds id w g 0 L.toArray := by
  intro j hj
  have hj' : j < L.length := by simpa using hj
  refine ⟨?_, by simp [World.frozen?, hb]⟩
  have h1 : (cur.toList.take L.length)[j]? = L[j]? := by rw [ht]
  rw [List.getElem?_take_of_lt hj'] at h1
  simp only [World.cell?, hb, Nat.zero_add]
  simp only [Option.isSome_none, Bool.false_eq_true, if_false]
  rw [← Array.getElem?_toList, h1]
  simp [hj']
theorem heap_sortedV {w : World} {g n : Nat} {os : Array Go.Obj} {cur : Array Value} {e : TypeId} {fr : Nat × Nat} (d : Array Value) (hb : w.heap[g]? = some (.cells cur e fr)) :
    (grow (putRow id (Sort.ahead w n) g 0 d) os).heap[g]? = some (.cells (putCells id 0 d cur) e fr) := by
  have hg : g < w.heap.size := (Array.getElem?_eq_some_iff.1 hb).1
  rw [heap_grow_old _ _ (by simpa using hg)]
  simp [putRow, mapBlock, Sort.ahead, Array.getElem?_modify, hb, onCells]
theorem grownBy_sortedV {w : World} {g n : Nat} {os : Array Go.Obj} (d : Array Value) : w.grownBy (grow (putRow id (Sort.ahead w n) g 0 d) os) (some g) := by
  refine ⟨rfl, rfl, rfl, by simp, fun k hk hne => ?_⟩
  rw [heap_grow_old _ _ (by simpa using hk)]
  have : g ≠ k := fun e => hne (by rw [e])
  simp [putRow, mapBlock, Sort.ahead, Array.getElem?_modify, this]
theorem take_putCellsV (cur : Array Value) (L : List Value) (h : L.length ≤ cur.size) : (putCells id 0 L.toArray cur).toList.take L.length = L := by
  apply List.ext_getElem?
  intro j
  by_cases hj : j < L.length
  · rw [List.getElem?_take_of_lt hj, Array.getElem?_toList]
    simp [putCells, hj, show j < cur.size by omega]
  · rw [List.getElem?_take_eq_none (by omega), List.getElem?_eq_none (by omega)]
theorem row_ad {M : Mem} {h : Home} {w : World} {t : TypeId} {v : Value} {ys : List GA} (hv : ∃ o n c, v = .slice o n c) (ho : w.ownsRow 0 t 2 v ys.length (ys.flatMap gV)) : BR M h w v (.row t 2 ((ys.map (·.1)).map pAddr)) := by
  refine ⟨hv, ys.flatMap gV, by simpa using ho, fun row hr => by obtain ⟨x, _, rfl⟩ := List.mem_map.1 hr; rfl, fun u hu => ?_, fun i j row pv u a b d => ?_⟩
  · obtain ⟨x, _, hx⟩ := List.mem_flatMap.1 hu
    simp [gV, adV] at hx
    rcases hx with rfl | rfl <;> rfl
  · rw [List.getElem?_map, Option.map_eq_some_iff] at a
    obtain ⟨x, a, rfl⟩ := a
    rw [List.getElem?_map, Option.map_eq_some_iff] at a
    obtain ⟨y, a, rfl⟩ := a
    have hj : j < 2 := (List.getElem?_eq_some_iff.1 b).1
    obtain ⟨hi, e⟩ := List.getElem?_eq_some_iff.1 a
    rw [gV_get ys i j hi hj, e] at d
    match j, hj with
    | 0, _ => simp [gV, adV] at d; simp [pAddr] at b; subst d; subst b; exact .val _
    | 1, _ => simp [gV, adV] at d; simp [pAddr] at b; subst d; subst b; exact .val _
section
variable {P : Program} {f g : FuncId}
theorem pcalls_sortF {xs ys : List GA} (hyl : ys.length = xs.length) (hs : ∀ (blk cap : Nat) (w : World), HoldsK gV 2 w blk 0 xs.toArray → blk < w.heap.size → xs.length < 4611686018427387904 → Calls P f #[.slice (some ⟨blk, 0, none⟩) xs.length cap, .func (.func g) #[] #[]] w fun e w' => e = .returned (.tuple #[]) ∧ ∃ n os, w' = sortWorldK gV 2 w blk 0 n ys.toArray os)
    (hn : ∀ w : World, Calls P f #[.slice none 0 0, .func (.func g) #[] #[]] w fun e w' => e = .returned (.tuple #[]) ∧ w' = w) (t : TypeId) (hl : xs.length ≤ 1099511627776) :
    PCalls P f [.own 0, .val (.func (.func g) #[] #[])] [some (.row t 2 ((xs.map (·.1)).map pAddr))] (RH (.tup []) [some (.row t 2 ((ys.map (·.1)).map pAddr))]) := by
  intro M h w vs I rv
  obtain ⟨v, u, rfl⟩ : ∃ v u, vs = #[v, u] := ⟨vs[0]'(by have := rv.1; simp at this; omega), vs[1]'(by have := rv.1; simp at this; omega), by
    have := rv.1
    simp at this
    exact Array.ext (by simp; try omega) fun i h1 h2 => by
      simp at h2
      match i, h2 with
      | 0, _ => rfl
      | 1, _ => rfl⟩
  have r := rv.2 0 _ v rfl rfl
  have ru := vr_val (rv.2 1 _ u rfl rfl)
  subst ru
  cases r with
  | own _ oo n c hb =>
    have q1 := I.row_own (enc := adD) (sz := 2) (xs := xs.map (·.1)) (fun _ => rfl) (by decide) (fun _ => rfl) (b := 0) rfl hb
    have e0 : ((xs.map (·.1)).flatMap adD).map valD = xs.flatMap gV := by rw [adD_val, List.flatMap_map]; rfl
    rw [e0, List.length_map] at q1
    by_cases hv : (Value.slice oo n c) = .slice none 0 0
    · rw [hv] at q1 hb ⊢
      have hx : xs = [] := by
        rcases q1.2 with ⟨_, g2⟩ | ⟨g, cap, cur, g1, _⟩
        · exact List.length_eq_zero_iff.1 g2
        · cases g1
      subst hx
      have hnil : ys = [] := List.length_eq_zero_iff.1 hyl
      exact (hn w).mono fun e w' ⟨e1, e2⟩ => by subst e2; exact ⟨_, M, h, .tup [], _, e1, ⟨rfl, by rw [hnil]⟩, .tup [] #[] rfl (fun i pv v a => by simp at a), .refl I⟩
    · rcases q1.2 with ⟨g1', _⟩ | ⟨g', cap', cur, hv', hbase, hbk, k1, k2, k3, k4⟩
      · exact absurd g1' hv
      cases hv'
      have hH : HoldsK gV 2 w g' 0 xs.toArray := by
        unfold HoldsK
        rw [gV_flatK]
        exact holds_of_block hbk (by rw [gV_len]; exact k4)
      have hc := hs g' c w hH (Array.getElem?_eq_some_iff.1 hbk).1 (by omega)
      refine hc.mono fun e w' ⟨e2, nn, os, e3⟩ => ?_
      have hs2 : w'.ownsRow 0 t 2 (.slice (some ⟨g', 0, none⟩) xs.length c) ys.length (ys.flatMap gV) := by
        rw [e3]
        unfold sortWorldK putRowK
        rw [gV_flatK]
        refine ⟨gV_len _, .inr ⟨g', c, _, by rw [hyl], hbase, heap_sortedV _ hbk, by rw [hyl]; exact k1, k2, by simp [putCells, k3], ?_⟩⟩
        rw [← gV_len]
        refine take_putCellsV _ _ ?_
        rw [gV_len, hyl]
        omega
      exact ⟨_, M, h, .tup [], _, e2, ⟨rfl, rfl⟩, .tup [] #[] rfl (fun i pv v a => by simp at a), Step.turn I (b := 0) rfl hb rfl (by rw [e3]; unfold sortWorldK putRowK; exact grownBy_sortedV _) (row_ad ⟨_, _, _, rfl⟩ hs2)⟩
end
end Go.Proofs.Ytkbikihbomnghaa
