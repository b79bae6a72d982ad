/- Several texts, one behind the other. -/
import Derived.Test.YtcbknmnlgoeniaaPT
import Derived.Sort.OwnSortedInts
import Derived.Lib.OwnBridge
import Derived.Lib.SlicesCompact
import Derived.Ground.NamesProg
import Derived.Ground.Names2Prog
import Derived.Shelf.Sort.Plain
import Derived.Shelf.Slices.In.SortNone
import Derived.Shelf.Slices.CompactI
/- The pure machine: library functions that turn a row in place, by the library's own contracts. -/
namespace Go.Proofs.Ytcbknmnlgoeniaa
set_option linter.unusedSimpArgs false
set_option linter.unusedVariables false
open Go.RowKit Go.Sort

theorem Step.cut {M : Mem} {h : Home} {H : Hp} {w : World} (I : Inv M h H w) {b sz : Nat} {e : TypeId} {es : List (List PV)} {oo : Option Addr} {n c k : Nat} (hH : H[b]? = some (some (.row e sz es))) (hb : h b = some (.slice oo n c)) (h2 : k ≤ es.length) :
    Step M h H w M (upd h H.length (.slice oo k c)) (H.set b none ++ [some (.row e sz (es.take k))]) w := by
  obtain ⟨v0, q0, -, us, q1, q2, q3, q4⟩ := I.blk b _ hH
  rw [hb] at q0
  cases q0
  have I0 := I.kill b
  have hkb : ∀ j, hblk (.slice oo k c) = some j → ¬ Homes h (H.set b none) j ∧ ∀ q, M j q = none := fun j hj => by
    have hj' : hblk (.slice oo n c) = some j := by cases oo with | none => cases hj | some ad => exact hj
    refine ⟨fun ⟨d, B, u, g1, g2, g3⟩ => ?_, I.sep j ⟨b, _, _, hH, hb, hj'⟩⟩
    by_cases q : b = d
    · subst q
      rw [List.getElem?_set] at g1
      simp at g1
    · rw [List.getElem?_set_ne q] at g1
      exact q (I.inj b d _ B _ u j hH g1 hb g2 hj' g3)
  have hlen : (H.set b none).length = H.length := by simp
  have hus : us.length = es.length * sz := q1.1
  have hks : k * sz ≤ es.length * sz := Nat.mul_le_mul_right _ h2
  have hown : w.ownsRow 0 e sz (.slice oo k c) (es.take k).length (us.take (k * sz)) := by
    have hkl : (es.take k).length = k := by simp; omega
    rw [hkl]
    refine ⟨by simp; omega, ?_⟩
    rcases q1.2 with ⟨g1, g2⟩ | ⟨g, cap, cur, g1, g2, g3, g4, g5, g6, g7⟩
    · left
      injection g1 with a1 a2 a3
      subst a1
      subst a3
      have : k = 0 := by omega
      subst this
      exact ⟨rfl, rfl⟩
    · right
      cases g1
      exact ⟨g, _, cur, rfl, g2, g3, by omega, g5, g6, by rw [← g7, List.take_take, Nat.min_eq_left hks]⟩
  have hin := I0.push (B := .row e sz (es.take k)) (v := .slice oo k c) ⟨⟨_, _, _, rfl⟩, _, hown, fun row hr => q2 row (List.mem_of_mem_take hr), fun u hu => q3 u (List.mem_of_mem_take hu), fun i j row pv u g1 g2 g3 => by
    rw [List.getElem?_take] at g1 g3
    split at g1
    · split at g3
      · exact (q4 i j row pv u g1 g2 g3).mono (.refl _) (upd_le I0.len)
      · cases g3
    · cases g1⟩ hkb
  rw [hlen] at hin
  refine ⟨.refl _, upd_le I.len, hin, .refl, fun j q => ?_, fun _ _ _ q => .inl q⟩
  rw [← hlen] at q
  rcases Homes.push q with q | q
  · exact .inl q.kill
  · exact .inl ⟨b, _, _, hH, hb, by cases oo with | none => cases q | some ad => exact q⟩
/-- A row of numbers of one's own, as the model has it. -/
theorem ints_us {M : Mem} {h : Home} {xs : List Int} {us : List Value} (hl : us.length = xs.length) (q : ∀ (i j : Nat) (row : List PV) (pv : PV) (u : Value), (xs.map pInt)[i]? = some row → row[j]? = some pv → us[i * 1 + j]? = some u → VR M h pv u) : us = xs.map (Value.int .i64) := by
  apply List.ext_getElem?
  intro i
  by_cases hi : i < xs.length
  · obtain ⟨x, hx⟩ : ∃ x, xs[i]? = some x := ⟨_, List.getElem?_eq_getElem hi⟩
    obtain ⟨u, hu⟩ : ∃ u, us[i]? = some u := ⟨_, List.getElem?_eq_getElem (by omega)⟩
    have := q i 0 (pInt x) (.val (.int .i64 x)) u (by rw [List.getElem?_map, hx]; rfl) rfl (by simpa using hu)
    rw [hu, vr_val this, List.getElem?_map, hx]
    rfl
  · rw [List.getElem?_eq_none (by omega), List.getElem?_eq_none (by simp; omega)]
theorem row_ints {M : Mem} {h : Home} {w : World} {t : TypeId} {v : Value} {ys : List Int} (hv : ∃ o n c, v = .slice o n c) (ho : w.ownsRow 0 t 1 v ys.length (ys.map (Value.int .i64))) : BR M h w v (.row t 1 (ys.map pInt)) := by
  refine ⟨hv, ys.map (Value.int .i64), by rw [List.length_map]; exact ho, fun row hr => by obtain ⟨x, _, rfl⟩ := List.mem_map.1 hr; rfl, fun u hu => by obtain ⟨x, _, rfl⟩ := List.mem_map.1 hu; rfl, fun i j row pv u a b d => ?_⟩
  rw [List.getElem?_map, Option.map_eq_some_iff] at a
  obtain ⟨x, a, rfl⟩ := a
  cases j with
  | succ j => simp [pInt] at b
  | zero =>
    simp [pInt] at b
    subst b
    rw [Nat.mul_one, Nat.add_zero, List.getElem?_map, a] at d
    cases d
    exact .val _
section
variable {P : Program} {f : FuncId}
def sortI (xs : List Int) : List Int := xs.mergeSort fun x y => decide (x ≤ y)
theorem pcalls_sort (hs : ∀ (blk cap : Nat) (zs : List Int) (w : World), Holds (Value.int .i64) w blk 0 zs.toArray → blk < w.heap.size → zs.length < 4611686018427387904 → Calls P f #[.slice (some ⟨blk, 0, none⟩) zs.length cap] w fun e w' => e = .returned (.tuple #[]) ∧ ∃ n os, w' = grow (putRow (Value.int .i64) (Sort.ahead w n) blk 0 (sortI zs).toArray) os)
    (hn : ∀ w : World, Calls P f #[.slice none 0 0] w fun e w' => e = .returned (.tuple #[]) ∧ w' = w) (t : TypeId) (xs : List Int) (hl : xs.length ≤ 1099511627776) :
    PCalls P f [.own 0] [some (.row t 1 (xs.map pInt))] (RH (.tup []) [some (.row t 1 ((sortI xs).map pInt))]) := by
  intro M h w vs I rv
  obtain ⟨v, rfl⟩ : ∃ v, vs = #[v] := ⟨vs[0]'(by have := rv.1; simp at this; omega), by have := rv.1; simp at this; exact Array.ext (by simp; omega) fun i h1 h2 => by simp at h2; subst h2; rfl⟩
  have r := rv.2 0 _ v rfl rfl
  cases r with
  | own _ oo n c hb =>
    obtain ⟨v0, q0, -, us, q1, q2, q3, q4⟩ := I.blk 0 _ rfl
    rw [hb] at q0
    cases q0
    rw [List.length_map] at q1
    have hus := ints_us (by have := q1.1; simpa using this) q4
    subst hus
    have hsl : (sortI xs).length = xs.length := List.length_mergeSort xs
    by_cases hv : (Value.slice oo n c) = .slice none 0 0
    · rw [hv] at q1 hb ⊢
      have hx : xs = [] := by
        rcases q1.2 with ⟨_, g2⟩ | ⟨g, cap, cur, g1, _⟩
        · exact List.length_eq_zero_iff.1 (by simpa using g2)
        · cases g1
      subst hx
      exact (hn w).mono fun e w' ⟨e1, e2⟩ => by subst e2; exact ⟨_, M, h, .tup [], _, e1, ⟨rfl, by simp [sortI]⟩, .tup [] #[] rfl (fun i pv v a => by simp at a), .refl I⟩
    · obtain ⟨g, cap, e1, g1, g2, g3, g4, g5, g6⟩ := Lib.holds_of_ownsRow q1 hv
      rw [e1] at q1 hb ⊢
      have hc := hs g cap xs w g6 g2 (by omega)
      refine hc.mono fun e w' ⟨e2, nn, os, e3⟩ => ?_
      rcases q1.2 with ⟨g1', _⟩ | ⟨g', cap', cur, hv', hbase, hbk, k1, k2, k3, k4⟩
      · cases g1'
      cases hv'
      have hs2 := ownsRow_sortedI (n := nn) (os := os) (ts := sortI xs) hsl hbase hbk k1 k2 k3
      rw [← e3] at hs2
      exact ⟨_, M, h, .tup [], _, e2, ⟨rfl, rfl⟩, .tup [] #[] rfl (fun i pv v a => by simp at a), Step.turn I (b := 0) rfl hb rfl (by rw [e3]; exact grownBy_sortedI _) (row_ints ⟨_, _, _, rfl⟩ (by rw [hsl]; exact hs2))⟩
theorem pcalls_compact (hs : ∀ (blk cap : Nat) (zs : List Int) (w : World), Holds (Value.int .i64) w blk 0 zs.toArray → zs.length ≤ 9223372036854775807 → zs.length ≤ cap → Calls P f #[.slice (some ⟨blk, 0, none⟩) zs.length cap] w fun e w' => e = .returned (.slice (some ⟨blk, 0, none⟩) (Lib.compact zs).length cap) ∧ ∃ q, w' = putRow (Value.int .i64) (Sort.ahead w q) blk 0 (Lib.compact zs ++ List.replicate (zs.length - (Lib.compact zs).length) 0).toArray)
    (hn : ∀ w : World, Calls P f #[.slice none 0 0] w fun e w' => e = .returned (.slice none 0 0) ∧ w' = w) (t : TypeId) (xs : List Int) (hl : xs.length ≤ 1099511627776) :
    PCalls P f [.own 0] [some (.row t 1 (xs.map pInt))] (RH (.own 1) [none, some (.row t 1 ((Lib.compact xs).map pInt))]) := by
  intro M h w vs I rv
  obtain ⟨v, rfl⟩ : ∃ v, vs = #[v] := ⟨vs[0]'(by have := rv.1; simp at this; omega), by have := rv.1; simp at this; exact Array.ext (by simp; omega) fun i h1 h2 => by simp at h2; subst h2; rfl⟩
  have r := rv.2 0 _ v rfl rfl
  cases r with
  | own _ oo n c hb =>
    obtain ⟨v0, q0, -, us, q1, q2, q3, q4⟩ := I.blk 0 _ rfl
    rw [hb] at q0
    cases q0
    rw [List.length_map] at q1
    have hus := ints_us (by have := q1.1; simpa using this) q4
    subst hus
    have hcl := Lib.compact_length_le xs
    by_cases hv : (Value.slice oo n c) = .slice none 0 0
    · rw [hv] at q1 hb ⊢
      have hx : xs = [] := by
        rcases q1.2 with ⟨_, g2⟩ | ⟨g, cap, cur, g1, _⟩
        · exact List.length_eq_zero_iff.1 (by simpa using g2)
        · cases g1
      subst hx
      refine (hn w).mono fun e w' ⟨e1, e2⟩ => ?_
      subst e2
      exact ⟨_, M, upd h 1 (.slice none 0 0), .own 1, _, e1, ⟨rfl, rfl⟩, .own _ _ _ _ upd_self, Step.cut (k := 0) I (b := 0) rfl hb (Nat.zero_le _)⟩
    · obtain ⟨g, cap, e1, g1, g2, g3, g4, g5, g6⟩ := Lib.holds_of_ownsRow q1 hv
      rw [e1] at q1 hb ⊢
      have hc := hs g cap xs w g6 (by omega) g3
      refine hc.mono fun e w' ⟨e2, q, e3⟩ => ?_
      have hyl : (Lib.compact xs ++ List.replicate (xs.length - (Lib.compact xs).length) 0).length = xs.length := by simp; omega
      have hs2 := Lib.ownsRow_putRow (q := q) (k := xs.length) q1 hyl (Nat.le_refl _)
      rw [← e3, List.take_of_length_le (by omega)] at hs2
      have st : Step M h _ w M h _ w' := Step.turn I (b := 0) rfl hb rfl (by rw [e3]; exact grownBy_sortedI (os := #[]) _ |> fun z => by simpa using z) (row_ints (M := M) (h := h) ⟨_, _, _, rfl⟩ (by rw [hyl]; exact hs2))
      have st2 := Step.cut (k := (Lib.compact xs).length) st.inv (b := 0) rfl hb (by rw [List.length_map, hyl]; exact hcl)
      rw [← List.map_take, List.take_left' rfl] at st2
      exact ⟨_, M, _, .own 1, _, e2, ⟨rfl, rfl⟩, .own _ _ _ _ upd_self, st.trans st2⟩
end
end Go.Proofs.Ytcbknmnlgoeniaa
/- The library's contracts for sorting and compacting, laid at this program. -/
namespace Go.Proofs
open Go.Shelf
def Try.laysSort_ren : Go.Shelf.Ren := ⟨fun | 189 => 16 | 125 => 33 | 257 => 32 | 128 => 54 | 129 => 55 | 294 => 45 | 295 => 46 | 296 => 47 | 297 => 48 | 298 => 49 | 299 => 50 | 216 => 51 | 300 => 52 | 301 => 53 | 328 => 66 | 329 => 67 | 330 => 68 | 331 => 69 | 332 => 70 | 215 => 71 | 343 => 87 | n => n, fun | 28 => 36 | 3 => 3 | 46 => 67 | 0 => 0 | 51 => 92 | 53 => 94 | 4 => 4 | 183 => 84 | 182 => 83 | 131 => 89 | 5 => 5 | 9 => 9 | 218 => 100 | 222 => 104 | 228 => 115 | 229 => 116 | n => n, fun | n => n⟩
theorem Try.laysSort : Go.Proofs.Lays.n189 Try.prog Try.laysSort_ren := {
  mixed := by kernel_rfl
  f125 := Try.func33.trans (congrArg some (by kernel_rfl))
  f128 := Try.func54.trans (congrArg some (by kernel_rfl))
  f129 := Try.func55.trans (congrArg some (by kernel_rfl))
  f189 := Try.func16.trans (congrArg some (by kernel_rfl))
  f215 := Try.func71.trans (congrArg some (by kernel_rfl))
  f216 := Try.func51.trans (congrArg some (by kernel_rfl))
  f257 := Try.func32.trans (congrArg some (by kernel_rfl))
  f294 := Try.func45.trans (congrArg some (by kernel_rfl))
  f295 := Try.func46.trans (congrArg some (by kernel_rfl))
  f296 := Try.func47.trans (congrArg some (by kernel_rfl))
  f297 := Try.func48.trans (congrArg some (by kernel_rfl))
  f298 := Try.func49.trans (congrArg some (by kernel_rfl))
  f299 := Try.func50.trans (congrArg some (by kernel_rfl))
  f300 := Try.func52.trans (congrArg some (by kernel_rfl))
  f301 := Try.func53.trans (congrArg some (by kernel_rfl))
  f328 := Try.func66.trans (congrArg some (by kernel_rfl))
  f329 := Try.func67.trans (congrArg some (by kernel_rfl))
  f330 := Try.func68.trans (congrArg some (by kernel_rfl))
  f331 := Try.func69.trans (congrArg some (by kernel_rfl))
  f332 := Try.func70.trans (congrArg some (by kernel_rfl))
  f343 := Try.func87.trans (congrArg some (by kernel_rfl))
  t0 := Try.underlying0
  a0 := Try.isAgg0
  z0 := Try.sizeOf0
  v0 := Try.zeroValue0
  t3 := Try.underlying3
  a3 := Try.isAgg3
  z3 := Try.sizeOf3
  v3 := Try.zeroValue3
  t4 := Try.underlying4
  a4 := Try.isAgg4
  z4 := Try.sizeOf4
  v4 := Try.zeroValue4
  t5 := Try.underlying5
  a5 := Try.isAgg5
  z5 := Try.sizeOf5
  v5 := Try.zeroValue5
  t9 := Try.underlying9
  a9 := Try.isAgg9
  z9 := Try.sizeOf9
  v9 := Try.zeroValue9
  t28 := Try.underlying36
  a28 := Try.isAgg36
  z28 := Try.sizeOf36
  v28 := Try.zeroValue36
  t46 := Try.underlying67
  a46 := Try.isAgg67
  z46 := Try.sizeOf67
  v46 := Try.zeroValue67
  t51 := Try.underlying92
  a51 := Try.isAgg92
  z51 := Try.sizeOf92
  v51 := Try.zeroValue92
  t53 := Try.underlying94
  a53 := Try.isAgg94
  z53 := Try.sizeOf94
  v53 := Try.zeroValue94
  t131 := Try.underlying89
  a131 := Try.isAgg89
  z131 := Try.sizeOf89
  v131 := Try.zeroValue89
  t182 := Try.underlying83
  a182 := Try.isAgg83
  z182 := Try.sizeOf83
  v182 := Try.zeroValue83
  t183 := Try.underlying84
  a183 := Try.isAgg84
  z183 := Try.sizeOf84
  v183 := Try.zeroValue84
  t218 := Try.underlying100
  a218 := Try.isAgg100
  z218 := Try.sizeOf100
  v218 := Try.zeroValue100
  t222 := Try.underlying104
  a222 := Try.isAgg104
  z222 := Try.sizeOf104
  v222 := Try.zeroValue104
  t228 := Try.underlying115
  a228 := Try.isAgg115
  z228 := Try.sizeOf115
  v228 := Try.zeroValue115
  t229 := Try.underlying116
  a229 := Try.isAgg116
  z229 := Try.sizeOf116
  v229 := Try.zeroValue116 }
def Try.laysCompact_ren : Go.Shelf.Ren := ⟨fun | 20 => 17 | n => n, fun | 22 => 36 | 3 => 3 | 4 => 4 | 0 => 0 | n => n, fun | n => n⟩
theorem Try.laysCompact : Go.Proofs.Lays2.n20 Try.prog Try.laysCompact_ren := {
  mixed := by kernel_rfl
  f20 := Try.func17.trans (congrArg some (by kernel_rfl))
  t0 := Try.underlying0
  a0 := Try.isAgg0
  z0 := Try.sizeOf0
  v0 := Try.zeroValue0
  t3 := Try.underlying3
  a3 := Try.isAgg3
  z3 := Try.sizeOf3
  v3 := Try.zeroValue3
  t4 := Try.underlying4
  a4 := Try.isAgg4
  z4 := Try.sizeOf4
  v4 := Try.zeroValue4
  t22 := Try.underlying36
  a22 := Try.isAgg36
  z22 := Try.sizeOf36
  v22 := Try.zeroValue36
  i3 := by kernel_rfl }
end Go.Proofs
namespace Go.Proofs.Ytcbknmnlgoeniaa
set_option linter.unusedSimpArgs false
set_option linter.unusedVariables false
open Go.RowKit
theorem sortI_p (xs : List Int) (hl : xs.length ≤ 1099511627776) : PCalls Try.prog 16 [.own 0] [some (.row 3 1 (xs.map pInt))] (RH (.tup []) [some (.row 3 1 ((sortI xs).map pInt))]) :=
  pcalls_sort (fun blk cap zs w h1 h2 h3 => Any.slices_Sort_int Try.laysSort blk 0 cap zs w h1 h2 h3) (fun w => Any.slices_Sort_int_none Try.laysSort none 0 w) _ xs hl
theorem compactI_p (xs : List Int) (hl : xs.length ≤ 1099511627776) : PCalls Try.prog 17 [.own 0] [some (.row 3 1 (xs.map pInt))] (RH (.own 1) [none, some (.row 3 1 ((Lib.compact xs).map pInt))]) :=
  pcalls_compact (fun blk cap zs w h1 h2 h3 => Any.slices_Compact_int Try.laysCompact blk 0 cap zs w h1 h2 h3) (fun w => Any.slices_Compact_int_empty Try.laysCompact none 0 w) _ xs hl
end Go.Proofs.Ytcbknmnlgoeniaa
