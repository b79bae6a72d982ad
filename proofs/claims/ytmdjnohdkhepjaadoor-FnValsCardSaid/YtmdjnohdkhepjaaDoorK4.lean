/- Several texts, one behind the other. -/
import Derived.Test.YtmdjnohdkhepjaaDoorPT
import Derived.Sort.OwnSortedInts
import Derived.Lib.OwnBridge
import Derived.Lib.SlicesCompact
import Derived.Ground.NamesProg
import Derived.Ground.Names2Prog
import Derived.Shelf.Lay
import Derived.Shelf.Sort.Plain
import Derived.Shelf.Slices.In.SortNone
import Derived.Shelf.Slices.CompactI
/- The pure machine: library functions that turn a row in place, by the library's own contracts. -/
namespace Go.Proofs.YtmdjnohdkhepjaaDoor
set_option linter.unusedSimpArgs false
set_option linter.unusedVariables false
open Go.RowKit Go.Sort

theorem Step.cut {M : Mem} {h : Home} {H : Hp} {w : World} (I : Inv M h H w) {b sz : Nat} {e : TypeId} {es : List (List PV)} {oo : Option Addr} {n c k : Nat} (hH : H[b]? = some (some (.row e sz es))) (hb : h b = some (.slice oo n c)) (h2 : k ≤ es.length) :
    Step M h H w M (upd h H.length (.slice oo k c)) (H.set b none ++ [some (.row e sz (es.take k))]) w := by
  obtain ⟨v0, q0, -, us, q1, q2, q3, q4⟩ := I.blk b _ hH
  rw [hb] at q0
  cases q0
  have I0 := I.kill b
  have hkb : ∀ j, hblk (.slice oo k c) = some j → ¬ Homes h (H.set b none) j ∧ ∀ q, M j q = none := fun j hj => by
    have hj' : hblk (.slice oo n c) = some j := by cases oo with | none => cases hj | some ad => exact hj
    refine ⟨fun ⟨d, B, u, g1, g2, g3⟩ => ?_, I.sep j ⟨b, _, _, hH, hb, hj'⟩⟩
    by_cases q : b = d
    · subst q
      rw [List.getElem?_set] at g1
      simp at g1
    · rw [List.getElem?_set_ne q] at g1
      exact q (I.inj b d _ B _ u j hH g1 hb g2 hj' g3)
  have hlen : (H.set b none).length = H.length := by simp
  have hus : us.length = es.length * sz := q1.1
  have hks : k * sz ≤ es.length * sz := Nat.mul_le_mul_right _ h2
  have hown : w.ownsRow 0 e sz (.slice oo k c) (es.take k).length (us.take (k * sz)) := by
    have hkl : (es.take k).length = k := by simp; omega
    rw [hkl]
    refine ⟨by simp; omega, ?_⟩
    rcases q1.2 with ⟨g1, g2⟩ | ⟨g, cap, cur, g1, g2, g3, g4, g5, g6, g7⟩
    · left
      injection g1 with a1 a2 a3
      subst a1
      subst a3
      have : k = 0 := by omega
      subst this
      exact ⟨rfl, rfl⟩
    · right
      cases g1
      exact ⟨g, _, cur, rfl, g2, g3, by omega, g5, g6, by rw [← g7, List.take_take, Nat.min_eq_left hks]⟩
  have hin := I0.push (B := .row e sz (es.take k)) (v := .slice oo k c) ⟨⟨_, _, _, rfl⟩, _, hown, fun row hr => q2 row (List.mem_of_mem_take hr), fun u hu => q3 u (List.mem_of_mem_take hu), fun i j row pv u g1 g2 g3 => by
    rw [List.getElem?_take] at g1 g3
    split at g1
    · split at g3
      · exact (q4 i j row pv u g1 g2 g3).mono (.refl _) (upd_le I0.len)
      · cases g3
    · cases g1⟩ hkb
  rw [hlen] at hin
  refine ⟨.refl _, upd_le I.len, hin, .refl, fun j q => ?_, fun _ _ _ q => .inl q⟩
  rw [← hlen] at q
  rcases Homes.push q with q | q
  · exact .inl q.kill
  · exact .inl ⟨b, _, _, hH, hb, by cases oo with | none => cases q | some ad => exact q⟩
/-- A row of numbers of one's own, as the model has it. -/
theorem ints_us {M : Mem} {h : Home} {xs : List Int} {us : List Value} (hl : us.length = xs.length) (q : ∀ (i j : Nat) (row : List PV) (pv : PV) (u : Value), (xs.map pInt)[i]? = some row → row[j]? = some pv → us[i * 1 + j]? = some u → VR M h pv u) : us = xs.map (Value.int .i64) := by
  apply List.ext_getElem?
  intro i
  by_cases hi : i < xs.length
  · obtain ⟨x, hx⟩ : ∃ x, xs[i]? = some x := ⟨_, List.getElem?_eq_getElem hi⟩
    obtain ⟨u, hu⟩ : ∃ u, us[i]? = some u := ⟨_, List.getElem?_eq_getElem (by omega)⟩
    have := q i 0 (pInt x) (.val (.int .i64 x)) u (by rw [List.getElem?_map, hx]; rfl) rfl (by simpa using hu)
    rw [hu, vr_val this, List.getElem?_map, hx]
    rfl
  · rw [List.getElem?_eq_none (by omega), List.getElem?_eq_none (by simp; omega)]
theorem row_ints {M : Mem} {h : Home} {w : World} {t : TypeId} {v : Value} {ys : List Int} (hv : ∃ o n c, v = .slice o n c) (ho : w.ownsRow 0 t 1 v ys.length (ys.map (Value.int .i64))) : BR M h w v (.row t 1 (ys.map pInt)) := by
  refine ⟨hv, ys.map (Value.int .i64), by rw [List.length_map]; exact ho, fun row hr => by obtain ⟨x, _, rfl⟩ := List.mem_map.1 hr; rfl, fun u hu => by obtain ⟨x, _, rfl⟩ := List.mem_map.1 hu; rfl, fun i j row pv u a b d => ?_⟩
  rw [List.getElem?_map, Option.map_eq_some_iff] at a
  obtain ⟨x, a, rfl⟩ := a
  cases j with
  | succ j => simp [pInt] at b
  | zero =>
    simp [pInt] at b
    subst b
    rw [Nat.mul_one, Nat.add_zero, List.getElem?_map, a] at d
    cases d
    exact .val _
section
variable {P : Program} {f : FuncId}
def sortI (xs : List Int) : List Int := xs.mergeSort fun x y => decide (x ≤ y)
theorem pcalls_sort (hs : ∀ (blk cap : Nat) (zs : List Int) (w : World), Holds (Value.int .i64) w blk 0 zs.toArray → blk < w.heap.size → zs.length < 4611686018427387904 → Calls P f #[.slice (some ⟨blk, 0, none⟩) zs.length cap] w fun e w' => e = .returned (.tuple #[]) ∧ ∃ n os, w' = grow (putRow (Value.int .i64) (Sort.ahead w n) blk 0 (sortI zs).toArray) os)
    (hn : ∀ w : World, Calls P f #[.slice none 0 0] w fun e w' => e = .returned (.tuple #[]) ∧ w' = w) (t : TypeId) (xs : List Int) (hl : xs.length ≤ 1099511627776) :
    PCalls P f [.own 0] [some (.row t 1 (xs.map pInt))] (RH (.tup []) [some (.row t 1 ((sortI xs).map pInt))]) := by
  intro M h w vs I rv
  obtain ⟨v, rfl⟩ : ∃ v, vs = #[v] := ⟨vs[0]'(by have := rv.1; simp at this; omega), by have := rv.1; simp at this; exact Array.ext (by simp; omega) fun i h1 h2 => by simp at h2; subst h2; rfl⟩
  have r := rv.2 0 _ v rfl rfl
  cases r with
  | own _ oo n c hb =>
    obtain ⟨v0, q0, -, us, q1, q2, q3, q4⟩ := I.blk 0 _ rfl
    rw [hb] at q0
    cases q0
    rw [List.length_map] at q1
    have hus := ints_us (by have := q1.1; simpa using this) q4
    subst hus
    have hsl : (sortI xs).length = xs.length := List.length_mergeSort xs
    by_cases hv : (Value.slice oo n c) = .slice none 0 0
    · rw [hv] at q1 hb ⊢
      have hx : xs = [] := by
        rcases q1.2 with ⟨_, g2⟩ | ⟨g, cap, cur, g1, _⟩
        · exact List.length_eq_zero_iff.1 (by simpa using g2)
        · cases g1
      subst hx
      exact (hn w).mono fun e w' ⟨e1, e2⟩ => by subst e2; exact ⟨_, M, h, .tup [], _, e1, ⟨rfl, by simp [sortI]⟩, .tup [] #[] rfl (fun i pv v a => by simp at a), .refl I⟩
    · obtain ⟨g, cap, e1, g1, g2, g3, g4, g5, g6⟩ := Lib.holds_of_ownsRow q1 hv
      rw [e1] at q1 hb ⊢
      have hc := hs g cap xs w g6 g2 (by omega)
      refine hc.mono fun e w' ⟨e2, nn, os, e3⟩ => ?_
      rcases q1.2 with ⟨g1', _⟩ | ⟨g', cap', cur, hv', hbase, hbk, k1, k2, k3, k4⟩
      · cases g1'
      cases hv'
      have hs2 := ownsRow_sortedI (n := nn) (os := os) (ts := sortI xs) hsl hbase hbk k1 k2 k3
      rw [← e3] at hs2
      exact ⟨_, M, h, .tup [], _, e2, ⟨rfl, rfl⟩, .tup [] #[] rfl (fun i pv v a => by simp at a), Step.turn I (b := 0) rfl hb rfl (by rw [e3]; exact grownBy_sortedI _) (row_ints ⟨_, _, _, rfl⟩ (by rw [hsl]; exact hs2))⟩
theorem pcalls_compact (hs : ∀ (blk cap : Nat) (zs : List Int) (w : World), Holds (Value.int .i64) w blk 0 zs.toArray → zs.length ≤ 9223372036854775807 → zs.length ≤ cap → Calls P f #[.slice (some ⟨blk, 0, none⟩) zs.length cap] w fun e w' => e = .returned (.slice (some ⟨blk, 0, none⟩) (Lib.compact zs).length cap) ∧ ∃ q, w' = putRow (Value.int .i64) (Sort.ahead w q) blk 0 (Lib.compact zs ++ List.replicate (zs.length - (Lib.compact zs).length) 0).toArray)
    (hn : ∀ w : World, Calls P f #[.slice none 0 0] w fun e w' => e = .returned (.slice none 0 0) ∧ w' = w) (t : TypeId) (xs : List Int) (hl : xs.length ≤ 1099511627776) :
    PCalls P f [.own 0] [some (.row t 1 (xs.map pInt))] (RH (.own 1) [none, some (.row t 1 ((Lib.compact xs).map pInt))]) := by
  intro M h w vs I rv
  obtain ⟨v, rfl⟩ : ∃ v, vs = #[v] := ⟨vs[0]'(by have := rv.1; simp at this; omega), by have := rv.1; simp at this; exact Array.ext (by simp; omega) fun i h1 h2 => by simp at h2; subst h2; rfl⟩
  have r := rv.2 0 _ v rfl rfl
  cases r with
  | own _ oo n c hb =>
    obtain ⟨v0, q0, -, us, q1, q2, q3, q4⟩ := I.blk 0 _ rfl
    rw [hb] at q0
    cases q0
    rw [List.length_map] at q1
    have hus := ints_us (by have := q1.1; simpa using this) q4
    subst hus
    have hcl := Lib.compact_length_le xs
    by_cases hv : (Value.slice oo n c) = .slice none 0 0
    · rw [hv] at q1 hb ⊢
      have hx : xs = [] := by
        rcases q1.2 with ⟨_, g2⟩ | ⟨g, cap, cur, g1, _⟩
        · exact List.length_eq_zero_iff.1 (by simpa using g2)
        · cases g1
      subst hx
      refine (hn w).mono fun e w' ⟨e1, e2⟩ => ?_
      subst e2
      exact ⟨_, M, upd h 1 (.slice none 0 0), .own 1, _, e1, ⟨rfl, rfl⟩, .own _ _ _ _ upd_self, Step.cut (k := 0) I (b := 0) rfl hb (Nat.zero_le _)⟩
    · obtain ⟨g, cap, e1, g1, g2, g3, g4, g5, g6⟩ := Lib.holds_of_ownsRow q1 hv
      rw [e1] at q1 hb ⊢
      have hc := hs g cap xs w g6 (by omega) g3
      refine hc.mono fun e w' ⟨e2, q, e3⟩ => ?_
      have hyl : (Lib.compact xs ++ List.replicate (xs.length - (Lib.compact xs).length) 0).length = xs.length := by simp; omega
      have hs2 := Lib.ownsRow_putRow (q := q) (k := xs.length) q1 hyl (Nat.le_refl _)
      rw [← e3, List.take_of_length_le (by omega)] at hs2
      have st : Step M h _ w M h _ w' := Step.turn I (b := 0) rfl hb rfl (by rw [e3]; exact grownBy_sortedI (os := #[]) _ |> fun z => by simpa using z) (row_ints (M := M) (h := h) ⟨_, _, _, rfl⟩ (by rw [hyl]; exact hs2))
      have st2 := Step.cut (k := (Lib.compact xs).length) st.inv (b := 0) rfl hb (by rw [List.length_map, hyl]; exact hcl)
      rw [← List.map_take, List.take_left' rfl] at st2
      exact ⟨_, M, _, .own 1, _, e2, ⟨rfl, rfl⟩, .own _ _ _ _ upd_self, st.trans st2⟩
end
end Go.Proofs.YtmdjnohdkhepjaaDoor
/- The library's contracts for sorting and compacting, laid at this program. -/
namespace Go.Proofs
open Go.Shelf
end Go.Proofs
namespace Go.Proofs.YtmdjnohdkhepjaaDoor
set_option linter.unusedSimpArgs false
set_option linter.unusedVariables false
open Go.RowKit
end Go.Proofs.YtmdjnohdkhepjaaDoor
