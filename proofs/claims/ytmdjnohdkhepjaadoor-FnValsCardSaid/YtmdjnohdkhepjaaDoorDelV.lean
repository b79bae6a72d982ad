/- The library's deletion of one element, at the program's own rows of validators. -/
import Derived.Test.YtmdjnohdkhepjaaDoorK1
import Derived.Test.YtmdjnohdkhepjaaDoorK4
import Derived.Lib.SliceRun
import Derived.Deep.RegionLaw
import Derived.BigGuardPart
import Derived.BigQuiet
import Derived.Handy
namespace Go.Proofs.YtmdjnohdkhepjaaDoor
set_option linter.unusedSimpArgs false
set_option linter.unusedVariables false
open Go.RowKit
set_option maxRecDepth 100000

theorem run_clear_one {P : Program} (w : World) (t e ty : TypeId) (z : Value) (cs : List Value) (ht : P.underlying t = some (.slice e)) (hv : ∀ w, (zeroValue e).run P w = .ok z w) (hz : z.cells = cs.toArray) (h1 : ∀ u ∈ cs, u.oneCell' = true) (b o c : Nat)
    (hc : ∀ j, j < cs.length → (w.cell? ⟨b, o + j, none⟩).isSome = true) (hf : ∀ j, j < cs.length → w.frozen? ⟨b, o + j, none⟩ = false) :
    (Builtin.clear_ #[t] ty #[.slice (some ⟨b, o, none⟩) 1 c]).run P w = .ok (.tuple #[]) (w.setCells b o cs) := by
  have hzc : (Builtin.zeroCells z.cells 1).toList = cs := by
    rw [hz]
    simp only [Builtin.zeroCells, Nat.one_mul, List.size_toArray]
    apply List.ext_getElem
    · simp
    · intro i h1 h2
      simp only [Array.toList_map, Array.toList_range, List.getElem_map, List.getElem_range]
      rw [Nat.mod_eq_of_lt h2]
      simp [h2]
  have hst := run_storeCells_cells (P := P) b o cs 0 w (by simpa using hc) (by simpa using hf) (by simpa using h1)
  simp only [Nat.add_zero] at hst
  simp [Builtin.clear_, run_underlying ht, hv, hzc, hst]
theorem setCells_heap {b : Nat} {e : TypeId} : ∀ (vs : List Value) (o : Nat) (w : World) (cur : Array Value), w.heap[b]? = some (.cells cur e (0, 0)) → o + vs.length ≤ cur.size →
    ∃ cur', (w.setCells b o vs).heap[b]? = some (.cells cur' e (0, 0)) ∧ cur'.size = cur.size ∧ ∀ j, cur'[j]? = if o ≤ j ∧ j < o + vs.length then vs[j - o]? else cur[j]?
  | [], o, w, cur, h, _ => ⟨cur, h, rfl, fun j => by rw [if_neg (by simp only [List.length_nil]; omega)]⟩
  | v :: vs, o, w, cur, h, hl => by
    simp only [List.length_cons] at hl
    obtain ⟨cur', g1, g2, g3⟩ := setCells_heap vs (o + 1) (w.setCell ⟨b, o, none⟩ v) (cur.setIfInBounds o v) (heap_setCell_same w b o cur e v h) (by rw [Array.size_setIfInBounds]; omega)
    refine ⟨cur', g1, by rw [g2, Array.size_setIfInBounds], fun j => ?_⟩
    rw [g3 j]
    simp only [List.length_cons]
    by_cases h1 : o + 1 ≤ j ∧ j < o + 1 + vs.length
    · rw [if_pos h1, if_pos (by omega), show j - o = (j - (o + 1)) + 1 by omega, List.getElem?_cons_succ]
    · rw [if_neg h1]
      by_cases h2 : j = o
      · subst h2
        rw [if_pos (by omega), Nat.sub_self, Array.getElem?_setIfInBounds_self_of_lt (by omega)]
        rfl
      · rw [if_neg (by omega), Array.getElem?_setIfInBounds_ne (fun q => h2 q.symm)]
theorem grown_setCells {b : Nat} : ∀ (vs : List Value) (o : Nat) (w : World), w.grownBy (w.setCells b o vs) (some b)
  | [], _, _ => ⟨rfl, rfl, rfl, Nat.le_refl _, fun _ _ _ => rfl⟩
  | v :: vs, o, w => by
    have h := grown_setCells (b := b) vs (o + 1) (w.setCell ⟨b, o, none⟩ v)
    refine ⟨h.os, h.tape, h.output, ?_, fun i hi hne => ?_⟩
    · exact Nat.le_trans (show w.heap.size ≤ (w.setCell ⟨b, o, none⟩ v).heap.size by simp [World.setCell]) h.size
    · exact (h.block i (by simpa [World.setCell] using hi) hne).trans (heap_setCell_other w ⟨b, o, none⟩ i v (fun e => hne (by simp [e])))
theorem zeroValD : ∀ w, (zeroValue 42).run Tryd.prog w = .ok (.agg #[.int .i64 0, .int .i64 0]) w := fun w => by simp [go_sem]
theorem infoValD : (Tryd.prog.info? 42).map (fun i => (i.zero, i.size, i.bytes)) = some (some (.agg #[.int .i64 0, .int .i64 0]), 2, 16) := by kernel_rfl
set_option maxHeartbeats 4000000 in
theorem del_val (b cap m k : Nat) (us : List Value) (w : World) (hown : w.ownsRow 0 42 2 (.slice (some ⟨b, 0, none⟩) (m + 1) cap) (m + 1) us) (hk : k ≤ m) (hn : m ≤ 1000) (hone : ∀ u ∈ us, u.oneCell' = true) :
    Calls Tryd.prog 48 #[.slice (some ⟨b, 0, none⟩) (m + 1) cap, .int .i64 k, .int .i64 ((k : Int) + 1)] w fun e w' => e = .returned (.slice (some ⟨b, 0, none⟩) m cap) ∧ w' = (w.drew.setCells b (k * 2) (us.drop ((k + 1) * 2))).setCells b (m * 2) [.int .i64 0, .int .i64 0] := by
  obtain ⟨i0, hi0, hz0, hz1, hz2⟩ := info_parts infoValD
  rcases hown with ⟨hul, ⟨h0, _⟩ | ⟨g, cap', cur, hv, hbase, hb, hncap, hmax, hcur, hcells⟩⟩
  · cases h0
  cases hv
  have cellOf : ∀ o, o < cap * 2 → ∃ u, w.drew.cell? ⟨b, o, none⟩ = some u ∧ cur[o]? = some u := fun o ho => by
    have e : cur[o]? = some cur[o] := Array.getElem?_eq_getElem (by omega)
    exact ⟨_, by show w.cell? _ = _; rw [cell_of_row w b o cur _ (0, 0) hb]; exact e, e⟩
  have frzOf : ∀ o, w.drew.frozen? ⟨b, o, none⟩ = false := fun o => by
    show w.frozen? _ = false
    simp [World.frozen?, hb]
  obtain ⟨news, hnews⟩ : ∃ news, news = us.drop ((k + 1) * 2) := ⟨_, rfl⟩
  have hlen : news.length = (m - k) * 2 := by rw [hnews, List.length_drop, hul]; omega
  have hget : ∀ t u, news[t]? = some u → w.drew.cell? ⟨b, (k + 1) * 2 + t, none⟩ = some u := fun t u hu => by
    have ht := (List.getElem?_eq_some_iff.1 hu).1
    rw [hnews, List.getElem?_drop, ← hcells, List.getElem?_take, if_pos (by omega)] at hu
    show w.cell? _ = _
    rw [cell_of_row w b _ cur _ (0, 0) hb, ← hu]
    simp
  have s1 : Hid (news.length = (m - k) * 2) := Lib.hid hlen
  have s2 : Hid (∀ u ∈ news, u.oneCell' = true) := Lib.hid fun u hu => hone u (by rw [hnews] at hu; exact List.mem_of_mem_drop hu)
  have s3 : Hid (∀ t, t < news.length → (w.drew.cell? ⟨b, 0 + k * 2 + t, none⟩).isSome = true ∧ w.drew.frozen? ⟨b, 0 + k * 2 + t, none⟩ = false) := Lib.hid fun t ht => by
    rw [hlen] at ht
    obtain ⟨u, hu, _⟩ := cellOf (0 + k * 2 + t) (by omega)
    exact ⟨by rw [hu]; rfl, frzOf _⟩
  obtain ⟨W1, hW1⟩ : ∃ W1, W1 = w.drew.setCells b (0 + k * 2) news := ⟨_, rfl⟩
  have hW : Hid (W1 = w.drew.setCells b (0 + k * 2) news) := Lib.hid hW1
  have hcl : ∀ ty, (Builtin.clear_ #[28] ty #[.slice (some ⟨b, m * 2, none⟩) 1 (cap - m)]).run Tryd.prog W1 = .ok (.tuple #[]) (W1.setCells b (m * 2) [.int .i64 0, .int .i64 0]) := fun ty => by
    have hrow : ∃ cur', W1.heap[b]? = some (.cells cur' 42 (0, 0)) ∧ cur'.size = cur.size := by
      obtain ⟨c', g1, g2, _⟩ := setCells_heap news (0 + k * 2) w.drew cur hb (by omega)
      exact ⟨c', by rw [hW1]; exact g1, g2⟩
    obtain ⟨cur', g1, g2⟩ := hrow
    refine run_clear_one W1 28 42 ty (.agg #[.int .i64 0, .int .i64 0]) [.int .i64 0, .int .i64 0] Tryd.underlying28 zeroValD rfl (by decide) b (m * 2) (cap - m) (fun j hj => ?_) (fun j hj => frozen_of_row W1 b _ cur' _ g1)
    rw [cell_of_row W1 b _ cur' _ (0, 0) g1, Array.getElem?_eq_getElem (by simp at hj; omega)]
    rfl
  obtain ⟨A, hA, hsrc⟩ : ∃ A : Addr, (if cap = k + 1 then (some ⟨b, 0, none⟩ : Option Addr) else some ⟨b, (k + 1) * 2, none⟩) = some A ∧ Hid (∀ t u, news[t]? = some u → w.drew.cell? (A.add t) = some u) := by
    by_cases h : cap = k + 1
    · refine ⟨⟨b, 0, none⟩, by simp [h], Lib.hid fun t u hu => ?_⟩
      have h0 : news.length = 0 := by rw [hlen]; omega
      rw [List.length_eq_zero_iff.1 h0] at hu
      simp at hu
    · refine ⟨⟨b, (k + 1) * 2, none⟩, by simp [h], Lib.hid fun t u hu => ?_⟩
      rw [addr_add]
      exact hget t u hu
  have HN := Lib.hid hnews
  clear hget hW1 hlen cellOf frzOf hcells hb hcur hul hone hnews
  have hkc : k ≤ cap := by omega
  have hkm : k + (m - k) = m := by omega
  have hmc : m + 1 ≤ cap := hncap
  have hkc1 : k + 1 ≤ cap := by omega
  have hz1' : (0 : Int) ≤ (k : Int) + 1 := by omega
  have hz2' : (k : Int) + 1 ≤ ((m + 1 : Nat) : Int) := by omega
  go_enter Tryd.func48, Tryd.ntmps48
  go_wp2_with fail
  go_region_law (refine step_append_room rfl (.tmp 22) (.tmp 25) 28 rfl 42 i0 2 Tryd.underlying28 hi0 hz1 b 0 k cap (by simp [Act.eval, Act.put]) A (m - k) (cap - (k + 1)) news (by simp [Act.eval, Act.put]) s1.out hsrc.out s2.out (by omega) s3.out ?_; rw [← hW.out])
  all_goals
    go_wp2
    go_ret
    exact ⟨rfl, by rw [hW.out, HN.out, Nat.zero_add]⟩
/-- A peer's cells, and rows of peers. -/
def pcs (x : GVal) : List Value := [.int .i64 x.fId, .int .i64 x.fPower]
theorem pcs_len (l : List GVal) : ∀ row ∈ l.map pcs, row.length = 2 := fun row hr => by obtain ⟨x, _, rfl⟩ := List.mem_map.1 hr; rfl
theorem pcs_flat (l : List GVal) : (l.map pcs).flatten.length = l.length * 2 := by rw [flatten_len (pcs_len l), List.length_map]
theorem vals_us {M : Mem} {h : Home} {l : List GVal} {us : List Value} (hl : us.length = l.length * 2) (q : ∀ (i j : Nat) (row : List PV) (pv : PV) (u : Value), (l.map pVal)[i]? = some row → row[j]? = some pv → us[i * 2 + j]? = some u → VR M h pv u) : us = (l.map pcs).flatten := by
  apply List.ext_getElem?
  intro o
  by_cases ho : o < l.length * 2
  · obtain ⟨i, j, rfl, hj⟩ := divide (sz := 2) (o := o) (by omega)
    have hi : i < l.length := by omega
    obtain ⟨x, hx⟩ : ∃ x, l[i]? = some x := ⟨_, List.getElem?_eq_getElem hi⟩
    obtain ⟨u, hu⟩ : ∃ u, us[i * 2 + j]? = some u := ⟨_, List.getElem?_eq_getElem (by omega)⟩
    have hp : (l.map pVal)[i]? = some (pVal x) := by rw [List.getElem?_map, hx]; rfl
    have hc : (l.map pcs)[i]? = some (pcs x) := by rw [List.getElem?_map, hx]; rfl
    rw [hu]
    match j, hj with
    | 0, _ => rw [flatten_get (pcs_len l) i 0 _ _ hc rfl, vr_val (q i 0 _ _ u hp rfl hu)]
    | 1, _ => rw [flatten_get (pcs_len l) i 1 _ _ hc rfl, vr_val (q i 1 _ _ u hp rfl hu)]
    | j + 2, h => omega
  · rw [List.getElem?_eq_none (by omega), List.getElem?_eq_none (by rw [pcs_flat]; omega)]
theorem pcs_one (l : List GVal) : ∀ u ∈ (l.map pcs).flatten, u.oneCell' = true := fun u hu => by
  obtain ⟨row, hr, hu⟩ := List.mem_flatten.1 hu
  obtain ⟨x, _, rfl⟩ := List.mem_map.1 hr
  simp only [pcs, List.mem_cons, List.not_mem_nil, or_false] at hu
  rcases hu with rfl | rfl <;> rfl
theorem row_vals {M : Mem} {h : Home} {w : World} {t : TypeId} {v : Value} {l : List GVal} (hv : ∃ o n c, v = .slice o n c) (ho : w.ownsRow 0 t 2 v l.length ((l.map pcs).flatten)) : BR M h w v (.row t 2 (l.map pVal)) := by
  refine ⟨hv, _, by rw [List.length_map]; exact ho, fun row hr => by obtain ⟨x, _, rfl⟩ := List.mem_map.1 hr; rfl, pcs_one l, fun i j row pv u a b d => ?_⟩
  rw [List.getElem?_map, Option.map_eq_some_iff] at a
  obtain ⟨x, a, rfl⟩ := a
  have hc : (l.map pcs)[i]? = some (pcs x) := by rw [List.getElem?_map, a]; rfl
  match j, b with
  | 0, b => simp [pVal] at b; subst b; rw [flatten_get (pcs_len l) i 0 _ _ hc rfl] at d; cases d; exact .val _
  | 1, b => simp [pVal] at b; subst b; rw [flatten_get (pcs_len l) i 1 _ _ hc rfl] at d; cases d; exact .val _
  | j + 2, b => simp [pVal] at b
def zeroVal : GVal := ⟨0, 0⟩
theorem del_row {b cap m k : Nat} {us : List Value} {w : World} {e : TypeId} (hown : w.ownsRow 0 e 2 (.slice (some ⟨b, 0, none⟩) (m + 1) cap) (m + 1) us) (hk : k ≤ m) (zs : List Value) (hz : zs.length = 2) :
    ((w.drew.setCells b (k * 2) (us.drop ((k + 1) * 2))).setCells b (m * 2) zs).ownsRow 0 e 2 (.slice (some ⟨b, 0, none⟩) (m + 1) cap) (m + 1) (us.take (k * 2) ++ us.drop ((k + 1) * 2) ++ zs) ∧ w.grownBy ((w.drew.setCells b (k * 2) (us.drop ((k + 1) * 2))).setCells b (m * 2) zs) (some b) := by
  rcases hown with ⟨hul, ⟨h0, _⟩ | ⟨g, cap', cur, hv, hbase, hb, hncap, hmax, hcur, hcells⟩⟩
  · cases h0
  cases hv
  have hdl : (us.drop ((k + 1) * 2)).length = (m - k) * 2 := by rw [List.length_drop, hul]; omega
  obtain ⟨c1, g1, g2, g3⟩ := setCells_heap (us.drop ((k + 1) * 2)) (k * 2) w.drew cur hb (by omega)
  obtain ⟨c2, f1, f2, f3⟩ := setCells_heap zs (m * 2) _ c1 g1 (by omega)
  have ul : ∀ j, j < (m + 1) * 2 → us[j]? = cur[j]? := fun j hj => by rw [← hcells, List.getElem?_take, if_pos hj]; simp
  have hlt : b < w.heap.size := (Array.getElem?_eq_some_iff.1 hb).1
  refine ⟨⟨by simp only [List.length_append, List.length_take, hdl, hz, hul]; omega, .inr ⟨b, cap, c2, rfl, Nat.zero_le _, f1, hncap, hmax, by omega, ?_⟩⟩, ?_⟩
  · apply List.ext_getElem?
    intro j
    rw [List.getElem?_take]
    by_cases hj : j < (m + 1) * 2
    · rw [if_pos hj, Array.getElem?_toList, f3 j, hz]
      by_cases h1 : m * 2 ≤ j
      · rw [if_pos (by omega), List.getElem?_append_right (by simp only [List.length_append, List.length_take, hdl, hul]; omega)]
        congr 1
        simp only [List.length_append, List.length_take, hdl, hul]
        omega
      · rw [if_neg (by omega), g3 j, hdl, List.getElem?_append_left (by simp only [List.length_append, List.length_take, hdl, hul]; omega)]
        by_cases h2 : k * 2 ≤ j
        · rw [if_pos (by omega), List.getElem?_append_right (by simp only [List.length_take, hul]; omega)]
          congr 1
          simp only [List.length_take, hul]
          omega
        · rw [if_neg (by omega), List.getElem?_append_left (by simp only [List.length_take, hul]; omega), List.getElem?_take, if_pos (by omega), ul j hj]
    · rw [if_neg hj, List.getElem?_eq_none (by simp only [List.length_append, List.length_take, hdl, hz, hul]; omega)]
  · have h1 := grown_setCells (b := b) (us.drop ((k + 1) * 2)) (k * 2) w.drew
    have h2 := grown_setCells (b := b) zs (m * 2) (w.drew.setCells b (k * 2) (us.drop ((k + 1) * 2)))
    exact ⟨h2.os.trans h1.os, h2.tape.trans h1.tape, h2.output.trans h1.output, Nat.le_trans h1.size h2.size, fun i hi hne => (h2.block i (Nat.lt_of_lt_of_le hi h1.size) hne).trans (h1.block i hi hne)⟩
theorem iDelete_p (l : List GVal) (k : Nat) (hk : k < l.length) (hl : l.length ≤ 1000) : PCalls Tryd.prog 48 [.own 0, .val (.int .i64 (k : Int)), .val (.int .i64 ((k : Int) + 1))] [some (.row 42 2 (l.map pVal))] (RH (.own 1) [none, some (.row 42 2 ((l.eraseIdx k).map pVal))]) := by
  intro M h w vs I rv
  obtain ⟨v, u1, u2, rfl⟩ : ∃ v u1 u2, vs = #[v, u1, u2] := by
    have hs : vs.size = 3 := by have := rv.1; simpa using this.symm
    exact ⟨vs[0], vs[1], vs[2], Array.ext (by simp [hs]) fun i h1 h2 => by
      simp at h2
      match i, h2 with
      | 0, _ => rfl
      | 1, _ => rfl
      | 2, _ => rfl⟩
  have r := rv.2 0 _ v rfl rfl
  have e1 := vr_val (rv.2 1 _ u1 rfl rfl)
  have e2 := vr_val (rv.2 2 _ u2 rfl rfl)
  subst e1
  subst e2
  cases r with
  | own _ oo n c hb =>
    obtain ⟨v0, q0, -, us, q1, q2, q3, q4⟩ := I.blk 0 _ rfl
    rw [hb] at q0
    cases q0
    rw [List.length_map] at q1
    have hus := vals_us (by have := q1.1; simpa using this) q4
    subst hus
    obtain ⟨m, hm⟩ : ∃ m, l.length = m + 1 := ⟨l.length - 1, by omega⟩
    rcases id q1.2 with ⟨_, g2⟩ | ⟨g, cap, cur, g1, _, g3, _⟩
    · omega
    cases g1
    rw [hm] at q1 hb ⊢
    refine (del_val g c m k _ w q1 (by omega) (by omega) (pcs_one l)).mono fun e w' ⟨f1, f2⟩ => ?_
    obtain ⟨d1, d2⟩ := del_row q1 (k := k) (by omega) [.int .i64 0, .int .i64 0] rfl
    rw [← f2] at d1 d2
    have hfl : ((l.map pcs).flatten.take (k * 2) ++ (l.map pcs).flatten.drop ((k + 1) * 2) ++ [.int .i64 0, .int .i64 0]) = ((l.eraseIdx k ++ [zeroVal]).map pcs).flatten := by
      rw [List.eraseIdx_eq_take_drop_succ, List.map_append, List.map_append, List.flatten_append, List.flatten_append]
      have t1 : ∀ n, n ≤ l.length → (l.map pcs).flatten = ((l.take n).map pcs).flatten ++ ((l.drop n).map pcs).flatten := fun n _ => by
        rw [← List.flatten_append, ← List.map_append, List.take_append_drop]
      have a1 : (l.map pcs).flatten.take (k * 2) = ((l.take k).map pcs).flatten := by
        rw [t1 k (by omega), List.take_left' (by rw [pcs_flat, List.length_take]; omega)]
      have a2 : (l.map pcs).flatten.drop ((k + 1) * 2) = ((l.drop (k + 1)).map pcs).flatten := by
        rw [t1 (k + 1) (by omega), List.drop_left' (by rw [pcs_flat, List.length_take]; omega)]
      rw [a1, a2]
      rfl
    rw [hfl] at d1
    have hl2 : (l.eraseIdx k ++ [zeroVal]).length = m + 1 := by rw [List.length_append, List.length_eraseIdx, if_pos hk, List.length_singleton]; omega
    have st : Step M h _ w M h _ w' := Step.turn I (b := 0) rfl hb rfl d2 (row_vals (l := l.eraseIdx k ++ [zeroVal]) ⟨_, _, _, rfl⟩ (by rw [hl2]; exact d1))
    have st2 := Step.cut (k := m) st.inv (b := 0) rfl hb (by rw [List.length_map, hl2]; omega)
    have ht : (List.map pVal (l.eraseIdx k ++ [zeroVal])).take m = (l.eraseIdx k).map pVal := by
      rw [← List.map_take, List.take_left' (by rw [List.length_append] at hl2; simp at hl2; omega)]
    rw [ht] at st2
    exact ⟨_, M, _, .own 1, _, f1, ⟨rfl, rfl⟩, .own _ _ _ _ upd_self, st.trans st2⟩
end Go.Proofs.YtmdjnohdkhepjaaDoor
