/- Val: data, and the laws' helpers. Printed by a program of ours. -/
import Derived.Test.YtgcelmnmalfpcaaDoorTyPrim
namespace Go.Proofs.YtgcelmnmalfpcaaDoor
open Go.RowKit

def encVal (x : GVal) : List D := [.int x.fId, .int x.fPower]
theorem encVal_len (x : GVal) : (encVal x).length = 2 := rfl
theorem dec_Val : Dec [.int .i64, .int .i64] encVal := by
  intro n W vs h
  match vs, h with
  | [_, _], ⟨k0, k1, _⟩ =>
    obtain ⟨a0, rfl, h0⟩ := cell_int k0
    obtain ⟨a1, rfl, h1⟩ := cell_int k1
    exact ⟨⟨a0, a1⟩, (Rds.int _ (Rds.int _ Rds.nil)), (okL_int h0 (okL_int h1 okL_nil))⟩
theorem pv_Val (x : GVal) : toPVL (encVal x) = pVal x := by
  simp only [encVal, pVal, toPVL, toPV]
theorem pvs_Val (e : TypeId) (xs : List GVal) : toPV (slD e 2 encVal xs) = .sl 2 (xs.map pVal) := by rw [toPV_slD (enc := encVal) (sz := 2) (fun _ => rfl)]; simp only [pv_Val]
theorem cnt_Val (x : GVal) : cnt (encVal x) ≤ 64 + 64 * szL (encVal x) := by
  simp [encVal, cnt, szL]

set_option maxRecDepth 100000 in
set_option maxHeartbeats 4000000 in
theorem toVal_any (x : GVal) (w : World) :
    Calls Tryd.prog 84 #[.agg #[.int .i64 x.fId, .int .i64 x.fPower]] w fun e w' => e = .returned (.agg #[.int .i64 x.fId, .int .i64 x.fPower]) ∧ Ext w w' := by
  go_enter Tryd.func84, Tryd.ntmps84
  go_wp2
  exact bodyPost_ret (v := .agg #[.int .i64 x.fId, .int .i64 x.fPower]) (by simp [results, Tryd.results84, go_sem]) rfl ⟨rfl, by (repeat (first | (with_reducible exact Ext.refl _) | (with_reducible assumption) | (with_reducible refine Ext.alloc ?_ _) | (with_reducible refine Ext.drew ?_) | (with_reducible refine Ext.drewN ?_ _) | ((with_reducible apply Ext.setCell); (case hp => first | omega | (simp; done) | (simp; omega))) | (with_reducible refine Ext.trans ?_ (by assumption))))⟩

set_option maxRecDepth 100000 in
set_option maxHeartbeats 4000000 in
theorem eqVal_any (x : GVal) (w : World) (_h1 : Rds w (encVal x) [.int .i64 x.fId, .int .i64 x.fPower]) (_h2 : Rds w (encVal x) [.int .i64 x.fId, .int .i64 x.fPower]) :
    Calls Tryd.prog 91 #[.agg #[.int .i64 x.fId, .int .i64 x.fPower], .agg #[.int .i64 x.fId, .int .i64 x.fPower]] w fun e w' => e = .returned (.bool true) ∧ Ext w w' := by
  go_enter Tryd.func91, Tryd.ntmps91
  go_wp2
  go_ret
  exact ⟨rfl, by (repeat (first | (with_reducible exact Ext.refl _) | (with_reducible assumption) | (with_reducible refine Ext.alloc ?_ _) | (with_reducible refine Ext.drew ?_) | (with_reducible refine Ext.drewN ?_ _) | ((with_reducible apply Ext.setCell); (case hp => first | omega | (simp; done) | (simp; omega))) | (with_reducible refine Ext.trans ?_ (by assumption))))⟩

theorem infoValS : (Tryd.prog.info? 120).map (fun i => (i.zero, i.size, i.bytes)) = some (some (.agg #[.int .i64 0, .int .i64 0]), 2, 16) := by kernel_rfl
set_option maxRecDepth 100000 in
set_option maxHeartbeats 4000000 in
theorem toValS_any (v : Value) (xs : List GVal) (w : World) (h : RL 120 2 encVal w v xs) (hz : szL [slD 120 2 encVal xs] ≤ 1048576) :
    Calls Tryd.prog 62 #[v] w fun e w' => ∃ (p : Option Addr) (q : Nat), e = .returned (.slice p xs.length q) ∧ Obj w' w.heap.size w'.heap.size [slD 120 2 encVal xs] [.slice p xs.length q] ∧ Ext w w' := by
  obtain ⟨i0, hi, hz0, hz1, hz2⟩ := info_parts infoValS
  have hzero : ∀ w, Ows w [.int 0, .int 0] #[.int .i64 0, .int .i64 0].toList [] := fun w => (Ows.int _ (Ows.int _ Ows.nil))
  have HZ := Lib.hid hzero; clear hzero
  have hn : xs.length ≤ 1048576 := by simp only [szL, slD] at hz; omega
  rcases RS.cases h with ⟨hn0, _, o1, c1, rfl⟩ | ⟨b1, o1, c1, rfl, hp, _, hm, hx⟩
  · obtain rfl := List.eq_nil_of_length_eq_zero hn0
    clear h hn0 hz hn
    go_enter Tryd.func62, Tryd.ntmps62
    go_wp2_with (at_make; refine wpList_make_full _ rfl (.tmp 6) (.tmp 6) 51 rfl w.heap.size 120 i0 _ 2 Tryd.underlying51 hi hz0 hz1 .i64 .i64 _ _ 0 rfl rfl rfl rfl (by omega) (by omega) (Nat.le_refl _) ?_; intro w1 hown hgrow)
    have hE := Ext.of_grownBy hgrow
    have hO := Lib.hid (Obj.made (n := 0) HZ.out rfl (by decide) hown)
    clear hgrow hown
    refine wp_loop_rounds 1 ?_
    rw [rounds_succ]
    go_wp2
    go_ret
    exact ⟨_, _, rfl, hO.out, hE⟩
  · have HSZ := Lib.hid hz
    clear h hm hz
    go_enter Tryd.func62, Tryd.ntmps62
    go_wp2_with (at_make; refine wpList_make_full _ rfl (.tmp 6) (.tmp 6) 51 rfl w.heap.size 120 i0 _ 2 Tryd.underlying51 hi hz0 hz1 .i64 .i64 _ _ xs.length rfl rfl rfl rfl (by rw [hz2]; omega) (by unfold maxLen; omega) (Nat.le_refl _) ?_; intro w1 hown hgrow)
    have hE := Ext.of_grownBy hgrow
    have hO : Obj w1 w.heap.size w1.heap.size [.sl 120 2 xs.length (fillE encVal [.int 0, .int 0] xs 0)] [.slice (some ⟨w.heap.size, 0, none⟩) xs.length xs.length] := by rw [fillE_zero]; exact Obj.made HZ.out rfl (by decide) hown
    clear hgrow hown
    go_loopg [4] xs.length (fun g i wr => ∃ k : Nat, k ≤ xs.length ∧ g = xs.length - k ∧ i = .int .i64 k ∧ Ext w wr ∧ Obj wr w.heap.size wr.heap.size [.sl 120 2 xs.length (fillE encVal [.int 0, .int 0] xs k)] [.slice (some ⟨w.heap.size, 0, none⟩) xs.length xs.length])
    case atStart => exact ⟨0, by omega, by omega, rfl, hE, hO⟩
    case round =>
      clear hE hO
      obtain ⟨k, hk, hg, rfl, hE, hO⟩ := hrel
      have HG := Lib.hid hg; clear hg
      by_cases hlt : k < xs.length
      · obtain ⟨x, hxk⟩ : ∃ x, xs[k]? = some x := ⟨_, List.getElem?_eq_getElem hlt⟩
        have e1 := (RAt.elem (enc := encVal) (sz := 2) (fun _ => rfl) hx hxk).ext hE
        have HX := Lib.hid hxk
        have HM := Lib.hid (List.mem_of_getElem? hxk)
        clear hxk
        have q0 : wr.cell? ⟨b1, o1 + k * 2, none⟩ = some (.int .i64 x.fId) := e1.int (j := 0) rfl
        have q1 : wr.cell? ⟨b1, o1 + k * 2 + 1, none⟩ = some (.int .i64 x.fPower) := e1.int (j := 1) rfl
        clear e1
        go_wp2_with fail
        (refine (toVal_any x _).mono ?_); rintro e w2 ⟨rfl, hb⟩
        have hR : Obj w2 w2.heap.size w2.heap.size (encVal x) [.int .i64 x.fId, .int .i64 x.fPower] := (Obj.int (Obj.int obj_nil))
        have hO2 := hO.ext hb
        have hsz := hb.size
        obtain ⟨F, f1, f2, f3⟩ := hO2
        obtain ⟨v0, x0⟩ := f1.cellAt (o := k * 2 + 0) f2 (by rw [RS.len f1.read]; omega)
        have y0 := f1.frozenAt f2 (k * 2 + 0)
        obtain ⟨v1, x1⟩ := f1.cellAt (o := k * 2 + 1) f2 (by rw [RS.len f1.read]; omega)
        have y1 := f1.frozenAt f2 (k * 2 + 1)
        simp only [Nat.add_zero] at x0 y0
        have hO3 := Lib.hid (Obj.fill (enc := encVal) (z := [.int 0, .int 0]) (sz := 2) (hi := w2.heap.size) (fun _ => rfl) rfl ⟨F, f1, f2, f3⟩ HX.out hR (by omega) (by omega))
        clear f1 f2 f3 hR
        go_wp2
        go_roundg (xs.length - (k + 1))
        case measure => rw [HG.out]; omega
        case rel => exact ⟨k + 1, by omega, rfl, by go_num, by (repeat (first | (with_reducible exact Ext.refl _) | (with_reducible assumption) | (with_reducible refine Ext.alloc ?_ _) | (with_reducible refine Ext.drew ?_) | (with_reducible refine Ext.drewN ?_ _) | ((with_reducible apply Ext.setCell); (case hp => first | omega | (simp; done) | (simp; omega))) | (with_reducible refine Ext.trans ?_ (by assumption)))), Obj.mono (by have h := hO3.out; (try simp only [Nat.mul_one] at h); exact h) (Nat.le_refl _) (by (first | omega | (simp; done) | (simp; omega)))⟩
      · obtain rfl : k = xs.length := by omega
        rw [fillE_end] at hO
        go_wp2
        go_ret
        exact ⟨_, _, rfl, hO, hE⟩

set_option maxRecDepth 100000 in
set_option maxHeartbeats 4000000 in
theorem szValS_any (v : Value) (xs : List GVal) (left : Int) (w : World) (h : RL 120 2 encVal w v xs) (_hok : okL [slD 120 2 encVal xs]) (h0 : 0 ≤ left) (h1 : left ≤ 1048576) :
    Calls Tryd.prog 57 #[v, .int .i64 left] w fun e w' => e = .returned (.int .i64 (szR left (szL [slD 120 2 encVal xs]))) ∧ Ext w w' := by
  have hm := RS.bd h
  replace hm : xs.length ≤ 9223372036854775807 := by unfold maxLen at hm; omega
  have hs : szL [slD 120 2 encVal xs] = xs.length := by
    have : szL (xs.flatMap encVal) = 0 := szL_zero (fun x => by simp [encVal, szL]) xs
    simp [slD, szL, this]
  obtain ⟨o1, c1, rfl⟩ := RS.val h
  rw [hs]
  clear h hs
  go_enter Tryd.func57, Tryd.ntmps57
  go_wp2
  all_goals
    go_ret
    exact ⟨ret_int (by first | exact szR_no (by omega) | exact szR_yes (by omega)), by (repeat (first | (with_reducible exact Ext.refl _) | (with_reducible assumption) | (with_reducible refine Ext.alloc ?_ _) | (with_reducible refine Ext.drew ?_) | (with_reducible refine Ext.drewN ?_ _) | ((with_reducible apply Ext.setCell); (case hp => first | omega | (simp; done) | (simp; omega))) | (with_reducible refine Ext.trans ?_ (by assumption))))⟩

set_option maxRecDepth 100000 in
set_option maxHeartbeats 4000000 in
theorem eqValS_any (v1 v2 : Value) (xs : List GVal) (w : World) (h1 : RL 120 2 encVal w v1 xs) (h2 : RL 120 2 encVal w v2 xs) :
    Calls Tryd.prog 69 #[v1, v2] w fun e w' => e = .returned (.bool true) ∧ Ext w w' := by
  rcases RS.cases h1 with ⟨hn, _, o1, c1, rfl⟩ | ⟨b1, o1, c1, rfl, hp, _, hm, hx⟩
  · rcases RS.cases h2 with ⟨_, _, o2, c2, rfl⟩ | ⟨b2, o2, c2, rfl, hp, _⟩
    · clear h1 h2 hn
      go_enter Tryd.func69, Tryd.ntmps69
      go_wp2
      refine wp_loop_rounds 1 ?_
      rw [rounds_succ]
      go_wp2
      go_ret
      exact ⟨rfl, by (repeat (first | (with_reducible exact Ext.refl _) | (with_reducible assumption) | (with_reducible refine Ext.alloc ?_ _) | (with_reducible refine Ext.drew ?_) | (with_reducible refine Ext.drewN ?_ _) | ((with_reducible apply Ext.setCell); (case hp => first | omega | (simp; done) | (simp; omega))) | (with_reducible refine Ext.trans ?_ (by assumption))))⟩
    · omega
  · rcases RS.cases h2 with ⟨hn, _⟩ | ⟨b2, o2, c2, rfl, _, _, _, hy⟩
    · omega
    · have hn : xs.length ≤ 9223372036854775807 := by unfold maxLen at hm; omega
      clear h1 h2 hp hm
      go_enter Tryd.func69, Tryd.ntmps69
      go_wp2
      go_loopg [5] xs.length (fun g i wr => ∃ k : Nat, k ≤ xs.length ∧ g = xs.length - k ∧ i = .int .i64 k ∧ Ext w wr)
      case atStart => exact ⟨0, by omega, by omega, rfl, Ext.refl _⟩
      case round =>
        obtain ⟨k, hk, hg, rfl, hE⟩ := hrel
        have HG := Lib.hid hg; clear hg
        by_cases hlt : k < xs.length
        · obtain ⟨x, hxk⟩ : ∃ x, xs[k]? = some x := ⟨_, List.getElem?_eq_getElem hlt⟩
          have e1 := (RAt.elem (enc := encVal) (sz := 2) (fun _ => rfl) hx hxk).ext hE
          have e2 := (RAt.elem (enc := encVal) (sz := 2) (fun _ => rfl) hy hxk).ext hE
          clear hxk
          have i0 : (0 : Int) ≤ (k : Int) := by omega
          have i1 : (k : Int) < (xs.length : Int) := by omega
          have q0 : wr.cell? ⟨b1, o1 + k * 2, none⟩ = some (.int .i64 x.fId) := e1.int (j := 0) rfl
          have q1 : wr.cell? ⟨b1, o1 + k * 2 + 1, none⟩ = some (.int .i64 x.fPower) := e1.int (j := 1) rfl
          have m0 : wr.cell? ⟨b2, o2 + k * 2, none⟩ = some (.int .i64 x.fId) := e2.int (j := 0) rfl
          have m1 : wr.cell? ⟨b2, o2 + k * 2 + 1, none⟩ = some (.int .i64 x.fPower) := e2.int (j := 1) rfl
          have d1 : Rds wr (encVal x) [.int .i64 x.fId, .int .i64 x.fPower] := (Rds.int _ (Rds.int _ Rds.nil))
          have d2 : Rds wr (encVal x) [.int .i64 x.fId, .int .i64 x.fPower] := (Rds.int _ (Rds.int _ Rds.nil))
          clear e1 e2
          go_wp2_with fail
          go_region_held3 (fun w' => w'.cell? ⟨b1, o1 + k * 2, none⟩ = some (.int .i64 x.fId) ∧ w'.cell? ⟨b1, o1 + k * 2 + 1, none⟩ = some (.int .i64 x.fPower) ∧ w'.cell? ⟨b2, o2 + k * 2, none⟩ = some (.int .i64 x.fId) ∧ w'.cell? ⟨b2, o2 + k * 2 + 1, none⟩ = some (.int .i64 x.fPower)) ((first | go_keep | ((try dsimp only); (try go_split_ands); (repeat' apply And.intro) <;> exact hb.cellSome (by assumption))))
            ((go_at_call 91; refine (eqVal_any x _ (d1.ext (by (repeat (first | (with_reducible exact Ext.refl _) | (with_reducible assumption) | (with_reducible refine Ext.alloc ?_ _) | (with_reducible refine Ext.drew ?_) | (with_reducible refine Ext.drewN ?_ _) | ((with_reducible apply Ext.setCell); (case hp => first | omega | (simp; done) | (simp; omega))) | (with_reducible refine Ext.trans ?_ (by assumption)))))) (d2.ext (by (repeat (first | (with_reducible exact Ext.refl _) | (with_reducible assumption) | (with_reducible refine Ext.alloc ?_ _) | (with_reducible refine Ext.drew ?_) | (with_reducible refine Ext.drewN ?_ _) | ((with_reducible apply Ext.setCell); (case hp => first | omega | (simp; done) | (simp; omega))) | (with_reducible refine Ext.trans ?_ (by assumption))))))).mono ?_; rintro e w1 ⟨rfl, hb⟩))
          go_wp2
          go_roundg (xs.length - (k + 1))
          case measure => rw [HG.out]; omega
          case rel => exact ⟨k + 1, by omega, rfl, by go_num, by (repeat (first | (with_reducible exact Ext.refl _) | (with_reducible assumption) | (with_reducible refine Ext.alloc ?_ _) | (with_reducible refine Ext.drew ?_) | (with_reducible refine Ext.drewN ?_ _) | ((with_reducible apply Ext.setCell); (case hp => first | omega | (simp; done) | (simp; omega))) | (with_reducible refine Ext.trans ?_ (by assumption))))⟩
        · go_wp2
          go_ret
          exact ⟨rfl, by (repeat (first | (with_reducible exact Ext.refl _) | (with_reducible assumption) | (with_reducible refine Ext.alloc ?_ _) | (with_reducible refine Ext.drew ?_) | (with_reducible refine Ext.drewN ?_ _) | ((with_reducible apply Ext.setCell); (case hp => first | omega | (simp; done) | (simp; omega))) | (with_reducible refine Ext.trans ?_ (by assumption))))⟩
end Go.Proofs.YtgcelmnmalfpcaaDoor
