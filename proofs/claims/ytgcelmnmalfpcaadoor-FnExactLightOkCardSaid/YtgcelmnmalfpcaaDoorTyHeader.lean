/- Header: data, and the laws' helpers. Printed by a program of ours. -/
import Derived.Test.YtgcelmnmalfpcaaDoorTyPrim
namespace Go.Proofs.YtgcelmnmalfpcaaDoor
open Go.RowKit

def encHeader (x : GHeader) : List D := [.int x.fHeight, .int x.fTime, .str x.fLast, .str x.fVals, .str x.fNext, .str x.fData]
theorem encHeader_len (x : GHeader) : (encHeader x).length = 6 := rfl
theorem dec_Header : Dec [.int .i64, .int .i64, .str, .str, .str, .str] encHeader := by
  intro n W vs h
  match vs, h with
  | [_, _, _, _, _, _], ⟨k0, k1, k2, k3, k4, k5, _⟩ =>
    obtain ⟨a0, rfl, h0⟩ := cell_int k0
    obtain ⟨a1, rfl, h1⟩ := cell_int k1
    obtain ⟨a2, rfl, h2⟩ := cell_str k2
    obtain ⟨a3, rfl, h3⟩ := cell_str k3
    obtain ⟨a4, rfl, h4⟩ := cell_str k4
    obtain ⟨a5, rfl, h5⟩ := cell_str k5
    exact ⟨⟨a0, a1, a2, a3, a4, a5⟩, (Rds.int _ (Rds.int _ (Rds.str _ (Rds.str _ (Rds.str _ (Rds.str _ Rds.nil)))))), (okL_int h0 (okL_int h1 (okL_str h2 (okL_str h3 (okL_str h4 (okL_str h5 okL_nil))))))⟩
theorem pv_Header (x : GHeader) : toPVL (encHeader x) = pHeader x := by
  simp only [encHeader, pHeader, toPVL, toPV]
theorem pvs_Header (e : TypeId) (xs : List GHeader) : toPV (slD e 6 encHeader xs) = .sl 6 (xs.map pHeader) := by rw [toPV_slD (enc := encHeader) (sz := 6) (fun _ => rfl)]; simp only [pv_Header]
theorem cnt_Header (x : GHeader) : cnt (encHeader x) ≤ 64 + 64 * szL (encHeader x) := by
  simp [encHeader, cnt, szL]
  omega

set_option maxRecDepth 100000 in
set_option maxHeartbeats 4000000 in
theorem toHeader_any (x : GHeader) (w : World) :
    Calls Tryd.prog 61 #[.agg #[.int .i64 x.fHeight, .int .i64 x.fTime, .string x.fLast, .string x.fVals, .string x.fNext, .string x.fData]] w fun e w' => e = .returned (.agg #[.int .i64 x.fHeight, .int .i64 x.fTime, .string x.fLast, .string x.fVals, .string x.fNext, .string x.fData]) ∧ Ext w w' := by
  go_enter Tryd.func61, Tryd.ntmps61
  go_wp2
  exact bodyPost_ret (v := .agg #[.int .i64 x.fHeight, .int .i64 x.fTime, .string x.fLast, .string x.fVals, .string x.fNext, .string x.fData]) (by simp [results, Tryd.results61, go_sem]) rfl ⟨rfl, by (repeat (first | (with_reducible exact Ext.refl _) | (with_reducible assumption) | (with_reducible refine Ext.alloc ?_ _) | (with_reducible refine Ext.drew ?_) | (with_reducible refine Ext.drewN ?_ _) | ((with_reducible apply Ext.setCell); (case hp => first | omega | (simp; done) | (simp; omega))) | (with_reducible refine Ext.trans ?_ (by assumption))))⟩

set_option maxRecDepth 100000 in
set_option maxHeartbeats 4000000 in
theorem szHeader_any (x : GHeader) (left : Int) (w : World) (_h : Rds w (encHeader x) [.int .i64 x.fHeight, .int .i64 x.fTime, .string x.fLast, .string x.fVals, .string x.fNext, .string x.fData]) (hok : okL (encHeader x)) (h0 : 0 ≤ left) (h1 : left ≤ 1048576) :
    Calls Tryd.prog 56 #[.agg #[.int .i64 x.fHeight, .int .i64 x.fTime, .string x.fLast, .string x.fVals, .string x.fNext, .string x.fData], .int .i64 left] w fun e w' => e = .returned (.int .i64 (szR left (szL (encHeader x)))) ∧ Ext w w' := by
  have k2 : x.fLast.size ≤ 9223372036854775807 := by have h : okL [.str x.fLast] := okL_cut (ds := encHeader x) 2 1 hok; simp only [okL] at h; exact h.1
  have k3 : x.fVals.size ≤ 9223372036854775807 := by have h : okL [.str x.fVals] := okL_cut (ds := encHeader x) 3 1 hok; simp only [okL] at h; exact h.1
  have k4 : x.fNext.size ≤ 9223372036854775807 := by have h : okL [.str x.fNext] := okL_cut (ds := encHeader x) 4 1 hok; simp only [okL] at h; exact h.1
  have k5 : x.fData.size ≤ 9223372036854775807 := by have h : okL [.str x.fData] := okL_cut (ds := encHeader x) 5 1 hok; simp only [okL] at h; exact h.1
  have hT : szL (encHeader x) = x.fLast.size + x.fVals.size + x.fNext.size + x.fData.size := by simp [encHeader, szL, slD]; try omega
  rw [hT]
  clear hT hok
  by_cases h2 : left < (x.fLast.size : Nat)
  · have R0 := Lib.hid (szR_no h2)
    go_enter Tryd.func56, Tryd.ntmps56
    go_wp2
    go_ret
    exact ⟨ret_int (szR_no (by omega)), by (repeat (first | (with_reducible exact Ext.refl _) | (with_reducible assumption) | (with_reducible refine Ext.alloc ?_ _) | (with_reducible refine Ext.drew ?_) | (with_reducible refine Ext.drewN ?_ _) | ((with_reducible apply Ext.setCell); (case hp => first | omega | (simp; done) | (simp; omega))) | (with_reducible refine Ext.trans ?_ (by assumption))))⟩
  · have R0 := Lib.hid (szR_yes h2)
    by_cases h3 : left - x.fLast.size < (x.fVals.size : Nat)
    · have R1 := Lib.hid (szR_no h3)
      go_enter Tryd.func56, Tryd.ntmps56
      go_wp2
      go_ret
      exact ⟨ret_int (szR_no (by omega)), by (repeat (first | (with_reducible exact Ext.refl _) | (with_reducible assumption) | (with_reducible refine Ext.alloc ?_ _) | (with_reducible refine Ext.drew ?_) | (with_reducible refine Ext.drewN ?_ _) | ((with_reducible apply Ext.setCell); (case hp => first | omega | (simp; done) | (simp; omega))) | (with_reducible refine Ext.trans ?_ (by assumption))))⟩
    · have R1 := Lib.hid (szR_yes h3)
      by_cases h4 : left - x.fLast.size - x.fVals.size < (x.fNext.size : Nat)
      · have R2 := Lib.hid (szR_no h4)
        go_enter Tryd.func56, Tryd.ntmps56
        go_wp2
        go_ret
        exact ⟨ret_int (szR_no (by omega)), by (repeat (first | (with_reducible exact Ext.refl _) | (with_reducible assumption) | (with_reducible refine Ext.alloc ?_ _) | (with_reducible refine Ext.drew ?_) | (with_reducible refine Ext.drewN ?_ _) | ((with_reducible apply Ext.setCell); (case hp => first | omega | (simp; done) | (simp; omega))) | (with_reducible refine Ext.trans ?_ (by assumption))))⟩
      · have R2 := Lib.hid (szR_yes h4)
        by_cases h5 : left - x.fLast.size - x.fVals.size - x.fNext.size < (x.fData.size : Nat)
        · have R3 := Lib.hid (szR_no h5)
          go_enter Tryd.func56, Tryd.ntmps56
          go_wp2
          go_ret
          exact ⟨ret_int (szR_no (by omega)), by (repeat (first | (with_reducible exact Ext.refl _) | (with_reducible assumption) | (with_reducible refine Ext.alloc ?_ _) | (with_reducible refine Ext.drew ?_) | (with_reducible refine Ext.drewN ?_ _) | ((with_reducible apply Ext.setCell); (case hp => first | omega | (simp; done) | (simp; omega))) | (with_reducible refine Ext.trans ?_ (by assumption))))⟩
        · have R3 := Lib.hid (szR_yes h5)
          go_enter Tryd.func56, Tryd.ntmps56
          go_wp2
          go_ret
          exact ⟨ret_int ((szR_yes (by omega)).trans (by omega)), by (repeat (first | (with_reducible exact Ext.refl _) | (with_reducible assumption) | (with_reducible refine Ext.alloc ?_ _) | (with_reducible refine Ext.drew ?_) | (with_reducible refine Ext.drewN ?_ _) | ((with_reducible apply Ext.setCell); (case hp => first | omega | (simp; done) | (simp; omega))) | (with_reducible refine Ext.trans ?_ (by assumption))))⟩

set_option maxRecDepth 100000 in
set_option maxHeartbeats 4000000 in
theorem eqHeader_any (x : GHeader) (w : World) (_h1 : Rds w (encHeader x) [.int .i64 x.fHeight, .int .i64 x.fTime, .string x.fLast, .string x.fVals, .string x.fNext, .string x.fData]) (_h2 : Rds w (encHeader x) [.int .i64 x.fHeight, .int .i64 x.fTime, .string x.fLast, .string x.fVals, .string x.fNext, .string x.fData]) :
    Calls Tryd.prog 20 #[.agg #[.int .i64 x.fHeight, .int .i64 x.fTime, .string x.fLast, .string x.fVals, .string x.fNext, .string x.fData], .agg #[.int .i64 x.fHeight, .int .i64 x.fTime, .string x.fLast, .string x.fVals, .string x.fNext, .string x.fData]] w fun e w' => e = .returned (.bool true) ∧ Ext w w' := by
  go_enter Tryd.func20, Tryd.ntmps20
  go_wp2
  go_ret
  exact ⟨rfl, by (repeat (first | (with_reducible exact Ext.refl _) | (with_reducible assumption) | (with_reducible refine Ext.alloc ?_ _) | (with_reducible refine Ext.drew ?_) | (with_reducible refine Ext.drewN ?_ _) | ((with_reducible apply Ext.setCell); (case hp => first | omega | (simp; done) | (simp; omega))) | (with_reducible refine Ext.trans ?_ (by assumption))))⟩

theorem infoHeaderS : (Tryd.prog.info? 50).map (fun i => (i.zero, i.size, i.bytes)) = some (some (.agg #[.int .i64 0, .int .i64 0, .string ByteArray.empty, .string ByteArray.empty, .string ByteArray.empty, .string ByteArray.empty]), 6, 80) := by kernel_rfl
set_option maxRecDepth 100000 in
set_option maxHeartbeats 4000000 in
theorem toHeaderS_any (v : Value) (xs : List GHeader) (w : World) (h : RL 50 6 encHeader w v xs) (hz : szL [slD 50 6 encHeader xs] ≤ 1048576) :
    Calls Tryd.prog 75 #[v] w fun e w' => ∃ (p : Option Addr) (q : Nat), e = .returned (.slice p xs.length q) ∧ Obj w' w.heap.size w'.heap.size [slD 50 6 encHeader xs] [.slice p xs.length q] ∧ Ext w w' := by
  obtain ⟨i0, hi, hz0, hz1, hz2⟩ := info_parts infoHeaderS
  have hzero : ∀ w, Ows w [.int 0, .int 0, .str ByteArray.empty, .str ByteArray.empty, .str ByteArray.empty, .str ByteArray.empty] #[.int .i64 0, .int .i64 0, .string ByteArray.empty, .string ByteArray.empty, .string ByteArray.empty, .string ByteArray.empty].toList [] := fun w => (Ows.int _ (Ows.int _ (Ows.str _ (Ows.str _ (Ows.str _ (Ows.str _ Ows.nil))))))
  have HZ := Lib.hid hzero; clear hzero
  have hn : xs.length ≤ 1048576 := by simp only [szL, slD] at hz; omega
  rcases RS.cases h with ⟨hn0, _, o1, c1, rfl⟩ | ⟨b1, o1, c1, rfl, hp, _, hm, hx⟩
  · obtain rfl := List.eq_nil_of_length_eq_zero hn0
    clear h hn0 hz hn
    go_enter Tryd.func75, Tryd.ntmps75
    go_wp2_with (at_make; refine wpList_make_full _ rfl (.tmp 6) (.tmp 6) 54 rfl w.heap.size 50 i0 _ 6 Tryd.underlying54 hi hz0 hz1 .i64 .i64 _ _ 0 rfl rfl rfl rfl (by omega) (by omega) (Nat.le_refl _) ?_; intro w1 hown hgrow)
    have hE := Ext.of_grownBy hgrow
    have hO := Lib.hid (Obj.made (n := 0) HZ.out rfl (by decide) hown)
    clear hgrow hown
    refine wp_loop_rounds 1 ?_
    rw [rounds_succ]
    go_wp2
    go_ret
    exact ⟨_, _, rfl, hO.out, hE⟩
  · have HSZ := Lib.hid hz
    clear h hm hz
    go_enter Tryd.func75, Tryd.ntmps75
    go_wp2_with (at_make; refine wpList_make_full _ rfl (.tmp 6) (.tmp 6) 54 rfl w.heap.size 50 i0 _ 6 Tryd.underlying54 hi hz0 hz1 .i64 .i64 _ _ xs.length rfl rfl rfl rfl (by rw [hz2]; omega) (by unfold maxLen; omega) (Nat.le_refl _) ?_; intro w1 hown hgrow)
    have hE := Ext.of_grownBy hgrow
    have hO : Obj w1 w.heap.size w1.heap.size [.sl 50 6 xs.length (fillE encHeader [.int 0, .int 0, .str ByteArray.empty, .str ByteArray.empty, .str ByteArray.empty, .str ByteArray.empty] xs 0)] [.slice (some ⟨w.heap.size, 0, none⟩) xs.length xs.length] := by rw [fillE_zero]; exact Obj.made HZ.out rfl (by decide) hown
    clear hgrow hown
    go_loopg [4] xs.length (fun g i wr => ∃ k : Nat, k ≤ xs.length ∧ g = xs.length - k ∧ i = .int .i64 k ∧ Ext w wr ∧ Obj wr w.heap.size wr.heap.size [.sl 50 6 xs.length (fillE encHeader [.int 0, .int 0, .str ByteArray.empty, .str ByteArray.empty, .str ByteArray.empty, .str ByteArray.empty] xs k)] [.slice (some ⟨w.heap.size, 0, none⟩) xs.length xs.length])
    case atStart => exact ⟨0, by omega, by omega, rfl, hE, hO⟩
    case round =>
      clear hE hO
      obtain ⟨k, hk, hg, rfl, hE, hO⟩ := hrel
      have HG := Lib.hid hg; clear hg
      by_cases hlt : k < xs.length
      · obtain ⟨x, hxk⟩ : ∃ x, xs[k]? = some x := ⟨_, List.getElem?_eq_getElem hlt⟩
        have e1 := (RAt.elem (enc := encHeader) (sz := 6) (fun _ => rfl) hx hxk).ext hE
        have HX := Lib.hid hxk
        have HM := Lib.hid (List.mem_of_getElem? hxk)
        clear hxk
        have q0 : wr.cell? ⟨b1, o1 + k * 6, none⟩ = some (.int .i64 x.fHeight) := e1.int (j := 0) rfl
        have q1 : wr.cell? ⟨b1, o1 + k * 6 + 1, none⟩ = some (.int .i64 x.fTime) := e1.int (j := 1) rfl
        have q2 : wr.cell? ⟨b1, o1 + k * 6 + 2, none⟩ = some (.string x.fLast) := e1.str (j := 2) rfl
        have q3 : wr.cell? ⟨b1, o1 + k * 6 + 3, none⟩ = some (.string x.fVals) := e1.str (j := 3) rfl
        have q4 : wr.cell? ⟨b1, o1 + k * 6 + 4, none⟩ = some (.string x.fNext) := e1.str (j := 4) rfl
        have q5 : wr.cell? ⟨b1, o1 + k * 6 + 5, none⟩ = some (.string x.fData) := e1.str (j := 5) rfl
        clear e1
        go_wp2_with fail
        (refine (toHeader_any x _).mono ?_); rintro e w2 ⟨rfl, hb⟩
        have hR : Obj w2 w2.heap.size w2.heap.size (encHeader x) [.int .i64 x.fHeight, .int .i64 x.fTime, .string x.fLast, .string x.fVals, .string x.fNext, .string x.fData] := (Obj.int (Obj.int (Obj.str (Obj.str (Obj.str (Obj.str obj_nil))))))
        have hO2 := hO.ext hb
        have hsz := hb.size
        obtain ⟨F, f1, f2, f3⟩ := hO2
        obtain ⟨v0, x0⟩ := f1.cellAt (o := k * 6 + 0) f2 (by rw [RS.len f1.read]; omega)
        have y0 := f1.frozenAt f2 (k * 6 + 0)
        obtain ⟨v1, x1⟩ := f1.cellAt (o := k * 6 + 1) f2 (by rw [RS.len f1.read]; omega)
        have y1 := f1.frozenAt f2 (k * 6 + 1)
        obtain ⟨v2, x2⟩ := f1.cellAt (o := k * 6 + 2) f2 (by rw [RS.len f1.read]; omega)
        have y2 := f1.frozenAt f2 (k * 6 + 2)
        obtain ⟨v3, x3⟩ := f1.cellAt (o := k * 6 + 3) f2 (by rw [RS.len f1.read]; omega)
        have y3 := f1.frozenAt f2 (k * 6 + 3)
        obtain ⟨v4, x4⟩ := f1.cellAt (o := k * 6 + 4) f2 (by rw [RS.len f1.read]; omega)
        have y4 := f1.frozenAt f2 (k * 6 + 4)
        obtain ⟨v5, x5⟩ := f1.cellAt (o := k * 6 + 5) f2 (by rw [RS.len f1.read]; omega)
        have y5 := f1.frozenAt f2 (k * 6 + 5)
        simp only [Nat.add_zero] at x0 y0
        have hO3 := Lib.hid (Obj.fill (enc := encHeader) (z := [.int 0, .int 0, .str ByteArray.empty, .str ByteArray.empty, .str ByteArray.empty, .str ByteArray.empty]) (sz := 6) (hi := w2.heap.size) (fun _ => rfl) rfl ⟨F, f1, f2, f3⟩ HX.out hR (by omega) (by omega))
        clear f1 f2 f3 hR
        go_wp2
        go_roundg (xs.length - (k + 1))
        case measure => rw [HG.out]; omega
        case rel => exact ⟨k + 1, by omega, rfl, by go_num, by (repeat (first | (with_reducible exact Ext.refl _) | (with_reducible assumption) | (with_reducible refine Ext.alloc ?_ _) | (with_reducible refine Ext.drew ?_) | (with_reducible refine Ext.drewN ?_ _) | ((with_reducible apply Ext.setCell); (case hp => first | omega | (simp; done) | (simp; omega))) | (with_reducible refine Ext.trans ?_ (by assumption)))), Obj.mono (by have h := hO3.out; (try simp only [Nat.mul_one] at h); exact h) (Nat.le_refl _) (by (first | omega | (simp; done) | (simp; omega)))⟩
      · obtain rfl : k = xs.length := by omega
        rw [fillE_end] at hO
        go_wp2
        go_ret
        exact ⟨_, _, rfl, hO, hE⟩

set_option maxRecDepth 100000 in
set_option maxHeartbeats 4000000 in
theorem szHeaderS_any (v : Value) (xs : List GHeader) (left : Int) (w : World) (h : RL 50 6 encHeader w v xs) (hok : okL [slD 50 6 encHeader xs]) (h0 : 0 ≤ left) (h1 : left ≤ 1048576) :
    Calls Tryd.prog 70 #[v, .int .i64 left] w fun e w' => e = .returned (.int .i64 (szR left (szL [slD 50 6 encHeader xs]))) ∧ Ext w w' := by
  have hm := RS.bd h
  replace hm : xs.length ≤ 9223372036854775807 := by unfold maxLen at hm; omega
  have hT : szL [slD 50 6 encHeader xs] = xs.length + szL (xs.flatMap encHeader) := by simp [slD, szL]
  rw [hT]
  clear hT
  have hokE : ∀ x ∈ xs, okL (encHeader x) := fun x hx => by simp only [slD, okL] at hok; exact okL_elem hok.2.1 hx
  have HOK := Lib.hid hokE
  clear hok hokE
  by_cases hl : left < xs.length
  · obtain ⟨o1, c1, rfl⟩ := RS.val h
    have HR := Lib.hid (szR_out (b := szL (xs.flatMap encHeader)) hl)
    clear h
    go_enter Tryd.func70, Tryd.ntmps70
    go_wp2
    go_ret
    exact ⟨ret_int HR.out, by (repeat (first | (with_reducible exact Ext.refl _) | (with_reducible assumption) | (with_reducible refine Ext.alloc ?_ _) | (with_reducible refine Ext.drew ?_) | (with_reducible refine Ext.drewN ?_ _) | ((with_reducible apply Ext.setCell); (case hp => first | omega | (simp; done) | (simp; omega))) | (with_reducible refine Ext.trans ?_ (by assumption))))⟩
  · rcases RS.cases h with ⟨hn0, _, o1, c1, rfl⟩ | ⟨b1, o1, c1, rfl, hp, _, _, hx⟩
    · obtain rfl := List.eq_nil_of_length_eq_zero hn0
      have HR := Lib.hid (szR_zero h0)
      clear h hn0 hl
      go_enter Tryd.func70, Tryd.ntmps70
      go_wp2
      refine wp_loop_rounds 1 ?_
      rw [rounds_succ]
      go_wp2
      go_ret
      exact ⟨ret_int (by simpa [szL] using HR.out), by (repeat (first | (with_reducible exact Ext.refl _) | (with_reducible assumption) | (with_reducible refine Ext.alloc ?_ _) | (with_reducible refine Ext.drew ?_) | (with_reducible refine Ext.drewN ?_ _) | ((with_reducible apply Ext.setCell); (case hp => first | omega | (simp; done) | (simp; omega))) | (with_reducible refine Ext.trans ?_ (by assumption))))⟩
    · clear h hp
      have hl' : (xs.length : Int) ≤ left := by omega
      clear hl
      go_enter Tryd.func70, Tryd.ntmps70
      go_wp2
      go_loopg [1, 5] xs.length (fun g s i wr => ∃ (k : Nat) (t : Int), k ≤ xs.length ∧ g = xs.length - k ∧ i = .int .i64 k ∧ s = .int .i64 t ∧ 0 ≤ t ∧ t ≤ 1048576 ∧ Hid (t = left - xs.length - szL ((xs.take k).flatMap encHeader)) ∧ Ext w wr)
      case atStart => exact ⟨0, left - xs.length, by omega, by omega, rfl, rfl, by omega, by omega, Lib.hid (by simp [szL]), Ext.refl _⟩
      case round =>
        obtain ⟨k, t, hk, hg, rfl, rfl, ht0, ht1, HT, hE⟩ := hrel
        have HG := Lib.hid hg; clear hg
        by_cases hlt : k < xs.length
        · obtain ⟨x, hxk⟩ : ∃ x, xs[k]? = some x := ⟨_, List.getElem?_eq_getElem hlt⟩
          have e1 := (RAt.elem (enc := encHeader) (sz := 6) (fun _ => rfl) hx hxk).ext hE
          have hok := HOK.out x (List.mem_of_getElem? hxk)
          have HS := Lib.hid (szL_next (enc := encHeader) hxk)
          clear hxk
          have q0 : wr.cell? ⟨b1, o1 + k * 6, none⟩ = some (.int .i64 x.fHeight) := e1.int (j := 0) rfl
          have q1 : wr.cell? ⟨b1, o1 + k * 6 + 1, none⟩ = some (.int .i64 x.fTime) := e1.int (j := 1) rfl
          have q2 : wr.cell? ⟨b1, o1 + k * 6 + 2, none⟩ = some (.string x.fLast) := e1.str (j := 2) rfl
          have q3 : wr.cell? ⟨b1, o1 + k * 6 + 3, none⟩ = some (.string x.fVals) := e1.str (j := 3) rfl
          have q4 : wr.cell? ⟨b1, o1 + k * 6 + 4, none⟩ = some (.string x.fNext) := e1.str (j := 4) rfl
          have q5 : wr.cell? ⟨b1, o1 + k * 6 + 5, none⟩ = some (.string x.fData) := e1.str (j := 5) rfl
          have d1 : Rds wr (encHeader x) [.int .i64 x.fHeight, .int .i64 x.fTime, .string x.fLast, .string x.fVals, .string x.fNext, .string x.fData] := (Rds.int _ (Rds.int _ (Rds.str _ (Rds.str _ (Rds.str _ (Rds.str _ Rds.nil))))))
          clear e1
          have OKX := Lib.hid hok; clear hok
          obtain ⟨a, ha⟩ : ∃ a, a = szL (encHeader x) := ⟨_, rfl⟩
          have HA := Lib.hid ha; clear ha
          by_cases hs : t < a
          · have HR := Lib.hid (szR_no hs)
            go_wp2_with fail
            (refine (szHeader_any x t _ d1 OKX.out ht0 ht1).mono ?_); rw [show szL (encHeader x) = a from HA.out.symm, HR.out]; rintro e w1 ⟨rfl, hb⟩
            go_wp2
            go_ret
            exact ⟨ret_int (by have h1 := HT.out; have h2 : szL ((xs.take (k + 1)).flatMap encHeader) = szL ((xs.take k).flatMap encHeader) + szL (encHeader x) := HS.out; have h3 := HA.out; have h4 := szL_take (enc := encHeader) xs (k + 1); exact szR_no (by omega)), by (repeat (first | (with_reducible exact Ext.refl _) | (with_reducible assumption) | (with_reducible refine Ext.alloc ?_ _) | (with_reducible refine Ext.drew ?_) | (with_reducible refine Ext.drewN ?_ _) | ((with_reducible apply Ext.setCell); (case hp => first | omega | (simp; done) | (simp; omega))) | (with_reducible refine Ext.trans ?_ (by assumption))))⟩
          · have HR := Lib.hid (szR_yes hs)
            go_wp2_with fail
            (refine (szHeader_any x t _ d1 OKX.out ht0 ht1).mono ?_); rw [show szL (encHeader x) = a from HA.out.symm, HR.out]; rintro e w1 ⟨rfl, hb⟩
            go_wp2
            go_roundg (xs.length - (k + 1))
            case measure => rw [HG.out]; omega
            case rel => exact ⟨k + 1, _, by omega, rfl, by go_num, rfl, by omega, by omega, Lib.hid (by have h1 := HT.out; have h2 : szL ((xs.take (k + 1)).flatMap encHeader) = szL ((xs.take k).flatMap encHeader) + szL (encHeader x) := HS.out; have h3 := HA.out; have h4 := szL_take (enc := encHeader) xs (k + 1); omega), by (repeat (first | (with_reducible exact Ext.refl _) | (with_reducible assumption) | (with_reducible refine Ext.alloc ?_ _) | (with_reducible refine Ext.drew ?_) | (with_reducible refine Ext.drewN ?_ _) | ((with_reducible apply Ext.setCell); (case hp => first | omega | (simp; done) | (simp; omega))) | (with_reducible refine Ext.trans ?_ (by assumption))))⟩
        · obtain rfl : k = xs.length := by omega
          go_wp2
          go_ret
          exact ⟨ret_int (by have h1 := HT.out; rw [List.take_length] at h1; rw [szR_yes (by omega)]; omega), by (repeat (first | (with_reducible exact Ext.refl _) | (with_reducible assumption) | (with_reducible refine Ext.alloc ?_ _) | (with_reducible refine Ext.drew ?_) | (with_reducible refine Ext.drewN ?_ _) | ((with_reducible apply Ext.setCell); (case hp => first | omega | (simp; done) | (simp; omega))) | (with_reducible refine Ext.trans ?_ (by assumption))))⟩

set_option maxRecDepth 100000 in
set_option maxHeartbeats 4000000 in
theorem eqHeaderS_any (v1 v2 : Value) (xs : List GHeader) (w : World) (h1 : RL 50 6 encHeader w v1 xs) (h2 : RL 50 6 encHeader w v2 xs) :
    Calls Tryd.prog 79 #[v1, v2] w fun e w' => e = .returned (.bool true) ∧ Ext w w' := by
  rcases RS.cases h1 with ⟨hn, _, o1, c1, rfl⟩ | ⟨b1, o1, c1, rfl, hp, _, hm, hx⟩
  · rcases RS.cases h2 with ⟨_, _, o2, c2, rfl⟩ | ⟨b2, o2, c2, rfl, hp, _⟩
    · clear h1 h2 hn
      go_enter Tryd.func79, Tryd.ntmps79
      go_wp2
      refine wp_loop_rounds 1 ?_
      rw [rounds_succ]
      go_wp2
      go_ret
      exact ⟨rfl, by (repeat (first | (with_reducible exact Ext.refl _) | (with_reducible assumption) | (with_reducible refine Ext.alloc ?_ _) | (with_reducible refine Ext.drew ?_) | (with_reducible refine Ext.drewN ?_ _) | ((with_reducible apply Ext.setCell); (case hp => first | omega | (simp; done) | (simp; omega))) | (with_reducible refine Ext.trans ?_ (by assumption))))⟩
    · omega
  · rcases RS.cases h2 with ⟨hn, _⟩ | ⟨b2, o2, c2, rfl, _, _, _, hy⟩
    · omega
    · have hn : xs.length ≤ 9223372036854775807 := by unfold maxLen at hm; omega
      clear h1 h2 hp hm
      go_enter Tryd.func79, Tryd.ntmps79
      go_wp2
      go_loopg [5] xs.length (fun g i wr => ∃ k : Nat, k ≤ xs.length ∧ g = xs.length - k ∧ i = .int .i64 k ∧ Ext w wr)
      case atStart => exact ⟨0, by omega, by omega, rfl, Ext.refl _⟩
      case round =>
        obtain ⟨k, hk, hg, rfl, hE⟩ := hrel
        have HG := Lib.hid hg; clear hg
        by_cases hlt : k < xs.length
        · obtain ⟨x, hxk⟩ : ∃ x, xs[k]? = some x := ⟨_, List.getElem?_eq_getElem hlt⟩
          have e1 := (RAt.elem (enc := encHeader) (sz := 6) (fun _ => rfl) hx hxk).ext hE
          have e2 := (RAt.elem (enc := encHeader) (sz := 6) (fun _ => rfl) hy hxk).ext hE
          clear hxk
          have i0 : (0 : Int) ≤ (k : Int) := by omega
          have i1 : (k : Int) < (xs.length : Int) := by omega
          have q0 : wr.cell? ⟨b1, o1 + k * 6, none⟩ = some (.int .i64 x.fHeight) := e1.int (j := 0) rfl
          have q1 : wr.cell? ⟨b1, o1 + k * 6 + 1, none⟩ = some (.int .i64 x.fTime) := e1.int (j := 1) rfl
          have q2 : wr.cell? ⟨b1, o1 + k * 6 + 2, none⟩ = some (.string x.fLast) := e1.str (j := 2) rfl
          have q3 : wr.cell? ⟨b1, o1 + k * 6 + 3, none⟩ = some (.string x.fVals) := e1.str (j := 3) rfl
          have q4 : wr.cell? ⟨b1, o1 + k * 6 + 4, none⟩ = some (.string x.fNext) := e1.str (j := 4) rfl
          have q5 : wr.cell? ⟨b1, o1 + k * 6 + 5, none⟩ = some (.string x.fData) := e1.str (j := 5) rfl
          have m0 : wr.cell? ⟨b2, o2 + k * 6, none⟩ = some (.int .i64 x.fHeight) := e2.int (j := 0) rfl
          have m1 : wr.cell? ⟨b2, o2 + k * 6 + 1, none⟩ = some (.int .i64 x.fTime) := e2.int (j := 1) rfl
          have m2 : wr.cell? ⟨b2, o2 + k * 6 + 2, none⟩ = some (.string x.fLast) := e2.str (j := 2) rfl
          have m3 : wr.cell? ⟨b2, o2 + k * 6 + 3, none⟩ = some (.string x.fVals) := e2.str (j := 3) rfl
          have m4 : wr.cell? ⟨b2, o2 + k * 6 + 4, none⟩ = some (.string x.fNext) := e2.str (j := 4) rfl
          have m5 : wr.cell? ⟨b2, o2 + k * 6 + 5, none⟩ = some (.string x.fData) := e2.str (j := 5) rfl
          have d1 : Rds wr (encHeader x) [.int .i64 x.fHeight, .int .i64 x.fTime, .string x.fLast, .string x.fVals, .string x.fNext, .string x.fData] := (Rds.int _ (Rds.int _ (Rds.str _ (Rds.str _ (Rds.str _ (Rds.str _ Rds.nil))))))
          have d2 : Rds wr (encHeader x) [.int .i64 x.fHeight, .int .i64 x.fTime, .string x.fLast, .string x.fVals, .string x.fNext, .string x.fData] := (Rds.int _ (Rds.int _ (Rds.str _ (Rds.str _ (Rds.str _ (Rds.str _ Rds.nil))))))
          clear e1 e2
          go_wp2_with fail
          go_region_held3 (fun w' => w'.cell? ⟨b1, o1 + k * 6, none⟩ = some (.int .i64 x.fHeight) ∧ w'.cell? ⟨b1, o1 + k * 6 + 1, none⟩ = some (.int .i64 x.fTime) ∧ w'.cell? ⟨b1, o1 + k * 6 + 2, none⟩ = some (.string x.fLast) ∧ w'.cell? ⟨b1, o1 + k * 6 + 3, none⟩ = some (.string x.fVals) ∧ w'.cell? ⟨b1, o1 + k * 6 + 4, none⟩ = some (.string x.fNext) ∧ w'.cell? ⟨b1, o1 + k * 6 + 5, none⟩ = some (.string x.fData) ∧ w'.cell? ⟨b2, o2 + k * 6, none⟩ = some (.int .i64 x.fHeight) ∧ w'.cell? ⟨b2, o2 + k * 6 + 1, none⟩ = some (.int .i64 x.fTime) ∧ w'.cell? ⟨b2, o2 + k * 6 + 2, none⟩ = some (.string x.fLast) ∧ w'.cell? ⟨b2, o2 + k * 6 + 3, none⟩ = some (.string x.fVals) ∧ w'.cell? ⟨b2, o2 + k * 6 + 4, none⟩ = some (.string x.fNext) ∧ w'.cell? ⟨b2, o2 + k * 6 + 5, none⟩ = some (.string x.fData)) ((first | go_keep | ((try dsimp only); (try go_split_ands); (repeat' apply And.intro) <;> exact hb.cellSome (by assumption))))
            ((go_at_call 20; refine (eqHeader_any x _ (d1.ext (by (repeat (first | (with_reducible exact Ext.refl _) | (with_reducible assumption) | (with_reducible refine Ext.alloc ?_ _) | (with_reducible refine Ext.drew ?_) | (with_reducible refine Ext.drewN ?_ _) | ((with_reducible apply Ext.setCell); (case hp => first | omega | (simp; done) | (simp; omega))) | (with_reducible refine Ext.trans ?_ (by assumption)))))) (d2.ext (by (repeat (first | (with_reducible exact Ext.refl _) | (with_reducible assumption) | (with_reducible refine Ext.alloc ?_ _) | (with_reducible refine Ext.drew ?_) | (with_reducible refine Ext.drewN ?_ _) | ((with_reducible apply Ext.setCell); (case hp => first | omega | (simp; done) | (simp; omega))) | (with_reducible refine Ext.trans ?_ (by assumption))))))).mono ?_; rintro e w1 ⟨rfl, hb⟩))
          go_wp2
          go_roundg (xs.length - (k + 1))
          case measure => rw [HG.out]; omega
          case rel => exact ⟨k + 1, by omega, rfl, by go_num, by (repeat (first | (with_reducible exact Ext.refl _) | (with_reducible assumption) | (with_reducible refine Ext.alloc ?_ _) | (with_reducible refine Ext.drew ?_) | (with_reducible refine Ext.drewN ?_ _) | ((with_reducible apply Ext.setCell); (case hp => first | omega | (simp; done) | (simp; omega))) | (with_reducible refine Ext.trans ?_ (by assumption))))⟩
        · go_wp2
          go_ret
          exact ⟨rfl, by (repeat (first | (with_reducible exact Ext.refl _) | (with_reducible assumption) | (with_reducible refine Ext.alloc ?_ _) | (with_reducible refine Ext.drew ?_) | (with_reducible refine Ext.drewN ?_ _) | ((with_reducible apply Ext.setCell); (case hp => first | omega | (simp; done) | (simp; omega))) | (with_reducible refine Ext.trans ?_ (by assumption))))⟩
end Go.Proofs.YtgcelmnmalfpcaaDoor
