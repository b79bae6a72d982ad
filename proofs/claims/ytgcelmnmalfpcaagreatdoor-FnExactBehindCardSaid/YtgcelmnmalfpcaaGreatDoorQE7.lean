/- What the proof leans on, part 7. -/
import Derived.Test.YtgcelmnmalfpcaaGreatDoorQE6
namespace Go.Proofs.YtgcelmnmalfpcaaGreatDoor
set_option linter.unusedSimpArgs false
set_option linter.unusedVariables false
open Go.RowKit
def encCSig (x : GCSig) : List D := [.int x.fVal, .str x.fSig]
theorem dec_CSig : Dec [.int .i64, .str] encCSig := by
  intro n W vs h
  match vs, h with
  | [_, _], ⟨k0, k1, _⟩ =>
    obtain ⟨a0, rfl, h0⟩ := cell_int k0
    obtain ⟨a1, rfl, h1⟩ := cell_str k1
    exact ⟨⟨a0, a1⟩, (Rds.int _ (Rds.str _ Rds.nil)), (okL_int h0 (okL_str h1 okL_nil))⟩
theorem pv_CSig (x : GCSig) : toPVL (encCSig x) = pCSig x := by
  simp only [encCSig, pCSig, toPVL, toPV]
theorem pvs_CSig (e : TypeId) (xs : List GCSig) : toPV (slD e 2 encCSig xs) = .sl 2 (xs.map pCSig) := by rw [toPV_slD (enc := encCSig) (sz := 2) (fun _ => rfl)]; simp only [pv_CSig]
theorem cnt_CSig (x : GCSig) : cnt (encCSig x) ≤ 64 + 64 * szL (encCSig x) := by
  simp [encCSig, cnt, szL]
  omega
set_option maxRecDepth 100000 in
set_option maxHeartbeats 4000000 in
theorem toCSig_any (x : GCSig) (w : World) :
    Calls Tryz.prog 178 #[.agg #[.int .i64 x.fVal, .string x.fSig]] w fun e w' => e = .returned (.agg #[.int .i64 x.fVal, .string x.fSig]) ∧ Ext w w' := by
  go_enter Tryz.func178, Tryz.ntmps178
  go_wp2
  exact bodyPost_ret (v := .agg #[.int .i64 x.fVal, .string x.fSig]) (by simp [results, Tryz.results178, go_sem]) rfl ⟨rfl, by (repeat (first | (with_reducible exact Ext.refl _) | (with_reducible assumption) | (with_reducible refine Ext.alloc ?_ _) | (with_reducible refine Ext.drew ?_) | (with_reducible refine Ext.drewN ?_ _) | ((with_reducible apply Ext.setCell); (case hp => first | omega | (simp; done) | (simp; omega))) | (with_reducible refine Ext.trans ?_ (by assumption))))⟩
set_option maxRecDepth 100000 in
set_option maxHeartbeats 4000000 in
theorem szCSig_any (x : GCSig) (left : Int) (w : World) (_h : Rds w (encCSig x) [.int .i64 x.fVal, .string x.fSig]) (hok : okL (encCSig x)) (h0 : 0 ≤ left) (h1 : left ≤ 1048576) :
    Calls Tryz.prog 171 #[.agg #[.int .i64 x.fVal, .string x.fSig], .int .i64 left] w fun e w' => e = .returned (.int .i64 (szR left (szL (encCSig x)))) ∧ Ext w w' := by
  have k1 : x.fSig.size ≤ 9223372036854775807 := by have h : okL [.str x.fSig] := okL_cut (ds := encCSig x) 1 1 hok; simp only [okL] at h; exact h.1
  have hT : szL (encCSig x) = x.fSig.size := by simp [encCSig, szL, slD]; try omega
  rw [hT]
  clear hT hok
  by_cases h2 : left < (x.fSig.size : Nat)
  · have R0 := Lib.hid (szR_no h2)
    go_enter Tryz.func171, Tryz.ntmps171
    go_wp2
    go_ret
    exact ⟨ret_int (szR_no (by omega)), by (repeat (first | (with_reducible exact Ext.refl _) | (with_reducible assumption) | (with_reducible refine Ext.alloc ?_ _) | (with_reducible refine Ext.drew ?_) | (with_reducible refine Ext.drewN ?_ _) | ((with_reducible apply Ext.setCell); (case hp => first | omega | (simp; done) | (simp; omega))) | (with_reducible refine Ext.trans ?_ (by assumption))))⟩
  · have R0 := Lib.hid (szR_yes h2)
    go_enter Tryz.func171, Tryz.ntmps171
    go_wp2
    go_ret
    exact ⟨ret_int ((szR_yes (by omega)).trans (by omega)), by (repeat (first | (with_reducible exact Ext.refl _) | (with_reducible assumption) | (with_reducible refine Ext.alloc ?_ _) | (with_reducible refine Ext.drew ?_) | (with_reducible refine Ext.drewN ?_ _) | ((with_reducible apply Ext.setCell); (case hp => first | omega | (simp; done) | (simp; omega))) | (with_reducible refine Ext.trans ?_ (by assumption))))⟩
set_option maxRecDepth 100000 in
set_option maxHeartbeats 4000000 in
theorem eqCSig_any (x : GCSig) (w : World) (_h1 : Rds w (encCSig x) [.int .i64 x.fVal, .string x.fSig]) (_h2 : Rds w (encCSig x) [.int .i64 x.fVal, .string x.fSig]) :
    Calls Tryz.prog 186 #[.agg #[.int .i64 x.fVal, .string x.fSig], .agg #[.int .i64 x.fVal, .string x.fSig]] w fun e w' => e = .returned (.bool true) ∧ Ext w w' := by
  go_enter Tryz.func186, Tryz.ntmps186
  go_wp2
  go_ret
  exact ⟨rfl, by (repeat (first | (with_reducible exact Ext.refl _) | (with_reducible assumption) | (with_reducible refine Ext.alloc ?_ _) | (with_reducible refine Ext.drew ?_) | (with_reducible refine Ext.drewN ?_ _) | ((with_reducible apply Ext.setCell); (case hp => first | omega | (simp; done) | (simp; omega))) | (with_reducible refine Ext.trans ?_ (by assumption))))⟩
theorem infoCSigS : (Tryz.prog.info? 197).map (fun i => (i.zero, i.size, i.bytes)) = some (some (.agg #[.int .i64 0, .string ByteArray.empty]), 2, 24) := by kernel_rfl
set_option maxRecDepth 100000 in
set_option maxHeartbeats 4000000 in
theorem toCSigS_any (v : Value) (xs : List GCSig) (w : World) (h : RL 197 2 encCSig w v xs) (hz : szL [slD 197 2 encCSig xs] ≤ 1048576) :
    Calls Tryz.prog 148 #[v] w fun e w' => ∃ (p : Option Addr) (q : Nat), e = .returned (.slice p xs.length q) ∧ Obj w' w.heap.size w'.heap.size [slD 197 2 encCSig xs] [.slice p xs.length q] ∧ Ext w w' := by
  obtain ⟨i0, hi, hz0, hz1, hz2⟩ := info_parts infoCSigS
  have hzero : ∀ w, Ows w [.int 0, .str ByteArray.empty] #[.int .i64 0, .string ByteArray.empty].toList [] := fun w => (Ows.int _ (Ows.str _ Ows.nil))
  have HZ := Lib.hid hzero; clear hzero
  have hn : xs.length ≤ 1048576 := by simp only [szL, slD] at hz; omega
  rcases RS.cases h with ⟨hn0, _, o1, c1, rfl⟩ | ⟨b1, o1, c1, rfl, hp, _, hm, hx⟩
  · obtain rfl := List.eq_nil_of_length_eq_zero hn0
    clear h hn0 hz hn
    go_enter Tryz.func148, Tryz.ntmps148
    go_wp2_with (at_make; refine wpList_make_full _ rfl (.tmp 6) (.tmp 6) 66 rfl w.heap.size 197 i0 _ 2 Tryz.underlying66 hi hz0 hz1 .i64 .i64 _ _ 0 rfl rfl rfl rfl (by omega) (by omega) (Nat.le_refl _) ?_; intro w1 hown hgrow)
    have hE := Ext.of_grownBy hgrow
    have hO := Lib.hid (Obj.made (n := 0) HZ.out rfl (by decide) hown)
    clear hgrow hown
    refine wp_loop_rounds 1 ?_
    rw [rounds_succ]
    go_wp2
    go_ret
    exact ⟨_, _, rfl, hO.out, hE⟩
  · have HSZ := Lib.hid hz
    clear h hm hz
    go_enter Tryz.func148, Tryz.ntmps148
    go_wp2_with (at_make; refine wpList_make_full _ rfl (.tmp 6) (.tmp 6) 66 rfl w.heap.size 197 i0 _ 2 Tryz.underlying66 hi hz0 hz1 .i64 .i64 _ _ xs.length rfl rfl rfl rfl (by rw [hz2]; omega) (by unfold maxLen; omega) (Nat.le_refl _) ?_; intro w1 hown hgrow)
    have hE := Ext.of_grownBy hgrow
    have hO : Obj w1 w.heap.size w1.heap.size [.sl 197 2 xs.length (fillE encCSig [.int 0, .str ByteArray.empty] xs 0)] [.slice (some ⟨w.heap.size, 0, none⟩) xs.length xs.length] := by rw [fillE_zero]; exact Obj.made HZ.out rfl (by decide) hown
    clear hgrow hown
    go_loopg [4] xs.length (fun g i wr => ∃ k : Nat, k ≤ xs.length ∧ g = xs.length - k ∧ i = .int .i64 k ∧ Ext w wr ∧ Obj wr w.heap.size wr.heap.size [.sl 197 2 xs.length (fillE encCSig [.int 0, .str ByteArray.empty] xs k)] [.slice (some ⟨w.heap.size, 0, none⟩) xs.length xs.length])
    case atStart => exact ⟨0, by omega, by omega, rfl, hE, hO⟩
    case round =>
      clear hE hO
      obtain ⟨k, hk, hg, rfl, hE, hO⟩ := hrel
      have HG := Lib.hid hg; clear hg
      by_cases hlt : k < xs.length
      · obtain ⟨x, hxk⟩ : ∃ x, xs[k]? = some x := ⟨_, List.getElem?_eq_getElem hlt⟩
        have e1 := (RAt.elem (enc := encCSig) (sz := 2) (fun _ => rfl) hx hxk).ext hE
        have HX := Lib.hid hxk
        have HM := Lib.hid (List.mem_of_getElem? hxk)
        clear hxk
        have q0 : wr.cell? ⟨b1, o1 + k * 2, none⟩ = some (.int .i64 x.fVal) := e1.int (j := 0) rfl
        have q1 : wr.cell? ⟨b1, o1 + k * 2 + 1, none⟩ = some (.string x.fSig) := e1.str (j := 1) rfl
        clear e1
        go_wp2_with fail
        (refine (toCSig_any x _).mono ?_); rintro e w2 ⟨rfl, hb⟩
        have hR : Obj w2 w2.heap.size w2.heap.size (encCSig x) [.int .i64 x.fVal, .string x.fSig] := (Obj.int (Obj.str obj_nil))
        have hO2 := hO.ext hb
        have hsz := hb.size
        obtain ⟨F, f1, f2, f3⟩ := hO2
        obtain ⟨v0, x0⟩ := f1.cellAt (o := k * 2 + 0) f2 (by rw [RS.len f1.read]; omega)
        have y0 := f1.frozenAt f2 (k * 2 + 0)
        obtain ⟨v1, x1⟩ := f1.cellAt (o := k * 2 + 1) f2 (by rw [RS.len f1.read]; omega)
        have y1 := f1.frozenAt f2 (k * 2 + 1)
        simp only [Nat.add_zero] at x0 y0
        have hO3 := Lib.hid (Obj.fill (enc := encCSig) (z := [.int 0, .str ByteArray.empty]) (sz := 2) (hi := w2.heap.size) (fun _ => rfl) rfl ⟨F, f1, f2, f3⟩ HX.out hR (by omega) (by omega))
        clear f1 f2 f3 hR
        go_wp2
        go_roundg (xs.length - (k + 1))
        case measure => rw [HG.out]; omega
        case rel => exact ⟨k + 1, by omega, rfl, by go_num, by (repeat (first | (with_reducible exact Ext.refl _) | (with_reducible assumption) | (with_reducible refine Ext.alloc ?_ _) | (with_reducible refine Ext.drew ?_) | (with_reducible refine Ext.drewN ?_ _) | ((with_reducible apply Ext.setCell); (case hp => first | omega | (simp; done) | (simp; omega))) | (with_reducible refine Ext.trans ?_ (by assumption)))), Obj.mono (by have h := hO3.out; (try simp only [Nat.mul_one] at h); exact h) (Nat.le_refl _) (by (first | omega | (simp; done) | (simp; omega)))⟩
      · obtain rfl : k = xs.length := by omega
        rw [fillE_end] at hO
        go_wp2
        go_ret
        exact ⟨_, _, rfl, hO, hE⟩
set_option maxRecDepth 100000 in
set_option maxHeartbeats 4000000 in
theorem szCSigS_any (v : Value) (xs : List GCSig) (left : Int) (w : World) (h : RL 197 2 encCSig w v xs) (hok : okL [slD 197 2 encCSig xs]) (h0 : 0 ≤ left) (h1 : left ≤ 1048576) :
    Calls Tryz.prog 141 #[v, .int .i64 left] w fun e w' => e = .returned (.int .i64 (szR left (szL [slD 197 2 encCSig xs]))) ∧ Ext w w' := by
  have hm := RS.bd h
  replace hm : xs.length ≤ 9223372036854775807 := by unfold maxLen at hm; omega
  have hT : szL [slD 197 2 encCSig xs] = xs.length + szL (xs.flatMap encCSig) := by simp [slD, szL]
  rw [hT]
  clear hT
  have hokE : ∀ x ∈ xs, okL (encCSig x) := fun x hx => by simp only [slD, okL] at hok; exact okL_elem hok.2.1 hx
  have HOK := Lib.hid hokE
  clear hok hokE
  by_cases hl : left < xs.length
  · obtain ⟨o1, c1, rfl⟩ := RS.val h
    have HR := Lib.hid (szR_out (b := szL (xs.flatMap encCSig)) hl)
    clear h
    go_enter Tryz.func141, Tryz.ntmps141
    go_wp2
    go_ret
    exact ⟨ret_int HR.out, by (repeat (first | (with_reducible exact Ext.refl _) | (with_reducible assumption) | (with_reducible refine Ext.alloc ?_ _) | (with_reducible refine Ext.drew ?_) | (with_reducible refine Ext.drewN ?_ _) | ((with_reducible apply Ext.setCell); (case hp => first | omega | (simp; done) | (simp; omega))) | (with_reducible refine Ext.trans ?_ (by assumption))))⟩
  · rcases RS.cases h with ⟨hn0, _, o1, c1, rfl⟩ | ⟨b1, o1, c1, rfl, hp, _, _, hx⟩
    · obtain rfl := List.eq_nil_of_length_eq_zero hn0
      have HR := Lib.hid (szR_zero h0)
      clear h hn0 hl
      go_enter Tryz.func141, Tryz.ntmps141
      go_wp2
      refine wp_loop_rounds 1 ?_
      rw [rounds_succ]
      go_wp2
      go_ret
      exact ⟨ret_int (by simpa [szL] using HR.out), by (repeat (first | (with_reducible exact Ext.refl _) | (with_reducible assumption) | (with_reducible refine Ext.alloc ?_ _) | (with_reducible refine Ext.drew ?_) | (with_reducible refine Ext.drewN ?_ _) | ((with_reducible apply Ext.setCell); (case hp => first | omega | (simp; done) | (simp; omega))) | (with_reducible refine Ext.trans ?_ (by assumption))))⟩
    · clear h hp
      have hl' : (xs.length : Int) ≤ left := by omega
      clear hl
      go_enter Tryz.func141, Tryz.ntmps141
      go_wp2
      go_loopg [1, 5] xs.length (fun g s i wr => ∃ (k : Nat) (t : Int), k ≤ xs.length ∧ g = xs.length - k ∧ i = .int .i64 k ∧ s = .int .i64 t ∧ 0 ≤ t ∧ t ≤ 1048576 ∧ Hid (t = left - xs.length - szL ((xs.take k).flatMap encCSig)) ∧ Ext w wr)
      case atStart => exact ⟨0, left - xs.length, by omega, by omega, rfl, rfl, by omega, by omega, Lib.hid (by simp [szL]), Ext.refl _⟩
      case round =>
        obtain ⟨k, t, hk, hg, rfl, rfl, ht0, ht1, HT, hE⟩ := hrel
        have HG := Lib.hid hg; clear hg
        by_cases hlt : k < xs.length
        · obtain ⟨x, hxk⟩ : ∃ x, xs[k]? = some x := ⟨_, List.getElem?_eq_getElem hlt⟩
          have e1 := (RAt.elem (enc := encCSig) (sz := 2) (fun _ => rfl) hx hxk).ext hE
          have hok := HOK.out x (List.mem_of_getElem? hxk)
          have HS := Lib.hid (szL_next (enc := encCSig) hxk)
          clear hxk
          have q0 : wr.cell? ⟨b1, o1 + k * 2, none⟩ = some (.int .i64 x.fVal) := e1.int (j := 0) rfl
          have q1 : wr.cell? ⟨b1, o1 + k * 2 + 1, none⟩ = some (.string x.fSig) := e1.str (j := 1) rfl
          have d1 : Rds wr (encCSig x) [.int .i64 x.fVal, .string x.fSig] := (Rds.int _ (Rds.str _ Rds.nil))
          clear e1
          have OKX := Lib.hid hok; clear hok
          obtain ⟨a, ha⟩ : ∃ a, a = szL (encCSig x) := ⟨_, rfl⟩
          have HA := Lib.hid ha; clear ha
          by_cases hs : t < a
          · have HR := Lib.hid (szR_no hs)
            go_wp2_with fail
            (refine (szCSig_any x t _ d1 OKX.out ht0 ht1).mono ?_); rw [show szL (encCSig x) = a from HA.out.symm, HR.out]; rintro e w1 ⟨rfl, hb⟩
            go_wp2
            go_ret
            exact ⟨ret_int (by have h1 := HT.out; have h2 : szL ((xs.take (k + 1)).flatMap encCSig) = szL ((xs.take k).flatMap encCSig) + szL (encCSig x) := HS.out; have h3 := HA.out; have h4 := szL_take (enc := encCSig) xs (k + 1); exact szR_no (by omega)), by (repeat (first | (with_reducible exact Ext.refl _) | (with_reducible assumption) | (with_reducible refine Ext.alloc ?_ _) | (with_reducible refine Ext.drew ?_) | (with_reducible refine Ext.drewN ?_ _) | ((with_reducible apply Ext.setCell); (case hp => first | omega | (simp; done) | (simp; omega))) | (with_reducible refine Ext.trans ?_ (by assumption))))⟩
          · have HR := Lib.hid (szR_yes hs)
            go_wp2_with fail
            (refine (szCSig_any x t _ d1 OKX.out ht0 ht1).mono ?_); rw [show szL (encCSig x) = a from HA.out.symm, HR.out]; rintro e w1 ⟨rfl, hb⟩
            go_wp2
            go_roundg (xs.length - (k + 1))
            case measure => rw [HG.out]; omega
            case rel => exact ⟨k + 1, _, by omega, rfl, by go_num, rfl, by omega, by omega, Lib.hid (by have h1 := HT.out; have h2 : szL ((xs.take (k + 1)).flatMap encCSig) = szL ((xs.take k).flatMap encCSig) + szL (encCSig x) := HS.out; have h3 := HA.out; have h4 := szL_take (enc := encCSig) xs (k + 1); omega), by (repeat (first | (with_reducible exact Ext.refl _) | (with_reducible assumption) | (with_reducible refine Ext.alloc ?_ _) | (with_reducible refine Ext.drew ?_) | (with_reducible refine Ext.drewN ?_ _) | ((with_reducible apply Ext.setCell); (case hp => first | omega | (simp; done) | (simp; omega))) | (with_reducible refine Ext.trans ?_ (by assumption))))⟩
        · obtain rfl : k = xs.length := by omega
          go_wp2
          go_ret
          exact ⟨ret_int (by have h1 := HT.out; rw [List.take_length] at h1; rw [szR_yes (by omega)]; omega), by (repeat (first | (with_reducible exact Ext.refl _) | (with_reducible assumption) | (with_reducible refine Ext.alloc ?_ _) | (with_reducible refine Ext.drew ?_) | (with_reducible refine Ext.drewN ?_ _) | ((with_reducible apply Ext.setCell); (case hp => first | omega | (simp; done) | (simp; omega))) | (with_reducible refine Ext.trans ?_ (by assumption))))⟩
set_option maxRecDepth 100000 in
set_option maxHeartbeats 4000000 in
theorem eqCSigS_any (v1 v2 : Value) (xs : List GCSig) (w : World) (h1 : RL 197 2 encCSig w v1 xs) (h2 : RL 197 2 encCSig w v2 xs) :
    Calls Tryz.prog 155 #[v1, v2] w fun e w' => e = .returned (.bool true) ∧ Ext w w' := by
  rcases RS.cases h1 with ⟨hn, _, o1, c1, rfl⟩ | ⟨b1, o1, c1, rfl, hp, _, hm, hx⟩
  · rcases RS.cases h2 with ⟨_, _, o2, c2, rfl⟩ | ⟨b2, o2, c2, rfl, hp, _⟩
    · clear h1 h2 hn
      go_enter Tryz.func155, Tryz.ntmps155
      go_wp2
      refine wp_loop_rounds 1 ?_
      rw [rounds_succ]
      go_wp2
      go_ret
      exact ⟨rfl, by (repeat (first | (with_reducible exact Ext.refl _) | (with_reducible assumption) | (with_reducible refine Ext.alloc ?_ _) | (with_reducible refine Ext.drew ?_) | (with_reducible refine Ext.drewN ?_ _) | ((with_reducible apply Ext.setCell); (case hp => first | omega | (simp; done) | (simp; omega))) | (with_reducible refine Ext.trans ?_ (by assumption))))⟩
    · omega
  · rcases RS.cases h2 with ⟨hn, _⟩ | ⟨b2, o2, c2, rfl, _, _, _, hy⟩
    · omega
    · have hn : xs.length ≤ 9223372036854775807 := by unfold maxLen at hm; omega
      clear h1 h2 hp hm
      go_enter Tryz.func155, Tryz.ntmps155
      go_wp2
      go_loopg [5] xs.length (fun g i wr => ∃ k : Nat, k ≤ xs.length ∧ g = xs.length - k ∧ i = .int .i64 k ∧ Ext w wr)
      case atStart => exact ⟨0, by omega, by omega, rfl, Ext.refl _⟩
      case round =>
        obtain ⟨k, hk, hg, rfl, hE⟩ := hrel
        have HG := Lib.hid hg; clear hg
        by_cases hlt : k < xs.length
        · obtain ⟨x, hxk⟩ : ∃ x, xs[k]? = some x := ⟨_, List.getElem?_eq_getElem hlt⟩
          have e1 := (RAt.elem (enc := encCSig) (sz := 2) (fun _ => rfl) hx hxk).ext hE
          have e2 := (RAt.elem (enc := encCSig) (sz := 2) (fun _ => rfl) hy hxk).ext hE
          clear hxk
          have i0 : (0 : Int) ≤ (k : Int) := by omega
          have i1 : (k : Int) < (xs.length : Int) := by omega
          have q0 : wr.cell? ⟨b1, o1 + k * 2, none⟩ = some (.int .i64 x.fVal) := e1.int (j := 0) rfl
          have q1 : wr.cell? ⟨b1, o1 + k * 2 + 1, none⟩ = some (.string x.fSig) := e1.str (j := 1) rfl
          have m0 : wr.cell? ⟨b2, o2 + k * 2, none⟩ = some (.int .i64 x.fVal) := e2.int (j := 0) rfl
          have m1 : wr.cell? ⟨b2, o2 + k * 2 + 1, none⟩ = some (.string x.fSig) := e2.str (j := 1) rfl
          have d1 : Rds wr (encCSig x) [.int .i64 x.fVal, .string x.fSig] := (Rds.int _ (Rds.str _ Rds.nil))
          have d2 : Rds wr (encCSig x) [.int .i64 x.fVal, .string x.fSig] := (Rds.int _ (Rds.str _ Rds.nil))
          clear e1 e2
          go_wp2_with fail
          go_region_held3 (fun w' => w'.cell? ⟨b1, o1 + k * 2, none⟩ = some (.int .i64 x.fVal) ∧ w'.cell? ⟨b1, o1 + k * 2 + 1, none⟩ = some (.string x.fSig) ∧ w'.cell? ⟨b2, o2 + k * 2, none⟩ = some (.int .i64 x.fVal) ∧ w'.cell? ⟨b2, o2 + k * 2 + 1, none⟩ = some (.string x.fSig)) ((first | go_keep | ((try dsimp only); (try go_split_ands); (repeat' apply And.intro) <;> exact hb.cellSome (by assumption))))
            ((go_at_call 186; refine (eqCSig_any x _ (d1.extA) (d2.extA)).mono ?_; rintro e w1 ⟨rfl, hb⟩))
          go_wp2
          go_roundg (xs.length - (k + 1))
          case measure => rw [HG.out]; omega
          case rel => exact ⟨k + 1, by omega, rfl, by go_num, by (repeat (first | (with_reducible exact Ext.refl _) | (with_reducible assumption) | (with_reducible refine Ext.alloc ?_ _) | (with_reducible refine Ext.drew ?_) | (with_reducible refine Ext.drewN ?_ _) | ((with_reducible apply Ext.setCell); (case hp => first | omega | (simp; done) | (simp; omega))) | (with_reducible refine Ext.trans ?_ (by assumption))))⟩
        · go_wp2
          go_ret
          exact ⟨rfl, by (repeat (first | (with_reducible exact Ext.refl _) | (with_reducible assumption) | (with_reducible refine Ext.alloc ?_ _) | (with_reducible refine Ext.drew ?_) | (with_reducible refine Ext.drewN ?_ _) | ((with_reducible apply Ext.setCell); (case hp => first | omega | (simp; done) | (simp; omega))) | (with_reducible refine Ext.trans ?_ (by assumption))))⟩
end Go.Proofs.YtgcelmnmalfpcaaGreatDoor
namespace Go.Proofs.YtgcelmnmalfpcaaGreatDoor
set_option linter.unusedSimpArgs false
set_option linter.unusedVariables false
open Go.RowKit
def encCommit (x : GCommit) : List D := [.int x.fHeight, .int x.fRound, .str x.fId, slD 197 2 encCSig x.fSigs]
set_option maxRecDepth 100000 in
set_option maxHeartbeats 4000000 in
theorem toCommit_any (x : GCommit) (o1 : Option Addr) (c1 : Nat) (w : World) (h : Rds w (encCommit x) [.int .i64 x.fHeight, .int .i64 x.fRound, .string x.fId, .slice o1 x.fSigs.length c1]) (hz : szL (encCommit x) ≤ 1048576) :
    Calls Tryz.prog 82 #[.agg #[.int .i64 x.fHeight, .int .i64 x.fRound, .string x.fId, .slice o1 x.fSigs.length c1]] w fun e w' => ∃ (p1 : Option Addr) (q1 : Nat), e = .returned (.agg #[.int .i64 x.fHeight, .int .i64 x.fRound, .string x.fId, .slice p1 x.fSigs.length q1]) ∧ Obj w' w.heap.size w'.heap.size (encCommit x) [.int .i64 x.fHeight, .int .i64 x.fRound, .string x.fId, .slice p1 x.fSigs.length q1] ∧ Ext w w' := by
  have r3 : RL 197 2 encCSig w (.slice o1 x.fSigs.length c1) x.fSigs := h.cut 3 1
  have z3 : szL [slD 197 2 encCSig x.fSigs] ≤ 1048576 := Nat.le_trans (szL_cut (encCommit x) 3 1) hz
  have Z3 := Lib.hid z3; clear z3
  clear h hz
  go_enter Tryz.func82, Tryz.ntmps82
  go_wp2_with fail
  (refine (toCSigS_any _ x.fSigs _ (r3.extA) Z3.out).mono ?_); rintro e w1 ⟨p1, q1, rfl, O, hb⟩; (obtain ⟨B0, c0, f0, l0⟩ := Box.afterA (k := w.heap.size) hb); (obtain ⟨B1, c1, f1, l1⟩ := Box.afterA (k := w.heap.size + 1) hb); (obtain ⟨B2, c2, f2, l2⟩ := Box.afterA (k := w.heap.size + 2) hb)
  have hz := hb.size; simp at hz
  have A : Obj w1 (w.heap.size + 3) (w.heap.size + 3) [] [] := obj_nil
  replace A : Obj w1 (w.heap.size + 3) (w.heap.size + 3) [.int x.fHeight] [.int .i64 x.fHeight] := Obj.more A (.int obj_nil : Obj _ (w.heap.size + 3) (w.heap.size + 3) _ _) (Nat.le_refl _) (Nat.le_refl _) (by (first | omega | (simp; done) | (simp; omega)))
  replace A : Obj w1 (w.heap.size + 3) (w.heap.size + 3) [.int x.fHeight, .int x.fRound] [.int .i64 x.fHeight, .int .i64 x.fRound] := Obj.more A (.int obj_nil : Obj _ (w.heap.size + 3) (w.heap.size + 3) _ _) (Nat.le_refl _) (Nat.le_refl _) (by (first | omega | (simp; done) | (simp; omega)))
  replace A : Obj w1 (w.heap.size + 3) (w.heap.size + 3) [.int x.fHeight, .int x.fRound, .str x.fId] [.int .i64 x.fHeight, .int .i64 x.fRound, .string x.fId] := Obj.more A (.str obj_nil : Obj _ (w.heap.size + 3) (w.heap.size + 3) _ _) (Nat.le_refl _) (Nat.le_refl _) (by (first | omega | (simp; done) | (simp; omega)))
  replace A : Obj w1 (w.heap.size + 3) w1.heap.size [.int x.fHeight, .int x.fRound, .str x.fId, slD 197 2 encCSig x.fSigs] [.int .i64 x.fHeight, .int .i64 x.fRound, .string x.fId, .slice p1 x.fSigs.length q1] := Obj.more A O (by (first | omega | (simp; done) | (simp; omega))) (by (first | omega | (simp; done) | (simp; omega))) (by (first | omega | (simp; done) | (simp; omega)))
  have E1 : Ext w w1 := by (repeat (first | (with_reducible exact Ext.refl _) | (with_reducible assumption) | (with_reducible refine Ext.alloc ?_ _) | (with_reducible refine Ext.drew ?_) | (with_reducible refine Ext.drewN ?_ _) | ((with_reducible apply Ext.setCell); (case hp => first | omega | (simp; done) | (simp; omega))) | (with_reducible refine Ext.trans ?_ (by assumption))))
  clear hb O hz
  have AS := A.read
  have HA := Lib.hid A; clear A AS
  go_wp2
  exact bodyPost_ret (v := .agg #[.int .i64 x.fHeight, .int .i64 x.fRound, .string x.fId, .slice p1 x.fSigs.length q1]) (by simp [results, Tryz.results82, go_sem, c1]) rfl ⟨_, _, rfl, Obj.mono (lo := w.heap.size + 3) (hi := w1.heap.size) (show Obj _ _ _ [.int x.fHeight, .int x.fRound, .str x.fId, slD 197 2 encCSig x.fSigs] _ from by have A := HA.out; (repeat (first | (with_reducible assumption) | (with_reducible apply Obj.alloc) | (with_reducible apply Obj.drew) | (with_reducible apply Obj.drewN) | ((with_reducible apply Obj.set); (case hk => first | omega | (simp; done) | (simp; omega) | (left; simp; omega) | (right; simp; omega))) | (with_reducible refine Obj.ext ?_ (by assumption))))) (by (first | omega | (simp; done) | (simp; omega))) (by (first | omega | (simp; done) | (simp; omega))), by (repeat (first | (with_reducible exact Ext.refl _) | (with_reducible assumption) | (with_reducible refine Ext.alloc ?_ _) | (with_reducible refine Ext.drew ?_) | (with_reducible refine Ext.drewN ?_ _) | ((with_reducible apply Ext.setCell); (case hp => first | omega | (simp; done) | (simp; omega))) | (with_reducible refine Ext.trans ?_ (by assumption))))⟩
set_option maxRecDepth 100000 in
set_option maxHeartbeats 4000000 in
theorem szCommit_any (x : GCommit) (o1 : Option Addr) (c1 : Nat) (left : Int) (w : World) (h : Rds w (encCommit x) [.int .i64 x.fHeight, .int .i64 x.fRound, .string x.fId, .slice o1 x.fSigs.length c1]) (hok : okL (encCommit x)) (h0 : 0 ≤ left) (h1 : left ≤ 1048576) :
    Calls Tryz.prog 76 #[.agg #[.int .i64 x.fHeight, .int .i64 x.fRound, .string x.fId, .slice o1 x.fSigs.length c1], .int .i64 left] w fun e w' => e = .returned (.int .i64 (szR left (szL (encCommit x)))) ∧ Ext w w' := by
  have k2 : x.fId.size ≤ 9223372036854775807 := by have h : okL [.str x.fId] := okL_cut (ds := encCommit x) 2 1 hok; simp only [okL] at h; exact h.1
  have r3 : RL 197 2 encCSig w (.slice o1 x.fSigs.length c1) x.fSigs := h.cut 3 1
  have k3 : okL [slD 197 2 encCSig x.fSigs] := okL_cut (ds := encCommit x) 3 1 hok
  have K3 := Lib.hid k3; clear k3
  have hT : szL (encCommit x) = x.fId.size + szL [slD 197 2 encCSig x.fSigs] := by simp [encCommit, szL, slD]; try omega
  rw [hT]
  clear hT hok h
  obtain ⟨a3, ha3⟩ : ∃ a, a = szL [slD 197 2 encCSig x.fSigs] := ⟨_, rfl⟩
  rw [← ha3]
  have HA3 := Lib.hid ha3; clear ha3
  by_cases h2 : left < (x.fId.size : Nat)
  · have R0 := Lib.hid (szR_no h2)
    go_enter Tryz.func76, Tryz.ntmps76
    go_wp2
    go_ret
    exact ⟨ret_int (szR_no (by omega)), by (repeat (first | (with_reducible exact Ext.refl _) | (with_reducible assumption) | (with_reducible refine Ext.alloc ?_ _) | (with_reducible refine Ext.drew ?_) | (with_reducible refine Ext.drewN ?_ _) | ((with_reducible apply Ext.setCell); (case hp => first | omega | (simp; done) | (simp; omega))) | (with_reducible refine Ext.trans ?_ (by assumption))))⟩
  · have R0 := Lib.hid (szR_yes h2)
    by_cases h3 : left - x.fId.size < (a3 : Nat)
    · have R1 := Lib.hid (szR_no h3)
      go_enter Tryz.func76, Tryz.ntmps76
      go_wp2_with fail
      (refine (szCSigS_any _ x.fSigs _ _ (r3.extA) K3.out (by omega) (by omega)).mono ?_); rw [show szL [slD 197 2 encCSig x.fSigs] = a3 from HA3.out.symm, R1.out]; rintro e w1 ⟨rfl, hb⟩; (obtain ⟨B0, c0, f0, l0⟩ := Box.afterA (k := w.heap.size) hb)
      have E1 : Ext w w1 := by (repeat (first | (with_reducible exact Ext.refl _) | (with_reducible assumption) | (with_reducible refine Ext.alloc ?_ _) | (with_reducible refine Ext.drew ?_) | (with_reducible refine Ext.drewN ?_ _) | ((with_reducible apply Ext.setCell); (case hp => first | omega | (simp; done) | (simp; omega))) | (with_reducible refine Ext.trans ?_ (by assumption))))
      clear hb
      go_wp2
      go_ret
      exact ⟨ret_int (szR_no (by omega)), by (repeat (first | (with_reducible exact Ext.refl _) | (with_reducible assumption) | (with_reducible refine Ext.alloc ?_ _) | (with_reducible refine Ext.drew ?_) | (with_reducible refine Ext.drewN ?_ _) | ((with_reducible apply Ext.setCell); (case hp => first | omega | (simp; done) | (simp; omega))) | (with_reducible refine Ext.trans ?_ (by assumption))))⟩
    · have R1 := Lib.hid (szR_yes h3)
      go_enter Tryz.func76, Tryz.ntmps76
      go_wp2_with fail
      (refine (szCSigS_any _ x.fSigs _ _ (r3.extA) K3.out (by omega) (by omega)).mono ?_); rw [show szL [slD 197 2 encCSig x.fSigs] = a3 from HA3.out.symm, R1.out]; rintro e w1 ⟨rfl, hb⟩; (obtain ⟨B0, c0, f0, l0⟩ := Box.afterA (k := w.heap.size) hb)
      have E1 : Ext w w1 := by (repeat (first | (with_reducible exact Ext.refl _) | (with_reducible assumption) | (with_reducible refine Ext.alloc ?_ _) | (with_reducible refine Ext.drew ?_) | (with_reducible refine Ext.drewN ?_ _) | ((with_reducible apply Ext.setCell); (case hp => first | omega | (simp; done) | (simp; omega))) | (with_reducible refine Ext.trans ?_ (by assumption))))
      clear hb
      go_wp2
      go_ret
      exact ⟨ret_int ((szR_yes (by omega)).trans (by omega)), by (repeat (first | (with_reducible exact Ext.refl _) | (with_reducible assumption) | (with_reducible refine Ext.alloc ?_ _) | (with_reducible refine Ext.drew ?_) | (with_reducible refine Ext.drewN ?_ _) | ((with_reducible apply Ext.setCell); (case hp => first | omega | (simp; done) | (simp; omega))) | (with_reducible refine Ext.trans ?_ (by assumption))))⟩
set_option maxRecDepth 100000 in
set_option maxHeartbeats 4000000 in
theorem eqCommit_any (x : GCommit) (o1 : Option Addr) (c1 : Nat) (p1 : Option Addr) (q1 : Nat) (w : World) (h1 : Rds w (encCommit x) [.int .i64 x.fHeight, .int .i64 x.fRound, .string x.fId, .slice o1 x.fSigs.length c1]) (h2 : Rds w (encCommit x) [.int .i64 x.fHeight, .int .i64 x.fRound, .string x.fId, .slice p1 x.fSigs.length q1]) :
    Calls Tryz.prog 89 #[.agg #[.int .i64 x.fHeight, .int .i64 x.fRound, .string x.fId, .slice o1 x.fSigs.length c1], .agg #[.int .i64 x.fHeight, .int .i64 x.fRound, .string x.fId, .slice p1 x.fSigs.length q1]] w fun e w' => e = .returned (.bool true) ∧ Ext w w' := by
  have r3_0 : RL 197 2 encCSig w (.slice o1 x.fSigs.length c1) x.fSigs := h1.cut 3 1
  have r3_1 : RL 197 2 encCSig w (.slice p1 x.fSigs.length q1) x.fSigs := h2.cut 3 1
  clear h1 h2
  go_enter Tryz.func89, Tryz.ntmps89
  go_wp2_with fail
  (refine (eqCSigS_any _ _ x.fSigs _ (r3_0.extA) (r3_1.extA)).mono ?_); rintro e w1 ⟨rfl, hb⟩; (obtain ⟨B0, c0, f0, l0⟩ := Box.afterA (k := w.heap.size) hb); (obtain ⟨B1, c1, f1, l1⟩ := Box.afterA (k := w.heap.size + 1) hb)
  have E1 : Ext w w1 := by (repeat (first | (with_reducible exact Ext.refl _) | (with_reducible assumption) | (with_reducible refine Ext.alloc ?_ _) | (with_reducible refine Ext.drew ?_) | (with_reducible refine Ext.drewN ?_ _) | ((with_reducible apply Ext.setCell); (case hp => first | omega | (simp; done) | (simp; omega))) | (with_reducible refine Ext.trans ?_ (by assumption))))
  clear hb
  go_wp2
  go_ret
  exact ⟨rfl, by (repeat (first | (with_reducible exact Ext.refl _) | (with_reducible assumption) | (with_reducible refine Ext.alloc ?_ _) | (with_reducible refine Ext.drew ?_) | (with_reducible refine Ext.drewN ?_ _) | ((with_reducible apply Ext.setCell); (case hp => first | omega | (simp; done) | (simp; omega))) | (with_reducible refine Ext.trans ?_ (by assumption))))⟩
end Go.Proofs.YtgcelmnmalfpcaaGreatDoor
namespace Go.Proofs.YtgcelmnmalfpcaaGreatDoor
set_option linter.unusedSimpArgs false
set_option linter.unusedVariables false
open Go.RowKit
def encBlock (x : GBlock) : List D := [.int x.fHead.fHeight, .int x.fHead.fTime, .str x.fHead.fLast, .str x.fHead.fVals, .str x.fHead.fNext, .str x.fHead.fData, slD 138 2 encVal x.fVals, slD 138 2 encVal x.fNext, .int x.fCommit.fHeight, .int x.fCommit.fRound, .str x.fCommit.fId, slD 197 2 encCSig x.fCommit.fSigs]
theorem dec_Block : Dec [.int .i64, .int .i64, .str, .str, .str, .str, .sl [.int .i64, .int .i64], .sl [.int .i64, .int .i64], .int .i64, .int .i64, .str, .sl [.int .i64, .str]] encBlock := by
  intro n W vs h
  match vs, h with
  | [_, _, _, _, _, _, _, _, _, _, _, _], ⟨k0, k1, k2, k3, k4, k5, k6, k7, k8, k9, k10, k11, _⟩ =>
    obtain ⟨a0, rfl, h0⟩ := cell_int k0
    obtain ⟨a1, rfl, h1⟩ := cell_int k1
    obtain ⟨a2, rfl, h2⟩ := cell_str k2
    obtain ⟨a3, rfl, h3⟩ := cell_str k3
    obtain ⟨a4, rfl, h4⟩ := cell_str k4
    obtain ⟨a5, rfl, h5⟩ := cell_str k5
    obtain ⟨a6, r6, h6⟩ := dec_sl 138 dec_Val (fun _ => rfl) (by decide) k6
    obtain ⟨a7, r7, h7⟩ := dec_sl 138 dec_Val (fun _ => rfl) (by decide) k7
    obtain ⟨a8, rfl, h8⟩ := cell_int k8
    obtain ⟨a9, rfl, h9⟩ := cell_int k9
    obtain ⟨a10, rfl, h10⟩ := cell_str k10
    obtain ⟨a11, r11, h11⟩ := dec_sl 197 dec_CSig (fun _ => rfl) (by decide) k11
    exact ⟨⟨⟨a0, a1, a2, a3, a4, a5⟩, a6, a7, ⟨a8, a9, a10, a11⟩⟩, (Rds.int _ (Rds.int _ (Rds.str _ (Rds.str _ (Rds.str _ (Rds.str _ (rds_slD.2 ⟨_, _, rfl, r6, (rds_slD.2 ⟨_, _, rfl, r7, (Rds.int _ (Rds.int _ (Rds.str _ (rds_slD.2 ⟨_, _, rfl, r11, Rds.nil⟩))))⟩)⟩))))))), (okL_int h0 (okL_int h1 (okL_str h2 (okL_str h3 (okL_str h4 (okL_str h5 (okL_cons h6 (okL_cons h7 (okL_int h8 (okL_int h9 (okL_str h10 (okL_cons h11 okL_nil))))))))))))⟩
theorem pv_Block (x : GBlock) : toPVL (encBlock x) = pBlock x := by
  simp only [encBlock, pBlock, toPVL, toPV, pvs_CSig, pvs_Val]
theorem cnt_Block (x : GBlock) : cnt (encBlock x) ≤ 64 + 64 * szL (encBlock x) := by
  have h0 := cnt_list cnt_Val x.fVals
  have h1 := cnt_list cnt_Val x.fNext
  have h2 := cnt_list cnt_CSig x.fCommit.fSigs
  simp [encBlock, cnt, szL, slD]
  omega
set_option maxRecDepth 100000 in
set_option maxHeartbeats 4000000 in
theorem toBlock_any (x : GBlock) (o1 o2 o3 : Option Addr) (c1 c2 c3 : Nat) (w : World) (h : Rds w (encBlock x) [.int .i64 x.fHead.fHeight, .int .i64 x.fHead.fTime, .string x.fHead.fLast, .string x.fHead.fVals, .string x.fHead.fNext, .string x.fHead.fData, .slice o1 x.fVals.length c1, .slice o2 x.fNext.length c2, .int .i64 x.fCommit.fHeight, .int .i64 x.fCommit.fRound, .string x.fCommit.fId, .slice o3 x.fCommit.fSigs.length c3]) (hz : szL (encBlock x) ≤ 1048576) :
    Calls Tryz.prog 23 #[.agg #[.int .i64 x.fHead.fHeight, .int .i64 x.fHead.fTime, .string x.fHead.fLast, .string x.fHead.fVals, .string x.fHead.fNext, .string x.fHead.fData, .slice o1 x.fVals.length c1, .slice o2 x.fNext.length c2, .int .i64 x.fCommit.fHeight, .int .i64 x.fCommit.fRound, .string x.fCommit.fId, .slice o3 x.fCommit.fSigs.length c3]] w fun e w' => ∃ (p1 p2 p3 : Option Addr) (q1 q2 q3 : Nat), e = .returned (.agg #[.int .i64 x.fHead.fHeight, .int .i64 x.fHead.fTime, .string x.fHead.fLast, .string x.fHead.fVals, .string x.fHead.fNext, .string x.fHead.fData, .slice p1 x.fVals.length q1, .slice p2 x.fNext.length q2, .int .i64 x.fCommit.fHeight, .int .i64 x.fCommit.fRound, .string x.fCommit.fId, .slice p3 x.fCommit.fSigs.length q3]) ∧ Obj w' w.heap.size w'.heap.size (encBlock x) [.int .i64 x.fHead.fHeight, .int .i64 x.fHead.fTime, .string x.fHead.fLast, .string x.fHead.fVals, .string x.fHead.fNext, .string x.fHead.fData, .slice p1 x.fVals.length q1, .slice p2 x.fNext.length q2, .int .i64 x.fCommit.fHeight, .int .i64 x.fCommit.fRound, .string x.fCommit.fId, .slice p3 x.fCommit.fSigs.length q3] ∧ Ext w w' := by
  have r1 : RL 138 2 encVal w (.slice o1 x.fVals.length c1) x.fVals := h.cut 6 1
  have z1 : szL [slD 138 2 encVal x.fVals] ≤ 1048576 := Nat.le_trans (szL_cut (encBlock x) 6 1) hz
  have Z1 := Lib.hid z1; clear z1
  have r2 : RL 138 2 encVal w (.slice o2 x.fNext.length c2) x.fNext := h.cut 7 1
  have z2 : szL [slD 138 2 encVal x.fNext] ≤ 1048576 := Nat.le_trans (szL_cut (encBlock x) 7 1) hz
  have Z2 := Lib.hid z2; clear z2
  have r3 : Rds w (encCommit x.fCommit) [.int .i64 x.fCommit.fHeight, .int .i64 x.fCommit.fRound, .string x.fCommit.fId, .slice o3 x.fCommit.fSigs.length c3] := h.cut 8 4
  have z3 : szL (encCommit x.fCommit) ≤ 1048576 := Nat.le_trans (szL_cut (encBlock x) 8 4) hz
  have Z3 := Lib.hid z3; clear z3
  clear h hz
  go_enter Tryz.func23, Tryz.ntmps23
  go_wp2_with fail
  (refine (toHeader_any x.fHead _).mono ?_); rintro e w1 ⟨rfl, hb⟩; (obtain ⟨B0, c0, f0, l0⟩ := Box.afterA (k := w.heap.size) hb); (obtain ⟨B1, c1, f1, l1⟩ := Box.afterA (k := w.heap.size + 1) hb); (obtain ⟨B2, c2, f2, l2⟩ := Box.afterA (k := w.heap.size + 2) hb)
  have hz := hb.size; simp at hz
  have A : Obj w1 (w.heap.size + 3) (w.heap.size + 3) [] [] := obj_nil
  have O : Obj w1 w1.heap.size w1.heap.size [.int x.fHead.fHeight, .int x.fHead.fTime, .str x.fHead.fLast, .str x.fHead.fVals, .str x.fHead.fNext, .str x.fHead.fData] [.int .i64 x.fHead.fHeight, .int .i64 x.fHead.fTime, .string x.fHead.fLast, .string x.fHead.fVals, .string x.fHead.fNext, .string x.fHead.fData] := (Obj.int (Obj.int (Obj.str (Obj.str (Obj.str (Obj.str obj_nil))))))
  replace A : Obj w1 (w.heap.size + 3) w1.heap.size [.int x.fHead.fHeight, .int x.fHead.fTime, .str x.fHead.fLast, .str x.fHead.fVals, .str x.fHead.fNext, .str x.fHead.fData] [.int .i64 x.fHead.fHeight, .int .i64 x.fHead.fTime, .string x.fHead.fLast, .string x.fHead.fVals, .string x.fHead.fNext, .string x.fHead.fData] := Obj.more A O (by (first | omega | (simp; done) | (simp; omega))) (by (first | omega | (simp; done) | (simp; omega))) (by (first | omega | (simp; done) | (simp; omega)))
  have E1 : Ext w w1 := by (repeat (first | (with_reducible exact Ext.refl _) | (with_reducible assumption) | (with_reducible refine Ext.alloc ?_ _) | (with_reducible refine Ext.drew ?_) | (with_reducible refine Ext.drewN ?_ _) | ((with_reducible apply Ext.setCell); (case hp => first | omega | (simp; done) | (simp; omega))) | (with_reducible refine Ext.trans ?_ (by assumption))))
  clear hb O hz
  go_wp2_with fail
  (refine (toValS_any _ x.fVals _ (r1.extA) Z1.out).mono ?_); rintro e w2 ⟨p1, q1, rfl, O, hb⟩; (obtain ⟨B0, c0, f0, l0⟩ := Box.afterA (k := w.heap.size) hb); (obtain ⟨B1, c1, f1, l1⟩ := Box.afterA (k := w.heap.size + 1) hb); (obtain ⟨B2, c2, f2, l2⟩ := Box.afterA (k := w.heap.size + 2) hb)
  have hz := hb.size; simp at hz
  replace A : Obj w2 (w.heap.size + 3) w1.heap.size [.int x.fHead.fHeight, .int x.fHead.fTime, .str x.fHead.fLast, .str x.fHead.fVals, .str x.fHead.fNext, .str x.fHead.fData] [.int .i64 x.fHead.fHeight, .int .i64 x.fHead.fTime, .string x.fHead.fLast, .string x.fHead.fVals, .string x.fHead.fNext, .string x.fHead.fData] := by (repeat (first | (with_reducible assumption) | (with_reducible apply Obj.alloc) | (with_reducible apply Obj.drew) | (with_reducible apply Obj.drewN) | ((with_reducible apply Obj.set); (case hk => first | omega | (simp; done) | (simp; omega) | (left; simp; omega) | (right; simp; omega))) | (with_reducible refine Obj.ext ?_ (by assumption))))
  replace A : Obj w2 (w.heap.size + 3) w2.heap.size [.int x.fHead.fHeight, .int x.fHead.fTime, .str x.fHead.fLast, .str x.fHead.fVals, .str x.fHead.fNext, .str x.fHead.fData, slD 138 2 encVal x.fVals] [.int .i64 x.fHead.fHeight, .int .i64 x.fHead.fTime, .string x.fHead.fLast, .string x.fHead.fVals, .string x.fHead.fNext, .string x.fHead.fData, .slice p1 x.fVals.length q1] := Obj.more A O (by (first | omega | (simp; done) | (simp; omega))) (by (first | omega | (simp; done) | (simp; omega))) (by (first | omega | (simp; done) | (simp; omega)))
  have E2 : Ext w w2 := by (repeat (first | (with_reducible exact Ext.refl _) | (with_reducible assumption) | (with_reducible refine Ext.alloc ?_ _) | (with_reducible refine Ext.drew ?_) | (with_reducible refine Ext.drewN ?_ _) | ((with_reducible apply Ext.setCell); (case hp => first | omega | (simp; done) | (simp; omega))) | (with_reducible refine Ext.trans ?_ (by assumption))))
  clear hb O hz E1
  go_wp2_with fail
  (refine (toValS_any _ x.fNext _ (r2.extA) Z2.out).mono ?_); rintro e w3 ⟨p2, q2, rfl, O, hb⟩; (obtain ⟨B0, c0, f0, l0⟩ := Box.afterA (k := w.heap.size) hb); (obtain ⟨B1, c1, f1, l1⟩ := Box.afterA (k := w.heap.size + 1) hb); (obtain ⟨B2, c2, f2, l2⟩ := Box.afterA (k := w.heap.size + 2) hb)
  have hz := hb.size; simp at hz
  replace A : Obj w3 (w.heap.size + 3) w2.heap.size [.int x.fHead.fHeight, .int x.fHead.fTime, .str x.fHead.fLast, .str x.fHead.fVals, .str x.fHead.fNext, .str x.fHead.fData, slD 138 2 encVal x.fVals] [.int .i64 x.fHead.fHeight, .int .i64 x.fHead.fTime, .string x.fHead.fLast, .string x.fHead.fVals, .string x.fHead.fNext, .string x.fHead.fData, .slice p1 x.fVals.length q1] := by (repeat (first | (with_reducible assumption) | (with_reducible apply Obj.alloc) | (with_reducible apply Obj.drew) | (with_reducible apply Obj.drewN) | ((with_reducible apply Obj.set); (case hk => first | omega | (simp; done) | (simp; omega) | (left; simp; omega) | (right; simp; omega))) | (with_reducible refine Obj.ext ?_ (by assumption))))
  replace A : Obj w3 (w.heap.size + 3) w3.heap.size [.int x.fHead.fHeight, .int x.fHead.fTime, .str x.fHead.fLast, .str x.fHead.fVals, .str x.fHead.fNext, .str x.fHead.fData, slD 138 2 encVal x.fVals, slD 138 2 encVal x.fNext] [.int .i64 x.fHead.fHeight, .int .i64 x.fHead.fTime, .string x.fHead.fLast, .string x.fHead.fVals, .string x.fHead.fNext, .string x.fHead.fData, .slice p1 x.fVals.length q1, .slice p2 x.fNext.length q2] := Obj.more A O (by (first | omega | (simp; done) | (simp; omega))) (by (first | omega | (simp; done) | (simp; omega))) (by (first | omega | (simp; done) | (simp; omega)))
  have E3 : Ext w w3 := by (repeat (first | (with_reducible exact Ext.refl _) | (with_reducible assumption) | (with_reducible refine Ext.alloc ?_ _) | (with_reducible refine Ext.drew ?_) | (with_reducible refine Ext.drewN ?_ _) | ((with_reducible apply Ext.setCell); (case hp => first | omega | (simp; done) | (simp; omega))) | (with_reducible refine Ext.trans ?_ (by assumption))))
  clear hb O hz E2
  go_wp2_with fail
  (refine (toCommit_any x.fCommit _ _ _ (r3.extA) Z3.out).mono ?_); rintro e w4 ⟨p3, q3, rfl, O, hb⟩; (obtain ⟨B0, c0, f0, l0⟩ := Box.afterA (k := w.heap.size) hb); (obtain ⟨B1, c1, f1, l1⟩ := Box.afterA (k := w.heap.size + 1) hb); (obtain ⟨B2, c2, f2, l2⟩ := Box.afterA (k := w.heap.size + 2) hb)
  have hz := hb.size; simp at hz
  replace A : Obj w4 (w.heap.size + 3) w3.heap.size [.int x.fHead.fHeight, .int x.fHead.fTime, .str x.fHead.fLast, .str x.fHead.fVals, .str x.fHead.fNext, .str x.fHead.fData, slD 138 2 encVal x.fVals, slD 138 2 encVal x.fNext] [.int .i64 x.fHead.fHeight, .int .i64 x.fHead.fTime, .string x.fHead.fLast, .string x.fHead.fVals, .string x.fHead.fNext, .string x.fHead.fData, .slice p1 x.fVals.length q1, .slice p2 x.fNext.length q2] := by (repeat (first | (with_reducible assumption) | (with_reducible apply Obj.alloc) | (with_reducible apply Obj.drew) | (with_reducible apply Obj.drewN) | ((with_reducible apply Obj.set); (case hk => first | omega | (simp; done) | (simp; omega) | (left; simp; omega) | (right; simp; omega))) | (with_reducible refine Obj.ext ?_ (by assumption))))
  replace A : Obj w4 (w.heap.size + 3) w4.heap.size [.int x.fHead.fHeight, .int x.fHead.fTime, .str x.fHead.fLast, .str x.fHead.fVals, .str x.fHead.fNext, .str x.fHead.fData, slD 138 2 encVal x.fVals, slD 138 2 encVal x.fNext, .int x.fCommit.fHeight, .int x.fCommit.fRound, .str x.fCommit.fId, slD 197 2 encCSig x.fCommit.fSigs] [.int .i64 x.fHead.fHeight, .int .i64 x.fHead.fTime, .string x.fHead.fLast, .string x.fHead.fVals, .string x.fHead.fNext, .string x.fHead.fData, .slice p1 x.fVals.length q1, .slice p2 x.fNext.length q2, .int .i64 x.fCommit.fHeight, .int .i64 x.fCommit.fRound, .string x.fCommit.fId, .slice p3 x.fCommit.fSigs.length q3] := Obj.more A O (by (first | omega | (simp; done) | (simp; omega))) (by (first | omega | (simp; done) | (simp; omega))) (by (first | omega | (simp; done) | (simp; omega)))
  have E4 : Ext w w4 := by (repeat (first | (with_reducible exact Ext.refl _) | (with_reducible assumption) | (with_reducible refine Ext.alloc ?_ _) | (with_reducible refine Ext.drew ?_) | (with_reducible refine Ext.drewN ?_ _) | ((with_reducible apply Ext.setCell); (case hp => first | omega | (simp; done) | (simp; omega))) | (with_reducible refine Ext.trans ?_ (by assumption))))
  clear hb O hz E3
  have AS := A.read
  have HA := Lib.hid A; clear A AS
  go_wp2
  exact bodyPost_ret (v := .agg #[.int .i64 x.fHead.fHeight, .int .i64 x.fHead.fTime, .string x.fHead.fLast, .string x.fHead.fVals, .string x.fHead.fNext, .string x.fHead.fData, .slice p1 x.fVals.length q1, .slice p2 x.fNext.length q2, .int .i64 x.fCommit.fHeight, .int .i64 x.fCommit.fRound, .string x.fCommit.fId, .slice p3 x.fCommit.fSigs.length q3]) (by simp [results, Tryz.results23, go_sem, c1]) rfl ⟨_, _, _, _, _, _, rfl, Obj.mono (lo := w.heap.size + 3) (hi := w4.heap.size) (show Obj _ _ _ [.int x.fHead.fHeight, .int x.fHead.fTime, .str x.fHead.fLast, .str x.fHead.fVals, .str x.fHead.fNext, .str x.fHead.fData, slD 138 2 encVal x.fVals, slD 138 2 encVal x.fNext, .int x.fCommit.fHeight, .int x.fCommit.fRound, .str x.fCommit.fId, slD 197 2 encCSig x.fCommit.fSigs] _ from by have A := HA.out; (repeat (first | (with_reducible assumption) | (with_reducible apply Obj.alloc) | (with_reducible apply Obj.drew) | (with_reducible apply Obj.drewN) | ((with_reducible apply Obj.set); (case hk => first | omega | (simp; done) | (simp; omega) | (left; simp; omega) | (right; simp; omega))) | (with_reducible refine Obj.ext ?_ (by assumption))))) (by (first | omega | (simp; done) | (simp; omega))) (by (first | omega | (simp; done) | (simp; omega))), by (repeat (first | (with_reducible exact Ext.refl _) | (with_reducible assumption) | (with_reducible refine Ext.alloc ?_ _) | (with_reducible refine Ext.drew ?_) | (with_reducible refine Ext.drewN ?_ _) | ((with_reducible apply Ext.setCell); (case hp => first | omega | (simp; done) | (simp; omega))) | (with_reducible refine Ext.trans ?_ (by assumption))))⟩
set_option maxRecDepth 100000 in
set_option maxHeartbeats 4000000 in
theorem szBlock_any (x : GBlock) (o1 o2 o3 : Option Addr) (c1 c2 c3 : Nat) (left : Int) (w : World) (h : Rds w (encBlock x) [.int .i64 x.fHead.fHeight, .int .i64 x.fHead.fTime, .string x.fHead.fLast, .string x.fHead.fVals, .string x.fHead.fNext, .string x.fHead.fData, .slice o1 x.fVals.length c1, .slice o2 x.fNext.length c2, .int .i64 x.fCommit.fHeight, .int .i64 x.fCommit.fRound, .string x.fCommit.fId, .slice o3 x.fCommit.fSigs.length c3]) (hok : okL (encBlock x)) (h0 : 0 ≤ left) (h1 : left ≤ 1048576) :
    Calls Tryz.prog 21 #[.agg #[.int .i64 x.fHead.fHeight, .int .i64 x.fHead.fTime, .string x.fHead.fLast, .string x.fHead.fVals, .string x.fHead.fNext, .string x.fHead.fData, .slice o1 x.fVals.length c1, .slice o2 x.fNext.length c2, .int .i64 x.fCommit.fHeight, .int .i64 x.fCommit.fRound, .string x.fCommit.fId, .slice o3 x.fCommit.fSigs.length c3], .int .i64 left] w fun e w' => e = .returned (.int .i64 (szR left (szL (encBlock x)))) ∧ Ext w w' := by
  have r0 : Rds w (encHeader x.fHead) [.int .i64 x.fHead.fHeight, .int .i64 x.fHead.fTime, .string x.fHead.fLast, .string x.fHead.fVals, .string x.fHead.fNext, .string x.fHead.fData] := h.cut 0 6
  have k0 : okL (encHeader x.fHead) := okL_cut (ds := encBlock x) 0 6 hok
  have K0 := Lib.hid k0; clear k0
  have r1 : RL 138 2 encVal w (.slice o1 x.fVals.length c1) x.fVals := h.cut 6 1
  have k1 : okL [slD 138 2 encVal x.fVals] := okL_cut (ds := encBlock x) 6 1 hok
  have K1 := Lib.hid k1; clear k1
  have r2 : RL 138 2 encVal w (.slice o2 x.fNext.length c2) x.fNext := h.cut 7 1
  have k2 : okL [slD 138 2 encVal x.fNext] := okL_cut (ds := encBlock x) 7 1 hok
  have K2 := Lib.hid k2; clear k2
  have r3 : Rds w (encCommit x.fCommit) [.int .i64 x.fCommit.fHeight, .int .i64 x.fCommit.fRound, .string x.fCommit.fId, .slice o3 x.fCommit.fSigs.length c3] := h.cut 8 4
  have k3 : okL (encCommit x.fCommit) := okL_cut (ds := encBlock x) 8 4 hok
  have K3 := Lib.hid k3; clear k3
  have hT : szL (encBlock x) = szL (encHeader x.fHead) + szL [slD 138 2 encVal x.fVals] + szL [slD 138 2 encVal x.fNext] + szL (encCommit x.fCommit) := by simp [encBlock, encHeader, encCommit, szL, slD]; try omega
  rw [hT]
  clear hT hok h
  obtain ⟨a0, ha0⟩ : ∃ a, a = szL (encHeader x.fHead) := ⟨_, rfl⟩
  rw [← ha0]
  have HA0 := Lib.hid ha0; clear ha0
  obtain ⟨a1, ha1⟩ : ∃ a, a = szL [slD 138 2 encVal x.fVals] := ⟨_, rfl⟩
  rw [← ha1]
  have HA1 := Lib.hid ha1; clear ha1
  obtain ⟨a2, ha2⟩ : ∃ a, a = szL [slD 138 2 encVal x.fNext] := ⟨_, rfl⟩
  rw [← ha2]
  have HA2 := Lib.hid ha2; clear ha2
  obtain ⟨a3, ha3⟩ : ∃ a, a = szL (encCommit x.fCommit) := ⟨_, rfl⟩
  rw [← ha3]
  have HA3 := Lib.hid ha3; clear ha3
  by_cases h2 : left < (a0 : Nat)
  · have R0 := Lib.hid (szR_no h2)
    go_enter Tryz.func21, Tryz.ntmps21
    go_wp2_with fail
    (refine (szHeader_any x.fHead _ _ (r0.extA) K0.out (by omega) (by omega)).mono ?_); rw [show szL (encHeader x.fHead) = a0 from HA0.out.symm, R0.out]; rintro e w0 ⟨rfl, hb⟩; (obtain ⟨B0, c0, f0, l0⟩ := Box.afterA (k := w.heap.size) hb)
    have E0 : Ext w w0 := by (repeat (first | (with_reducible exact Ext.refl _) | (with_reducible assumption) | (with_reducible refine Ext.alloc ?_ _) | (with_reducible refine Ext.drew ?_) | (with_reducible refine Ext.drewN ?_ _) | ((with_reducible apply Ext.setCell); (case hp => first | omega | (simp; done) | (simp; omega))) | (with_reducible refine Ext.trans ?_ (by assumption))))
    clear hb
    go_wp2
    go_ret
    exact ⟨ret_int (szR_no (by omega)), by (repeat (first | (with_reducible exact Ext.refl _) | (with_reducible assumption) | (with_reducible refine Ext.alloc ?_ _) | (with_reducible refine Ext.drew ?_) | (with_reducible refine Ext.drewN ?_ _) | ((with_reducible apply Ext.setCell); (case hp => first | omega | (simp; done) | (simp; omega))) | (with_reducible refine Ext.trans ?_ (by assumption))))⟩
  · have R0 := Lib.hid (szR_yes h2)
    by_cases h3 : left - a0 < (a1 : Nat)
    · have R1 := Lib.hid (szR_no h3)
      go_enter Tryz.func21, Tryz.ntmps21
      go_wp2_with fail
      (refine (szHeader_any x.fHead _ _ (r0.extA) K0.out (by omega) (by omega)).mono ?_); rw [show szL (encHeader x.fHead) = a0 from HA0.out.symm, R0.out]; rintro e w0 ⟨rfl, hb⟩; (obtain ⟨B0, c0, f0, l0⟩ := Box.afterA (k := w.heap.size) hb)
      have E0 : Ext w w0 := by (repeat (first | (with_reducible exact Ext.refl _) | (with_reducible assumption) | (with_reducible refine Ext.alloc ?_ _) | (with_reducible refine Ext.drew ?_) | (with_reducible refine Ext.drewN ?_ _) | ((with_reducible apply Ext.setCell); (case hp => first | omega | (simp; done) | (simp; omega))) | (with_reducible refine Ext.trans ?_ (by assumption))))
      clear hb
      go_wp2_with fail
      (refine (szValS_any _ x.fVals _ _ (r1.extA) K1.out (by omega) (by omega)).mono ?_); rw [show szL [slD 138 2 encVal x.fVals] = a1 from HA1.out.symm, R1.out]; rintro e w1 ⟨rfl, hb⟩; (obtain ⟨B0, c0, f0, l0⟩ := Box.afterA (k := w.heap.size) hb)
      have E1 : Ext w w1 := by (repeat (first | (with_reducible exact Ext.refl _) | (with_reducible assumption) | (with_reducible refine Ext.alloc ?_ _) | (with_reducible refine Ext.drew ?_) | (with_reducible refine Ext.drewN ?_ _) | ((with_reducible apply Ext.setCell); (case hp => first | omega | (simp; done) | (simp; omega))) | (with_reducible refine Ext.trans ?_ (by assumption))))
      clear hb
      go_wp2
      go_ret
      exact ⟨ret_int (szR_no (by omega)), by (repeat (first | (with_reducible exact Ext.refl _) | (with_reducible assumption) | (with_reducible refine Ext.alloc ?_ _) | (with_reducible refine Ext.drew ?_) | (with_reducible refine Ext.drewN ?_ _) | ((with_reducible apply Ext.setCell); (case hp => first | omega | (simp; done) | (simp; omega))) | (with_reducible refine Ext.trans ?_ (by assumption))))⟩
    · have R1 := Lib.hid (szR_yes h3)
      by_cases h4 : left - a0 - a1 < (a2 : Nat)
      · have R2 := Lib.hid (szR_no h4)
        go_enter Tryz.func21, Tryz.ntmps21
        go_wp2_with fail
        (refine (szHeader_any x.fHead _ _ (r0.extA) K0.out (by omega) (by omega)).mono ?_); rw [show szL (encHeader x.fHead) = a0 from HA0.out.symm, R0.out]; rintro e w0 ⟨rfl, hb⟩; (obtain ⟨B0, c0, f0, l0⟩ := Box.afterA (k := w.heap.size) hb)
        have E0 : Ext w w0 := by (repeat (first | (with_reducible exact Ext.refl _) | (with_reducible assumption) | (with_reducible refine Ext.alloc ?_ _) | (with_reducible refine Ext.drew ?_) | (with_reducible refine Ext.drewN ?_ _) | ((with_reducible apply Ext.setCell); (case hp => first | omega | (simp; done) | (simp; omega))) | (with_reducible refine Ext.trans ?_ (by assumption))))
        clear hb
        go_wp2_with fail
        (refine (szValS_any _ x.fVals _ _ (r1.extA) K1.out (by omega) (by omega)).mono ?_); rw [show szL [slD 138 2 encVal x.fVals] = a1 from HA1.out.symm, R1.out]; rintro e w1 ⟨rfl, hb⟩; (obtain ⟨B0, c0, f0, l0⟩ := Box.afterA (k := w.heap.size) hb)
        have E1 : Ext w w1 := by (repeat (first | (with_reducible exact Ext.refl _) | (with_reducible assumption) | (with_reducible refine Ext.alloc ?_ _) | (with_reducible refine Ext.drew ?_) | (with_reducible refine Ext.drewN ?_ _) | ((with_reducible apply Ext.setCell); (case hp => first | omega | (simp; done) | (simp; omega))) | (with_reducible refine Ext.trans ?_ (by assumption))))
        clear hb
        go_wp2_with fail
        (refine (szValS_any _ x.fNext _ _ (r2.extA) K2.out (by omega) (by omega)).mono ?_); rw [show szL [slD 138 2 encVal x.fNext] = a2 from HA2.out.symm, R2.out]; rintro e w2 ⟨rfl, hb⟩; (obtain ⟨B0, c0, f0, l0⟩ := Box.afterA (k := w.heap.size) hb)
        have E2 : Ext w w2 := by (repeat (first | (with_reducible exact Ext.refl _) | (with_reducible assumption) | (with_reducible refine Ext.alloc ?_ _) | (with_reducible refine Ext.drew ?_) | (with_reducible refine Ext.drewN ?_ _) | ((with_reducible apply Ext.setCell); (case hp => first | omega | (simp; done) | (simp; omega))) | (with_reducible refine Ext.trans ?_ (by assumption))))
        clear hb
        go_wp2
        go_ret
        exact ⟨ret_int (szR_no (by omega)), by (repeat (first | (with_reducible exact Ext.refl _) | (with_reducible assumption) | (with_reducible refine Ext.alloc ?_ _) | (with_reducible refine Ext.drew ?_) | (with_reducible refine Ext.drewN ?_ _) | ((with_reducible apply Ext.setCell); (case hp => first | omega | (simp; done) | (simp; omega))) | (with_reducible refine Ext.trans ?_ (by assumption))))⟩
      · have R2 := Lib.hid (szR_yes h4)
        by_cases h5 : left - a0 - a1 - a2 < (a3 : Nat)
        · have R3 := Lib.hid (szR_no h5)
          go_enter Tryz.func21, Tryz.ntmps21
          go_wp2_with fail
          (refine (szHeader_any x.fHead _ _ (r0.extA) K0.out (by omega) (by omega)).mono ?_); rw [show szL (encHeader x.fHead) = a0 from HA0.out.symm, R0.out]; rintro e w0 ⟨rfl, hb⟩; (obtain ⟨B0, c0, f0, l0⟩ := Box.afterA (k := w.heap.size) hb)
          have E0 : Ext w w0 := by (repeat (first | (with_reducible exact Ext.refl _) | (with_reducible assumption) | (with_reducible refine Ext.alloc ?_ _) | (with_reducible refine Ext.drew ?_) | (with_reducible refine Ext.drewN ?_ _) | ((with_reducible apply Ext.setCell); (case hp => first | omega | (simp; done) | (simp; omega))) | (with_reducible refine Ext.trans ?_ (by assumption))))
          clear hb
          go_wp2_with fail
          (refine (szValS_any _ x.fVals _ _ (r1.extA) K1.out (by omega) (by omega)).mono ?_); rw [show szL [slD 138 2 encVal x.fVals] = a1 from HA1.out.symm, R1.out]; rintro e w1 ⟨rfl, hb⟩; (obtain ⟨B0, c0, f0, l0⟩ := Box.afterA (k := w.heap.size) hb)
          have E1 : Ext w w1 := by (repeat (first | (with_reducible exact Ext.refl _) | (with_reducible assumption) | (with_reducible refine Ext.alloc ?_ _) | (with_reducible refine Ext.drew ?_) | (with_reducible refine Ext.drewN ?_ _) | ((with_reducible apply Ext.setCell); (case hp => first | omega | (simp; done) | (simp; omega))) | (with_reducible refine Ext.trans ?_ (by assumption))))
          clear hb
          go_wp2_with fail
          (refine (szValS_any _ x.fNext _ _ (r2.extA) K2.out (by omega) (by omega)).mono ?_); rw [show szL [slD 138 2 encVal x.fNext] = a2 from HA2.out.symm, R2.out]; rintro e w2 ⟨rfl, hb⟩; (obtain ⟨B0, c0, f0, l0⟩ := Box.afterA (k := w.heap.size) hb)
          have E2 : Ext w w2 := by (repeat (first | (with_reducible exact Ext.refl _) | (with_reducible assumption) | (with_reducible refine Ext.alloc ?_ _) | (with_reducible refine Ext.drew ?_) | (with_reducible refine Ext.drewN ?_ _) | ((with_reducible apply Ext.setCell); (case hp => first | omega | (simp; done) | (simp; omega))) | (with_reducible refine Ext.trans ?_ (by assumption))))
          clear hb
          go_wp2_with fail
          (refine (szCommit_any x.fCommit _ _ _ _ (r3.extA) K3.out (by omega) (by omega)).mono ?_); rw [show szL (encCommit x.fCommit) = a3 from HA3.out.symm, R3.out]; rintro e w3 ⟨rfl, hb⟩; (obtain ⟨B0, c0, f0, l0⟩ := Box.afterA (k := w.heap.size) hb)
          have E3 : Ext w w3 := by (repeat (first | (with_reducible exact Ext.refl _) | (with_reducible assumption) | (with_reducible refine Ext.alloc ?_ _) | (with_reducible refine Ext.drew ?_) | (with_reducible refine Ext.drewN ?_ _) | ((with_reducible apply Ext.setCell); (case hp => first | omega | (simp; done) | (simp; omega))) | (with_reducible refine Ext.trans ?_ (by assumption))))
          clear hb
          go_wp2
          go_ret
          exact ⟨ret_int (szR_no (by omega)), by (repeat (first | (with_reducible exact Ext.refl _) | (with_reducible assumption) | (with_reducible refine Ext.alloc ?_ _) | (with_reducible refine Ext.drew ?_) | (with_reducible refine Ext.drewN ?_ _) | ((with_reducible apply Ext.setCell); (case hp => first | omega | (simp; done) | (simp; omega))) | (with_reducible refine Ext.trans ?_ (by assumption))))⟩
        · have R3 := Lib.hid (szR_yes h5)
          go_enter Tryz.func21, Tryz.ntmps21
          go_wp2_with fail
          (refine (szHeader_any x.fHead _ _ (r0.extA) K0.out (by omega) (by omega)).mono ?_); rw [show szL (encHeader x.fHead) = a0 from HA0.out.symm, R0.out]; rintro e w0 ⟨rfl, hb⟩; (obtain ⟨B0, c0, f0, l0⟩ := Box.afterA (k := w.heap.size) hb)
          have E0 : Ext w w0 := by (repeat (first | (with_reducible exact Ext.refl _) | (with_reducible assumption) | (with_reducible refine Ext.alloc ?_ _) | (with_reducible refine Ext.drew ?_) | (with_reducible refine Ext.drewN ?_ _) | ((with_reducible apply Ext.setCell); (case hp => first | omega | (simp; done) | (simp; omega))) | (with_reducible refine Ext.trans ?_ (by assumption))))
          clear hb
          go_wp2_with fail
          (refine (szValS_any _ x.fVals _ _ (r1.extA) K1.out (by omega) (by omega)).mono ?_); rw [show szL [slD 138 2 encVal x.fVals] = a1 from HA1.out.symm, R1.out]; rintro e w1 ⟨rfl, hb⟩; (obtain ⟨B0, c0, f0, l0⟩ := Box.afterA (k := w.heap.size) hb)
          have E1 : Ext w w1 := by (repeat (first | (with_reducible exact Ext.refl _) | (with_reducible assumption) | (with_reducible refine Ext.alloc ?_ _) | (with_reducible refine Ext.drew ?_) | (with_reducible refine Ext.drewN ?_ _) | ((with_reducible apply Ext.setCell); (case hp => first | omega | (simp; done) | (simp; omega))) | (with_reducible refine Ext.trans ?_ (by assumption))))
          clear hb
          go_wp2_with fail
          (refine (szValS_any _ x.fNext _ _ (r2.extA) K2.out (by omega) (by omega)).mono ?_); rw [show szL [slD 138 2 encVal x.fNext] = a2 from HA2.out.symm, R2.out]; rintro e w2 ⟨rfl, hb⟩; (obtain ⟨B0, c0, f0, l0⟩ := Box.afterA (k := w.heap.size) hb)
          have E2 : Ext w w2 := by (repeat (first | (with_reducible exact Ext.refl _) | (with_reducible assumption) | (with_reducible refine Ext.alloc ?_ _) | (with_reducible refine Ext.drew ?_) | (with_reducible refine Ext.drewN ?_ _) | ((with_reducible apply Ext.setCell); (case hp => first | omega | (simp; done) | (simp; omega))) | (with_reducible refine Ext.trans ?_ (by assumption))))
          clear hb
          go_wp2_with fail
          (refine (szCommit_any x.fCommit _ _ _ _ (r3.extA) K3.out (by omega) (by omega)).mono ?_); rw [show szL (encCommit x.fCommit) = a3 from HA3.out.symm, R3.out]; rintro e w3 ⟨rfl, hb⟩; (obtain ⟨B0, c0, f0, l0⟩ := Box.afterA (k := w.heap.size) hb)
          have E3 : Ext w w3 := by (repeat (first | (with_reducible exact Ext.refl _) | (with_reducible assumption) | (with_reducible refine Ext.alloc ?_ _) | (with_reducible refine Ext.drew ?_) | (with_reducible refine Ext.drewN ?_ _) | ((with_reducible apply Ext.setCell); (case hp => first | omega | (simp; done) | (simp; omega))) | (with_reducible refine Ext.trans ?_ (by assumption))))
          clear hb
          go_wp2
          go_ret
          exact ⟨ret_int ((szR_yes (by omega)).trans (by omega)), by (repeat (first | (with_reducible exact Ext.refl _) | (with_reducible assumption) | (with_reducible refine Ext.alloc ?_ _) | (with_reducible refine Ext.drew ?_) | (with_reducible refine Ext.drewN ?_ _) | ((with_reducible apply Ext.setCell); (case hp => first | omega | (simp; done) | (simp; omega))) | (with_reducible refine Ext.trans ?_ (by assumption))))⟩
set_option maxRecDepth 100000 in
set_option maxHeartbeats 4000000 in
theorem eqBlock_any (x : GBlock) (o1 o2 o3 : Option Addr) (c1 c2 c3 : Nat) (p1 p2 p3 : Option Addr) (q1 q2 q3 : Nat) (w : World) (h1 : Rds w (encBlock x) [.int .i64 x.fHead.fHeight, .int .i64 x.fHead.fTime, .string x.fHead.fLast, .string x.fHead.fVals, .string x.fHead.fNext, .string x.fHead.fData, .slice o1 x.fVals.length c1, .slice o2 x.fNext.length c2, .int .i64 x.fCommit.fHeight, .int .i64 x.fCommit.fRound, .string x.fCommit.fId, .slice o3 x.fCommit.fSigs.length c3]) (h2 : Rds w (encBlock x) [.int .i64 x.fHead.fHeight, .int .i64 x.fHead.fTime, .string x.fHead.fLast, .string x.fHead.fVals, .string x.fHead.fNext, .string x.fHead.fData, .slice p1 x.fVals.length q1, .slice p2 x.fNext.length q2, .int .i64 x.fCommit.fHeight, .int .i64 x.fCommit.fRound, .string x.fCommit.fId, .slice p3 x.fCommit.fSigs.length q3]) :
    Calls Tryz.prog 25 #[.agg #[.int .i64 x.fHead.fHeight, .int .i64 x.fHead.fTime, .string x.fHead.fLast, .string x.fHead.fVals, .string x.fHead.fNext, .string x.fHead.fData, .slice o1 x.fVals.length c1, .slice o2 x.fNext.length c2, .int .i64 x.fCommit.fHeight, .int .i64 x.fCommit.fRound, .string x.fCommit.fId, .slice o3 x.fCommit.fSigs.length c3], .agg #[.int .i64 x.fHead.fHeight, .int .i64 x.fHead.fTime, .string x.fHead.fLast, .string x.fHead.fVals, .string x.fHead.fNext, .string x.fHead.fData, .slice p1 x.fVals.length q1, .slice p2 x.fNext.length q2, .int .i64 x.fCommit.fHeight, .int .i64 x.fCommit.fRound, .string x.fCommit.fId, .slice p3 x.fCommit.fSigs.length q3]] w fun e w' => e = .returned (.bool true) ∧ Ext w w' := by
  have r0_0 : Rds w (encHeader x.fHead) [.int .i64 x.fHead.fHeight, .int .i64 x.fHead.fTime, .string x.fHead.fLast, .string x.fHead.fVals, .string x.fHead.fNext, .string x.fHead.fData] := h1.cut 0 6
  have r0_1 : Rds w (encHeader x.fHead) [.int .i64 x.fHead.fHeight, .int .i64 x.fHead.fTime, .string x.fHead.fLast, .string x.fHead.fVals, .string x.fHead.fNext, .string x.fHead.fData] := h2.cut 0 6
  have r1_0 : RL 138 2 encVal w (.slice o1 x.fVals.length c1) x.fVals := h1.cut 6 1
  have r1_1 : RL 138 2 encVal w (.slice p1 x.fVals.length q1) x.fVals := h2.cut 6 1
  have r2_0 : RL 138 2 encVal w (.slice o2 x.fNext.length c2) x.fNext := h1.cut 7 1
  have r2_1 : RL 138 2 encVal w (.slice p2 x.fNext.length q2) x.fNext := h2.cut 7 1
  have r3_0 : Rds w (encCommit x.fCommit) [.int .i64 x.fCommit.fHeight, .int .i64 x.fCommit.fRound, .string x.fCommit.fId, .slice o3 x.fCommit.fSigs.length c3] := h1.cut 8 4
  have r3_1 : Rds w (encCommit x.fCommit) [.int .i64 x.fCommit.fHeight, .int .i64 x.fCommit.fRound, .string x.fCommit.fId, .slice p3 x.fCommit.fSigs.length q3] := h2.cut 8 4
  clear h1 h2
  go_enter Tryz.func25, Tryz.ntmps25
  go_wp2_with fail
  (refine (eqHeader_any x.fHead _ (r0_0.extA) (r0_1.extA)).mono ?_); rintro e w1 ⟨rfl, hb⟩; (obtain ⟨B0, c0, f0, l0⟩ := Box.afterA (k := w.heap.size) hb); (obtain ⟨B1, c1, f1, l1⟩ := Box.afterA (k := w.heap.size + 1) hb)
  have E1 : Ext w w1 := by (repeat (first | (with_reducible exact Ext.refl _) | (with_reducible assumption) | (with_reducible refine Ext.alloc ?_ _) | (with_reducible refine Ext.drew ?_) | (with_reducible refine Ext.drewN ?_ _) | ((with_reducible apply Ext.setCell); (case hp => first | omega | (simp; done) | (simp; omega))) | (with_reducible refine Ext.trans ?_ (by assumption))))
  clear hb
  go_wp2_with fail
  (refine (eqValS_any _ _ x.fVals _ (r1_0.extA) (r1_1.extA)).mono ?_); rintro e w2 ⟨rfl, hb⟩; (obtain ⟨B0, c0, f0, l0⟩ := Box.afterA (k := w.heap.size) hb); (obtain ⟨B1, c1, f1, l1⟩ := Box.afterA (k := w.heap.size + 1) hb)
  have E2 : Ext w w2 := by (repeat (first | (with_reducible exact Ext.refl _) | (with_reducible assumption) | (with_reducible refine Ext.alloc ?_ _) | (with_reducible refine Ext.drew ?_) | (with_reducible refine Ext.drewN ?_ _) | ((with_reducible apply Ext.setCell); (case hp => first | omega | (simp; done) | (simp; omega))) | (with_reducible refine Ext.trans ?_ (by assumption))))
  clear hb E1
  go_wp2_with fail
  (refine (eqValS_any _ _ x.fNext _ (r2_0.extA) (r2_1.extA)).mono ?_); rintro e w3 ⟨rfl, hb⟩; (obtain ⟨B0, c0, f0, l0⟩ := Box.afterA (k := w.heap.size) hb); (obtain ⟨B1, c1, f1, l1⟩ := Box.afterA (k := w.heap.size + 1) hb)
  have E3 : Ext w w3 := by (repeat (first | (with_reducible exact Ext.refl _) | (with_reducible assumption) | (with_reducible refine Ext.alloc ?_ _) | (with_reducible refine Ext.drew ?_) | (with_reducible refine Ext.drewN ?_ _) | ((with_reducible apply Ext.setCell); (case hp => first | omega | (simp; done) | (simp; omega))) | (with_reducible refine Ext.trans ?_ (by assumption))))
  clear hb E2
  go_wp2_with fail
  (refine (eqCommit_any x.fCommit _ _ _ _ _ (r3_0.extA) (r3_1.extA)).mono ?_); rintro e w4 ⟨rfl, hb⟩; (obtain ⟨B0, c0, f0, l0⟩ := Box.afterA (k := w.heap.size) hb); (obtain ⟨B1, c1, f1, l1⟩ := Box.afterA (k := w.heap.size + 1) hb)
  have E4 : Ext w w4 := by (repeat (first | (with_reducible exact Ext.refl _) | (with_reducible assumption) | (with_reducible refine Ext.alloc ?_ _) | (with_reducible refine Ext.drew ?_) | (with_reducible refine Ext.drewN ?_ _) | ((with_reducible apply Ext.setCell); (case hp => first | omega | (simp; done) | (simp; omega))) | (with_reducible refine Ext.trans ?_ (by assumption))))
  clear hb E3
  go_wp2
  go_ret
  exact ⟨rfl, by (repeat (first | (with_reducible exact Ext.refl _) | (with_reducible assumption) | (with_reducible refine Ext.alloc ?_ _) | (with_reducible refine Ext.drew ?_) | (with_reducible refine Ext.drewN ?_ _) | ((with_reducible apply Ext.setCell); (case hp => first | omega | (simp; done) | (simp; omega))) | (with_reducible refine Ext.trans ?_ (by assumption))))⟩
theorem infoBlockS : (Tryz.prog.info? 70).map (fun i => (i.zero, i.size, i.bytes)) = some (some (.agg #[.int .i64 0, .int .i64 0, .string ByteArray.empty, .string ByteArray.empty, .string ByteArray.empty, .string ByteArray.empty, .slice none 0 0, .slice none 0 0, .int .i64 0, .int .i64 0, .string ByteArray.empty, .slice none 0 0]), 12, 184) := by kernel_rfl
set_option maxRecDepth 100000 in
set_option maxHeartbeats 4000000 in
theorem toBlockS_any (v : Value) (xs : List GBlock) (w : World) (h : RL 70 12 encBlock w v xs) (hz : szL [slD 70 12 encBlock xs] ≤ 1048576) :
    Calls Tryz.prog 28 #[v] w fun e w' => ∃ (p : Option Addr) (q : Nat), e = .returned (.slice p xs.length q) ∧ Obj w' w.heap.size w'.heap.size [slD 70 12 encBlock xs] [.slice p xs.length q] ∧ Ext w w' := by
  obtain ⟨i0, hi, hz0, hz1, hz2⟩ := info_parts infoBlockS
  have hzero : ∀ w, Ows w [.int 0, .int 0, .str ByteArray.empty, .str ByteArray.empty, .str ByteArray.empty, .str ByteArray.empty, .sl 138 2 0 [], .sl 138 2 0 [], .int 0, .int 0, .str ByteArray.empty, .sl 197 2 0 []] #[.int .i64 0, .int .i64 0, .string ByteArray.empty, .string ByteArray.empty, .string ByteArray.empty, .string ByteArray.empty, .slice none 0 0, .slice none 0 0, .int .i64 0, .int .i64 0, .string ByteArray.empty, .slice none 0 0].toList [] := fun w => (Ows.int _ (Ows.int _ (Ows.str _ (Ows.str _ (Ows.str _ (Ows.str _ (ows_zeroS (ows_zeroS (Ows.int _ (Ows.int _ (Ows.str _ (ows_zeroS Ows.nil))))))))))))
  have HZ := Lib.hid hzero; clear hzero
  have hn : xs.length ≤ 1048576 := by simp only [szL, slD] at hz; omega
  rcases RS.cases h with ⟨hn0, _, o1, c1, rfl⟩ | ⟨b1, o1, c1, rfl, hp, _, hm, hx⟩
  · obtain rfl := List.eq_nil_of_length_eq_zero hn0
    clear h hn0 hz hn
    go_enter Tryz.func28, Tryz.ntmps28
    go_wp2_with (at_make; refine wpList_make_full _ rfl (.tmp 6) (.tmp 6) 77 rfl w.heap.size 70 i0 _ 12 Tryz.underlying77 hi hz0 hz1 .i64 .i64 _ _ 0 rfl rfl rfl rfl (by omega) (by omega) (Nat.le_refl _) ?_; intro w1 hown hgrow)
    have hE := Ext.of_grownBy hgrow
    have hO := Lib.hid (Obj.made (n := 0) HZ.out rfl (by decide) hown)
    clear hgrow hown
    refine wp_loop_rounds 1 ?_
    rw [rounds_succ]
    go_wp2
    go_ret
    exact ⟨_, _, rfl, hO.out, hE⟩
  · have HSZ := Lib.hid hz
    clear h hm hz
    go_enter Tryz.func28, Tryz.ntmps28
    go_wp2_with (at_make; refine wpList_make_full _ rfl (.tmp 6) (.tmp 6) 77 rfl w.heap.size 70 i0 _ 12 Tryz.underlying77 hi hz0 hz1 .i64 .i64 _ _ xs.length rfl rfl rfl rfl (by rw [hz2]; omega) (by unfold maxLen; omega) (Nat.le_refl _) ?_; intro w1 hown hgrow)
    have hE := Ext.of_grownBy hgrow
    have hO : Obj w1 w.heap.size w1.heap.size [.sl 70 12 xs.length (fillE encBlock [.int 0, .int 0, .str ByteArray.empty, .str ByteArray.empty, .str ByteArray.empty, .str ByteArray.empty, .sl 138 2 0 [], .sl 138 2 0 [], .int 0, .int 0, .str ByteArray.empty, .sl 197 2 0 []] xs 0)] [.slice (some ⟨w.heap.size, 0, none⟩) xs.length xs.length] := by rw [fillE_zero]; exact Obj.made HZ.out rfl (by decide) hown
    clear hgrow hown
    go_loopg [4] xs.length (fun g i wr => ∃ k : Nat, k ≤ xs.length ∧ g = xs.length - k ∧ i = .int .i64 k ∧ Ext w wr ∧ Obj wr w.heap.size wr.heap.size [.sl 70 12 xs.length (fillE encBlock [.int 0, .int 0, .str ByteArray.empty, .str ByteArray.empty, .str ByteArray.empty, .str ByteArray.empty, .sl 138 2 0 [], .sl 138 2 0 [], .int 0, .int 0, .str ByteArray.empty, .sl 197 2 0 []] xs k)] [.slice (some ⟨w.heap.size, 0, none⟩) xs.length xs.length])
    case atStart => exact ⟨0, by omega, by omega, rfl, hE, hO⟩
    case round =>
      clear hE hO
      obtain ⟨k, hk, hg, rfl, hE, hO⟩ := hrel
      have HG := Lib.hid hg; clear hg
      by_cases hlt : k < xs.length
      · obtain ⟨x, hxk⟩ : ∃ x, xs[k]? = some x := ⟨_, List.getElem?_eq_getElem hlt⟩
        have e1 := (RAt.elem (enc := encBlock) (sz := 12) (fun _ => rfl) hx hxk).ext hE
        have HX := Lib.hid hxk
        have HM := Lib.hid (List.mem_of_getElem? hxk)
        clear hxk
        have q0 : wr.cell? ⟨b1, o1 + k * 12, none⟩ = some (.int .i64 x.fHead.fHeight) := e1.int (j := 0) rfl
        have q1 : wr.cell? ⟨b1, o1 + k * 12 + 1, none⟩ = some (.int .i64 x.fHead.fTime) := e1.int (j := 1) rfl
        have q2 : wr.cell? ⟨b1, o1 + k * 12 + 2, none⟩ = some (.string x.fHead.fLast) := e1.str (j := 2) rfl
        have q3 : wr.cell? ⟨b1, o1 + k * 12 + 3, none⟩ = some (.string x.fHead.fVals) := e1.str (j := 3) rfl
        have q4 : wr.cell? ⟨b1, o1 + k * 12 + 4, none⟩ = some (.string x.fHead.fNext) := e1.str (j := 4) rfl
        have q5 : wr.cell? ⟨b1, o1 + k * 12 + 5, none⟩ = some (.string x.fHead.fData) := e1.str (j := 5) rfl
        obtain ⟨s1, t1, q6, qr6⟩ := e1.sl (j := 6) rfl
        obtain ⟨s2, t2, q7, qr7⟩ := e1.sl (j := 7) rfl
        have q8 : wr.cell? ⟨b1, o1 + k * 12 + 8, none⟩ = some (.int .i64 x.fCommit.fHeight) := e1.int (j := 8) rfl
        have q9 : wr.cell? ⟨b1, o1 + k * 12 + 9, none⟩ = some (.int .i64 x.fCommit.fRound) := e1.int (j := 9) rfl
        have q10 : wr.cell? ⟨b1, o1 + k * 12 + 10, none⟩ = some (.string x.fCommit.fId) := e1.str (j := 10) rfl
        obtain ⟨s3, t3, q11, qr11⟩ := e1.sl (j := 11) rfl
        have d1 : Rds wr (encBlock x) [.int .i64 x.fHead.fHeight, .int .i64 x.fHead.fTime, .string x.fHead.fLast, .string x.fHead.fVals, .string x.fHead.fNext, .string x.fHead.fData, .slice s1 x.fVals.length t1, .slice s2 x.fNext.length t2, .int .i64 x.fCommit.fHeight, .int .i64 x.fCommit.fRound, .string x.fCommit.fId, .slice s3 x.fCommit.fSigs.length t3] := (Rds.int _ (Rds.int _ (Rds.str _ (Rds.str _ (Rds.str _ (Rds.str _ (rds_slD.2 ⟨_, _, rfl, qr6, (rds_slD.2 ⟨_, _, rfl, qr7, (Rds.int _ (Rds.int _ (Rds.str _ (rds_slD.2 ⟨_, _, rfl, qr11, Rds.nil⟩))))⟩)⟩)))))))
        have d2 : szL (encBlock x) ≤ 1048576 := by have := szL_elem (enc := encBlock) HM.out; have := HSZ.out; simp only [szL, slD] at this; omega
        have D2 := Lib.hid d2
        clear e1 d2 qr6 qr7 qr11
        go_wp2_with fail
        (refine (toBlock_any x _ _ _ _ _ _ _ d1 D2.out).mono ?_); rintro e w2 ⟨p1, p2, p3, q1, q2, q3, rfl, hR, hb⟩
        have hO2 := hO.ext hb
        have hsz := hb.size
        obtain ⟨F, f1, f2, f3⟩ := hO2
        obtain ⟨v0, x0⟩ := f1.cellAt (o := k * 12 + 0) f2 (by rw [RS.len f1.read]; omega)
        have y0 := f1.frozenAt f2 (k * 12 + 0)
        obtain ⟨v1, x1⟩ := f1.cellAt (o := k * 12 + 1) f2 (by rw [RS.len f1.read]; omega)
        have y1 := f1.frozenAt f2 (k * 12 + 1)
        obtain ⟨v2, x2⟩ := f1.cellAt (o := k * 12 + 2) f2 (by rw [RS.len f1.read]; omega)
        have y2 := f1.frozenAt f2 (k * 12 + 2)
        obtain ⟨v3, x3⟩ := f1.cellAt (o := k * 12 + 3) f2 (by rw [RS.len f1.read]; omega)
        have y3 := f1.frozenAt f2 (k * 12 + 3)
        obtain ⟨v4, x4⟩ := f1.cellAt (o := k * 12 + 4) f2 (by rw [RS.len f1.read]; omega)
        have y4 := f1.frozenAt f2 (k * 12 + 4)
        obtain ⟨v5, x5⟩ := f1.cellAt (o := k * 12 + 5) f2 (by rw [RS.len f1.read]; omega)
        have y5 := f1.frozenAt f2 (k * 12 + 5)
        obtain ⟨v6, x6⟩ := f1.cellAt (o := k * 12 + 6) f2 (by rw [RS.len f1.read]; omega)
        have y6 := f1.frozenAt f2 (k * 12 + 6)
        obtain ⟨v7, x7⟩ := f1.cellAt (o := k * 12 + 7) f2 (by rw [RS.len f1.read]; omega)
        have y7 := f1.frozenAt f2 (k * 12 + 7)
        obtain ⟨v8, x8⟩ := f1.cellAt (o := k * 12 + 8) f2 (by rw [RS.len f1.read]; omega)
        have y8 := f1.frozenAt f2 (k * 12 + 8)
        obtain ⟨v9, x9⟩ := f1.cellAt (o := k * 12 + 9) f2 (by rw [RS.len f1.read]; omega)
        have y9 := f1.frozenAt f2 (k * 12 + 9)
        obtain ⟨v10, x10⟩ := f1.cellAt (o := k * 12 + 10) f2 (by rw [RS.len f1.read]; omega)
        have y10 := f1.frozenAt f2 (k * 12 + 10)
        obtain ⟨v11, x11⟩ := f1.cellAt (o := k * 12 + 11) f2 (by rw [RS.len f1.read]; omega)
        have y11 := f1.frozenAt f2 (k * 12 + 11)
        simp only [Nat.add_zero] at x0 y0
        have hO3 := Lib.hid (Obj.fill (enc := encBlock) (z := [.int 0, .int 0, .str ByteArray.empty, .str ByteArray.empty, .str ByteArray.empty, .str ByteArray.empty, .sl 138 2 0 [], .sl 138 2 0 [], .int 0, .int 0, .str ByteArray.empty, .sl 197 2 0 []]) (sz := 12) (hi := w2.heap.size) (fun _ => rfl) rfl ⟨F, f1, f2, f3⟩ HX.out hR (by omega) (by omega))
        clear f1 f2 f3 hR
        go_wp2
        go_roundg (xs.length - (k + 1))
        case measure => rw [HG.out]; omega
        case rel => exact ⟨k + 1, by omega, rfl, by go_num, by (repeat (first | (with_reducible exact Ext.refl _) | (with_reducible assumption) | (with_reducible refine Ext.alloc ?_ _) | (with_reducible refine Ext.drew ?_) | (with_reducible refine Ext.drewN ?_ _) | ((with_reducible apply Ext.setCell); (case hp => first | omega | (simp; done) | (simp; omega))) | (with_reducible refine Ext.trans ?_ (by assumption)))), Obj.mono (by have h := hO3.out; (try simp only [Nat.mul_one] at h); exact h) (Nat.le_refl _) (by (first | omega | (simp; done) | (simp; omega)))⟩
      · obtain rfl : k = xs.length := by omega
        rw [fillE_end] at hO
        go_wp2
        go_ret
        exact ⟨_, _, rfl, hO, hE⟩
set_option maxRecDepth 100000 in
set_option maxHeartbeats 4000000 in
theorem szBlockS_any (v : Value) (xs : List GBlock) (left : Int) (w : World) (h : RL 70 12 encBlock w v xs) (hok : okL [slD 70 12 encBlock xs]) (h0 : 0 ≤ left) (h1 : left ≤ 1048576) :
    Calls Tryz.prog 26 #[v, .int .i64 left] w fun e w' => e = .returned (.int .i64 (szR left (szL [slD 70 12 encBlock xs]))) ∧ Ext w w' := by
  have hm := RS.bd h
  replace hm : xs.length ≤ 9223372036854775807 := by unfold maxLen at hm; omega
  have hT : szL [slD 70 12 encBlock xs] = xs.length + szL (xs.flatMap encBlock) := by simp [slD, szL]
  rw [hT]
  clear hT
  have hokE : ∀ x ∈ xs, okL (encBlock x) := fun x hx => by simp only [slD, okL] at hok; exact okL_elem hok.2.1 hx
  have HOK := Lib.hid hokE
  clear hok hokE
  by_cases hl : left < xs.length
  · obtain ⟨o1, c1, rfl⟩ := RS.val h
    have HR := Lib.hid (szR_out (b := szL (xs.flatMap encBlock)) hl)
    clear h
    go_enter Tryz.func26, Tryz.ntmps26
    go_wp2
    go_ret
    exact ⟨ret_int HR.out, by (repeat (first | (with_reducible exact Ext.refl _) | (with_reducible assumption) | (with_reducible refine Ext.alloc ?_ _) | (with_reducible refine Ext.drew ?_) | (with_reducible refine Ext.drewN ?_ _) | ((with_reducible apply Ext.setCell); (case hp => first | omega | (simp; done) | (simp; omega))) | (with_reducible refine Ext.trans ?_ (by assumption))))⟩
  · rcases RS.cases h with ⟨hn0, _, o1, c1, rfl⟩ | ⟨b1, o1, c1, rfl, hp, _, _, hx⟩
    · obtain rfl := List.eq_nil_of_length_eq_zero hn0
      have HR := Lib.hid (szR_zero h0)
      clear h hn0 hl
      go_enter Tryz.func26, Tryz.ntmps26
      go_wp2
      refine wp_loop_rounds 1 ?_
      rw [rounds_succ]
      go_wp2
      go_ret
      exact ⟨ret_int (by simpa [szL] using HR.out), by (repeat (first | (with_reducible exact Ext.refl _) | (with_reducible assumption) | (with_reducible refine Ext.alloc ?_ _) | (with_reducible refine Ext.drew ?_) | (with_reducible refine Ext.drewN ?_ _) | ((with_reducible apply Ext.setCell); (case hp => first | omega | (simp; done) | (simp; omega))) | (with_reducible refine Ext.trans ?_ (by assumption))))⟩
    · clear h hp
      have hl' : (xs.length : Int) ≤ left := by omega
      clear hl
      go_enter Tryz.func26, Tryz.ntmps26
      go_wp2
      go_loopg [1, 5] xs.length (fun g s i wr => ∃ (k : Nat) (t : Int), k ≤ xs.length ∧ g = xs.length - k ∧ i = .int .i64 k ∧ s = .int .i64 t ∧ 0 ≤ t ∧ t ≤ 1048576 ∧ Hid (t = left - xs.length - szL ((xs.take k).flatMap encBlock)) ∧ Ext w wr)
      case atStart => exact ⟨0, left - xs.length, by omega, by omega, rfl, rfl, by omega, by omega, Lib.hid (by simp [szL]), Ext.refl _⟩
      case round =>
        obtain ⟨k, t, hk, hg, rfl, rfl, ht0, ht1, HT, hE⟩ := hrel
        have HG := Lib.hid hg; clear hg
        by_cases hlt : k < xs.length
        · obtain ⟨x, hxk⟩ : ∃ x, xs[k]? = some x := ⟨_, List.getElem?_eq_getElem hlt⟩
          have e1 := (RAt.elem (enc := encBlock) (sz := 12) (fun _ => rfl) hx hxk).ext hE
          have hok := HOK.out x (List.mem_of_getElem? hxk)
          have HS := Lib.hid (szL_next (enc := encBlock) hxk)
          clear hxk
          have q0 : wr.cell? ⟨b1, o1 + k * 12, none⟩ = some (.int .i64 x.fHead.fHeight) := e1.int (j := 0) rfl
          have q1 : wr.cell? ⟨b1, o1 + k * 12 + 1, none⟩ = some (.int .i64 x.fHead.fTime) := e1.int (j := 1) rfl
          have q2 : wr.cell? ⟨b1, o1 + k * 12 + 2, none⟩ = some (.string x.fHead.fLast) := e1.str (j := 2) rfl
          have q3 : wr.cell? ⟨b1, o1 + k * 12 + 3, none⟩ = some (.string x.fHead.fVals) := e1.str (j := 3) rfl
          have q4 : wr.cell? ⟨b1, o1 + k * 12 + 4, none⟩ = some (.string x.fHead.fNext) := e1.str (j := 4) rfl
          have q5 : wr.cell? ⟨b1, o1 + k * 12 + 5, none⟩ = some (.string x.fHead.fData) := e1.str (j := 5) rfl
          obtain ⟨s1, t1, q6, qr6⟩ := e1.sl (j := 6) rfl
          obtain ⟨s2, t2, q7, qr7⟩ := e1.sl (j := 7) rfl
          have q8 : wr.cell? ⟨b1, o1 + k * 12 + 8, none⟩ = some (.int .i64 x.fCommit.fHeight) := e1.int (j := 8) rfl
          have q9 : wr.cell? ⟨b1, o1 + k * 12 + 9, none⟩ = some (.int .i64 x.fCommit.fRound) := e1.int (j := 9) rfl
          have q10 : wr.cell? ⟨b1, o1 + k * 12 + 10, none⟩ = some (.string x.fCommit.fId) := e1.str (j := 10) rfl
          obtain ⟨s3, t3, q11, qr11⟩ := e1.sl (j := 11) rfl
          have d1 : Rds wr (encBlock x) [.int .i64 x.fHead.fHeight, .int .i64 x.fHead.fTime, .string x.fHead.fLast, .string x.fHead.fVals, .string x.fHead.fNext, .string x.fHead.fData, .slice s1 x.fVals.length t1, .slice s2 x.fNext.length t2, .int .i64 x.fCommit.fHeight, .int .i64 x.fCommit.fRound, .string x.fCommit.fId, .slice s3 x.fCommit.fSigs.length t3] := (Rds.int _ (Rds.int _ (Rds.str _ (Rds.str _ (Rds.str _ (Rds.str _ (rds_slD.2 ⟨_, _, rfl, qr6, (rds_slD.2 ⟨_, _, rfl, qr7, (Rds.int _ (Rds.int _ (Rds.str _ (rds_slD.2 ⟨_, _, rfl, qr11, Rds.nil⟩))))⟩)⟩)))))))
          clear e1 qr6 qr7 qr11
          have OKX := Lib.hid hok; clear hok
          obtain ⟨a, ha⟩ : ∃ a, a = szL (encBlock x) := ⟨_, rfl⟩
          have HA := Lib.hid ha; clear ha
          by_cases hs : t < a
          · have HR := Lib.hid (szR_no hs)
            go_wp2_with fail
            (refine (szBlock_any x _ _ _ _ _ _ t _ d1 OKX.out ht0 ht1).mono ?_); rw [show szL (encBlock x) = a from HA.out.symm, HR.out]; rintro e w1 ⟨rfl, hb⟩
            go_wp2
            go_ret
            exact ⟨ret_int (by have h1 := HT.out; have h2 : szL ((xs.take (k + 1)).flatMap encBlock) = szL ((xs.take k).flatMap encBlock) + szL (encBlock x) := HS.out; have h3 := HA.out; have h4 := szL_take (enc := encBlock) xs (k + 1); exact szR_no (by omega)), by (repeat (first | (with_reducible exact Ext.refl _) | (with_reducible assumption) | (with_reducible refine Ext.alloc ?_ _) | (with_reducible refine Ext.drew ?_) | (with_reducible refine Ext.drewN ?_ _) | ((with_reducible apply Ext.setCell); (case hp => first | omega | (simp; done) | (simp; omega))) | (with_reducible refine Ext.trans ?_ (by assumption))))⟩
          · have HR := Lib.hid (szR_yes hs)
            go_wp2_with fail
            (refine (szBlock_any x _ _ _ _ _ _ t _ d1 OKX.out ht0 ht1).mono ?_); rw [show szL (encBlock x) = a from HA.out.symm, HR.out]; rintro e w1 ⟨rfl, hb⟩
            go_wp2
            go_roundg (xs.length - (k + 1))
            case measure => rw [HG.out]; omega
            case rel => exact ⟨k + 1, _, by omega, rfl, by go_num, rfl, by omega, by omega, Lib.hid (by have h1 := HT.out; have h2 : szL ((xs.take (k + 1)).flatMap encBlock) = szL ((xs.take k).flatMap encBlock) + szL (encBlock x) := HS.out; have h3 := HA.out; have h4 := szL_take (enc := encBlock) xs (k + 1); omega), by (repeat (first | (with_reducible exact Ext.refl _) | (with_reducible assumption) | (with_reducible refine Ext.alloc ?_ _) | (with_reducible refine Ext.drew ?_) | (with_reducible refine Ext.drewN ?_ _) | ((with_reducible apply Ext.setCell); (case hp => first | omega | (simp; done) | (simp; omega))) | (with_reducible refine Ext.trans ?_ (by assumption))))⟩
        · obtain rfl : k = xs.length := by omega
          go_wp2
          go_ret
          exact ⟨ret_int (by have h1 := HT.out; rw [List.take_length] at h1; rw [szR_yes (by omega)]; omega), by (repeat (first | (with_reducible exact Ext.refl _) | (with_reducible assumption) | (with_reducible refine Ext.alloc ?_ _) | (with_reducible refine Ext.drew ?_) | (with_reducible refine Ext.drewN ?_ _) | ((with_reducible apply Ext.setCell); (case hp => first | omega | (simp; done) | (simp; omega))) | (with_reducible refine Ext.trans ?_ (by assumption))))⟩
set_option maxRecDepth 100000 in
set_option maxHeartbeats 4000000 in
theorem eqBlockS_any (v1 v2 : Value) (xs : List GBlock) (w : World) (h1 : RL 70 12 encBlock w v1 xs) (h2 : RL 70 12 encBlock w v2 xs) :
    Calls Tryz.prog 30 #[v1, v2] w fun e w' => e = .returned (.bool true) ∧ Ext w w' := by
  rcases RS.cases h1 with ⟨hn, _, o1, c1, rfl⟩ | ⟨b1, o1, c1, rfl, hp, _, hm, hx⟩
  · rcases RS.cases h2 with ⟨_, _, o2, c2, rfl⟩ | ⟨b2, o2, c2, rfl, hp, _⟩
    · clear h1 h2 hn
      go_enter Tryz.func30, Tryz.ntmps30
      go_wp2
      refine wp_loop_rounds 1 ?_
      rw [rounds_succ]
      go_wp2
      go_ret
      exact ⟨rfl, by (repeat (first | (with_reducible exact Ext.refl _) | (with_reducible assumption) | (with_reducible refine Ext.alloc ?_ _) | (with_reducible refine Ext.drew ?_) | (with_reducible refine Ext.drewN ?_ _) | ((with_reducible apply Ext.setCell); (case hp => first | omega | (simp; done) | (simp; omega))) | (with_reducible refine Ext.trans ?_ (by assumption))))⟩
    · omega
  · rcases RS.cases h2 with ⟨hn, _⟩ | ⟨b2, o2, c2, rfl, _, _, _, hy⟩
    · omega
    · have hn : xs.length ≤ 9223372036854775807 := by unfold maxLen at hm; omega
      clear h1 h2 hp hm
      go_enter Tryz.func30, Tryz.ntmps30
      go_wp2
      go_loopg [5] xs.length (fun g i wr => ∃ k : Nat, k ≤ xs.length ∧ g = xs.length - k ∧ i = .int .i64 k ∧ Ext w wr)
      case atStart => exact ⟨0, by omega, by omega, rfl, Ext.refl _⟩
      case round =>
        obtain ⟨k, hk, hg, rfl, hE⟩ := hrel
        have HG := Lib.hid hg; clear hg
        by_cases hlt : k < xs.length
        · obtain ⟨x, hxk⟩ : ∃ x, xs[k]? = some x := ⟨_, List.getElem?_eq_getElem hlt⟩
          have e1 := (RAt.elem (enc := encBlock) (sz := 12) (fun _ => rfl) hx hxk).ext hE
          have e2 := (RAt.elem (enc := encBlock) (sz := 12) (fun _ => rfl) hy hxk).ext hE
          clear hxk
          have i0 : (0 : Int) ≤ (k : Int) := by omega
          have i1 : (k : Int) < (xs.length : Int) := by omega
          have q0 : wr.cell? ⟨b1, o1 + k * 12, none⟩ = some (.int .i64 x.fHead.fHeight) := e1.int (j := 0) rfl
          have q1 : wr.cell? ⟨b1, o1 + k * 12 + 1, none⟩ = some (.int .i64 x.fHead.fTime) := e1.int (j := 1) rfl
          have q2 : wr.cell? ⟨b1, o1 + k * 12 + 2, none⟩ = some (.string x.fHead.fLast) := e1.str (j := 2) rfl
          have q3 : wr.cell? ⟨b1, o1 + k * 12 + 3, none⟩ = some (.string x.fHead.fVals) := e1.str (j := 3) rfl
          have q4 : wr.cell? ⟨b1, o1 + k * 12 + 4, none⟩ = some (.string x.fHead.fNext) := e1.str (j := 4) rfl
          have q5 : wr.cell? ⟨b1, o1 + k * 12 + 5, none⟩ = some (.string x.fHead.fData) := e1.str (j := 5) rfl
          obtain ⟨s1, t1, q6, qr6⟩ := e1.sl (j := 6) rfl
          obtain ⟨s2, t2, q7, qr7⟩ := e1.sl (j := 7) rfl
          have q8 : wr.cell? ⟨b1, o1 + k * 12 + 8, none⟩ = some (.int .i64 x.fCommit.fHeight) := e1.int (j := 8) rfl
          have q9 : wr.cell? ⟨b1, o1 + k * 12 + 9, none⟩ = some (.int .i64 x.fCommit.fRound) := e1.int (j := 9) rfl
          have q10 : wr.cell? ⟨b1, o1 + k * 12 + 10, none⟩ = some (.string x.fCommit.fId) := e1.str (j := 10) rfl
          obtain ⟨s3, t3, q11, qr11⟩ := e1.sl (j := 11) rfl
          have m0 : wr.cell? ⟨b2, o2 + k * 12, none⟩ = some (.int .i64 x.fHead.fHeight) := e2.int (j := 0) rfl
          have m1 : wr.cell? ⟨b2, o2 + k * 12 + 1, none⟩ = some (.int .i64 x.fHead.fTime) := e2.int (j := 1) rfl
          have m2 : wr.cell? ⟨b2, o2 + k * 12 + 2, none⟩ = some (.string x.fHead.fLast) := e2.str (j := 2) rfl
          have m3 : wr.cell? ⟨b2, o2 + k * 12 + 3, none⟩ = some (.string x.fHead.fVals) := e2.str (j := 3) rfl
          have m4 : wr.cell? ⟨b2, o2 + k * 12 + 4, none⟩ = some (.string x.fHead.fNext) := e2.str (j := 4) rfl
          have m5 : wr.cell? ⟨b2, o2 + k * 12 + 5, none⟩ = some (.string x.fHead.fData) := e2.str (j := 5) rfl
          obtain ⟨u1, v1, m6, mr6⟩ := e2.sl (j := 6) rfl
          obtain ⟨u2, v2, m7, mr7⟩ := e2.sl (j := 7) rfl
          have m8 : wr.cell? ⟨b2, o2 + k * 12 + 8, none⟩ = some (.int .i64 x.fCommit.fHeight) := e2.int (j := 8) rfl
          have m9 : wr.cell? ⟨b2, o2 + k * 12 + 9, none⟩ = some (.int .i64 x.fCommit.fRound) := e2.int (j := 9) rfl
          have m10 : wr.cell? ⟨b2, o2 + k * 12 + 10, none⟩ = some (.string x.fCommit.fId) := e2.str (j := 10) rfl
          obtain ⟨u3, v3, m11, mr11⟩ := e2.sl (j := 11) rfl
          have d1 : Rds wr (encBlock x) [.int .i64 x.fHead.fHeight, .int .i64 x.fHead.fTime, .string x.fHead.fLast, .string x.fHead.fVals, .string x.fHead.fNext, .string x.fHead.fData, .slice s1 x.fVals.length t1, .slice s2 x.fNext.length t2, .int .i64 x.fCommit.fHeight, .int .i64 x.fCommit.fRound, .string x.fCommit.fId, .slice s3 x.fCommit.fSigs.length t3] := (Rds.int _ (Rds.int _ (Rds.str _ (Rds.str _ (Rds.str _ (Rds.str _ (rds_slD.2 ⟨_, _, rfl, qr6, (rds_slD.2 ⟨_, _, rfl, qr7, (Rds.int _ (Rds.int _ (Rds.str _ (rds_slD.2 ⟨_, _, rfl, qr11, Rds.nil⟩))))⟩)⟩)))))))
          have d2 : Rds wr (encBlock x) [.int .i64 x.fHead.fHeight, .int .i64 x.fHead.fTime, .string x.fHead.fLast, .string x.fHead.fVals, .string x.fHead.fNext, .string x.fHead.fData, .slice u1 x.fVals.length v1, .slice u2 x.fNext.length v2, .int .i64 x.fCommit.fHeight, .int .i64 x.fCommit.fRound, .string x.fCommit.fId, .slice u3 x.fCommit.fSigs.length v3] := (Rds.int _ (Rds.int _ (Rds.str _ (Rds.str _ (Rds.str _ (Rds.str _ (rds_slD.2 ⟨_, _, rfl, mr6, (rds_slD.2 ⟨_, _, rfl, mr7, (Rds.int _ (Rds.int _ (Rds.str _ (rds_slD.2 ⟨_, _, rfl, mr11, Rds.nil⟩))))⟩)⟩)))))))
          clear e1 e2 qr6 mr6 qr7 mr7 qr11 mr11
          go_wp2_with fail
          go_region_held3 (fun w' => w'.cell? ⟨b1, o1 + k * 12, none⟩ = some (.int .i64 x.fHead.fHeight) ∧ w'.cell? ⟨b1, o1 + k * 12 + 1, none⟩ = some (.int .i64 x.fHead.fTime) ∧ w'.cell? ⟨b1, o1 + k * 12 + 2, none⟩ = some (.string x.fHead.fLast) ∧ w'.cell? ⟨b1, o1 + k * 12 + 3, none⟩ = some (.string x.fHead.fVals) ∧ w'.cell? ⟨b1, o1 + k * 12 + 4, none⟩ = some (.string x.fHead.fNext) ∧ w'.cell? ⟨b1, o1 + k * 12 + 5, none⟩ = some (.string x.fHead.fData) ∧ w'.cell? ⟨b1, o1 + k * 12 + 6, none⟩ = some (.slice s1 x.fVals.length t1) ∧ w'.cell? ⟨b1, o1 + k * 12 + 7, none⟩ = some (.slice s2 x.fNext.length t2) ∧ w'.cell? ⟨b1, o1 + k * 12 + 8, none⟩ = some (.int .i64 x.fCommit.fHeight) ∧ w'.cell? ⟨b1, o1 + k * 12 + 9, none⟩ = some (.int .i64 x.fCommit.fRound) ∧ w'.cell? ⟨b1, o1 + k * 12 + 10, none⟩ = some (.string x.fCommit.fId) ∧ w'.cell? ⟨b1, o1 + k * 12 + 11, none⟩ = some (.slice s3 x.fCommit.fSigs.length t3) ∧ w'.cell? ⟨b2, o2 + k * 12, none⟩ = some (.int .i64 x.fHead.fHeight) ∧ w'.cell? ⟨b2, o2 + k * 12 + 1, none⟩ = some (.int .i64 x.fHead.fTime) ∧ w'.cell? ⟨b2, o2 + k * 12 + 2, none⟩ = some (.string x.fHead.fLast) ∧ w'.cell? ⟨b2, o2 + k * 12 + 3, none⟩ = some (.string x.fHead.fVals) ∧ w'.cell? ⟨b2, o2 + k * 12 + 4, none⟩ = some (.string x.fHead.fNext) ∧ w'.cell? ⟨b2, o2 + k * 12 + 5, none⟩ = some (.string x.fHead.fData) ∧ w'.cell? ⟨b2, o2 + k * 12 + 6, none⟩ = some (.slice u1 x.fVals.length v1) ∧ w'.cell? ⟨b2, o2 + k * 12 + 7, none⟩ = some (.slice u2 x.fNext.length v2) ∧ w'.cell? ⟨b2, o2 + k * 12 + 8, none⟩ = some (.int .i64 x.fCommit.fHeight) ∧ w'.cell? ⟨b2, o2 + k * 12 + 9, none⟩ = some (.int .i64 x.fCommit.fRound) ∧ w'.cell? ⟨b2, o2 + k * 12 + 10, none⟩ = some (.string x.fCommit.fId) ∧ w'.cell? ⟨b2, o2 + k * 12 + 11, none⟩ = some (.slice u3 x.fCommit.fSigs.length v3)) ((first | go_keep | ((try dsimp only); (try go_split_ands); (repeat' apply And.intro) <;> exact hb.cellSome (by assumption))))
            ((go_at_call 25; refine (eqBlock_any x _ _ _ _ _ _ _ _ _ _ _ _ _ (d1.extA) (d2.extA)).mono ?_; rintro e w1 ⟨rfl, hb⟩))
          go_wp2
          go_roundg (xs.length - (k + 1))
          case measure => rw [HG.out]; omega
          case rel => exact ⟨k + 1, by omega, rfl, by go_num, by (repeat (first | (with_reducible exact Ext.refl _) | (with_reducible assumption) | (with_reducible refine Ext.alloc ?_ _) | (with_reducible refine Ext.drew ?_) | (with_reducible refine Ext.drewN ?_ _) | ((with_reducible apply Ext.setCell); (case hp => first | omega | (simp; done) | (simp; omega))) | (with_reducible refine Ext.trans ?_ (by assumption))))⟩
        · go_wp2
          go_ret
          exact ⟨rfl, by (repeat (first | (with_reducible exact Ext.refl _) | (with_reducible assumption) | (with_reducible refine Ext.alloc ?_ _) | (with_reducible refine Ext.drew ?_) | (with_reducible refine Ext.drewN ?_ _) | ((with_reducible apply Ext.setCell); (case hp => first | omega | (simp; done) | (simp; omega))) | (with_reducible refine Ext.trans ?_ (by assumption))))⟩
end Go.Proofs.YtgcelmnmalfpcaaGreatDoor
namespace Go.Proofs.YtgcelmnmalfpcaaGreatDoor
set_option linter.unusedSimpArgs false
set_option linter.unusedVariables false
open Go.RowKit
end Go.Proofs.YtgcelmnmalfpcaaGreatDoor
namespace Go.Proofs.YtgcelmnmalfpcaaGreatDoor
set_option linter.unusedSimpArgs false
set_option linter.unusedVariables false
open Go.RowKit
theorem GlobW.ext {w w' : World} (h : GlobW w) (e : Ext w w') : GlobW w' := fun i n q => e.cellSome (h i n q)
theorem GlobW.extA {w w' : World} (h : GlobW w) (e : Ext w w' := by (repeat (first | (with_reducible exact Ext.refl _) | (with_reducible assumption) | (with_reducible refine Ext.alloc ?_ _) | (with_reducible refine Ext.drew ?_) | (with_reducible refine Ext.drewN ?_ _) | ((with_reducible apply Ext.setCell); (case hp => first | omega | (simp; done) | (simp; omega))) | (with_reducible refine Ext.trans ?_ (by assumption))))) : GlobW w' := GlobW.ext h e
end Go.Proofs.YtgcelmnmalfpcaaGreatDoor
namespace Go.Proofs.YtgcelmnmalfpcaaGreatDoor
set_option linter.unusedSimpArgs false
set_option linter.unusedVariables false
open Go.RowKit
theorem smB_of {b : GBlock} (z : szL (encBlock b) ≤ 1048576) : SmB b := by
  have zz := z
  simp only [encBlock, slD, szL] at zz
  exact ⟨by omega, by omega, by omega⟩
end Go.Proofs.YtgcelmnmalfpcaaGreatDoor
namespace Go.Proofs.YtgcelmnmalfpcaaGreatDoor
set_option linter.unusedSimpArgs false
set_option linter.unusedVariables false
open Go.RowKit
theorem smC_of {c : GLight} (z : szL (encLight c) ≤ 1048576) : SmC c := by
  have zz := z
  simp only [encLight, slD, szL] at zz
  exact ⟨by omega, by omega, by omega⟩
theorem sBehind_any (x0 : GLight) (x1 : (List GBlock)) (o1 o2 o3 o4 : Option Addr) (c1 c2 c3 c4 : Nat) (w : World) (h0 : Rds w (encLight x0) [.int .i64 x0.fTrust.fPeriod, .int .i64 x0.fTrust.fSlack, .int .i64 x0.fState, .int .i64 x0.fAnchor.fHead.fHeight, .int .i64 x0.fAnchor.fHead.fTime, .string x0.fAnchor.fHead.fLast, .string x0.fAnchor.fHead.fVals, .string x0.fAnchor.fHead.fNext, .string x0.fAnchor.fHead.fData, .slice o1 x0.fAnchor.fNext.length c1, .slice o2 x0.fStore.fHeads.length c2, .int .i64 x0.fStore.fSynced, .slice o3 x0.fPeers.fPeers.length c3, .int .i64 x0.fPeers.fTurn, .int .i64 x0.fNow]) (z0 : szL (encLight x0) ≤ 1048576) (k0 : okL (encLight x0)) (h1 : RL 70 12 encBlock w (.slice o4 x1.length c4) x1) (z1 : szL ([slD 70 12 encBlock x1]) ≤ 1048576) (k1 : okL ([slD 70 12 encBlock x1])) (hG : GlobW w) :
    Calls Tryz.prog 35 #[.agg #[.int .i64 x0.fTrust.fPeriod, .int .i64 x0.fTrust.fSlack, .int .i64 x0.fState, .int .i64 x0.fAnchor.fHead.fHeight, .int .i64 x0.fAnchor.fHead.fTime, .string x0.fAnchor.fHead.fLast, .string x0.fAnchor.fHead.fVals, .string x0.fAnchor.fHead.fNext, .string x0.fAnchor.fHead.fData, .slice o1 x0.fAnchor.fNext.length c1, .slice o2 x0.fStore.fHeads.length c2, .int .i64 x0.fStore.fSynced, .slice o3 x0.fPeers.fPeers.length c3, .int .i64 x0.fPeers.fTurn, .int .i64 x0.fNow], .slice o4 x1.length c4] w fun e w' => e = .returned (.int .i64 (mBehind x0 x1)) ∧ Ext w w' := by
  have zz0 := z0; simp only [encLight, slD, szL] at zz0
  have zz1 := z1; simp only [slD, szL] at zz1
  have hp := sBehind_p x0 x1 (smC_of z0) (by omega) (fun b hb => smB_of (Nat.le_trans (szL_elem hb) (by omega)))
  refine (hp.use (w := w) hG.mem (vs := #[.agg #[.int .i64 x0.fTrust.fPeriod, .int .i64 x0.fTrust.fSlack, .int .i64 x0.fState, .int .i64 x0.fAnchor.fHead.fHeight, .int .i64 x0.fAnchor.fHead.fTime, .string x0.fAnchor.fHead.fLast, .string x0.fAnchor.fHead.fVals, .string x0.fAnchor.fHead.fNext, .string x0.fAnchor.fHead.fData, .slice o1 x0.fAnchor.fNext.length c1, .slice o2 x0.fStore.fHeads.length c2, .int .i64 x0.fStore.fSynced, .slice o3 x0.fPeers.fPeers.length c3, .int .i64 x0.fPeers.fTurn, .int .i64 x0.fNow], .slice o4 x1.length c4]) ⟨rfl, fun i pv v a b => ?_⟩).mono fun e w' ⟨v, M', h', pv, H', e1, e2, e3, e4, e5, e6⟩ => ?_
  · match i with
    | 0 => simp at a b; subst a; subst b; rw [← pv_Light]; exact Rds.agg h0 _
    | 1 => simp at a b; subst a; subst b; have q := RL.pv h1 (fun _ => rfl) (fun _ => none); simp only [pv_Block] at q; exact q
    | i + 2 => simp at a
  · cases e2; have q := vr_val e3; subst q; exact ⟨e1, e5⟩
theorem iBehind_any (x0 : GLight) (x1 : (List GBlock)) (o1 o2 o3 o4 : Option Addr) (c1 c2 c3 c4 : Nat) (w : World) (h0 : Rds w (encLight x0) [.int .i64 x0.fTrust.fPeriod, .int .i64 x0.fTrust.fSlack, .int .i64 x0.fState, .int .i64 x0.fAnchor.fHead.fHeight, .int .i64 x0.fAnchor.fHead.fTime, .string x0.fAnchor.fHead.fLast, .string x0.fAnchor.fHead.fVals, .string x0.fAnchor.fHead.fNext, .string x0.fAnchor.fHead.fData, .slice o1 x0.fAnchor.fNext.length c1, .slice o2 x0.fStore.fHeads.length c2, .int .i64 x0.fStore.fSynced, .slice o3 x0.fPeers.fPeers.length c3, .int .i64 x0.fPeers.fTurn, .int .i64 x0.fNow]) (z0 : szL (encLight x0) ≤ 1048576) (k0 : okL (encLight x0)) (h1 : RL 70 12 encBlock w (.slice o4 x1.length c4) x1) (z1 : szL ([slD 70 12 encBlock x1]) ≤ 1048576) (k1 : okL ([slD 70 12 encBlock x1])) (hG : GlobW w) :
    Calls Tryz.prog 36 #[.agg #[.int .i64 x0.fTrust.fPeriod, .int .i64 x0.fTrust.fSlack, .int .i64 x0.fState, .int .i64 x0.fAnchor.fHead.fHeight, .int .i64 x0.fAnchor.fHead.fTime, .string x0.fAnchor.fHead.fLast, .string x0.fAnchor.fHead.fVals, .string x0.fAnchor.fHead.fNext, .string x0.fAnchor.fHead.fData, .slice o1 x0.fAnchor.fNext.length c1, .slice o2 x0.fStore.fHeads.length c2, .int .i64 x0.fStore.fSynced, .slice o3 x0.fPeers.fPeers.length c3, .int .i64 x0.fPeers.fTurn, .int .i64 x0.fNow], .slice o4 x1.length c4] w fun e w' => e = .returned (.int .i64 (mBehind x0 x1)) ∧ Ext w w' := by
  have zz0 := z0; simp only [encLight, slD, szL] at zz0
  have zz1 := z1; simp only [slD, szL] at zz1
  have hp := iBehind_p x0 x1 (smC_of z0) (by omega) (fun b hb => smB_of (Nat.le_trans (szL_elem hb) (by omega)))
  refine (hp.use (w := w) hG.mem (vs := #[.agg #[.int .i64 x0.fTrust.fPeriod, .int .i64 x0.fTrust.fSlack, .int .i64 x0.fState, .int .i64 x0.fAnchor.fHead.fHeight, .int .i64 x0.fAnchor.fHead.fTime, .string x0.fAnchor.fHead.fLast, .string x0.fAnchor.fHead.fVals, .string x0.fAnchor.fHead.fNext, .string x0.fAnchor.fHead.fData, .slice o1 x0.fAnchor.fNext.length c1, .slice o2 x0.fStore.fHeads.length c2, .int .i64 x0.fStore.fSynced, .slice o3 x0.fPeers.fPeers.length c3, .int .i64 x0.fPeers.fTurn, .int .i64 x0.fNow], .slice o4 x1.length c4]) ⟨rfl, fun i pv v a b => ?_⟩).mono fun e w' ⟨v, M', h', pv, H', e1, e2, e3, e4, e5, e6⟩ => ?_
  · match i with
    | 0 => simp at a b; subst a; subst b; rw [← pv_Light]; exact Rds.agg h0 _
    | 1 => simp at a b; subst a; subst b; have q := RL.pv h1 (fun _ => rfl) (fun _ => none); simp only [pv_Block] at q; exact q
    | i + 2 => simp at a
  · cases e2; have q := vr_val e3; subst q; exact ⟨e1, e5⟩
end Go.Proofs.YtgcelmnmalfpcaaGreatDoor
namespace Go.Proofs.YtgcelmnmalfpcaaGreatDoor
set_option linter.unusedSimpArgs false
set_option linter.unusedVariables false
open Go.RowKit
set_option maxRecDepth 100000
def hasHead (l : List GBlock) (h : GHeader) : Bool := l.any fun b => headEq b.fHead h
def mCaught (c : GLight) (l : List GBlock) : Bool := lightOk c && chainOk l && c.fStore.fHeads.all (hasHead l)
def blockIdx (l : List GBlock) (height : Int) : Int := idx (fun b => decide (b.fHead.fHeight = height)) l
theorem caught_hit {l : List GBlock} {h : GHeader} (okl : chainOk l = true) {k : Nat} {b : GBlock} (hb : l[k]? = some b) (hh : b.fHead.fHeight = h.fHeight) : hasHead l h = headEq b.fHead h := by
  cases e : headEq b.fHead h with
  | true => exact List.any_eq_true.2 ⟨b, List.mem_of_getElem? hb, e⟩
  | false =>
    unfold hasHead
    rw [List.any_eq_false]
    intro x hx he
    obtain ⟨i, hi, rfl⟩ := List.getElem_of_mem hx
    have e2 := headEq_iff.1 he
    have := chain_one okl (List.getElem?_eq_getElem hi) hb (by rw [e2, hh])
    subst this
    rw [List.getElem?_eq_getElem hi] at hb
    cases hb
    rw [he] at e
    cases e
theorem idx_neg {α : Type} {p : α → Bool} : ∀ {xs : List α}, idx p xs < 0 → ∀ x ∈ xs, p x = false
  | [], _, x, h => by simp at h
  | y :: ys, h, x, hx => by
    unfold idx at h
    by_cases hy : p y = true
    · rw [if_pos hy] at h; omega
    · have hy' : p y = false := by simpa using hy
      rw [if_neg hy] at h
      rcases List.mem_cons.1 hx with rfl | hx
      · exact hy'
      · refine idx_neg (xs := ys) ?_ x hx
        by_cases q : idx p ys < 0
        · exact q
        · rw [if_neg q] at h; omega
theorem caught_none {l : List GBlock} {h : GHeader} (hn : blockIdx l h.fHeight < 0) : hasHead l h = false := by
  unfold hasHead
  rw [List.any_eq_false]
  intro x hx he
  have e2 := headEq_iff.1 he
  have := idx_neg hn x hx
  simp [e2] at this
def capt (l : List GBlock) (hs : List GHeader) (k : Nat) : Bool := match hs[k]? with | some h => hasHead l h | none => true
theorem capt_get {l : List GBlock} {hs : List GHeader} {k : Nat} {h : GHeader} (hh : hs[k]? = some h) : capt l hs k = hasHead l h := by unfold capt; rw [hh]
theorem capt_end {l : List GBlock} {hs : List GHeader} (h : allTo (capt l hs) hs.length) : hs.all (hasHead l) = true := by
  rw [List.all_eq_true]
  intro x hx
  obtain ⟨i, hi, rfl⟩ := List.getElem_of_mem hx
  rw [← capt_get (List.getElem?_eq_getElem hi)]
  exact h i hi
theorem capt_no {l : List GBlock} {hs : List GHeader} {k : Nat} {h : GHeader} (hh : hs[k]? = some h) (hf : hasHead l h = false) : hs.all (hasHead l) = false := by
  rw [List.all_eq_false]
  exact ⟨h, List.mem_of_getElem? hh, by rw [hf]; simp⟩
theorem blockAt1_p (b : GBlock) (height : Int) : PCalls Tryz.prog 159 [.agg (pBlock b), .eptr [.val (.int .i64 height)] 0] [] (RV (.val (.bool (decide (b.fHead.fHeight = height))))) := by
  obtain ⟨h, vs, nx, ⟨ch, cr, ci, cs⟩⟩ := b
  refine pcalls_ofR okP Tryz.func159 rfl ?_
  simp only [Tryz.f159, List.length_cons, List.length_nil, Nat.reduceAdd, Nat.reduceSub, List.replicate_succ, List.replicate_zero, List.cons_append, List.nil_append, List.length_map]
  repeat' (first | with_reducible refine PWp.seq ?_ | with_reducible refine PWp.block ?_ | with_reducible refine PWp.region okP true ?_ | with_reducible (first | refine pops_nil ?_ | refine pany_nil ?_ | refine pthen_normal ?_ | refine pblock_normal ?_ | refine pthen_ret ?_ | refine pblock_ret ?_ | refine pthen_exit ?_ | refine pblock_here ?_ | refine pblock_there rfl ?_ | refine PWp.ret ?_ | refine PWp.exit ?_ | refine PWp.skip ?_) | ((with_reducible refine hK _ ?_); clear hK K) | ((with_reducible refine pops_plain fun K hK => ?_); simp (disch := omega) only [push_cast, seval]) | ((with_reducible refine And.intro ?_ ?_); omega))
  ((with_reducible show PPostR _ _ _ _ _ _); refine finV ?_; (try simp only [push_cast, seval]))
  exact eqI_B
theorem idxBlock_p (l : List GBlock) (height : Int) (hl : l.length ≤ 1099511627776) : PCalls Tryz.prog 158 [.sl 12 (l.map pBlock), .clo 159 [.eptr [.val (.int .i64 height)] 0]] [] (RV (.val (.int .i64 (blockIdx l height)))) := by
  have cloC : Callable Tryz.prog 159 := callable_of Tryz.func159 rfl rfl
  refine pcalls_ofR okP Tryz.func158 rfl ?_
  simp only [Tryz.f158, List.length_cons, List.length_nil, Nat.reduceAdd, Nat.reduceSub, List.replicate_succ, List.replicate_zero, List.cons_append, List.nil_append, List.length_map]
  repeat' (first | with_reducible refine PWp.seq ?_ | with_reducible refine PWp.block ?_ | with_reducible refine PWp.region okP true ?_ | with_reducible (first | refine pops_nil ?_ | refine pany_nil ?_ | refine pthen_normal ?_ | refine pblock_normal ?_ | refine pthen_ret ?_ | refine pblock_ret ?_ | refine pthen_exit ?_ | refine pblock_here ?_ | refine pblock_there rfl ?_ | refine PWp.ret ?_ | refine PWp.exit ?_ | refine PWp.skip ?_) | ((with_reducible refine hK _ ?_); clear hK K) | ((with_reducible refine PWp.condI ?_); refine ⟨_, rfl, fun hg => ?_, fun hg => ?_⟩ <;> first | (exact absurd hg (by decide)) | ((try simp only [Bool.not_true, Bool.not_false] at hg); (try simp only [hg]); (try simp only [push_cast] at hg); (try exact absurd trivial hg); (try (exfalso; omega)))) | ((with_reducible refine pops_plain fun K hK => ?_); simp (disch := omega) only [push_cast, seval]) | ((with_reducible show pcall _ _ _ _ _ _); (first | (refine pcV (g := 159) cloC (blockAt1_p ⟨⟨_, _, _, _, _, _⟩, _, _, ⟨_, _, _, _⟩⟩ _) ?_)); (try simp (disch := omega) only [push_cast, seval])) | ((with_reducible refine And.intro ?_ ?_); omega))
  refine PWp.loopK (α := Nat) (fun k => [(8, .val (.int .i64 (k : Int)))]) [2, 3, 4, 5, 6, 9, 10, 11, 12, 13, 14, 15, 16, 17, 18] (fun k => []) (fun k => k ≤ l.length ∧ noneTo (fun b => decide (b.fHead.fHeight = height)) l k) (fun k => l.length - k) (0) (⟨Nat.zero_le _, noneTo_zero⟩) (by (refine ⟨[], ?_, ?_, ?_, ?_⟩; (· ((try simp (disch := omega) only [push_cast, seval]); (repeat' (first | exact trivial | exact rfl | refine And.intro ?_ ?_ | omega)))); (· ((try simp (disch := omega) only [push_cast, seval]); (repeat' (first | exact trivial | exact rfl | refine And.intro ?_ ?_ | omega)))); (· exact rfl); (· (first | exact trivial | exact ⟨rfl, trivial⟩ | exact ⟨rfl, rfl, trivial⟩)))) ?_
  intro k ρ hI
  (try dsimp only at hI)
  refine PWp.at (tm' := ?_) (H' := ?_) ?_ ?_ ?_; rotate_left 2; (· ((try simp only [push_cast, seval]); exact rfl)); (· ((try dsimp only); exact rfl))
  obtain ⟨hk, hA⟩ := hI
  by_cases hlt : k < l.length
  · obtain ⟨x, hx⟩ : ∃ x, l[k]? = some x := ⟨_, List.getElem?_eq_getElem hlt⟩
    obtain ⟨⟨x1, x2, x3, x4, x5, x6⟩, xv, xn, ⟨xa, xb, xc, xd⟩⟩ := x
    by_cases he : x1 = height
    · have e : blockIdx l height = k := idx_some hx (by simpa using he) hA
      repeat' (first | with_reducible refine PWp.seq ?_ | with_reducible refine PWp.block ?_ | with_reducible refine PWp.region okP true ?_ | with_reducible (first | refine pops_nil ?_ | refine pany_nil ?_ | refine pthen_normal ?_ | refine pblock_normal ?_ | refine pthen_ret ?_ | refine pblock_ret ?_ | refine pthen_exit ?_ | refine pblock_here ?_ | refine pblock_there rfl ?_ | refine PWp.ret ?_ | refine PWp.exit ?_ | refine PWp.skip ?_) | ((with_reducible refine hK _ ?_); clear hK K) | ((with_reducible refine PWp.condI ?_); refine ⟨_, rfl, fun hg => ?_, fun hg => ?_⟩ <;> first | (exact absurd hg (by decide)) | ((try simp only [Bool.not_true, Bool.not_false] at hg); (try simp only [hg]); (try simp only [push_cast] at hg); (try exact absurd trivial hg); (try (exfalso; omega)))) | ((with_reducible refine pops_plain fun K hK => ?_); simp (disch := omega) only [push_cast, seval, hx, he]) | ((with_reducible show pcall _ _ _ _ _ _); (first | (refine pcV (g := 159) cloC (blockAt1_p ⟨⟨_, _, _, _, _, _⟩, _, _, ⟨_, _, _, _⟩⟩ _) ?_)); (try simp (disch := omega) only [push_cast, seval, hx, he])) | ((with_reducible refine And.intro ?_ ?_); omega))
      ((with_reducible show PPostR _ _ _ _ _ _); refine finV ?_; (try simp only [push_cast, seval]))
      rw [e]
    ·
      repeat' (first | with_reducible refine PWp.seq ?_ | with_reducible refine PWp.block ?_ | with_reducible refine PWp.region okP true ?_ | with_reducible (first | refine pops_nil ?_ | refine pany_nil ?_ | refine pthen_normal ?_ | refine pblock_normal ?_ | refine pthen_ret ?_ | refine pblock_ret ?_ | refine pthen_exit ?_ | refine pblock_here ?_ | refine pblock_there rfl ?_ | refine PWp.ret ?_ | refine PWp.exit ?_ | refine PWp.skip ?_) | ((with_reducible refine hK _ ?_); clear hK K) | ((with_reducible refine PWp.condI ?_); refine ⟨_, rfl, fun hg => ?_, fun hg => ?_⟩ <;> first | (exact absurd hg (by decide)) | ((try simp only [Bool.not_true, Bool.not_false] at hg); (try simp only [hg]); (try simp only [push_cast] at hg); (try exact absurd trivial hg); (try (exfalso; omega)))) | ((with_reducible refine pops_plain fun K hK => ?_); simp (disch := omega) only [push_cast, seval, hx]) | ((with_reducible show pcall _ _ _ _ _ _); (first | (refine pcV (g := 159) cloC (blockAt1_p ⟨⟨_, _, _, _, _, _⟩, _, _, ⟨_, _, _, _⟩⟩ _) ?_)); (try simp (disch := omega) only [push_cast, seval, hx])) | ((with_reducible refine And.intro ?_ ?_); omega))
      (refine ⟨k + 1, by ((try dsimp only); omega), ?_, by (refine ⟨[], ?_, ?_, ?_, ?_⟩; (· ((try simp (disch := omega) only [push_cast, seval]); (repeat' (first | exact trivial | exact rfl | refine And.intro ?_ ?_ | omega)))); (· ((try simp (disch := omega) only [push_cast, seval]); (repeat' (first | exact trivial | exact rfl | refine And.intro ?_ ?_ | omega)))); (· exact rfl); (· (first | exact trivial | exact ⟨rfl, trivial⟩ | exact ⟨rfl, rfl, trivial⟩)))⟩)
      exact ⟨hlt, noneTo_succ hA hx (by simpa using he)⟩
  obtain rfl : k = l.length := by omega
  have e : blockIdx l height = -1 := noneTo_end hA
  repeat' (first | with_reducible refine PWp.seq ?_ | with_reducible refine PWp.block ?_ | with_reducible refine PWp.region okP true ?_ | with_reducible (first | refine pops_nil ?_ | refine pany_nil ?_ | refine pthen_normal ?_ | refine pblock_normal ?_ | refine pthen_ret ?_ | refine pblock_ret ?_ | refine pthen_exit ?_ | refine pblock_here ?_ | refine pblock_there rfl ?_ | refine PWp.ret ?_ | refine PWp.exit ?_ | refine PWp.skip ?_) | ((with_reducible refine hK _ ?_); clear hK K) | ((with_reducible refine PWp.condI ?_); refine ⟨_, rfl, fun hg => ?_, fun hg => ?_⟩ <;> first | (exact absurd hg (by decide)) | ((try simp only [Bool.not_true, Bool.not_false] at hg); (try simp only [hg]); (try simp only [push_cast] at hg); (try exact absurd trivial hg); (try (exfalso; omega)))) | ((with_reducible refine pops_plain fun K hK => ?_); simp (disch := omega) only [push_cast, seval]) | ((with_reducible show pcall _ _ _ _ _ _); (first | (refine pcV (g := 159) cloC (blockAt1_p ⟨⟨_, _, _, _, _, _⟩, _, _, ⟨_, _, _, _⟩⟩ _) ?_)); (try simp (disch := omega) only [push_cast, seval])) | ((with_reducible refine And.intro ?_ ?_); omega))
  ((with_reducible show PPostR _ _ _ _ _ _); refine finV ?_; (try simp only [push_cast, seval]))
  rw [e]
theorem iBlockAt_p (l : List GBlock) (height : Int) (hl : l.length ≤ 1099511627776) : PCalls Tryz.prog 98 [.sl 12 (l.map pBlock), .val (.int .i64 height)] [] (RV (.val (.int .i64 (blockIdx l height)))) := by
  refine pcalls_ofR okP Tryz.func98 rfl ?_
  simp only [Tryz.f98, List.length_cons, List.length_nil, Nat.reduceAdd, Nat.reduceSub, List.replicate_succ, List.replicate_zero, List.cons_append, List.nil_append, List.length_map]
  repeat' (first | with_reducible refine PWp.seq ?_ | with_reducible refine PWp.block ?_ | with_reducible refine PWp.region okP true ?_ | with_reducible (first | refine pops_nil ?_ | refine pany_nil ?_ | refine pthen_normal ?_ | refine pblock_normal ?_ | refine pthen_ret ?_ | refine pblock_ret ?_ | refine pthen_exit ?_ | refine pblock_here ?_ | refine pblock_there rfl ?_ | refine PWp.ret ?_ | refine PWp.exit ?_ | refine PWp.skip ?_) | ((with_reducible refine hK _ ?_); clear hK K) | ((with_reducible refine pops_plain fun K hK => ?_); simp (disch := omega) only [push_cast, seval]) | ((with_reducible show pcall _ _ _ _ _ _); (first | (refine pcV (g := 158) (callable_of Tryz.func158 rfl rfl) (idxBlock_p _ _ (by (first | assumption | omega | (simp; omega) | (simp_all; done) | (simp_all; omega)))) ?_)); (try simp (disch := omega) only [push_cast, seval])) | ((with_reducible refine And.intro ?_ ?_); omega))
  ((with_reducible show PPostR _ _ _ _ _ _); refine finV ?_; (try simp only [push_cast, seval]))
theorem caught_bad {c : GLight} {l : List GBlock} (h : lightOk c = false ∨ chainOk l = false) : mCaught c l = false := by
  unfold mCaught
  rcases h with h | h <;> simp [h]
theorem caught_go {c : GLight} {l : List GBlock} (h1 : lightOk c = true) (h2 : chainOk l = true) : mCaught c l = c.fStore.fHeads.all (hasHead l) := by
  unfold mCaught
  rw [h1, h2]
  rfl
theorem idx_at {α : Type} {p : α → Bool} {xs : List α} (h : ¬ idx p xs < 0) : ∃ (k : Nat) (x : α), idx p xs = (k : Int) ∧ k < xs.length ∧ xs[k]? = some x ∧ p x = true := by
  obtain ⟨x, h1, h2, _⟩ := idx_get (p := p) (xs := xs) (by omega)
  exact ⟨(idx p xs).toNat, x, by omega, (List.getElem?_eq_some_iff.1 h1).1, h1, h2⟩
set_option maxHeartbeats 2000000 in
theorem iCaught_p (c : GLight) (l : List GBlock) (hc : SmC c) (hl : l.length ≤ 2000000) (hs : ∀ b ∈ l, SmB b) : PCalls Tryz.prog 38 [.agg (pLight c), .sl 12 (l.map pBlock)] [] (RV (.val (.bool (mCaught c l)))) := by
  obtain ⟨c1, c2, c3⟩ := hc
  cases ok : lightOk c with
  | false =>
    rw [caught_bad (.inl ok)]
    refine pcalls_ofR okP Tryz.func38 rfl ?_
    simp only [Tryz.f38, List.length_cons, List.length_nil, Nat.reduceAdd, Nat.reduceSub, List.replicate_succ, List.replicate_zero, List.cons_append, List.nil_append, List.length_map]
    repeat' (first | with_reducible refine PWp.seq ?_ | with_reducible refine PWp.block ?_ | with_reducible refine PWp.region okP true ?_ | with_reducible refine PWp.draw (id := 7) okP true [0, 1, 2, 3, 4, 5, 6, 7, 8, 9, 10] (by kernel_rfl) ?_ | with_reducible (first | refine pops_nil ?_ | refine pany_nil ?_ | refine pthen_normal ?_ | refine pblock_normal ?_ | refine pthen_ret ?_ | refine pblock_ret ?_ | refine pthen_exit ?_ | refine pblock_here ?_ | refine pblock_there rfl ?_ | refine PWp.ret ?_ | refine PWp.exit ?_ | refine PWp.skip ?_) | ((with_reducible refine hK _ ?_); clear hK K) | ((with_reducible refine PWp.condI ?_); refine ⟨_, rfl, fun hg => ?_, fun hg => ?_⟩ <;> first | (exact absurd hg (by decide)) | ((try simp only [Bool.not_true, Bool.not_false] at hg); (try simp only [hg]); (try simp only [push_cast] at hg); (try exact absurd trivial hg); (try (exfalso; omega)))) | ((first | ((with_reducible refine pops_guard0 ?_); refine ⟨_, rfl, fun K hK => ⟨rfl, ?_⟩⟩) | ((with_reducible refine pD_g0 ?_); refine ⟨_, rfl, rfl, ?_⟩)); (try simp (disch := omega) only [push_cast, seval, ok])) | ((with_reducible refine pany_I ?_); refine ⟨_, rfl, fun K hK => ?_⟩) | ((with_reducible refine pops_plain fun K hK => ?_); simp (disch := omega) only [push_cast, seval, ok]) | ((first | ((with_reducible refine pD_y ?_ ?_); exact rfl) | ((with_reducible refine pD_x ?_ ?_); exact rfl)); simp (disch := omega) only [push_cast, seval, ok]) | ((first | ((with_reducible refine pops_guard ?_); refine ⟨_, rfl, fun K hK => ⟨_, rfl, fun hg => ?_, fun hg => ?_⟩⟩) | ((first | ((with_reducible refine pD_gy ?_ ?_); exact rfl) | ((with_reducible refine pD_gx ?_ ?_); exact rfl)); refine ⟨_, rfl, _, rfl, fun hg => ?_, fun hg => ?_⟩)) <;> first | (exact absurd hg (by decide)) | ((try simp only [Bool.not_true, Bool.not_false] at hg); (try simp only [hg]); (try simp only [push_cast] at hg); (try exact absurd trivial hg); (try (exfalso; omega)); (try simp (disch := omega) only [push_cast, seval, ok]))) | ((with_reducible show pcall _ _ _ _ _ _); (first | (refine pcV (g := 29) (callable_of Tryz.func29 rfl rfl) (iChainOk_p _ (by (first | assumption | omega | (simp; omega) | (simp_all; done) | (simp_all; omega))) (by assumption)) ?_) | (refine pcV (g := 58) (callable_of Tryz.func58 rfl rfl) (iLightOk_p ⟨⟨_, _⟩, _, ⟨⟨_, _, _, _, _, _⟩, _⟩, ⟨_, _⟩, ⟨_, _⟩, _⟩ (by (first | assumption | omega | (simp; omega) | (simp_all; done) | (simp_all; omega))) (by (first | assumption | omega | (simp; omega) | (simp_all; done) | (simp_all; omega))) (by (first | assumption | omega | (simp; omega) | (simp_all; done) | (simp_all; omega)))) ?_) | (refine pcV (g := 98) (callable_of Tryz.func98 rfl rfl) (iBlockAt_p _ _ (by (first | assumption | omega | (simp; omega) | (simp_all; done) | (simp_all; omega)))) ?_)); (try simp (disch := omega) only [push_cast, seval, ok])) | ((with_reducible refine And.intro ?_ ?_); omega))
    all_goals ((with_reducible show PPostR _ _ _ _ _ _); refine finV ?_; (try simp only [push_cast, seval]))
  | true =>
  cases okl : chainOk l with
  | false =>
    rw [caught_bad (.inr okl)]
    refine pcalls_ofR okP Tryz.func38 rfl ?_
    simp only [Tryz.f38, List.length_cons, List.length_nil, Nat.reduceAdd, Nat.reduceSub, List.replicate_succ, List.replicate_zero, List.cons_append, List.nil_append, List.length_map]
    repeat' (first | with_reducible refine PWp.seq ?_ | with_reducible refine PWp.block ?_ | with_reducible refine PWp.region okP true ?_ | with_reducible refine PWp.draw (id := 7) okP true [0, 1, 2, 3, 4, 5, 6, 7, 8, 9, 10] (by kernel_rfl) ?_ | with_reducible (first | refine pops_nil ?_ | refine pany_nil ?_ | refine pthen_normal ?_ | refine pblock_normal ?_ | refine pthen_ret ?_ | refine pblock_ret ?_ | refine pthen_exit ?_ | refine pblock_here ?_ | refine pblock_there rfl ?_ | refine PWp.ret ?_ | refine PWp.exit ?_ | refine PWp.skip ?_) | ((with_reducible refine hK _ ?_); clear hK K) | ((with_reducible refine PWp.condI ?_); refine ⟨_, rfl, fun hg => ?_, fun hg => ?_⟩ <;> first | (exact absurd hg (by decide)) | ((try simp only [Bool.not_true, Bool.not_false] at hg); (try simp only [hg]); (try simp only [push_cast] at hg); (try exact absurd trivial hg); (try (exfalso; omega)))) | ((first | ((with_reducible refine pops_guard0 ?_); refine ⟨_, rfl, fun K hK => ⟨rfl, ?_⟩⟩) | ((with_reducible refine pD_g0 ?_); refine ⟨_, rfl, rfl, ?_⟩)); (try simp (disch := omega) only [push_cast, seval, ok, okl])) | ((with_reducible refine pany_I ?_); refine ⟨_, rfl, fun K hK => ?_⟩) | ((with_reducible refine pops_plain fun K hK => ?_); simp (disch := omega) only [push_cast, seval, ok, okl]) | ((first | ((with_reducible refine pD_y ?_ ?_); exact rfl) | ((with_reducible refine pD_x ?_ ?_); exact rfl)); simp (disch := omega) only [push_cast, seval, ok, okl]) | ((first | ((with_reducible refine pops_guard ?_); refine ⟨_, rfl, fun K hK => ⟨_, rfl, fun hg => ?_, fun hg => ?_⟩⟩) | ((first | ((with_reducible refine pD_gy ?_ ?_); exact rfl) | ((with_reducible refine pD_gx ?_ ?_); exact rfl)); refine ⟨_, rfl, _, rfl, fun hg => ?_, fun hg => ?_⟩)) <;> first | (exact absurd hg (by decide)) | ((try simp only [Bool.not_true, Bool.not_false] at hg); (try simp only [hg]); (try simp only [push_cast] at hg); (try exact absurd trivial hg); (try (exfalso; omega)); (try simp (disch := omega) only [push_cast, seval, ok, okl]))) | ((with_reducible show pcall _ _ _ _ _ _); (first | (refine pcV (g := 29) (callable_of Tryz.func29 rfl rfl) (iChainOk_p _ (by (first | assumption | omega | (simp; omega) | (simp_all; done) | (simp_all; omega))) (by assumption)) ?_) | (refine pcV (g := 58) (callable_of Tryz.func58 rfl rfl) (iLightOk_p ⟨⟨_, _⟩, _, ⟨⟨_, _, _, _, _, _⟩, _⟩, ⟨_, _⟩, ⟨_, _⟩, _⟩ (by (first | assumption | omega | (simp; omega) | (simp_all; done) | (simp_all; omega))) (by (first | assumption | omega | (simp; omega) | (simp_all; done) | (simp_all; omega))) (by (first | assumption | omega | (simp; omega) | (simp_all; done) | (simp_all; omega)))) ?_) | (refine pcV (g := 98) (callable_of Tryz.func98 rfl rfl) (iBlockAt_p _ _ (by (first | assumption | omega | (simp; omega) | (simp_all; done) | (simp_all; omega)))) ?_)); (try simp (disch := omega) only [push_cast, seval, ok, okl])) | ((with_reducible refine And.intro ?_ ?_); omega))
    all_goals ((with_reducible show PPostR _ _ _ _ _ _); refine finV ?_; (try simp only [push_cast, seval]))
  | true =>
  rw [caught_go ok okl]
  have f2 := (storeOk_iff.1 (lightOk_iff.1 ok).s).2.1
  refine pcalls_ofR okP Tryz.func38 rfl ?_
  simp only [Tryz.f38, List.length_cons, List.length_nil, Nat.reduceAdd, Nat.reduceSub, List.replicate_succ, List.replicate_zero, List.cons_append, List.nil_append, List.length_map]
  repeat' (first | with_reducible refine PWp.seq ?_ | with_reducible refine PWp.block ?_ | with_reducible refine PWp.region okP true ?_ | with_reducible refine PWp.draw (id := 7) okP true [0, 1, 2, 3, 4, 5, 6, 7, 8, 9, 10] (by kernel_rfl) ?_ | with_reducible (first | refine pops_nil ?_ | refine pany_nil ?_ | refine pthen_normal ?_ | refine pblock_normal ?_ | refine pthen_ret ?_ | refine pblock_ret ?_ | refine pthen_exit ?_ | refine pblock_here ?_ | refine pblock_there rfl ?_ | refine PWp.ret ?_ | refine PWp.exit ?_ | refine PWp.skip ?_) | ((with_reducible refine hK _ ?_); clear hK K) | ((with_reducible refine PWp.condI ?_); refine ⟨_, rfl, fun hg => ?_, fun hg => ?_⟩ <;> first | (exact absurd hg (by decide)) | ((try simp only [Bool.not_true, Bool.not_false] at hg); (try simp only [hg]); (try simp only [push_cast] at hg); (try exact absurd trivial hg); (try (exfalso; omega)))) | ((first | ((with_reducible refine pops_guard0 ?_); refine ⟨_, rfl, fun K hK => ⟨rfl, ?_⟩⟩) | ((with_reducible refine pD_g0 ?_); refine ⟨_, rfl, rfl, ?_⟩)); (try simp (disch := omega) only [push_cast, seval, ok, okl])) | ((with_reducible refine pany_I ?_); refine ⟨_, rfl, fun K hK => ?_⟩) | ((with_reducible refine pops_plain fun K hK => ?_); simp (disch := omega) only [push_cast, seval, ok, okl]) | ((first | ((with_reducible refine pD_y ?_ ?_); exact rfl) | ((with_reducible refine pD_x ?_ ?_); exact rfl)); simp (disch := omega) only [push_cast, seval, ok, okl]) | ((first | ((with_reducible refine pops_guard ?_); refine ⟨_, rfl, fun K hK => ⟨_, rfl, fun hg => ?_, fun hg => ?_⟩⟩) | ((first | ((with_reducible refine pD_gy ?_ ?_); exact rfl) | ((with_reducible refine pD_gx ?_ ?_); exact rfl)); refine ⟨_, rfl, _, rfl, fun hg => ?_, fun hg => ?_⟩)) <;> first | (exact absurd hg (by decide)) | ((try simp only [Bool.not_true, Bool.not_false] at hg); (try simp only [hg]); (try simp only [push_cast] at hg); (try exact absurd trivial hg); (try (exfalso; omega)); (try simp (disch := omega) only [push_cast, seval, ok, okl]))) | ((with_reducible show pcall _ _ _ _ _ _); (first | (refine pcV (g := 29) (callable_of Tryz.func29 rfl rfl) (iChainOk_p _ (by (first | assumption | omega | (simp; omega) | (simp_all; done) | (simp_all; omega))) (by assumption)) ?_) | (refine pcV (g := 58) (callable_of Tryz.func58 rfl rfl) (iLightOk_p ⟨⟨_, _⟩, _, ⟨⟨_, _, _, _, _, _⟩, _⟩, ⟨_, _⟩, ⟨_, _⟩, _⟩ (by (first | assumption | omega | (simp; omega) | (simp_all; done) | (simp_all; omega))) (by (first | assumption | omega | (simp; omega) | (simp_all; done) | (simp_all; omega))) (by (first | assumption | omega | (simp; omega) | (simp_all; done) | (simp_all; omega)))) ?_) | (refine pcV (g := 98) (callable_of Tryz.func98 rfl rfl) (iBlockAt_p _ _ (by (first | assumption | omega | (simp; omega) | (simp_all; done) | (simp_all; omega)))) ?_)); (try simp (disch := omega) only [push_cast, seval, ok, okl])) | ((with_reducible refine And.intro ?_ ?_); omega))
  refine PWp.loopK (α := Nat) (fun k => [(20, .val (.int .i64 (k : Int)))]) [0, 2, 3, 4, 5, 6, 7, 8, 9, 10, 11, 12, 13, 14, 15, 16, 17, 21, 22, 23, 24, 25, 26, 27, 28, 29, 30, 31, 32, 33, 34, 35, 36, 37, 38, 39] (fun k => []) (fun k => k ≤ c.fStore.fHeads.length ∧ allTo (capt l c.fStore.fHeads) k) (fun k => c.fStore.fHeads.length - k) (0) (⟨Nat.zero_le _, allTo_zero⟩) (by (refine ⟨[], ?_, ?_, ?_, ?_⟩; (· ((try simp (disch := omega) only [push_cast, seval]); (repeat' (first | exact trivial | exact rfl | refine And.intro ?_ ?_ | omega)))); (· ((try simp (disch := omega) only [push_cast, seval]); (repeat' (first | exact trivial | exact rfl | refine And.intro ?_ ?_ | omega)))); (· exact rfl); (· (first | exact trivial | exact ⟨rfl, trivial⟩ | exact ⟨rfl, rfl, trivial⟩)))) ?_
  intro k ρ hI
  (try dsimp only at hI)
  refine PWp.at (tm' := ?_) (H' := ?_) ?_ ?_ ?_; rotate_left 2; (· ((try simp only [push_cast, seval]); exact rfl)); (· ((try dsimp only); exact rfl))
  obtain ⟨hk, hA⟩ := hI
  by_cases hlt : k < c.fStore.fHeads.length
  · obtain ⟨x, hx⟩ : ∃ x, c.fStore.fHeads[k]? = some x := ⟨_, List.getElem?_eq_getElem hlt⟩
    have bad := capt_no (l := l) hx
    have e := capt_get (l := l) hx
    by_cases hn : blockIdx l x.fHeight < 0
    · have hf := caught_none hn
      rw [bad hf]
      repeat' (first | with_reducible refine PWp.seq ?_ | with_reducible refine PWp.block ?_ | with_reducible refine PWp.region okP true ?_ | with_reducible refine PWp.draw (id := 7) okP true [0, 1, 2, 3, 4, 5, 6, 7, 8, 9, 10] (by kernel_rfl) ?_ | with_reducible (first | refine pops_nil ?_ | refine pany_nil ?_ | refine pthen_normal ?_ | refine pblock_normal ?_ | refine pthen_ret ?_ | refine pblock_ret ?_ | refine pthen_exit ?_ | refine pblock_here ?_ | refine pblock_there rfl ?_ | refine PWp.ret ?_ | refine PWp.exit ?_ | refine PWp.skip ?_) | ((with_reducible refine hK _ ?_); clear hK K) | ((with_reducible refine PWp.condI ?_); refine ⟨_, rfl, fun hg => ?_, fun hg => ?_⟩ <;> first | (exact absurd hg (by decide)) | ((try simp only [Bool.not_true, Bool.not_false] at hg); (try simp only [hg]); (try simp only [push_cast] at hg); (try exact absurd trivial hg); (try (exfalso; omega)))) | ((first | ((with_reducible refine pops_guard0 ?_); refine ⟨_, rfl, fun K hK => ⟨rfl, ?_⟩⟩) | ((with_reducible refine pD_g0 ?_); refine ⟨_, rfl, rfl, ?_⟩)); (try simp (disch := omega) only [push_cast, seval, hx])) | ((with_reducible refine pany_I ?_); refine ⟨_, rfl, fun K hK => ?_⟩) | ((with_reducible refine pops_plain fun K hK => ?_); simp (disch := omega) only [push_cast, seval, hx]) | ((first | ((with_reducible refine pD_y ?_ ?_); exact rfl) | ((with_reducible refine pD_x ?_ ?_); exact rfl)); simp (disch := omega) only [push_cast, seval, hx]) | ((first | ((with_reducible refine pops_guard ?_); refine ⟨_, rfl, fun K hK => ⟨_, rfl, fun hg => ?_, fun hg => ?_⟩⟩) | ((first | ((with_reducible refine pD_gy ?_ ?_); exact rfl) | ((with_reducible refine pD_gx ?_ ?_); exact rfl)); refine ⟨_, rfl, _, rfl, fun hg => ?_, fun hg => ?_⟩)) <;> first | (exact absurd hg (by decide)) | ((try simp only [Bool.not_true, Bool.not_false] at hg); (try simp only [hg]); (try simp only [push_cast] at hg); (try exact absurd trivial hg); (try (exfalso; omega)); (try simp (disch := omega) only [push_cast, seval, hx]))) | ((with_reducible show pcall _ _ _ _ _ _); (first | (refine pcV (g := 29) (callable_of Tryz.func29 rfl rfl) (iChainOk_p _ (by (first | assumption | omega | (simp; omega) | (simp_all; done) | (simp_all; omega))) (by assumption)) ?_) | (refine pcV (g := 58) (callable_of Tryz.func58 rfl rfl) (iLightOk_p ⟨⟨_, _⟩, _, ⟨⟨_, _, _, _, _, _⟩, _⟩, ⟨_, _⟩, ⟨_, _⟩, _⟩ (by (first | assumption | omega | (simp; omega) | (simp_all; done) | (simp_all; omega))) (by (first | assumption | omega | (simp; omega) | (simp_all; done) | (simp_all; omega))) (by (first | assumption | omega | (simp; omega) | (simp_all; done) | (simp_all; omega)))) ?_) | (refine pcV (g := 98) (callable_of Tryz.func98 rfl rfl) (iBlockAt_p _ _ (by (first | assumption | omega | (simp; omega) | (simp_all; done) | (simp_all; omega)))) ?_)); (try simp (disch := omega) only [push_cast, seval, hx])) | ((with_reducible refine And.intro ?_ ?_); omega))
      all_goals ((with_reducible show PPostR _ _ _ _ _ _); refine finV ?_; (try simp only [push_cast, seval]))
    · obtain ⟨j, b, hj, hjl, hb, hp⟩ := idx_at hn
      have hh : b.fHead.fHeight = x.fHeight := by simpa using hp
      have hc := caught_hit (h := x) okl hb hh
      have hj' : blockIdx l x.fHeight = (j : Int) := hj
      obtain ⟨bh, vs, nx, ⟨ch, cr, ci, cs⟩⟩ := b
      dsimp only at hh hc
      repeat' (first | with_reducible refine PWp.seq ?_ | with_reducible refine PWp.block ?_ | with_reducible refine PWp.region okP true ?_ | with_reducible refine PWp.draw (id := 7) okP true [0, 1, 2, 3, 4, 5, 6, 7, 8, 9, 10] (by kernel_rfl) ?_ | with_reducible (first | refine pops_nil ?_ | refine pany_nil ?_ | refine pthen_normal ?_ | refine pblock_normal ?_ | refine pthen_ret ?_ | refine pblock_ret ?_ | refine pthen_exit ?_ | refine pblock_here ?_ | refine pblock_there rfl ?_ | refine PWp.ret ?_ | refine PWp.exit ?_ | refine PWp.skip ?_) | ((with_reducible refine hK _ ?_); clear hK K) | ((with_reducible refine PWp.condI ?_); refine ⟨_, rfl, fun hg => ?_, fun hg => ?_⟩ <;> first | (exact absurd hg (by decide)) | ((try simp only [Bool.not_true, Bool.not_false] at hg); (try simp only [hg]); (try simp only [push_cast] at hg); (try exact absurd trivial hg); (try (exfalso; omega)))) | ((first | ((with_reducible refine pops_guard0 ?_); refine ⟨_, rfl, fun K hK => ⟨rfl, ?_⟩⟩) | ((with_reducible refine pD_g0 ?_); refine ⟨_, rfl, rfl, ?_⟩)); (try simp (disch := omega) only [push_cast, seval, hx, hj', hb])) | ((with_reducible refine pany_I ?_); refine ⟨_, rfl, fun K hK => ?_⟩) | ((with_reducible refine pops_plain fun K hK => ?_); simp (disch := omega) only [push_cast, seval, hx, hj', hb]) | ((first | ((with_reducible refine pD_y ?_ ?_); exact rfl) | ((with_reducible refine pD_x ?_ ?_); exact rfl)); simp (disch := omega) only [push_cast, seval, hx, hj', hb]) | ((first | ((with_reducible refine pops_guard ?_); refine ⟨_, rfl, fun K hK => ⟨_, rfl, fun hg => ?_, fun hg => ?_⟩⟩) | ((first | ((with_reducible refine pD_gy ?_ ?_); exact rfl) | ((with_reducible refine pD_gx ?_ ?_); exact rfl)); refine ⟨_, rfl, _, rfl, fun hg => ?_, fun hg => ?_⟩)) <;> first | (exact absurd hg (by decide)) | ((try simp only [Bool.not_true, Bool.not_false] at hg); (try simp only [hg]); (try simp only [push_cast] at hg); (try exact absurd trivial hg); (try (exfalso; omega)); (try simp (disch := omega) only [push_cast, seval, hx, hj', hb]))) | ((with_reducible show pcall _ _ _ _ _ _); (first | (refine pcV (g := 29) (callable_of Tryz.func29 rfl rfl) (iChainOk_p _ (by (first | assumption | omega | (simp; omega) | (simp_all; done) | (simp_all; omega))) (by assumption)) ?_) | (refine pcV (g := 58) (callable_of Tryz.func58 rfl rfl) (iLightOk_p ⟨⟨_, _⟩, _, ⟨⟨_, _, _, _, _, _⟩, _⟩, ⟨_, _⟩, ⟨_, _⟩, _⟩ (by (first | assumption | omega | (simp; omega) | (simp_all; done) | (simp_all; omega))) (by (first | assumption | omega | (simp; omega) | (simp_all; done) | (simp_all; omega))) (by (first | assumption | omega | (simp; omega) | (simp_all; done) | (simp_all; omega)))) ?_) | (refine pcV (g := 98) (callable_of Tryz.func98 rfl rfl) (iBlockAt_p _ _ (by (first | assumption | omega | (simp; omega) | (simp_all; done) | (simp_all; omega)))) ?_)); (try simp (disch := omega) only [push_cast, seval, hx, hj', hb])) | ((with_reducible refine And.intro ?_ ?_); omega))
      all_goals first
        | (((with_reducible show PPostR _ _ _ _ _ _); refine finV ?_; (try simp only [push_cast, seval])); rw [bad (by rw [hc]; simp_all [headEq])])
        | ((refine ⟨k + 1, by ((try dsimp only); omega), ?_, by (refine ⟨[], ?_, ?_, ?_, ?_⟩; (· ((try simp (disch := omega) only [push_cast, seval]); (repeat' (first | exact trivial | exact rfl | refine And.intro ?_ ?_ | omega)))); (· ((try simp (disch := omega) only [push_cast, seval]); (repeat' (first | exact trivial | exact rfl | refine And.intro ?_ ?_ | omega)))); (· exact rfl); (· (first | exact trivial | exact ⟨rfl, trivial⟩ | exact ⟨rfl, rfl, trivial⟩)))⟩); exact ⟨by omega, allTo_succ hA (by rw [e, hc]; simp_all [headEq])⟩)
  obtain rfl : k = c.fStore.fHeads.length := by omega
  repeat' (first | with_reducible refine PWp.seq ?_ | with_reducible refine PWp.block ?_ | with_reducible refine PWp.region okP true ?_ | with_reducible refine PWp.draw (id := 7) okP true [0, 1, 2, 3, 4, 5, 6, 7, 8, 9, 10] (by kernel_rfl) ?_ | with_reducible (first | refine pops_nil ?_ | refine pany_nil ?_ | refine pthen_normal ?_ | refine pblock_normal ?_ | refine pthen_ret ?_ | refine pblock_ret ?_ | refine pthen_exit ?_ | refine pblock_here ?_ | refine pblock_there rfl ?_ | refine PWp.ret ?_ | refine PWp.exit ?_ | refine PWp.skip ?_) | ((with_reducible refine hK _ ?_); clear hK K) | ((with_reducible refine PWp.condI ?_); refine ⟨_, rfl, fun hg => ?_, fun hg => ?_⟩ <;> first | (exact absurd hg (by decide)) | ((try simp only [Bool.not_true, Bool.not_false] at hg); (try simp only [hg]); (try simp only [push_cast] at hg); (try exact absurd trivial hg); (try (exfalso; omega)))) | ((first | ((with_reducible refine pops_guard0 ?_); refine ⟨_, rfl, fun K hK => ⟨rfl, ?_⟩⟩) | ((with_reducible refine pD_g0 ?_); refine ⟨_, rfl, rfl, ?_⟩)); (try simp (disch := omega) only [push_cast, seval])) | ((with_reducible refine pany_I ?_); refine ⟨_, rfl, fun K hK => ?_⟩) | ((with_reducible refine pops_plain fun K hK => ?_); simp (disch := omega) only [push_cast, seval]) | ((first | ((with_reducible refine pD_y ?_ ?_); exact rfl) | ((with_reducible refine pD_x ?_ ?_); exact rfl)); simp (disch := omega) only [push_cast, seval]) | ((first | ((with_reducible refine pops_guard ?_); refine ⟨_, rfl, fun K hK => ⟨_, rfl, fun hg => ?_, fun hg => ?_⟩⟩) | ((first | ((with_reducible refine pD_gy ?_ ?_); exact rfl) | ((with_reducible refine pD_gx ?_ ?_); exact rfl)); refine ⟨_, rfl, _, rfl, fun hg => ?_, fun hg => ?_⟩)) <;> first | (exact absurd hg (by decide)) | ((try simp only [Bool.not_true, Bool.not_false] at hg); (try simp only [hg]); (try simp only [push_cast] at hg); (try exact absurd trivial hg); (try (exfalso; omega)); (try simp (disch := omega) only [push_cast, seval]))) | ((with_reducible show pcall _ _ _ _ _ _); (first | (refine pcV (g := 29) (callable_of Tryz.func29 rfl rfl) (iChainOk_p _ (by (first | assumption | omega | (simp; omega) | (simp_all; done) | (simp_all; omega))) (by assumption)) ?_) | (refine pcV (g := 58) (callable_of Tryz.func58 rfl rfl) (iLightOk_p ⟨⟨_, _⟩, _, ⟨⟨_, _, _, _, _, _⟩, _⟩, ⟨_, _⟩, ⟨_, _⟩, _⟩ (by (first | assumption | omega | (simp; omega) | (simp_all; done) | (simp_all; omega))) (by (first | assumption | omega | (simp; omega) | (simp_all; done) | (simp_all; omega))) (by (first | assumption | omega | (simp; omega) | (simp_all; done) | (simp_all; omega)))) ?_) | (refine pcV (g := 98) (callable_of Tryz.func98 rfl rfl) (iBlockAt_p _ _ (by (first | assumption | omega | (simp; omega) | (simp_all; done) | (simp_all; omega)))) ?_)); (try simp (disch := omega) only [push_cast, seval])) | ((with_reducible refine And.intro ?_ ?_); omega))
  ((with_reducible show PPostR _ _ _ _ _ _); refine finV ?_; (try simp only [push_cast, seval]))
  rw [capt_end hA]
def hasTo (l : List GBlock) (h : GHeader) (k : Nat) : Bool := (l.take k).any fun b => headEq b.fHead h
theorem hasTo_succ {l : List GBlock} {h : GHeader} {k : Nat} {b : GBlock} (hb : l[k]? = some b) : hasTo l h (k + 1) = (hasTo l h k || headEq b.fHead h) := by
  unfold hasTo
  rw [List.take_add_one, hb]
  simp
theorem hasTo_end {l : List GBlock} {h : GHeader} : hasTo l h l.length = hasHead l h := by unfold hasTo; rw [List.take_length]; rfl
set_option maxHeartbeats 2000000 in
theorem sCaught_p (c : GLight) (l : List GBlock) (hc : SmC c) (hl : l.length ≤ 2000000) (hs : ∀ b ∈ l, SmB b) : PCalls Tryz.prog 37 [.agg (pLight c), .sl 12 (l.map pBlock)] [] (RV (.val (.bool (mCaught c l)))) := by
  obtain ⟨c1, c2, c3⟩ := hc
  cases ok : lightOk c with
  | false =>
    rw [caught_bad (.inl ok)]
    refine pcalls_ofR okP Tryz.func37 rfl ?_
    simp only [Tryz.f37, List.length_cons, List.length_nil, Nat.reduceAdd, Nat.reduceSub, List.replicate_succ, List.replicate_zero, List.cons_append, List.nil_append, List.length_map]
    repeat' (first | with_reducible refine PWp.seq ?_ | with_reducible refine PWp.block ?_ | with_reducible refine PWp.region okP true ?_ | with_reducible refine PWp.draw (id := 10) okP true [0, 1, 2, 3, 4, 5, 6, 7, 8, 9, 10, 11, 12, 13, 14, 15] (by kernel_rfl) ?_ | with_reducible (first | refine pops_nil ?_ | refine pany_nil ?_ | refine pthen_normal ?_ | refine pblock_normal ?_ | refine pthen_ret ?_ | refine pblock_ret ?_ | refine pthen_exit ?_ | refine pblock_here ?_ | refine pblock_there rfl ?_ | refine PWp.ret ?_ | refine PWp.exit ?_ | refine PWp.skip ?_) | ((with_reducible refine hK _ ?_); clear hK K) | ((with_reducible refine PWp.condI ?_); refine ⟨_, rfl, fun hg => ?_, fun hg => ?_⟩ <;> first | (exact absurd hg (by decide)) | ((try simp only [Bool.not_true, Bool.not_false] at hg); (try simp only [hg]); (try simp only [push_cast] at hg); (try exact absurd trivial hg); (try (exfalso; omega)))) | ((first | ((with_reducible refine pops_guard0 ?_); refine ⟨_, rfl, fun K hK => ⟨rfl, ?_⟩⟩) | ((with_reducible refine pD_g0 ?_); refine ⟨_, rfl, rfl, ?_⟩)); (try simp (disch := omega) only [push_cast, seval, ok])) | ((with_reducible refine pany_I ?_); refine ⟨_, rfl, fun K hK => ?_⟩) | ((with_reducible refine pops_plain fun K hK => ?_); simp (disch := omega) only [push_cast, seval, ok]) | ((first | ((with_reducible refine pD_y ?_ ?_); exact rfl) | ((with_reducible refine pD_x ?_ ?_); exact rfl)); simp (disch := omega) only [push_cast, seval, ok]) | ((first | ((with_reducible refine pops_guard ?_); refine ⟨_, rfl, fun K hK => ⟨_, rfl, fun hg => ?_, fun hg => ?_⟩⟩) | ((first | ((with_reducible refine pD_gy ?_ ?_); exact rfl) | ((with_reducible refine pD_gx ?_ ?_); exact rfl)); refine ⟨_, rfl, _, rfl, fun hg => ?_, fun hg => ?_⟩)) <;> first | (exact absurd hg (by decide)) | ((try simp only [Bool.not_true, Bool.not_false] at hg); (try simp only [hg]); (try simp only [push_cast] at hg); (try exact absurd trivial hg); (try (exfalso; omega)); (try simp (disch := omega) only [push_cast, seval, ok]))) | ((with_reducible show pcall _ _ _ _ _ _); (first | (refine pcV (g := 27) (callable_of Tryz.func27 rfl rfl) (sChainOk_p _ (by (first | assumption | omega | (simp; omega) | (simp_all; done) | (simp_all; omega))) (by assumption)) ?_) | (refine pcV (g := 53) (callable_of Tryz.func53 rfl rfl) (sLightOk_p ⟨⟨_, _⟩, _, ⟨⟨_, _, _, _, _, _⟩, _⟩, ⟨_, _⟩, ⟨_, _⟩, _⟩ (by (first | assumption | omega | (simp; omega) | (simp_all; done) | (simp_all; omega))) (by (first | assumption | omega | (simp; omega) | (simp_all; done) | (simp_all; omega))) (by (first | assumption | omega | (simp; omega) | (simp_all; done) | (simp_all; omega)))) ?_)); (try simp (disch := omega) only [push_cast, seval, ok])) | ((with_reducible refine And.intro ?_ ?_); omega))
    all_goals ((with_reducible show PPostR _ _ _ _ _ _); refine finV ?_; (try simp only [push_cast, seval]))
  | true =>
  cases okl : chainOk l with
  | false =>
    rw [caught_bad (.inr okl)]
    refine pcalls_ofR okP Tryz.func37 rfl ?_
    simp only [Tryz.f37, List.length_cons, List.length_nil, Nat.reduceAdd, Nat.reduceSub, List.replicate_succ, List.replicate_zero, List.cons_append, List.nil_append, List.length_map]
    repeat' (first | with_reducible refine PWp.seq ?_ | with_reducible refine PWp.block ?_ | with_reducible refine PWp.region okP true ?_ | with_reducible refine PWp.draw (id := 10) okP true [0, 1, 2, 3, 4, 5, 6, 7, 8, 9, 10, 11, 12, 13, 14, 15] (by kernel_rfl) ?_ | with_reducible (first | refine pops_nil ?_ | refine pany_nil ?_ | refine pthen_normal ?_ | refine pblock_normal ?_ | refine pthen_ret ?_ | refine pblock_ret ?_ | refine pthen_exit ?_ | refine pblock_here ?_ | refine pblock_there rfl ?_ | refine PWp.ret ?_ | refine PWp.exit ?_ | refine PWp.skip ?_) | ((with_reducible refine hK _ ?_); clear hK K) | ((with_reducible refine PWp.condI ?_); refine ⟨_, rfl, fun hg => ?_, fun hg => ?_⟩ <;> first | (exact absurd hg (by decide)) | ((try simp only [Bool.not_true, Bool.not_false] at hg); (try simp only [hg]); (try simp only [push_cast] at hg); (try exact absurd trivial hg); (try (exfalso; omega)))) | ((first | ((with_reducible refine pops_guard0 ?_); refine ⟨_, rfl, fun K hK => ⟨rfl, ?_⟩⟩) | ((with_reducible refine pD_g0 ?_); refine ⟨_, rfl, rfl, ?_⟩)); (try simp (disch := omega) only [push_cast, seval, ok, okl])) | ((with_reducible refine pany_I ?_); refine ⟨_, rfl, fun K hK => ?_⟩) | ((with_reducible refine pops_plain fun K hK => ?_); simp (disch := omega) only [push_cast, seval, ok, okl]) | ((first | ((with_reducible refine pD_y ?_ ?_); exact rfl) | ((with_reducible refine pD_x ?_ ?_); exact rfl)); simp (disch := omega) only [push_cast, seval, ok, okl]) | ((first | ((with_reducible refine pops_guard ?_); refine ⟨_, rfl, fun K hK => ⟨_, rfl, fun hg => ?_, fun hg => ?_⟩⟩) | ((first | ((with_reducible refine pD_gy ?_ ?_); exact rfl) | ((with_reducible refine pD_gx ?_ ?_); exact rfl)); refine ⟨_, rfl, _, rfl, fun hg => ?_, fun hg => ?_⟩)) <;> first | (exact absurd hg (by decide)) | ((try simp only [Bool.not_true, Bool.not_false] at hg); (try simp only [hg]); (try simp only [push_cast] at hg); (try exact absurd trivial hg); (try (exfalso; omega)); (try simp (disch := omega) only [push_cast, seval, ok, okl]))) | ((with_reducible show pcall _ _ _ _ _ _); (first | (refine pcV (g := 27) (callable_of Tryz.func27 rfl rfl) (sChainOk_p _ (by (first | assumption | omega | (simp; omega) | (simp_all; done) | (simp_all; omega))) (by assumption)) ?_) | (refine pcV (g := 53) (callable_of Tryz.func53 rfl rfl) (sLightOk_p ⟨⟨_, _⟩, _, ⟨⟨_, _, _, _, _, _⟩, _⟩, ⟨_, _⟩, ⟨_, _⟩, _⟩ (by (first | assumption | omega | (simp; omega) | (simp_all; done) | (simp_all; omega))) (by (first | assumption | omega | (simp; omega) | (simp_all; done) | (simp_all; omega))) (by (first | assumption | omega | (simp; omega) | (simp_all; done) | (simp_all; omega)))) ?_)); (try simp (disch := omega) only [push_cast, seval, ok, okl])) | ((with_reducible refine And.intro ?_ ?_); omega))
    all_goals ((with_reducible show PPostR _ _ _ _ _ _); refine finV ?_; (try simp only [push_cast, seval]))
  | true =>
  rw [caught_go ok okl]
  have f2 := (storeOk_iff.1 (lightOk_iff.1 ok).s).2.1
  obtain ⟨⟨tp, tl⟩, st, ⟨⟨h1, h2, h3, h4, h5, h6⟩, nx⟩, ⟨hs_, sy⟩, ⟨ps, tu⟩, now⟩ := c
  dsimp only at c1 c2 c3 f2 ⊢
  refine pcalls_ofR okP Tryz.func37 rfl ?_
  simp only [Tryz.f37, List.length_cons, List.length_nil, Nat.reduceAdd, Nat.reduceSub, List.replicate_succ, List.replicate_zero, List.cons_append, List.nil_append, List.length_map]
  repeat' (first | with_reducible refine PWp.seq ?_ | with_reducible refine PWp.block ?_ | with_reducible refine PWp.region okP true ?_ | with_reducible refine PWp.draw (id := 10) okP true [0, 1, 2, 3, 4, 5, 6, 7, 8, 9, 10, 11, 12, 13, 14, 15] (by kernel_rfl) ?_ | with_reducible (first | refine pops_nil ?_ | refine pany_nil ?_ | refine pthen_normal ?_ | refine pblock_normal ?_ | refine pthen_ret ?_ | refine pblock_ret ?_ | refine pthen_exit ?_ | refine pblock_here ?_ | refine pblock_there rfl ?_ | refine PWp.ret ?_ | refine PWp.exit ?_ | refine PWp.skip ?_) | ((with_reducible refine hK _ ?_); clear hK K) | ((with_reducible refine PWp.condI ?_); refine ⟨_, rfl, fun hg => ?_, fun hg => ?_⟩ <;> first | (exact absurd hg (by decide)) | ((try simp only [Bool.not_true, Bool.not_false] at hg); (try simp only [hg]); (try simp only [push_cast] at hg); (try exact absurd trivial hg); (try (exfalso; omega)))) | ((first | ((with_reducible refine pops_guard0 ?_); refine ⟨_, rfl, fun K hK => ⟨rfl, ?_⟩⟩) | ((with_reducible refine pD_g0 ?_); refine ⟨_, rfl, rfl, ?_⟩)); (try simp (disch := omega) only [push_cast, seval, ok, okl])) | ((with_reducible refine pany_I ?_); refine ⟨_, rfl, fun K hK => ?_⟩) | ((with_reducible refine pops_plain fun K hK => ?_); simp (disch := omega) only [push_cast, seval, ok, okl]) | ((first | ((with_reducible refine pD_y ?_ ?_); exact rfl) | ((with_reducible refine pD_x ?_ ?_); exact rfl)); simp (disch := omega) only [push_cast, seval, ok, okl]) | ((first | ((with_reducible refine pops_guard ?_); refine ⟨_, rfl, fun K hK => ⟨_, rfl, fun hg => ?_, fun hg => ?_⟩⟩) | ((first | ((with_reducible refine pD_gy ?_ ?_); exact rfl) | ((with_reducible refine pD_gx ?_ ?_); exact rfl)); refine ⟨_, rfl, _, rfl, fun hg => ?_, fun hg => ?_⟩)) <;> first | (exact absurd hg (by decide)) | ((try simp only [Bool.not_true, Bool.not_false] at hg); (try simp only [hg]); (try simp only [push_cast] at hg); (try exact absurd trivial hg); (try (exfalso; omega)); (try simp (disch := omega) only [push_cast, seval, ok, okl]))) | ((with_reducible show pcall _ _ _ _ _ _); (first | (refine pcV (g := 27) (callable_of Tryz.func27 rfl rfl) (sChainOk_p _ (by (first | assumption | omega | (simp; omega) | (simp_all; done) | (simp_all; omega))) (by assumption)) ?_) | (refine pcV (g := 53) (callable_of Tryz.func53 rfl rfl) (sLightOk_p ⟨⟨_, _⟩, _, ⟨⟨_, _, _, _, _, _⟩, _⟩, ⟨_, _⟩, ⟨_, _⟩, _⟩ (by (first | assumption | omega | (simp; omega) | (simp_all; done) | (simp_all; omega))) (by (first | assumption | omega | (simp; omega) | (simp_all; done) | (simp_all; omega))) (by (first | assumption | omega | (simp; omega) | (simp_all; done) | (simp_all; omega)))) ?_)); (try simp (disch := omega) only [push_cast, seval, ok, okl])) | ((with_reducible refine And.intro ?_ ?_); omega))
  refine PWp.loopK (α := Nat) (fun k => [(2, .ptr 0 0), (5, .val (.int .i64 (k : Int)))]) [0, 3, 4, 6, 7, 8, 9, 10, 11, 12, 13, 14, 15, 16, 17, 18, 19, 20, 21, 22, 23, 24, 25, 26, 27, 28, 29, 30, 31, 32, 33, 34, 35, 36, 37, 38, 39, 40, 41, 42, 43, 44, 45, 46] (fun k => [some (.box (pLight ⟨⟨tp, tl⟩, st, ⟨⟨h1, h2, h3, h4, h5, h6⟩, nx⟩, ⟨hs_, sy⟩, ⟨ps, tu⟩, now⟩))]) (fun k => k ≤ hs_.length ∧ allTo (capt l hs_) k) (fun k => hs_.length - k) (0) (⟨Nat.zero_le _, allTo_zero⟩) (by (refine ⟨[?_], ?_, ?_, ?_, ?_⟩; rotate_left 1; (· ((try simp (disch := omega) only [push_cast, seval]); (repeat' (first | exact trivial | exact rfl | refine And.intro ?_ ?_ | omega)))); (· ((try simp (disch := omega) only [push_cast, seval]); (repeat' (first | exact trivial | exact rfl | refine And.intro ?_ ?_ | omega)))); (· exact rfl); (· (first | exact trivial | exact ⟨rfl, trivial⟩ | exact ⟨rfl, rfl, trivial⟩)))) ?_
  intro k ρ hI
  (try dsimp only at hI)
  refine PWp.at (tm' := ?_) (H' := ?_) ?_ ?_ ?_; rotate_left 2; (· ((try simp only [push_cast, seval]); exact rfl)); (· ((try dsimp only); exact rfl))
  obtain ⟨hk, hA⟩ := hI
  by_cases hlt : k < hs_.length
  · obtain ⟨x, hx⟩ : ∃ x, hs_[k]? = some x := ⟨_, List.getElem?_eq_getElem hlt⟩
    have bad := capt_no (l := l) hx
    have e := capt_get (l := l) hx
    repeat' (first | with_reducible refine PWp.seq ?_ | with_reducible refine PWp.block ?_ | with_reducible refine PWp.region okP true ?_ | with_reducible refine PWp.draw (id := 10) okP true [0, 1, 2, 3, 4, 5, 6, 7, 8, 9, 10, 11, 12, 13, 14, 15] (by kernel_rfl) ?_ | with_reducible (first | refine pops_nil ?_ | refine pany_nil ?_ | refine pthen_normal ?_ | refine pblock_normal ?_ | refine pthen_ret ?_ | refine pblock_ret ?_ | refine pthen_exit ?_ | refine pblock_here ?_ | refine pblock_there rfl ?_ | refine PWp.ret ?_ | refine PWp.exit ?_ | refine PWp.skip ?_) | ((with_reducible refine hK _ ?_); clear hK K) | ((with_reducible refine PWp.condI ?_); refine ⟨_, rfl, fun hg => ?_, fun hg => ?_⟩ <;> first | (exact absurd hg (by decide)) | ((try simp only [Bool.not_true, Bool.not_false] at hg); (try simp only [hg]); (try simp only [push_cast] at hg); (try exact absurd trivial hg); (try (exfalso; omega)))) | ((first | ((with_reducible refine pops_guard0 ?_); refine ⟨_, rfl, fun K hK => ⟨rfl, ?_⟩⟩) | ((with_reducible refine pD_g0 ?_); refine ⟨_, rfl, rfl, ?_⟩)); (try simp (disch := omega) only [push_cast, seval, hx])) | ((with_reducible refine pany_I ?_); refine ⟨_, rfl, fun K hK => ?_⟩) | ((with_reducible refine pops_plain fun K hK => ?_); simp (disch := omega) only [push_cast, seval, hx]) | ((first | ((with_reducible refine pD_y ?_ ?_); exact rfl) | ((with_reducible refine pD_x ?_ ?_); exact rfl)); simp (disch := omega) only [push_cast, seval, hx]) | ((first | ((with_reducible refine pops_guard ?_); refine ⟨_, rfl, fun K hK => ⟨_, rfl, fun hg => ?_, fun hg => ?_⟩⟩) | ((first | ((with_reducible refine pD_gy ?_ ?_); exact rfl) | ((with_reducible refine pD_gx ?_ ?_); exact rfl)); refine ⟨_, rfl, _, rfl, fun hg => ?_, fun hg => ?_⟩)) <;> first | (exact absurd hg (by decide)) | ((try simp only [Bool.not_true, Bool.not_false] at hg); (try simp only [hg]); (try simp only [push_cast] at hg); (try exact absurd trivial hg); (try (exfalso; omega)); (try simp (disch := omega) only [push_cast, seval, hx]))) | ((with_reducible show pcall _ _ _ _ _ _); (first | (refine pcV (g := 27) (callable_of Tryz.func27 rfl rfl) (sChainOk_p _ (by (first | assumption | omega | (simp; omega) | (simp_all; done) | (simp_all; omega))) (by assumption)) ?_) | (refine pcV (g := 53) (callable_of Tryz.func53 rfl rfl) (sLightOk_p ⟨⟨_, _⟩, _, ⟨⟨_, _, _, _, _, _⟩, _⟩, ⟨_, _⟩, ⟨_, _⟩, _⟩ (by (first | assumption | omega | (simp; omega) | (simp_all; done) | (simp_all; omega))) (by (first | assumption | omega | (simp; omega) | (simp_all; done) | (simp_all; omega))) (by (first | assumption | omega | (simp; omega) | (simp_all; done) | (simp_all; omega)))) ?_)); (try simp (disch := omega) only [push_cast, seval, hx])) | ((with_reducible refine And.intro ?_ ?_); omega))
    refine PWp.loopK (α := Nat) (fun j => [(2, .ptr 0 0), (5, .val (.int .i64 (k : Int))), (6, .val (.bool (hasTo l x j))), (7, .val (.int .i64 (j : Int)))]) [0, 3, 8, 9, 10, 11, 12, 13, 14, 15, 24, 25, 26, 27, 28, 29, 30, 31, 32, 33, 34, 35, 36, 37, 38, 39, 40, 41, 42, 43, 44] (fun j => [some (.box (pLight ⟨⟨tp, tl⟩, st, ⟨⟨h1, h2, h3, h4, h5, h6⟩, nx⟩, ⟨hs_, sy⟩, ⟨ps, tu⟩, now⟩))]) (fun j => j ≤ l.length) (fun j => l.length - j) (0) (Nat.zero_le _) (by (refine ⟨[?_], ?_, ?_, ?_, ?_⟩; rotate_left 1; (· ((try simp (disch := omega) only [push_cast, seval]); (repeat' (first | exact trivial | exact rfl | refine And.intro ?_ ?_ | omega)))); (· ((try simp (disch := omega) only [push_cast, seval]); (repeat' (first | exact trivial | exact rfl | refine And.intro ?_ ?_ | omega)))); (· exact rfl); (· (first | exact trivial | exact ⟨rfl, trivial⟩ | exact ⟨rfl, rfl, trivial⟩)))) ?_
    intro j ρ hI
    (try dsimp only at hI)
    refine PWp.at (tm' := ?_) (H' := ?_) ?_ ?_ ?_; rotate_left 2; (· ((try simp only [push_cast, seval]); exact rfl)); (· ((try dsimp only); exact rfl))
    by_cases hj : j < l.length
    · obtain ⟨b, hb⟩ : ∃ b, l[j]? = some b := ⟨_, List.getElem?_eq_getElem hj⟩
      have es := hasTo_succ (h := x) hb
      obtain ⟨⟨b1, b2, b3, b4, b5, b6⟩, vs, nx', ⟨ch, cr, ci, cs⟩⟩ := b
      obtain ⟨x1, x2, x3, x4, x5, x6⟩ := x
      dsimp only at es
      cases his : hasTo l ⟨x1, x2, x3, x4, x5, x6⟩ j with
      | true =>
        rw [his, Bool.true_or] at es
        repeat' (first | with_reducible refine PWp.seq ?_ | with_reducible refine PWp.block ?_ | with_reducible refine PWp.region okP true ?_ | with_reducible refine PWp.draw (id := 10) okP true [0, 1, 2, 3, 4, 5, 6, 7, 8, 9, 10, 11, 12, 13, 14, 15] (by kernel_rfl) ?_ | with_reducible (first | refine pops_nil ?_ | refine pany_nil ?_ | refine pthen_normal ?_ | refine pblock_normal ?_ | refine pthen_ret ?_ | refine pblock_ret ?_ | refine pthen_exit ?_ | refine pblock_here ?_ | refine pblock_there rfl ?_ | refine PWp.ret ?_ | refine PWp.exit ?_ | refine PWp.skip ?_) | ((with_reducible refine hK _ ?_); clear hK K) | ((with_reducible refine PWp.condI ?_); refine ⟨_, rfl, fun hg => ?_, fun hg => ?_⟩ <;> first | (exact absurd hg (by decide)) | ((try simp only [Bool.not_true, Bool.not_false] at hg); (try simp only [hg]); (try simp only [push_cast] at hg); (try exact absurd trivial hg); (try (exfalso; omega)))) | ((first | ((with_reducible refine pops_guard0 ?_); refine ⟨_, rfl, fun K hK => ⟨rfl, ?_⟩⟩) | ((with_reducible refine pD_g0 ?_); refine ⟨_, rfl, rfl, ?_⟩)); (try simp (disch := omega) only [push_cast, seval, hx, hb])) | ((with_reducible refine pany_I ?_); refine ⟨_, rfl, fun K hK => ?_⟩) | ((with_reducible refine pops_plain fun K hK => ?_); simp (disch := omega) only [push_cast, seval, hx, hb]) | ((first | ((with_reducible refine pD_y ?_ ?_); exact rfl) | ((with_reducible refine pD_x ?_ ?_); exact rfl)); simp (disch := omega) only [push_cast, seval, hx, hb]) | ((first | ((with_reducible refine pops_guard ?_); refine ⟨_, rfl, fun K hK => ⟨_, rfl, fun hg => ?_, fun hg => ?_⟩⟩) | ((first | ((with_reducible refine pD_gy ?_ ?_); exact rfl) | ((with_reducible refine pD_gx ?_ ?_); exact rfl)); refine ⟨_, rfl, _, rfl, fun hg => ?_, fun hg => ?_⟩)) <;> first | (exact absurd hg (by decide)) | ((try simp only [Bool.not_true, Bool.not_false] at hg); (try simp only [hg]); (try simp only [push_cast] at hg); (try exact absurd trivial hg); (try (exfalso; omega)); (try simp (disch := omega) only [push_cast, seval, hx, hb]))) | ((with_reducible show pcall _ _ _ _ _ _); (first | (refine pcV (g := 27) (callable_of Tryz.func27 rfl rfl) (sChainOk_p _ (by (first | assumption | omega | (simp; omega) | (simp_all; done) | (simp_all; omega))) (by assumption)) ?_) | (refine pcV (g := 53) (callable_of Tryz.func53 rfl rfl) (sLightOk_p ⟨⟨_, _⟩, _, ⟨⟨_, _, _, _, _, _⟩, _⟩, ⟨_, _⟩, ⟨_, _⟩, _⟩ (by (first | assumption | omega | (simp; omega) | (simp_all; done) | (simp_all; omega))) (by (first | assumption | omega | (simp; omega) | (simp_all; done) | (simp_all; omega))) (by (first | assumption | omega | (simp; omega) | (simp_all; done) | (simp_all; omega)))) ?_)); (try simp (disch := omega) only [push_cast, seval, hx, hb])) | ((with_reducible refine And.intro ?_ ?_); omega))
        all_goals ((refine ⟨j + 1, by ((try dsimp only); omega), ?_, by (refine ⟨[?_], ?_, ?_, ?_, ?_⟩; rotate_left 1; (· ((try simp (disch := omega) only [push_cast, seval, es]); (repeat' (first | exact trivial | exact rfl | refine And.intro ?_ ?_ | omega)))); (· ((try simp (disch := omega) only [push_cast, seval, es]); (repeat' (first | exact trivial | exact rfl | refine And.intro ?_ ?_ | omega)))); (· exact rfl); (· (first | exact trivial | exact ⟨rfl, trivial⟩ | exact ⟨rfl, rfl, trivial⟩)))⟩); exact hj)
      | false =>
        rw [his, Bool.false_or] at es
        unfold headEq at es
        dsimp only at es
        repeat' (first | with_reducible refine PWp.seq ?_ | with_reducible refine PWp.block ?_ | with_reducible refine PWp.region okP true ?_ | with_reducible refine PWp.draw (id := 10) okP true [0, 1, 2, 3, 4, 5, 6, 7, 8, 9, 10, 11, 12, 13, 14, 15] (by kernel_rfl) ?_ | with_reducible (first | refine pops_nil ?_ | refine pany_nil ?_ | refine pthen_normal ?_ | refine pblock_normal ?_ | refine pthen_ret ?_ | refine pblock_ret ?_ | refine pthen_exit ?_ | refine pblock_here ?_ | refine pblock_there rfl ?_ | refine PWp.ret ?_ | refine PWp.exit ?_ | refine PWp.skip ?_) | ((with_reducible refine hK _ ?_); clear hK K) | ((with_reducible refine PWp.condI ?_); refine ⟨_, rfl, fun hg => ?_, fun hg => ?_⟩ <;> first | (exact absurd hg (by decide)) | ((try simp only [Bool.not_true, Bool.not_false] at hg); (try simp only [hg]); (try simp only [push_cast] at hg); (try exact absurd trivial hg); (try (exfalso; omega)))) | ((first | ((with_reducible refine pops_guard0 ?_); refine ⟨_, rfl, fun K hK => ⟨rfl, ?_⟩⟩) | ((with_reducible refine pD_g0 ?_); refine ⟨_, rfl, rfl, ?_⟩)); (try simp (disch := omega) only [push_cast, seval, hx, hb])) | ((with_reducible refine pany_I ?_); refine ⟨_, rfl, fun K hK => ?_⟩) | ((with_reducible refine pops_plain fun K hK => ?_); simp (disch := omega) only [push_cast, seval, hx, hb]) | ((first | ((with_reducible refine pD_y ?_ ?_); exact rfl) | ((with_reducible refine pD_x ?_ ?_); exact rfl)); simp (disch := omega) only [push_cast, seval, hx, hb]) | ((first | ((with_reducible refine pops_guard ?_); refine ⟨_, rfl, fun K hK => ⟨_, rfl, fun hg => ?_, fun hg => ?_⟩⟩) | ((first | ((with_reducible refine pD_gy ?_ ?_); exact rfl) | ((with_reducible refine pD_gx ?_ ?_); exact rfl)); refine ⟨_, rfl, _, rfl, fun hg => ?_, fun hg => ?_⟩)) <;> first | (exact absurd hg (by decide)) | ((try simp only [Bool.not_true, Bool.not_false] at hg); (try simp only [hg]); (try simp only [push_cast] at hg); (try exact absurd trivial hg); (try (exfalso; omega)); (try simp (disch := omega) only [push_cast, seval, hx, hb]))) | ((with_reducible show pcall _ _ _ _ _ _); (first | (refine pcV (g := 27) (callable_of Tryz.func27 rfl rfl) (sChainOk_p _ (by (first | assumption | omega | (simp; omega) | (simp_all; done) | (simp_all; omega))) (by assumption)) ?_) | (refine pcV (g := 53) (callable_of Tryz.func53 rfl rfl) (sLightOk_p ⟨⟨_, _⟩, _, ⟨⟨_, _, _, _, _, _⟩, _⟩, ⟨_, _⟩, ⟨_, _⟩, _⟩ (by (first | assumption | omega | (simp; omega) | (simp_all; done) | (simp_all; omega))) (by (first | assumption | omega | (simp; omega) | (simp_all; done) | (simp_all; omega))) (by (first | assumption | omega | (simp; omega) | (simp_all; done) | (simp_all; omega)))) ?_)); (try simp (disch := omega) only [push_cast, seval, hx, hb])) | ((with_reducible refine And.intro ?_ ?_); omega))
        all_goals ((refine ⟨j + 1, by ((try dsimp only); omega), ?_, by (refine ⟨[?_], ?_, ?_, ?_, ?_⟩; rotate_left 1; (· ((try simp (disch := omega) only [push_cast, seval, es]); (repeat' (first | exact trivial | exact rfl | refine And.intro ?_ ?_ | omega)))); (· ((try simp (disch := omega) only [push_cast, seval, es]); (repeat' (first | exact trivial | exact rfl | refine And.intro ?_ ?_ | omega)))); (· exact rfl); (· (first | exact trivial | exact ⟨rfl, trivial⟩ | exact ⟨rfl, rfl, trivial⟩)))⟩); exact hj)
    obtain rfl : j = l.length := by omega
    rw [hasTo_end]
    cases hf : hasHead l x with
    | false =>
      rw [bad hf]
      repeat' (first | with_reducible refine PWp.seq ?_ | with_reducible refine PWp.block ?_ | with_reducible refine PWp.region okP true ?_ | with_reducible refine PWp.draw (id := 10) okP true [0, 1, 2, 3, 4, 5, 6, 7, 8, 9, 10, 11, 12, 13, 14, 15] (by kernel_rfl) ?_ | with_reducible (first | refine pops_nil ?_ | refine pany_nil ?_ | refine pthen_normal ?_ | refine pblock_normal ?_ | refine pthen_ret ?_ | refine pblock_ret ?_ | refine pthen_exit ?_ | refine pblock_here ?_ | refine pblock_there rfl ?_ | refine PWp.ret ?_ | refine PWp.exit ?_ | refine PWp.skip ?_) | ((with_reducible refine hK _ ?_); clear hK K) | ((with_reducible refine PWp.condI ?_); refine ⟨_, rfl, fun hg => ?_, fun hg => ?_⟩ <;> first | (exact absurd hg (by decide)) | ((try simp only [Bool.not_true, Bool.not_false] at hg); (try simp only [hg]); (try simp only [push_cast] at hg); (try exact absurd trivial hg); (try (exfalso; omega)))) | ((first | ((with_reducible refine pops_guard0 ?_); refine ⟨_, rfl, fun K hK => ⟨rfl, ?_⟩⟩) | ((with_reducible refine pD_g0 ?_); refine ⟨_, rfl, rfl, ?_⟩)); (try simp (disch := omega) only [push_cast, seval])) | ((with_reducible refine pany_I ?_); refine ⟨_, rfl, fun K hK => ?_⟩) | ((with_reducible refine pops_plain fun K hK => ?_); simp (disch := omega) only [push_cast, seval]) | ((first | ((with_reducible refine pD_y ?_ ?_); exact rfl) | ((with_reducible refine pD_x ?_ ?_); exact rfl)); simp (disch := omega) only [push_cast, seval]) | ((first | ((with_reducible refine pops_guard ?_); refine ⟨_, rfl, fun K hK => ⟨_, rfl, fun hg => ?_, fun hg => ?_⟩⟩) | ((first | ((with_reducible refine pD_gy ?_ ?_); exact rfl) | ((with_reducible refine pD_gx ?_ ?_); exact rfl)); refine ⟨_, rfl, _, rfl, fun hg => ?_, fun hg => ?_⟩)) <;> first | (exact absurd hg (by decide)) | ((try simp only [Bool.not_true, Bool.not_false] at hg); (try simp only [hg]); (try simp only [push_cast] at hg); (try exact absurd trivial hg); (try (exfalso; omega)); (try simp (disch := omega) only [push_cast, seval]))) | ((with_reducible show pcall _ _ _ _ _ _); (first | (refine pcV (g := 27) (callable_of Tryz.func27 rfl rfl) (sChainOk_p _ (by (first | assumption | omega | (simp; omega) | (simp_all; done) | (simp_all; omega))) (by assumption)) ?_) | (refine pcV (g := 53) (callable_of Tryz.func53 rfl rfl) (sLightOk_p ⟨⟨_, _⟩, _, ⟨⟨_, _, _, _, _, _⟩, _⟩, ⟨_, _⟩, ⟨_, _⟩, _⟩ (by (first | assumption | omega | (simp; omega) | (simp_all; done) | (simp_all; omega))) (by (first | assumption | omega | (simp; omega) | (simp_all; done) | (simp_all; omega))) (by (first | assumption | omega | (simp; omega) | (simp_all; done) | (simp_all; omega)))) ?_)); (try simp (disch := omega) only [push_cast, seval])) | ((with_reducible refine And.intro ?_ ?_); omega))
      all_goals ((with_reducible show PPostR _ _ _ _ _ _); refine finV ?_; (try simp only [push_cast, seval]))
    | true =>
      repeat' (first | with_reducible refine PWp.seq ?_ | with_reducible refine PWp.block ?_ | with_reducible refine PWp.region okP true ?_ | with_reducible refine PWp.draw (id := 10) okP true [0, 1, 2, 3, 4, 5, 6, 7, 8, 9, 10, 11, 12, 13, 14, 15] (by kernel_rfl) ?_ | with_reducible (first | refine pops_nil ?_ | refine pany_nil ?_ | refine pthen_normal ?_ | refine pblock_normal ?_ | refine pthen_ret ?_ | refine pblock_ret ?_ | refine pthen_exit ?_ | refine pblock_here ?_ | refine pblock_there rfl ?_ | refine PWp.ret ?_ | refine PWp.exit ?_ | refine PWp.skip ?_) | ((with_reducible refine hK _ ?_); clear hK K) | ((with_reducible refine PWp.condI ?_); refine ⟨_, rfl, fun hg => ?_, fun hg => ?_⟩ <;> first | (exact absurd hg (by decide)) | ((try simp only [Bool.not_true, Bool.not_false] at hg); (try simp only [hg]); (try simp only [push_cast] at hg); (try exact absurd trivial hg); (try (exfalso; omega)))) | ((first | ((with_reducible refine pops_guard0 ?_); refine ⟨_, rfl, fun K hK => ⟨rfl, ?_⟩⟩) | ((with_reducible refine pD_g0 ?_); refine ⟨_, rfl, rfl, ?_⟩)); (try simp (disch := omega) only [push_cast, seval])) | ((with_reducible refine pany_I ?_); refine ⟨_, rfl, fun K hK => ?_⟩) | ((with_reducible refine pops_plain fun K hK => ?_); simp (disch := omega) only [push_cast, seval]) | ((first | ((with_reducible refine pD_y ?_ ?_); exact rfl) | ((with_reducible refine pD_x ?_ ?_); exact rfl)); simp (disch := omega) only [push_cast, seval]) | ((first | ((with_reducible refine pops_guard ?_); refine ⟨_, rfl, fun K hK => ⟨_, rfl, fun hg => ?_, fun hg => ?_⟩⟩) | ((first | ((with_reducible refine pD_gy ?_ ?_); exact rfl) | ((with_reducible refine pD_gx ?_ ?_); exact rfl)); refine ⟨_, rfl, _, rfl, fun hg => ?_, fun hg => ?_⟩)) <;> first | (exact absurd hg (by decide)) | ((try simp only [Bool.not_true, Bool.not_false] at hg); (try simp only [hg]); (try simp only [push_cast] at hg); (try exact absurd trivial hg); (try (exfalso; omega)); (try simp (disch := omega) only [push_cast, seval]))) | ((with_reducible show pcall _ _ _ _ _ _); (first | (refine pcV (g := 27) (callable_of Tryz.func27 rfl rfl) (sChainOk_p _ (by (first | assumption | omega | (simp; omega) | (simp_all; done) | (simp_all; omega))) (by assumption)) ?_) | (refine pcV (g := 53) (callable_of Tryz.func53 rfl rfl) (sLightOk_p ⟨⟨_, _⟩, _, ⟨⟨_, _, _, _, _, _⟩, _⟩, ⟨_, _⟩, ⟨_, _⟩, _⟩ (by (first | assumption | omega | (simp; omega) | (simp_all; done) | (simp_all; omega))) (by (first | assumption | omega | (simp; omega) | (simp_all; done) | (simp_all; omega))) (by (first | assumption | omega | (simp; omega) | (simp_all; done) | (simp_all; omega)))) ?_)); (try simp (disch := omega) only [push_cast, seval])) | ((with_reducible refine And.intro ?_ ?_); omega))
      all_goals ((refine ⟨k + 1, by ((try dsimp only); omega), ?_, by (refine ⟨[?_], ?_, ?_, ?_, ?_⟩; rotate_left 1; (· ((try simp (disch := omega) only [push_cast, seval]); (repeat' (first | exact trivial | exact rfl | refine And.intro ?_ ?_ | omega)))); (· ((try simp (disch := omega) only [push_cast, seval]); (repeat' (first | exact trivial | exact rfl | refine And.intro ?_ ?_ | omega)))); (· exact rfl); (· (first | exact trivial | exact ⟨rfl, trivial⟩ | exact ⟨rfl, rfl, trivial⟩)))⟩); exact ⟨by omega, allTo_succ hA (by rw [e, hf])⟩)
  obtain rfl : k = hs_.length := by omega
  repeat' (first | with_reducible refine PWp.seq ?_ | with_reducible refine PWp.block ?_ | with_reducible refine PWp.region okP true ?_ | with_reducible refine PWp.draw (id := 10) okP true [0, 1, 2, 3, 4, 5, 6, 7, 8, 9, 10, 11, 12, 13, 14, 15] (by kernel_rfl) ?_ | with_reducible (first | refine pops_nil ?_ | refine pany_nil ?_ | refine pthen_normal ?_ | refine pblock_normal ?_ | refine pthen_ret ?_ | refine pblock_ret ?_ | refine pthen_exit ?_ | refine pblock_here ?_ | refine pblock_there rfl ?_ | refine PWp.ret ?_ | refine PWp.exit ?_ | refine PWp.skip ?_) | ((with_reducible refine hK _ ?_); clear hK K) | ((with_reducible refine PWp.condI ?_); refine ⟨_, rfl, fun hg => ?_, fun hg => ?_⟩ <;> first | (exact absurd hg (by decide)) | ((try simp only [Bool.not_true, Bool.not_false] at hg); (try simp only [hg]); (try simp only [push_cast] at hg); (try exact absurd trivial hg); (try (exfalso; omega)))) | ((first | ((with_reducible refine pops_guard0 ?_); refine ⟨_, rfl, fun K hK => ⟨rfl, ?_⟩⟩) | ((with_reducible refine pD_g0 ?_); refine ⟨_, rfl, rfl, ?_⟩)); (try simp (disch := omega) only [push_cast, seval])) | ((with_reducible refine pany_I ?_); refine ⟨_, rfl, fun K hK => ?_⟩) | ((with_reducible refine pops_plain fun K hK => ?_); simp (disch := omega) only [push_cast, seval]) | ((first | ((with_reducible refine pD_y ?_ ?_); exact rfl) | ((with_reducible refine pD_x ?_ ?_); exact rfl)); simp (disch := omega) only [push_cast, seval]) | ((first | ((with_reducible refine pops_guard ?_); refine ⟨_, rfl, fun K hK => ⟨_, rfl, fun hg => ?_, fun hg => ?_⟩⟩) | ((first | ((with_reducible refine pD_gy ?_ ?_); exact rfl) | ((with_reducible refine pD_gx ?_ ?_); exact rfl)); refine ⟨_, rfl, _, rfl, fun hg => ?_, fun hg => ?_⟩)) <;> first | (exact absurd hg (by decide)) | ((try simp only [Bool.not_true, Bool.not_false] at hg); (try simp only [hg]); (try simp only [push_cast] at hg); (try exact absurd trivial hg); (try (exfalso; omega)); (try simp (disch := omega) only [push_cast, seval]))) | ((with_reducible show pcall _ _ _ _ _ _); (first | (refine pcV (g := 27) (callable_of Tryz.func27 rfl rfl) (sChainOk_p _ (by (first | assumption | omega | (simp; omega) | (simp_all; done) | (simp_all; omega))) (by assumption)) ?_) | (refine pcV (g := 53) (callable_of Tryz.func53 rfl rfl) (sLightOk_p ⟨⟨_, _⟩, _, ⟨⟨_, _, _, _, _, _⟩, _⟩, ⟨_, _⟩, ⟨_, _⟩, _⟩ (by (first | assumption | omega | (simp; omega) | (simp_all; done) | (simp_all; omega))) (by (first | assumption | omega | (simp; omega) | (simp_all; done) | (simp_all; omega))) (by (first | assumption | omega | (simp; omega) | (simp_all; done) | (simp_all; omega)))) ?_)); (try simp (disch := omega) only [push_cast, seval])) | ((with_reducible refine And.intro ?_ ?_); omega))
  ((with_reducible show PPostR _ _ _ _ _ _); refine finV ?_; (try simp only [push_cast, seval]))
  rw [capt_end hA]
end Go.Proofs.YtgcelmnmalfpcaaGreatDoor
namespace Go.Proofs.YtgcelmnmalfpcaaGreatDoor
set_option linter.unusedSimpArgs false
set_option linter.unusedVariables false
open Go.RowKit
theorem sCaught_any (x0 : GLight) (x1 : (List GBlock)) (o1 o2 o3 o4 : Option Addr) (c1 c2 c3 c4 : Nat) (w : World) (h0 : Rds w (encLight x0) [.int .i64 x0.fTrust.fPeriod, .int .i64 x0.fTrust.fSlack, .int .i64 x0.fState, .int .i64 x0.fAnchor.fHead.fHeight, .int .i64 x0.fAnchor.fHead.fTime, .string x0.fAnchor.fHead.fLast, .string x0.fAnchor.fHead.fVals, .string x0.fAnchor.fHead.fNext, .string x0.fAnchor.fHead.fData, .slice o1 x0.fAnchor.fNext.length c1, .slice o2 x0.fStore.fHeads.length c2, .int .i64 x0.fStore.fSynced, .slice o3 x0.fPeers.fPeers.length c3, .int .i64 x0.fPeers.fTurn, .int .i64 x0.fNow]) (z0 : szL (encLight x0) ≤ 1048576) (k0 : okL (encLight x0)) (h1 : RL 70 12 encBlock w (.slice o4 x1.length c4) x1) (z1 : szL ([slD 70 12 encBlock x1]) ≤ 1048576) (k1 : okL ([slD 70 12 encBlock x1])) (hG : GlobW w) :
    Calls Tryz.prog 37 #[.agg #[.int .i64 x0.fTrust.fPeriod, .int .i64 x0.fTrust.fSlack, .int .i64 x0.fState, .int .i64 x0.fAnchor.fHead.fHeight, .int .i64 x0.fAnchor.fHead.fTime, .string x0.fAnchor.fHead.fLast, .string x0.fAnchor.fHead.fVals, .string x0.fAnchor.fHead.fNext, .string x0.fAnchor.fHead.fData, .slice o1 x0.fAnchor.fNext.length c1, .slice o2 x0.fStore.fHeads.length c2, .int .i64 x0.fStore.fSynced, .slice o3 x0.fPeers.fPeers.length c3, .int .i64 x0.fPeers.fTurn, .int .i64 x0.fNow], .slice o4 x1.length c4] w fun e w' => e = .returned (.bool (mCaught x0 x1)) ∧ Ext w w' := by
  have zz0 := z0; simp only [encLight, slD, szL] at zz0
  have zz1 := z1; simp only [slD, szL] at zz1
  have hp := sCaught_p x0 x1 (smC_of z0) (by omega) (fun b hb => smB_of (Nat.le_trans (szL_elem hb) (by omega)))
  refine (hp.use (w := w) hG.mem (vs := #[.agg #[.int .i64 x0.fTrust.fPeriod, .int .i64 x0.fTrust.fSlack, .int .i64 x0.fState, .int .i64 x0.fAnchor.fHead.fHeight, .int .i64 x0.fAnchor.fHead.fTime, .string x0.fAnchor.fHead.fLast, .string x0.fAnchor.fHead.fVals, .string x0.fAnchor.fHead.fNext, .string x0.fAnchor.fHead.fData, .slice o1 x0.fAnchor.fNext.length c1, .slice o2 x0.fStore.fHeads.length c2, .int .i64 x0.fStore.fSynced, .slice o3 x0.fPeers.fPeers.length c3, .int .i64 x0.fPeers.fTurn, .int .i64 x0.fNow], .slice o4 x1.length c4]) ⟨rfl, fun i pv v a b => ?_⟩).mono fun e w' ⟨v, M', h', pv, H', e1, e2, e3, e4, e5, e6⟩ => ?_
  · match i with
    | 0 => simp at a b; subst a; subst b; rw [← pv_Light]; exact Rds.agg h0 _
    | 1 => simp at a b; subst a; subst b; have q := RL.pv h1 (fun _ => rfl) (fun _ => none); simp only [pv_Block] at q; exact q
    | i + 2 => simp at a
  · cases e2; have q := vr_val e3; subst q; exact ⟨e1, e5⟩
theorem iCaught_any (x0 : GLight) (x1 : (List GBlock)) (o1 o2 o3 o4 : Option Addr) (c1 c2 c3 c4 : Nat) (w : World) (h0 : Rds w (encLight x0) [.int .i64 x0.fTrust.fPeriod, .int .i64 x0.fTrust.fSlack, .int .i64 x0.fState, .int .i64 x0.fAnchor.fHead.fHeight, .int .i64 x0.fAnchor.fHead.fTime, .string x0.fAnchor.fHead.fLast, .string x0.fAnchor.fHead.fVals, .string x0.fAnchor.fHead.fNext, .string x0.fAnchor.fHead.fData, .slice o1 x0.fAnchor.fNext.length c1, .slice o2 x0.fStore.fHeads.length c2, .int .i64 x0.fStore.fSynced, .slice o3 x0.fPeers.fPeers.length c3, .int .i64 x0.fPeers.fTurn, .int .i64 x0.fNow]) (z0 : szL (encLight x0) ≤ 1048576) (k0 : okL (encLight x0)) (h1 : RL 70 12 encBlock w (.slice o4 x1.length c4) x1) (z1 : szL ([slD 70 12 encBlock x1]) ≤ 1048576) (k1 : okL ([slD 70 12 encBlock x1])) (hG : GlobW w) :
    Calls Tryz.prog 38 #[.agg #[.int .i64 x0.fTrust.fPeriod, .int .i64 x0.fTrust.fSlack, .int .i64 x0.fState, .int .i64 x0.fAnchor.fHead.fHeight, .int .i64 x0.fAnchor.fHead.fTime, .string x0.fAnchor.fHead.fLast, .string x0.fAnchor.fHead.fVals, .string x0.fAnchor.fHead.fNext, .string x0.fAnchor.fHead.fData, .slice o1 x0.fAnchor.fNext.length c1, .slice o2 x0.fStore.fHeads.length c2, .int .i64 x0.fStore.fSynced, .slice o3 x0.fPeers.fPeers.length c3, .int .i64 x0.fPeers.fTurn, .int .i64 x0.fNow], .slice o4 x1.length c4] w fun e w' => e = .returned (.bool (mCaught x0 x1)) ∧ Ext w w' := by
  have zz0 := z0; simp only [encLight, slD, szL] at zz0
  have zz1 := z1; simp only [slD, szL] at zz1
  have hp := iCaught_p x0 x1 (smC_of z0) (by omega) (fun b hb => smB_of (Nat.le_trans (szL_elem hb) (by omega)))
  refine (hp.use (w := w) hG.mem (vs := #[.agg #[.int .i64 x0.fTrust.fPeriod, .int .i64 x0.fTrust.fSlack, .int .i64 x0.fState, .int .i64 x0.fAnchor.fHead.fHeight, .int .i64 x0.fAnchor.fHead.fTime, .string x0.fAnchor.fHead.fLast, .string x0.fAnchor.fHead.fVals, .string x0.fAnchor.fHead.fNext, .string x0.fAnchor.fHead.fData, .slice o1 x0.fAnchor.fNext.length c1, .slice o2 x0.fStore.fHeads.length c2, .int .i64 x0.fStore.fSynced, .slice o3 x0.fPeers.fPeers.length c3, .int .i64 x0.fPeers.fTurn, .int .i64 x0.fNow], .slice o4 x1.length c4]) ⟨rfl, fun i pv v a b => ?_⟩).mono fun e w' ⟨v, M', h', pv, H', e1, e2, e3, e4, e5, e6⟩ => ?_
  · match i with
    | 0 => simp at a b; subst a; subst b; rw [← pv_Light]; exact Rds.agg h0 _
    | 1 => simp at a b; subst a; subst b; have q := RL.pv h1 (fun _ => rfl) (fun _ => none); simp only [pv_Block] at q; exact q
    | i + 2 => simp at a
  · cases e2; have q := vr_val e3; subst q; exact ⟨e1, e5⟩
end Go.Proofs.YtgcelmnmalfpcaaGreatDoor
