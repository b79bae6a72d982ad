/- Anchor: data, and the laws' helpers. Printed by a program of ours. -/
import Derived.Test.YtgcelmnmalfpcaaDoorTyHeader
import Derived.Test.YtgcelmnmalfpcaaDoorTyVal
import Derived.Test.YtgcelmnmalfpcaaDoorTyPrim
namespace Go.Proofs.YtgcelmnmalfpcaaDoor
open Go.RowKit

def encAnchor (x : GAnchor) : List D := [.int x.fHead.fHeight, .int x.fHead.fTime, .str x.fHead.fLast, .str x.fHead.fVals, .str x.fHead.fNext, .str x.fHead.fData, slD 120 2 encVal x.fNext]
theorem encAnchor_len (x : GAnchor) : (encAnchor x).length = 7 := rfl
theorem dec_Anchor : Dec [.int .i64, .int .i64, .str, .str, .str, .str, .sl [.int .i64, .int .i64]] encAnchor := by
  intro n W vs h
  match vs, h with
  | [_, _, _, _, _, _, _], ⟨k0, k1, k2, k3, k4, k5, k6, _⟩ =>
    obtain ⟨a0, rfl, h0⟩ := cell_int k0
    obtain ⟨a1, rfl, h1⟩ := cell_int k1
    obtain ⟨a2, rfl, h2⟩ := cell_str k2
    obtain ⟨a3, rfl, h3⟩ := cell_str k3
    obtain ⟨a4, rfl, h4⟩ := cell_str k4
    obtain ⟨a5, rfl, h5⟩ := cell_str k5
    obtain ⟨a6, r6, h6⟩ := dec_sl 120 dec_Val (fun _ => rfl) (by decide) k6
    exact ⟨⟨⟨a0, a1, a2, a3, a4, a5⟩, a6⟩, (Rds.int _ (Rds.int _ (Rds.str _ (Rds.str _ (Rds.str _ (Rds.str _ (rds_slD.2 ⟨_, _, rfl, r6, Rds.nil⟩))))))), (okL_int h0 (okL_int h1 (okL_str h2 (okL_str h3 (okL_str h4 (okL_str h5 (okL_cons h6 okL_nil)))))))⟩
theorem pv_Anchor (x : GAnchor) : toPVL (encAnchor x) = pAnchor x := by
  simp only [encAnchor, pAnchor, toPVL, toPV, pvs_Val]
theorem pvs_Anchor (e : TypeId) (xs : List GAnchor) : toPV (slD e 7 encAnchor xs) = .sl 7 (xs.map pAnchor) := by rw [toPV_slD (enc := encAnchor) (sz := 7) (fun _ => rfl)]; simp only [pv_Anchor]
theorem cnt_Anchor (x : GAnchor) : cnt (encAnchor x) ≤ 64 + 64 * szL (encAnchor x) := by
  have h0 := cnt_list cnt_Val x.fNext
  simp [encAnchor, cnt, szL, slD]
  omega

set_option maxRecDepth 100000 in
set_option maxHeartbeats 4000000 in
theorem toAnchor_any (x : GAnchor) (o1 : Option Addr) (c1 : Nat) (w : World) (h : Rds w (encAnchor x) [.int .i64 x.fHead.fHeight, .int .i64 x.fHead.fTime, .string x.fHead.fLast, .string x.fHead.fVals, .string x.fHead.fNext, .string x.fHead.fData, .slice o1 x.fNext.length c1]) (hz : szL (encAnchor x) ≤ 1048576) :
    Calls Tryd.prog 41 #[.agg #[.int .i64 x.fHead.fHeight, .int .i64 x.fHead.fTime, .string x.fHead.fLast, .string x.fHead.fVals, .string x.fHead.fNext, .string x.fHead.fData, .slice o1 x.fNext.length c1]] w fun e w' => ∃ (p1 : Option Addr) (q1 : Nat), e = .returned (.agg #[.int .i64 x.fHead.fHeight, .int .i64 x.fHead.fTime, .string x.fHead.fLast, .string x.fHead.fVals, .string x.fHead.fNext, .string x.fHead.fData, .slice p1 x.fNext.length q1]) ∧ Obj w' w.heap.size w'.heap.size (encAnchor x) [.int .i64 x.fHead.fHeight, .int .i64 x.fHead.fTime, .string x.fHead.fLast, .string x.fHead.fVals, .string x.fHead.fNext, .string x.fHead.fData, .slice p1 x.fNext.length q1] ∧ Ext w w' := by
  have r1 : RL 120 2 encVal w (.slice o1 x.fNext.length c1) x.fNext := h.cut 6 1
  have z1 : szL [slD 120 2 encVal x.fNext] ≤ 1048576 := Nat.le_trans (szL_cut (encAnchor x) 6 1) hz
  have Z1 := Lib.hid z1; clear z1
  clear h hz
  go_enter Tryd.func41, Tryd.ntmps41
  go_wp2_with fail
  (refine (toHeader_any x.fHead _).mono ?_); rintro e w1 ⟨rfl, hb⟩; (obtain ⟨B0, c0, f0, l0⟩ := Box.after (k := w.heap.size) hb (by (repeat (first | (with_reducible assumption) | ((with_reducible apply Box.new); (first | (with_reducible rfl) | (simp; done) | (simp; omega))) | (with_reducible apply Box.alloc) | (with_reducible apply Box.drew) | (with_reducible apply Box.drewN) | (with_reducible apply Box.set) | ((with_reducible apply Box.set_ne); (case hne => first | omega | (simp; done) | (simp; omega))))))); (obtain ⟨B1, c1, f1, l1⟩ := Box.after (k := w.heap.size + 1) hb (by (repeat (first | (with_reducible assumption) | ((with_reducible apply Box.new); (first | (with_reducible rfl) | (simp; done) | (simp; omega))) | (with_reducible apply Box.alloc) | (with_reducible apply Box.drew) | (with_reducible apply Box.drewN) | (with_reducible apply Box.set) | ((with_reducible apply Box.set_ne); (case hne => first | omega | (simp; done) | (simp; omega))))))); (obtain ⟨B2, c2, f2, l2⟩ := Box.after (k := w.heap.size + 2) hb (by (repeat (first | (with_reducible assumption) | ((with_reducible apply Box.new); (first | (with_reducible rfl) | (simp; done) | (simp; omega))) | (with_reducible apply Box.alloc) | (with_reducible apply Box.drew) | (with_reducible apply Box.drewN) | (with_reducible apply Box.set) | ((with_reducible apply Box.set_ne); (case hne => first | omega | (simp; done) | (simp; omega)))))))
  have hz := hb.size; simp at hz
  have A : Obj w1 (w.heap.size + 3) (w.heap.size + 3) [] [] := obj_nil
  have O : Obj w1 w1.heap.size w1.heap.size [.int x.fHead.fHeight, .int x.fHead.fTime, .str x.fHead.fLast, .str x.fHead.fVals, .str x.fHead.fNext, .str x.fHead.fData] [.int .i64 x.fHead.fHeight, .int .i64 x.fHead.fTime, .string x.fHead.fLast, .string x.fHead.fVals, .string x.fHead.fNext, .string x.fHead.fData] := (Obj.int (Obj.int (Obj.str (Obj.str (Obj.str (Obj.str obj_nil))))))
  replace A : Obj w1 (w.heap.size + 3) w1.heap.size [.int x.fHead.fHeight, .int x.fHead.fTime, .str x.fHead.fLast, .str x.fHead.fVals, .str x.fHead.fNext, .str x.fHead.fData] [.int .i64 x.fHead.fHeight, .int .i64 x.fHead.fTime, .string x.fHead.fLast, .string x.fHead.fVals, .string x.fHead.fNext, .string x.fHead.fData] := Obj.more A O (by (first | omega | (simp; done) | (simp; omega))) (by (first | omega | (simp; done) | (simp; omega))) (by (first | omega | (simp; done) | (simp; omega)))
  have E1 : Ext w w1 := by (repeat (first | (with_reducible exact Ext.refl _) | (with_reducible assumption) | (with_reducible refine Ext.alloc ?_ _) | (with_reducible refine Ext.drew ?_) | (with_reducible refine Ext.drewN ?_ _) | ((with_reducible apply Ext.setCell); (case hp => first | omega | (simp; done) | (simp; omega))) | (with_reducible refine Ext.trans ?_ (by assumption))))
  clear hb O hz
  go_wp2_with fail
  (refine (toValS_any _ x.fNext _ (r1.ext (by (repeat (first | (with_reducible exact Ext.refl _) | (with_reducible assumption) | (with_reducible refine Ext.alloc ?_ _) | (with_reducible refine Ext.drew ?_) | (with_reducible refine Ext.drewN ?_ _) | ((with_reducible apply Ext.setCell); (case hp => first | omega | (simp; done) | (simp; omega))) | (with_reducible refine Ext.trans ?_ (by assumption)))))) Z1.out).mono ?_); rintro e w2 ⟨p1, q1, rfl, O, hb⟩; (obtain ⟨B0, c0, f0, l0⟩ := Box.after (k := w.heap.size) hb (by (repeat (first | (with_reducible assumption) | ((with_reducible apply Box.new); (first | (with_reducible rfl) | (simp; done) | (simp; omega))) | (with_reducible apply Box.alloc) | (with_reducible apply Box.drew) | (with_reducible apply Box.drewN) | (with_reducible apply Box.set) | ((with_reducible apply Box.set_ne); (case hne => first | omega | (simp; done) | (simp; omega))))))); (obtain ⟨B1, c1, f1, l1⟩ := Box.after (k := w.heap.size + 1) hb (by (repeat (first | (with_reducible assumption) | ((with_reducible apply Box.new); (first | (with_reducible rfl) | (simp; done) | (simp; omega))) | (with_reducible apply Box.alloc) | (with_reducible apply Box.drew) | (with_reducible apply Box.drewN) | (with_reducible apply Box.set) | ((with_reducible apply Box.set_ne); (case hne => first | omega | (simp; done) | (simp; omega))))))); (obtain ⟨B2, c2, f2, l2⟩ := Box.after (k := w.heap.size + 2) hb (by (repeat (first | (with_reducible assumption) | ((with_reducible apply Box.new); (first | (with_reducible rfl) | (simp; done) | (simp; omega))) | (with_reducible apply Box.alloc) | (with_reducible apply Box.drew) | (with_reducible apply Box.drewN) | (with_reducible apply Box.set) | ((with_reducible apply Box.set_ne); (case hne => first | omega | (simp; done) | (simp; omega)))))))
  have hz := hb.size; simp at hz
  replace A : Obj w2 (w.heap.size + 3) w1.heap.size [.int x.fHead.fHeight, .int x.fHead.fTime, .str x.fHead.fLast, .str x.fHead.fVals, .str x.fHead.fNext, .str x.fHead.fData] [.int .i64 x.fHead.fHeight, .int .i64 x.fHead.fTime, .string x.fHead.fLast, .string x.fHead.fVals, .string x.fHead.fNext, .string x.fHead.fData] := by (repeat (first | (with_reducible assumption) | (with_reducible apply Obj.alloc) | (with_reducible apply Obj.drew) | (with_reducible apply Obj.drewN) | ((with_reducible apply Obj.set); (case hk => first | omega | (simp; done) | (simp; omega) | (left; simp; omega) | (right; simp; omega))) | (with_reducible refine Obj.ext ?_ (by assumption))))
  replace A : Obj w2 (w.heap.size + 3) w2.heap.size [.int x.fHead.fHeight, .int x.fHead.fTime, .str x.fHead.fLast, .str x.fHead.fVals, .str x.fHead.fNext, .str x.fHead.fData, slD 120 2 encVal x.fNext] [.int .i64 x.fHead.fHeight, .int .i64 x.fHead.fTime, .string x.fHead.fLast, .string x.fHead.fVals, .string x.fHead.fNext, .string x.fHead.fData, .slice p1 x.fNext.length q1] := Obj.more A O (by (first | omega | (simp; done) | (simp; omega))) (by (first | omega | (simp; done) | (simp; omega))) (by (first | omega | (simp; done) | (simp; omega)))
  have E2 : Ext w w2 := by (repeat (first | (with_reducible exact Ext.refl _) | (with_reducible assumption) | (with_reducible refine Ext.alloc ?_ _) | (with_reducible refine Ext.drew ?_) | (with_reducible refine Ext.drewN ?_ _) | ((with_reducible apply Ext.setCell); (case hp => first | omega | (simp; done) | (simp; omega))) | (with_reducible refine Ext.trans ?_ (by assumption))))
  clear hb O hz E1
  have AS := A.read
  have HA := Lib.hid A; clear A AS
  go_wp2
  exact bodyPost_ret (v := .agg #[.int .i64 x.fHead.fHeight, .int .i64 x.fHead.fTime, .string x.fHead.fLast, .string x.fHead.fVals, .string x.fHead.fNext, .string x.fHead.fData, .slice p1 x.fNext.length q1]) (by simp [results, Tryd.results41, go_sem, c1]) rfl ⟨_, _, rfl, Obj.mono (lo := w.heap.size + 3) (hi := w2.heap.size) (show Obj _ _ _ [.int x.fHead.fHeight, .int x.fHead.fTime, .str x.fHead.fLast, .str x.fHead.fVals, .str x.fHead.fNext, .str x.fHead.fData, slD 120 2 encVal x.fNext] _ from by have A := HA.out; (repeat (first | (with_reducible assumption) | (with_reducible apply Obj.alloc) | (with_reducible apply Obj.drew) | (with_reducible apply Obj.drewN) | ((with_reducible apply Obj.set); (case hk => first | omega | (simp; done) | (simp; omega) | (left; simp; omega) | (right; simp; omega))) | (with_reducible refine Obj.ext ?_ (by assumption))))) (by (first | omega | (simp; done) | (simp; omega))) (by (first | omega | (simp; done) | (simp; omega))), by (repeat (first | (with_reducible exact Ext.refl _) | (with_reducible assumption) | (with_reducible refine Ext.alloc ?_ _) | (with_reducible refine Ext.drew ?_) | (with_reducible refine Ext.drewN ?_ _) | ((with_reducible apply Ext.setCell); (case hp => first | omega | (simp; done) | (simp; omega))) | (with_reducible refine Ext.trans ?_ (by assumption))))⟩

set_option maxRecDepth 100000 in
set_option maxHeartbeats 4000000 in
theorem szAnchor_any (x : GAnchor) (o1 : Option Addr) (c1 : Nat) (left : Int) (w : World) (h : Rds w (encAnchor x) [.int .i64 x.fHead.fHeight, .int .i64 x.fHead.fTime, .string x.fHead.fLast, .string x.fHead.fVals, .string x.fHead.fNext, .string x.fHead.fData, .slice o1 x.fNext.length c1]) (hok : okL (encAnchor x)) (h0 : 0 ≤ left) (h1 : left ≤ 1048576) :
    Calls Tryd.prog 31 #[.agg #[.int .i64 x.fHead.fHeight, .int .i64 x.fHead.fTime, .string x.fHead.fLast, .string x.fHead.fVals, .string x.fHead.fNext, .string x.fHead.fData, .slice o1 x.fNext.length c1], .int .i64 left] w fun e w' => e = .returned (.int .i64 (szR left (szL (encAnchor x)))) ∧ Ext w w' := by
  have r0 : Rds w (encHeader x.fHead) [.int .i64 x.fHead.fHeight, .int .i64 x.fHead.fTime, .string x.fHead.fLast, .string x.fHead.fVals, .string x.fHead.fNext, .string x.fHead.fData] := h.cut 0 6
  have k0 : okL (encHeader x.fHead) := okL_cut (ds := encAnchor x) 0 6 hok
  have K0 := Lib.hid k0; clear k0
  have r1 : RL 120 2 encVal w (.slice o1 x.fNext.length c1) x.fNext := h.cut 6 1
  have k1 : okL [slD 120 2 encVal x.fNext] := okL_cut (ds := encAnchor x) 6 1 hok
  have K1 := Lib.hid k1; clear k1
  have hT : szL (encAnchor x) = szL (encHeader x.fHead) + szL [slD 120 2 encVal x.fNext] := by simp [encAnchor, encHeader, szL, slD]; try omega
  rw [hT]
  clear hT hok h
  obtain ⟨a0, ha0⟩ : ∃ a, a = szL (encHeader x.fHead) := ⟨_, rfl⟩
  rw [← ha0]
  have HA0 := Lib.hid ha0; clear ha0
  obtain ⟨a1, ha1⟩ : ∃ a, a = szL [slD 120 2 encVal x.fNext] := ⟨_, rfl⟩
  rw [← ha1]
  have HA1 := Lib.hid ha1; clear ha1
  by_cases h2 : left < (a0 : Nat)
  · have R0 := Lib.hid (szR_no h2)
    go_enter Tryd.func31, Tryd.ntmps31
    go_wp2_with fail
    (refine (szHeader_any x.fHead _ _ (r0.ext (by (repeat (first | (with_reducible exact Ext.refl _) | (with_reducible assumption) | (with_reducible refine Ext.alloc ?_ _) | (with_reducible refine Ext.drew ?_) | (with_reducible refine Ext.drewN ?_ _) | ((with_reducible apply Ext.setCell); (case hp => first | omega | (simp; done) | (simp; omega))) | (with_reducible refine Ext.trans ?_ (by assumption)))))) K0.out (by omega) (by omega)).mono ?_); rw [show szL (encHeader x.fHead) = a0 from HA0.out.symm, R0.out]; rintro e w0 ⟨rfl, hb⟩; (obtain ⟨B0, c0, f0, l0⟩ := Box.after (k := w.heap.size) hb (by (repeat (first | (with_reducible assumption) | ((with_reducible apply Box.new); (first | (with_reducible rfl) | (simp; done) | (simp; omega))) | (with_reducible apply Box.alloc) | (with_reducible apply Box.drew) | (with_reducible apply Box.drewN) | (with_reducible apply Box.set) | ((with_reducible apply Box.set_ne); (case hne => first | omega | (simp; done) | (simp; omega)))))))
    have E0 : Ext w w0 := by (repeat (first | (with_reducible exact Ext.refl _) | (with_reducible assumption) | (with_reducible refine Ext.alloc ?_ _) | (with_reducible refine Ext.drew ?_) | (with_reducible refine Ext.drewN ?_ _) | ((with_reducible apply Ext.setCell); (case hp => first | omega | (simp; done) | (simp; omega))) | (with_reducible refine Ext.trans ?_ (by assumption))))
    clear hb
    go_wp2
    go_ret
    exact ⟨ret_int (szR_no (by omega)), by (repeat (first | (with_reducible exact Ext.refl _) | (with_reducible assumption) | (with_reducible refine Ext.alloc ?_ _) | (with_reducible refine Ext.drew ?_) | (with_reducible refine Ext.drewN ?_ _) | ((with_reducible apply Ext.setCell); (case hp => first | omega | (simp; done) | (simp; omega))) | (with_reducible refine Ext.trans ?_ (by assumption))))⟩
  · have R0 := Lib.hid (szR_yes h2)
    by_cases h3 : left - a0 < (a1 : Nat)
    · have R1 := Lib.hid (szR_no h3)
      go_enter Tryd.func31, Tryd.ntmps31
      go_wp2_with fail
      (refine (szHeader_any x.fHead _ _ (r0.ext (by (repeat (first | (with_reducible exact Ext.refl _) | (with_reducible assumption) | (with_reducible refine Ext.alloc ?_ _) | (with_reducible refine Ext.drew ?_) | (with_reducible refine Ext.drewN ?_ _) | ((with_reducible apply Ext.setCell); (case hp => first | omega | (simp; done) | (simp; omega))) | (with_reducible refine Ext.trans ?_ (by assumption)))))) K0.out (by omega) (by omega)).mono ?_); rw [show szL (encHeader x.fHead) = a0 from HA0.out.symm, R0.out]; rintro e w0 ⟨rfl, hb⟩; (obtain ⟨B0, c0, f0, l0⟩ := Box.after (k := w.heap.size) hb (by (repeat (first | (with_reducible assumption) | ((with_reducible apply Box.new); (first | (with_reducible rfl) | (simp; done) | (simp; omega))) | (with_reducible apply Box.alloc) | (with_reducible apply Box.drew) | (with_reducible apply Box.drewN) | (with_reducible apply Box.set) | ((with_reducible apply Box.set_ne); (case hne => first | omega | (simp; done) | (simp; omega)))))))
      have E0 : Ext w w0 := by (repeat (first | (with_reducible exact Ext.refl _) | (with_reducible assumption) | (with_reducible refine Ext.alloc ?_ _) | (with_reducible refine Ext.drew ?_) | (with_reducible refine Ext.drewN ?_ _) | ((with_reducible apply Ext.setCell); (case hp => first | omega | (simp; done) | (simp; omega))) | (with_reducible refine Ext.trans ?_ (by assumption))))
      clear hb
      go_wp2_with fail
      (refine (szValS_any _ x.fNext _ _ (r1.ext (by (repeat (first | (with_reducible exact Ext.refl _) | (with_reducible assumption) | (with_reducible refine Ext.alloc ?_ _) | (with_reducible refine Ext.drew ?_) | (with_reducible refine Ext.drewN ?_ _) | ((with_reducible apply Ext.setCell); (case hp => first | omega | (simp; done) | (simp; omega))) | (with_reducible refine Ext.trans ?_ (by assumption)))))) K1.out (by omega) (by omega)).mono ?_); rw [show szL [slD 120 2 encVal x.fNext] = a1 from HA1.out.symm, R1.out]; rintro e w1 ⟨rfl, hb⟩; (obtain ⟨B0, c0, f0, l0⟩ := Box.after (k := w.heap.size) hb (by (repeat (first | (with_reducible assumption) | ((with_reducible apply Box.new); (first | (with_reducible rfl) | (simp; done) | (simp; omega))) | (with_reducible apply Box.alloc) | (with_reducible apply Box.drew) | (with_reducible apply Box.drewN) | (with_reducible apply Box.set) | ((with_reducible apply Box.set_ne); (case hne => first | omega | (simp; done) | (simp; omega)))))))
      have E1 : Ext w w1 := by (repeat (first | (with_reducible exact Ext.refl _) | (with_reducible assumption) | (with_reducible refine Ext.alloc ?_ _) | (with_reducible refine Ext.drew ?_) | (with_reducible refine Ext.drewN ?_ _) | ((with_reducible apply Ext.setCell); (case hp => first | omega | (simp; done) | (simp; omega))) | (with_reducible refine Ext.trans ?_ (by assumption))))
      clear hb
      go_wp2
      go_ret
      exact ⟨ret_int (szR_no (by omega)), by (repeat (first | (with_reducible exact Ext.refl _) | (with_reducible assumption) | (with_reducible refine Ext.alloc ?_ _) | (with_reducible refine Ext.drew ?_) | (with_reducible refine Ext.drewN ?_ _) | ((with_reducible apply Ext.setCell); (case hp => first | omega | (simp; done) | (simp; omega))) | (with_reducible refine Ext.trans ?_ (by assumption))))⟩
    · have R1 := Lib.hid (szR_yes h3)
      go_enter Tryd.func31, Tryd.ntmps31
      go_wp2_with fail
      (refine (szHeader_any x.fHead _ _ (r0.ext (by (repeat (first | (with_reducible exact Ext.refl _) | (with_reducible assumption) | (with_reducible refine Ext.alloc ?_ _) | (with_reducible refine Ext.drew ?_) | (with_reducible refine Ext.drewN ?_ _) | ((with_reducible apply Ext.setCell); (case hp => first | omega | (simp; done) | (simp; omega))) | (with_reducible refine Ext.trans ?_ (by assumption)))))) K0.out (by omega) (by omega)).mono ?_); rw [show szL (encHeader x.fHead) = a0 from HA0.out.symm, R0.out]; rintro e w0 ⟨rfl, hb⟩; (obtain ⟨B0, c0, f0, l0⟩ := Box.after (k := w.heap.size) hb (by (repeat (first | (with_reducible assumption) | ((with_reducible apply Box.new); (first | (with_reducible rfl) | (simp; done) | (simp; omega))) | (with_reducible apply Box.alloc) | (with_reducible apply Box.drew) | (with_reducible apply Box.drewN) | (with_reducible apply Box.set) | ((with_reducible apply Box.set_ne); (case hne => first | omega | (simp; done) | (simp; omega)))))))
      have E0 : Ext w w0 := by (repeat (first | (with_reducible exact Ext.refl _) | (with_reducible assumption) | (with_reducible refine Ext.alloc ?_ _) | (with_reducible refine Ext.drew ?_) | (with_reducible refine Ext.drewN ?_ _) | ((with_reducible apply Ext.setCell); (case hp => first | omega | (simp; done) | (simp; omega))) | (with_reducible refine Ext.trans ?_ (by assumption))))
      clear hb
      go_wp2_with fail
      (refine (szValS_any _ x.fNext _ _ (r1.ext (by (repeat (first | (with_reducible exact Ext.refl _) | (with_reducible assumption) | (with_reducible refine Ext.alloc ?_ _) | (with_reducible refine Ext.drew ?_) | (with_reducible refine Ext.drewN ?_ _) | ((with_reducible apply Ext.setCell); (case hp => first | omega | (simp; done) | (simp; omega))) | (with_reducible refine Ext.trans ?_ (by assumption)))))) K1.out (by omega) (by omega)).mono ?_); rw [show szL [slD 120 2 encVal x.fNext] = a1 from HA1.out.symm, R1.out]; rintro e w1 ⟨rfl, hb⟩; (obtain ⟨B0, c0, f0, l0⟩ := Box.after (k := w.heap.size) hb (by (repeat (first | (with_reducible assumption) | ((with_reducible apply Box.new); (first | (with_reducible rfl) | (simp; done) | (simp; omega))) | (with_reducible apply Box.alloc) | (with_reducible apply Box.drew) | (with_reducible apply Box.drewN) | (with_reducible apply Box.set) | ((with_reducible apply Box.set_ne); (case hne => first | omega | (simp; done) | (simp; omega)))))))
      have E1 : Ext w w1 := by (repeat (first | (with_reducible exact Ext.refl _) | (with_reducible assumption) | (with_reducible refine Ext.alloc ?_ _) | (with_reducible refine Ext.drew ?_) | (with_reducible refine Ext.drewN ?_ _) | ((with_reducible apply Ext.setCell); (case hp => first | omega | (simp; done) | (simp; omega))) | (with_reducible refine Ext.trans ?_ (by assumption))))
      clear hb
      go_wp2
      go_ret
      exact ⟨ret_int ((szR_yes (by omega)).trans (by omega)), by (repeat (first | (with_reducible exact Ext.refl _) | (with_reducible assumption) | (with_reducible refine Ext.alloc ?_ _) | (with_reducible refine Ext.drew ?_) | (with_reducible refine Ext.drewN ?_ _) | ((with_reducible apply Ext.setCell); (case hp => first | omega | (simp; done) | (simp; omega))) | (with_reducible refine Ext.trans ?_ (by assumption))))⟩

set_option maxRecDepth 100000 in
set_option maxHeartbeats 4000000 in
theorem eqAnchor_any (x : GAnchor) (o1 : Option Addr) (c1 : Nat) (p1 : Option Addr) (q1 : Nat) (w : World) (h1 : Rds w (encAnchor x) [.int .i64 x.fHead.fHeight, .int .i64 x.fHead.fTime, .string x.fHead.fLast, .string x.fHead.fVals, .string x.fHead.fNext, .string x.fHead.fData, .slice o1 x.fNext.length c1]) (h2 : Rds w (encAnchor x) [.int .i64 x.fHead.fHeight, .int .i64 x.fHead.fTime, .string x.fHead.fLast, .string x.fHead.fVals, .string x.fHead.fNext, .string x.fHead.fData, .slice p1 x.fNext.length q1]) :
    Calls Tryd.prog 51 #[.agg #[.int .i64 x.fHead.fHeight, .int .i64 x.fHead.fTime, .string x.fHead.fLast, .string x.fHead.fVals, .string x.fHead.fNext, .string x.fHead.fData, .slice o1 x.fNext.length c1], .agg #[.int .i64 x.fHead.fHeight, .int .i64 x.fHead.fTime, .string x.fHead.fLast, .string x.fHead.fVals, .string x.fHead.fNext, .string x.fHead.fData, .slice p1 x.fNext.length q1]] w fun e w' => e = .returned (.bool true) ∧ Ext w w' := by
  have r0_0 : Rds w (encHeader x.fHead) [.int .i64 x.fHead.fHeight, .int .i64 x.fHead.fTime, .string x.fHead.fLast, .string x.fHead.fVals, .string x.fHead.fNext, .string x.fHead.fData] := h1.cut 0 6
  have r0_1 : Rds w (encHeader x.fHead) [.int .i64 x.fHead.fHeight, .int .i64 x.fHead.fTime, .string x.fHead.fLast, .string x.fHead.fVals, .string x.fHead.fNext, .string x.fHead.fData] := h2.cut 0 6
  have r1_0 : RL 120 2 encVal w (.slice o1 x.fNext.length c1) x.fNext := h1.cut 6 1
  have r1_1 : RL 120 2 encVal w (.slice p1 x.fNext.length q1) x.fNext := h2.cut 6 1
  clear h1 h2
  go_enter Tryd.func51, Tryd.ntmps51
  go_wp2_with fail
  (refine (eqHeader_any x.fHead _ (r0_0.ext (by (repeat (first | (with_reducible exact Ext.refl _) | (with_reducible assumption) | (with_reducible refine Ext.alloc ?_ _) | (with_reducible refine Ext.drew ?_) | (with_reducible refine Ext.drewN ?_ _) | ((with_reducible apply Ext.setCell); (case hp => first | omega | (simp; done) | (simp; omega))) | (with_reducible refine Ext.trans ?_ (by assumption)))))) (r0_1.ext (by (repeat (first | (with_reducible exact Ext.refl _) | (with_reducible assumption) | (with_reducible refine Ext.alloc ?_ _) | (with_reducible refine Ext.drew ?_) | (with_reducible refine Ext.drewN ?_ _) | ((with_reducible apply Ext.setCell); (case hp => first | omega | (simp; done) | (simp; omega))) | (with_reducible refine Ext.trans ?_ (by assumption))))))).mono ?_); rintro e w1 ⟨rfl, hb⟩; (obtain ⟨B0, c0, f0, l0⟩ := Box.after (k := w.heap.size) hb (by (repeat (first | (with_reducible assumption) | ((with_reducible apply Box.new); (first | (with_reducible rfl) | (simp; done) | (simp; omega))) | (with_reducible apply Box.alloc) | (with_reducible apply Box.drew) | (with_reducible apply Box.drewN) | (with_reducible apply Box.set) | ((with_reducible apply Box.set_ne); (case hne => first | omega | (simp; done) | (simp; omega))))))); (obtain ⟨B1, c1, f1, l1⟩ := Box.after (k := w.heap.size + 1) hb (by (repeat (first | (with_reducible assumption) | ((with_reducible apply Box.new); (first | (with_reducible rfl) | (simp; done) | (simp; omega))) | (with_reducible apply Box.alloc) | (with_reducible apply Box.drew) | (with_reducible apply Box.drewN) | (with_reducible apply Box.set) | ((with_reducible apply Box.set_ne); (case hne => first | omega | (simp; done) | (simp; omega)))))))
  have E1 : Ext w w1 := by (repeat (first | (with_reducible exact Ext.refl _) | (with_reducible assumption) | (with_reducible refine Ext.alloc ?_ _) | (with_reducible refine Ext.drew ?_) | (with_reducible refine Ext.drewN ?_ _) | ((with_reducible apply Ext.setCell); (case hp => first | omega | (simp; done) | (simp; omega))) | (with_reducible refine Ext.trans ?_ (by assumption))))
  clear hb
  go_wp2_with fail
  (refine (eqValS_any _ _ x.fNext _ (r1_0.ext (by (repeat (first | (with_reducible exact Ext.refl _) | (with_reducible assumption) | (with_reducible refine Ext.alloc ?_ _) | (with_reducible refine Ext.drew ?_) | (with_reducible refine Ext.drewN ?_ _) | ((with_reducible apply Ext.setCell); (case hp => first | omega | (simp; done) | (simp; omega))) | (with_reducible refine Ext.trans ?_ (by assumption)))))) (r1_1.ext (by (repeat (first | (with_reducible exact Ext.refl _) | (with_reducible assumption) | (with_reducible refine Ext.alloc ?_ _) | (with_reducible refine Ext.drew ?_) | (with_reducible refine Ext.drewN ?_ _) | ((with_reducible apply Ext.setCell); (case hp => first | omega | (simp; done) | (simp; omega))) | (with_reducible refine Ext.trans ?_ (by assumption))))))).mono ?_); rintro e w2 ⟨rfl, hb⟩; (obtain ⟨B0, c0, f0, l0⟩ := Box.after (k := w.heap.size) hb (by (repeat (first | (with_reducible assumption) | ((with_reducible apply Box.new); (first | (with_reducible rfl) | (simp; done) | (simp; omega))) | (with_reducible apply Box.alloc) | (with_reducible apply Box.drew) | (with_reducible apply Box.drewN) | (with_reducible apply Box.set) | ((with_reducible apply Box.set_ne); (case hne => first | omega | (simp; done) | (simp; omega))))))); (obtain ⟨B1, c1, f1, l1⟩ := Box.after (k := w.heap.size + 1) hb (by (repeat (first | (with_reducible assumption) | ((with_reducible apply Box.new); (first | (with_reducible rfl) | (simp; done) | (simp; omega))) | (with_reducible apply Box.alloc) | (with_reducible apply Box.drew) | (with_reducible apply Box.drewN) | (with_reducible apply Box.set) | ((with_reducible apply Box.set_ne); (case hne => first | omega | (simp; done) | (simp; omega)))))))
  have E2 : Ext w w2 := by (repeat (first | (with_reducible exact Ext.refl _) | (with_reducible assumption) | (with_reducible refine Ext.alloc ?_ _) | (with_reducible refine Ext.drew ?_) | (with_reducible refine Ext.drewN ?_ _) | ((with_reducible apply Ext.setCell); (case hp => first | omega | (simp; done) | (simp; omega))) | (with_reducible refine Ext.trans ?_ (by assumption))))
  clear hb E1
  go_wp2
  go_ret
  exact ⟨rfl, by (repeat (first | (with_reducible exact Ext.refl _) | (with_reducible assumption) | (with_reducible refine Ext.alloc ?_ _) | (with_reducible refine Ext.drew ?_) | (with_reducible refine Ext.drewN ?_ _) | ((with_reducible apply Ext.setCell); (case hp => first | omega | (simp; done) | (simp; omega))) | (with_reducible refine Ext.trans ?_ (by assumption))))⟩
end Go.Proofs.YtgcelmnmalfpcaaDoor
