/- Store: data, and the laws' helpers. Printed by a program of ours. -/
import Derived.Test.YtgcelmnmalfpcaaDoorTyHeader
import Derived.Test.YtgcelmnmalfpcaaDoorTyPrim
namespace Go.Proofs.YtgcelmnmalfpcaaDoor
open Go.RowKit

def encStore (x : GStore) : List D := [slD 50 6 encHeader x.fHeads, .int x.fSynced]
theorem encStore_len (x : GStore) : (encStore x).length = 2 := rfl
theorem dec_Store : Dec [.sl [.int .i64, .int .i64, .str, .str, .str, .str], .int .i64] encStore := by
  intro n W vs h
  match vs, h with
  | [_, _], ⟨k0, k1, _⟩ =>
    obtain ⟨a0, r0, h0⟩ := dec_sl 50 dec_Header (fun _ => rfl) (by decide) k0
    obtain ⟨a1, rfl, h1⟩ := cell_int k1
    exact ⟨⟨a0, a1⟩, (rds_slD.2 ⟨_, _, rfl, r0, (Rds.int _ Rds.nil)⟩), (okL_cons h0 (okL_int h1 okL_nil))⟩
theorem pv_Store (x : GStore) : toPVL (encStore x) = pStore x := by
  simp only [encStore, pStore, toPVL, toPV, pvs_Header]
theorem pvs_Store (e : TypeId) (xs : List GStore) : toPV (slD e 2 encStore xs) = .sl 2 (xs.map pStore) := by rw [toPV_slD (enc := encStore) (sz := 2) (fun _ => rfl)]; simp only [pv_Store]
theorem cnt_Store (x : GStore) : cnt (encStore x) ≤ 64 + 64 * szL (encStore x) := by
  have h0 := cnt_list cnt_Header x.fHeads
  simp [encStore, cnt, szL, slD]
  omega

set_option maxRecDepth 100000 in
set_option maxHeartbeats 4000000 in
theorem toStore_any (x : GStore) (o1 : Option Addr) (c1 : Nat) (w : World) (h : Rds w (encStore x) [.slice o1 x.fHeads.length c1, .int .i64 x.fSynced]) (hz : szL (encStore x) ≤ 1048576) :
    Calls Tryd.prog 42 #[.agg #[.slice o1 x.fHeads.length c1, .int .i64 x.fSynced]] w fun e w' => ∃ (p1 : Option Addr) (q1 : Nat), e = .returned (.agg #[.slice p1 x.fHeads.length q1, .int .i64 x.fSynced]) ∧ Obj w' w.heap.size w'.heap.size (encStore x) [.slice p1 x.fHeads.length q1, .int .i64 x.fSynced] ∧ Ext w w' := by
  have r0 : RL 50 6 encHeader w (.slice o1 x.fHeads.length c1) x.fHeads := h.cut 0 1
  have z0 : szL [slD 50 6 encHeader x.fHeads] ≤ 1048576 := Nat.le_trans (szL_cut (encStore x) 0 1) hz
  have Z0 := Lib.hid z0; clear z0
  clear h hz
  go_enter Tryd.func42, Tryd.ntmps42
  go_wp2_with fail
  (refine (toHeaderS_any _ x.fHeads _ (r0.ext (by (repeat (first | (with_reducible exact Ext.refl _) | (with_reducible assumption) | (with_reducible refine Ext.alloc ?_ _) | (with_reducible refine Ext.drew ?_) | (with_reducible refine Ext.drewN ?_ _) | ((with_reducible apply Ext.setCell); (case hp => first | omega | (simp; done) | (simp; omega))) | (with_reducible refine Ext.trans ?_ (by assumption)))))) Z0.out).mono ?_); rintro e w1 ⟨p1, q1, rfl, O, hb⟩; (obtain ⟨B0, c0, f0, l0⟩ := Box.after (k := w.heap.size) hb (by (repeat (first | (with_reducible assumption) | ((with_reducible apply Box.new); (first | (with_reducible rfl) | (simp; done) | (simp; omega))) | (with_reducible apply Box.alloc) | (with_reducible apply Box.drew) | (with_reducible apply Box.drewN) | (with_reducible apply Box.set) | ((with_reducible apply Box.set_ne); (case hne => first | omega | (simp; done) | (simp; omega))))))); (obtain ⟨B1, c1, f1, l1⟩ := Box.after (k := w.heap.size + 1) hb (by (repeat (first | (with_reducible assumption) | ((with_reducible apply Box.new); (first | (with_reducible rfl) | (simp; done) | (simp; omega))) | (with_reducible apply Box.alloc) | (with_reducible apply Box.drew) | (with_reducible apply Box.drewN) | (with_reducible apply Box.set) | ((with_reducible apply Box.set_ne); (case hne => first | omega | (simp; done) | (simp; omega))))))); (obtain ⟨B2, c2, f2, l2⟩ := Box.after (k := w.heap.size + 2) hb (by (repeat (first | (with_reducible assumption) | ((with_reducible apply Box.new); (first | (with_reducible rfl) | (simp; done) | (simp; omega))) | (with_reducible apply Box.alloc) | (with_reducible apply Box.drew) | (with_reducible apply Box.drewN) | (with_reducible apply Box.set) | ((with_reducible apply Box.set_ne); (case hne => first | omega | (simp; done) | (simp; omega)))))))
  have hz := hb.size; simp at hz
  have A : Obj w1 (w.heap.size + 3) (w.heap.size + 3) [] [] := obj_nil
  replace A : Obj w1 (w.heap.size + 3) w1.heap.size [slD 50 6 encHeader x.fHeads] [.slice p1 x.fHeads.length q1] := Obj.more A O (by (first | omega | (simp; done) | (simp; omega))) (by (first | omega | (simp; done) | (simp; omega))) (by (first | omega | (simp; done) | (simp; omega)))
  have E1 : Ext w w1 := by (repeat (first | (with_reducible exact Ext.refl _) | (with_reducible assumption) | (with_reducible refine Ext.alloc ?_ _) | (with_reducible refine Ext.drew ?_) | (with_reducible refine Ext.drewN ?_ _) | ((with_reducible apply Ext.setCell); (case hp => first | omega | (simp; done) | (simp; omega))) | (with_reducible refine Ext.trans ?_ (by assumption))))
  clear hb O hz
  replace A : Obj w1 (w.heap.size + 3) w1.heap.size [slD 50 6 encHeader x.fHeads, .int x.fSynced] [.slice p1 x.fHeads.length q1, .int .i64 x.fSynced] := Obj.more A (.int obj_nil : Obj _ w1.heap.size w1.heap.size _ _) (Nat.le_refl _) (Nat.le_refl _) (by (first | omega | (simp; done) | (simp; omega)))
  have AS := A.read
  have HA := Lib.hid A; clear A AS
  go_wp2
  exact bodyPost_ret (v := .agg #[.slice p1 x.fHeads.length q1, .int .i64 x.fSynced]) (by simp [results, Tryd.results42, go_sem, c1]) rfl ⟨_, _, rfl, Obj.mono (lo := w.heap.size + 3) (hi := w1.heap.size) (show Obj _ _ _ [slD 50 6 encHeader x.fHeads, .int x.fSynced] _ from by have A := HA.out; (repeat (first | (with_reducible assumption) | (with_reducible apply Obj.alloc) | (with_reducible apply Obj.drew) | (with_reducible apply Obj.drewN) | ((with_reducible apply Obj.set); (case hk => first | omega | (simp; done) | (simp; omega) | (left; simp; omega) | (right; simp; omega))) | (with_reducible refine Obj.ext ?_ (by assumption))))) (by (first | omega | (simp; done) | (simp; omega))) (by (first | omega | (simp; done) | (simp; omega))), by (repeat (first | (with_reducible exact Ext.refl _) | (with_reducible assumption) | (with_reducible refine Ext.alloc ?_ _) | (with_reducible refine Ext.drew ?_) | (with_reducible refine Ext.drewN ?_ _) | ((with_reducible apply Ext.setCell); (case hp => first | omega | (simp; done) | (simp; omega))) | (with_reducible refine Ext.trans ?_ (by assumption))))⟩

set_option maxRecDepth 100000 in
set_option maxHeartbeats 4000000 in
theorem szStore_any (x : GStore) (o1 : Option Addr) (c1 : Nat) (left : Int) (w : World) (h : Rds w (encStore x) [.slice o1 x.fHeads.length c1, .int .i64 x.fSynced]) (hok : okL (encStore x)) (h0 : 0 ≤ left) (h1 : left ≤ 1048576) :
    Calls Tryd.prog 32 #[.agg #[.slice o1 x.fHeads.length c1, .int .i64 x.fSynced], .int .i64 left] w fun e w' => e = .returned (.int .i64 (szR left (szL (encStore x)))) ∧ Ext w w' := by
  have r0 : RL 50 6 encHeader w (.slice o1 x.fHeads.length c1) x.fHeads := h.cut 0 1
  have k0 : okL [slD 50 6 encHeader x.fHeads] := okL_cut (ds := encStore x) 0 1 hok
  have K0 := Lib.hid k0; clear k0
  have hT : szL (encStore x) = szL [slD 50 6 encHeader x.fHeads] := by simp [encStore, szL, slD]; try omega
  rw [hT]
  clear hT hok h
  obtain ⟨a0, ha0⟩ : ∃ a, a = szL [slD 50 6 encHeader x.fHeads] := ⟨_, rfl⟩
  rw [← ha0]
  have HA0 := Lib.hid ha0; clear ha0
  by_cases h2 : left < (a0 : Nat)
  · have R0 := Lib.hid (szR_no h2)
    go_enter Tryd.func32, Tryd.ntmps32
    go_wp2_with fail
    (refine (szHeaderS_any _ x.fHeads _ _ (r0.ext (by (repeat (first | (with_reducible exact Ext.refl _) | (with_reducible assumption) | (with_reducible refine Ext.alloc ?_ _) | (with_reducible refine Ext.drew ?_) | (with_reducible refine Ext.drewN ?_ _) | ((with_reducible apply Ext.setCell); (case hp => first | omega | (simp; done) | (simp; omega))) | (with_reducible refine Ext.trans ?_ (by assumption)))))) K0.out (by omega) (by omega)).mono ?_); rw [show szL [slD 50 6 encHeader x.fHeads] = a0 from HA0.out.symm, R0.out]; rintro e w0 ⟨rfl, hb⟩; (obtain ⟨B0, c0, f0, l0⟩ := Box.after (k := w.heap.size) hb (by (repeat (first | (with_reducible assumption) | ((with_reducible apply Box.new); (first | (with_reducible rfl) | (simp; done) | (simp; omega))) | (with_reducible apply Box.alloc) | (with_reducible apply Box.drew) | (with_reducible apply Box.drewN) | (with_reducible apply Box.set) | ((with_reducible apply Box.set_ne); (case hne => first | omega | (simp; done) | (simp; omega)))))))
    have E0 : Ext w w0 := by (repeat (first | (with_reducible exact Ext.refl _) | (with_reducible assumption) | (with_reducible refine Ext.alloc ?_ _) | (with_reducible refine Ext.drew ?_) | (with_reducible refine Ext.drewN ?_ _) | ((with_reducible apply Ext.setCell); (case hp => first | omega | (simp; done) | (simp; omega))) | (with_reducible refine Ext.trans ?_ (by assumption))))
    clear hb
    go_wp2
    go_ret
    exact ⟨ret_int (szR_no (by omega)), by (repeat (first | (with_reducible exact Ext.refl _) | (with_reducible assumption) | (with_reducible refine Ext.alloc ?_ _) | (with_reducible refine Ext.drew ?_) | (with_reducible refine Ext.drewN ?_ _) | ((with_reducible apply Ext.setCell); (case hp => first | omega | (simp; done) | (simp; omega))) | (with_reducible refine Ext.trans ?_ (by assumption))))⟩
  · have R0 := Lib.hid (szR_yes h2)
    go_enter Tryd.func32, Tryd.ntmps32
    go_wp2_with fail
    (refine (szHeaderS_any _ x.fHeads _ _ (r0.ext (by (repeat (first | (with_reducible exact Ext.refl _) | (with_reducible assumption) | (with_reducible refine Ext.alloc ?_ _) | (with_reducible refine Ext.drew ?_) | (with_reducible refine Ext.drewN ?_ _) | ((with_reducible apply Ext.setCell); (case hp => first | omega | (simp; done) | (simp; omega))) | (with_reducible refine Ext.trans ?_ (by assumption)))))) K0.out (by omega) (by omega)).mono ?_); rw [show szL [slD 50 6 encHeader x.fHeads] = a0 from HA0.out.symm, R0.out]; rintro e w0 ⟨rfl, hb⟩; (obtain ⟨B0, c0, f0, l0⟩ := Box.after (k := w.heap.size) hb (by (repeat (first | (with_reducible assumption) | ((with_reducible apply Box.new); (first | (with_reducible rfl) | (simp; done) | (simp; omega))) | (with_reducible apply Box.alloc) | (with_reducible apply Box.drew) | (with_reducible apply Box.drewN) | (with_reducible apply Box.set) | ((with_reducible apply Box.set_ne); (case hne => first | omega | (simp; done) | (simp; omega)))))))
    have E0 : Ext w w0 := by (repeat (first | (with_reducible exact Ext.refl _) | (with_reducible assumption) | (with_reducible refine Ext.alloc ?_ _) | (with_reducible refine Ext.drew ?_) | (with_reducible refine Ext.drewN ?_ _) | ((with_reducible apply Ext.setCell); (case hp => first | omega | (simp; done) | (simp; omega))) | (with_reducible refine Ext.trans ?_ (by assumption))))
    clear hb
    go_wp2
    go_ret
    exact ⟨ret_int ((szR_yes (by omega)).trans (by omega)), by (repeat (first | (with_reducible exact Ext.refl _) | (with_reducible assumption) | (with_reducible refine Ext.alloc ?_ _) | (with_reducible refine Ext.drew ?_) | (with_reducible refine Ext.drewN ?_ _) | ((with_reducible apply Ext.setCell); (case hp => first | omega | (simp; done) | (simp; omega))) | (with_reducible refine Ext.trans ?_ (by assumption))))⟩

set_option maxRecDepth 100000 in
set_option maxHeartbeats 4000000 in
theorem eqStore_any (x : GStore) (o1 : Option Addr) (c1 : Nat) (p1 : Option Addr) (q1 : Nat) (w : World) (h1 : Rds w (encStore x) [.slice o1 x.fHeads.length c1, .int .i64 x.fSynced]) (h2 : Rds w (encStore x) [.slice p1 x.fHeads.length q1, .int .i64 x.fSynced]) :
    Calls Tryd.prog 52 #[.agg #[.slice o1 x.fHeads.length c1, .int .i64 x.fSynced], .agg #[.slice p1 x.fHeads.length q1, .int .i64 x.fSynced]] w fun e w' => e = .returned (.bool true) ∧ Ext w w' := by
  have r0_0 : RL 50 6 encHeader w (.slice o1 x.fHeads.length c1) x.fHeads := h1.cut 0 1
  have r0_1 : RL 50 6 encHeader w (.slice p1 x.fHeads.length q1) x.fHeads := h2.cut 0 1
  clear h1 h2
  go_enter Tryd.func52, Tryd.ntmps52
  go_wp2_with fail
  (refine (eqHeaderS_any _ _ x.fHeads _ (r0_0.ext (by (repeat (first | (with_reducible exact Ext.refl _) | (with_reducible assumption) | (with_reducible refine Ext.alloc ?_ _) | (with_reducible refine Ext.drew ?_) | (with_reducible refine Ext.drewN ?_ _) | ((with_reducible apply Ext.setCell); (case hp => first | omega | (simp; done) | (simp; omega))) | (with_reducible refine Ext.trans ?_ (by assumption)))))) (r0_1.ext (by (repeat (first | (with_reducible exact Ext.refl _) | (with_reducible assumption) | (with_reducible refine Ext.alloc ?_ _) | (with_reducible refine Ext.drew ?_) | (with_reducible refine Ext.drewN ?_ _) | ((with_reducible apply Ext.setCell); (case hp => first | omega | (simp; done) | (simp; omega))) | (with_reducible refine Ext.trans ?_ (by assumption))))))).mono ?_); rintro e w1 ⟨rfl, hb⟩; (obtain ⟨B0, c0, f0, l0⟩ := Box.after (k := w.heap.size) hb (by (repeat (first | (with_reducible assumption) | ((with_reducible apply Box.new); (first | (with_reducible rfl) | (simp; done) | (simp; omega))) | (with_reducible apply Box.alloc) | (with_reducible apply Box.drew) | (with_reducible apply Box.drewN) | (with_reducible apply Box.set) | ((with_reducible apply Box.set_ne); (case hne => first | omega | (simp; done) | (simp; omega))))))); (obtain ⟨B1, c1, f1, l1⟩ := Box.after (k := w.heap.size + 1) hb (by (repeat (first | (with_reducible assumption) | ((with_reducible apply Box.new); (first | (with_reducible rfl) | (simp; done) | (simp; omega))) | (with_reducible apply Box.alloc) | (with_reducible apply Box.drew) | (with_reducible apply Box.drewN) | (with_reducible apply Box.set) | ((with_reducible apply Box.set_ne); (case hne => first | omega | (simp; done) | (simp; omega)))))))
  have E1 : Ext w w1 := by (repeat (first | (with_reducible exact Ext.refl _) | (with_reducible assumption) | (with_reducible refine Ext.alloc ?_ _) | (with_reducible refine Ext.drew ?_) | (with_reducible refine Ext.drewN ?_ _) | ((with_reducible apply Ext.setCell); (case hp => first | omega | (simp; done) | (simp; omega))) | (with_reducible refine Ext.trans ?_ (by assumption))))
  clear hb
  go_wp2
  go_ret
  exact ⟨rfl, by (repeat (first | (with_reducible exact Ext.refl _) | (with_reducible assumption) | (with_reducible refine Ext.alloc ?_ _) | (with_reducible refine Ext.drew ?_) | (with_reducible refine Ext.drewN ?_ _) | ((with_reducible apply Ext.setCell); (case hp => first | omega | (simp; done) | (simp; omega))) | (with_reducible refine Ext.trans ?_ (by assumption))))⟩
end Go.Proofs.YtgcelmnmalfpcaaDoor
