/- What the proof leans on, part 6. -/
import Derived.Test.YtgcelmnmalfpcaaDoorQSeen5
namespace Go.Proofs.YtgcelmnmalfpcaaDoor
set_option linter.unusedSimpArgs false
set_option linter.unusedVariables false
open Go.RowKit
def encStore (x : GStore) : List D := [slD 50 6 encHeader x.fHeads, .int x.fSynced]
set_option maxRecDepth 100000 in
set_option maxHeartbeats 4000000 in
theorem toStore_any (x : GStore) (o1 : Option Addr) (c1 : Nat) (w : World) (h : Rds w (encStore x) [.slice o1 x.fHeads.length c1, .int .i64 x.fSynced]) (hz : szL (encStore x) ≤ 1048576) :
    Calls Tryd.prog 42 #[.agg #[.slice o1 x.fHeads.length c1, .int .i64 x.fSynced]] w fun e w' => ∃ (p1 : Option Addr) (q1 : Nat), e = .returned (.agg #[.slice p1 x.fHeads.length q1, .int .i64 x.fSynced]) ∧ Obj w' w.heap.size w'.heap.size (encStore x) [.slice p1 x.fHeads.length q1, .int .i64 x.fSynced] ∧ Ext w w' := by
  have r0 : RL 50 6 encHeader w (.slice o1 x.fHeads.length c1) x.fHeads := h.cut 0 1
  have z0 : szL [slD 50 6 encHeader x.fHeads] ≤ 1048576 := Nat.le_trans (szL_cut (encStore x) 0 1) hz
  have Z0 := Lib.hid z0; clear z0
  clear h hz
  go_enter Tryd.func42, Tryd.ntmps42
  go_wp2_with fail
  (refine (toHeaderS_any _ x.fHeads _ (r0.ext (by (repeat (first | (with_reducible exact Ext.refl _) | (with_reducible assumption) | (with_reducible refine Ext.alloc ?_ _) | (with_reducible refine Ext.drew ?_) | (with_reducible refine Ext.drewN ?_ _) | ((with_reducible apply Ext.setCell); (case hp => first | omega | (simp; done) | (simp; omega))) | (with_reducible refine Ext.trans ?_ (by assumption)))))) Z0.out).mono ?_); rintro e w1 ⟨p1, q1, rfl, O, hb⟩; (obtain ⟨B0, c0, f0, l0⟩ := Box.after (k := w.heap.size) hb (by (repeat (first | (with_reducible assumption) | ((with_reducible apply Box.new); (first | (with_reducible rfl) | (simp; done) | (simp; omega))) | (with_reducible apply Box.alloc) | (with_reducible apply Box.drew) | (with_reducible apply Box.drewN) | (with_reducible apply Box.set) | ((with_reducible apply Box.set_ne); (case hne => first | omega | (simp; done) | (simp; omega))))))); (obtain ⟨B1, c1, f1, l1⟩ := Box.after (k := w.heap.size + 1) hb (by (repeat (first | (with_reducible assumption) | ((with_reducible apply Box.new); (first | (with_reducible rfl) | (simp; done) | (simp; omega))) | (with_reducible apply Box.alloc) | (with_reducible apply Box.drew) | (with_reducible apply Box.drewN) | (with_reducible apply Box.set) | ((with_reducible apply Box.set_ne); (case hne => first | omega | (simp; done) | (simp; omega))))))); (obtain ⟨B2, c2, f2, l2⟩ := Box.after (k := w.heap.size + 2) hb (by (repeat (first | (with_reducible assumption) | ((with_reducible apply Box.new); (first | (with_reducible rfl) | (simp; done) | (simp; omega))) | (with_reducible apply Box.alloc) | (with_reducible apply Box.drew) | (with_reducible apply Box.drewN) | (with_reducible apply Box.set) | ((with_reducible apply Box.set_ne); (case hne => first | omega | (simp; done) | (simp; omega)))))))
  have hz := hb.size; simp at hz
  have A : Obj w1 (w.heap.size + 3) (w.heap.size + 3) [] [] := obj_nil
  replace A : Obj w1 (w.heap.size + 3) w1.heap.size [slD 50 6 encHeader x.fHeads] [.slice p1 x.fHeads.length q1] := Obj.more A O (by (first | omega | (simp; done) | (simp; omega))) (by (first | omega | (simp; done) | (simp; omega))) (by (first | omega | (simp; done) | (simp; omega)))
  have E1 : Ext w w1 := by (repeat (first | (with_reducible exact Ext.refl _) | (with_reducible assumption) | (with_reducible refine Ext.alloc ?_ _) | (with_reducible refine Ext.drew ?_) | (with_reducible refine Ext.drewN ?_ _) | ((with_reducible apply Ext.setCell); (case hp => first | omega | (simp; done) | (simp; omega))) | (with_reducible refine Ext.trans ?_ (by assumption))))
  clear hb O hz
  replace A : Obj w1 (w.heap.size + 3) w1.heap.size [slD 50 6 encHeader x.fHeads, .int x.fSynced] [.slice p1 x.fHeads.length q1, .int .i64 x.fSynced] := Obj.more A (.int obj_nil : Obj _ w1.heap.size w1.heap.size _ _) (Nat.le_refl _) (Nat.le_refl _) (by (first | omega | (simp; done) | (simp; omega)))
  have AS := A.read
  have HA := Lib.hid A; clear A AS
  go_wp2
  exact bodyPost_ret (v := .agg #[.slice p1 x.fHeads.length q1, .int .i64 x.fSynced]) (by simp [results, Tryd.results42, go_sem, c1]) rfl ⟨_, _, rfl, Obj.mono (lo := w.heap.size + 3) (hi := w1.heap.size) (show Obj _ _ _ [slD 50 6 encHeader x.fHeads, .int x.fSynced] _ from by have A := HA.out; (repeat (first | (with_reducible assumption) | (with_reducible apply Obj.alloc) | (with_reducible apply Obj.drew) | (with_reducible apply Obj.drewN) | ((with_reducible apply Obj.set); (case hk => first | omega | (simp; done) | (simp; omega) | (left; simp; omega) | (right; simp; omega))) | (with_reducible refine Obj.ext ?_ (by assumption))))) (by (first | omega | (simp; done) | (simp; omega))) (by (first | omega | (simp; done) | (simp; omega))), by (repeat (first | (with_reducible exact Ext.refl _) | (with_reducible assumption) | (with_reducible refine Ext.alloc ?_ _) | (with_reducible refine Ext.drew ?_) | (with_reducible refine Ext.drewN ?_ _) | ((with_reducible apply Ext.setCell); (case hp => first | omega | (simp; done) | (simp; omega))) | (with_reducible refine Ext.trans ?_ (by assumption))))⟩
set_option maxRecDepth 100000 in
set_option maxHeartbeats 4000000 in
theorem szStore_any (x : GStore) (o1 : Option Addr) (c1 : Nat) (left : Int) (w : World) (h : Rds w (encStore x) [.slice o1 x.fHeads.length c1, .int .i64 x.fSynced]) (hok : okL (encStore x)) (h0 : 0 ≤ left) (h1 : left ≤ 1048576) :
    Calls Tryd.prog 32 #[.agg #[.slice o1 x.fHeads.length c1, .int .i64 x.fSynced], .int .i64 left] w fun e w' => e = .returned (.int .i64 (szR left (szL (encStore x)))) ∧ Ext w w' := by
  have r0 : RL 50 6 encHeader w (.slice o1 x.fHeads.length c1) x.fHeads := h.cut 0 1
  have k0 : okL [slD 50 6 encHeader x.fHeads] := okL_cut (ds := encStore x) 0 1 hok
  have K0 := Lib.hid k0; clear k0
  have hT : szL (encStore x) = szL [slD 50 6 encHeader x.fHeads] := by simp [encStore, szL, slD]; try omega
  rw [hT]
  clear hT hok h
  obtain ⟨a0, ha0⟩ : ∃ a, a = szL [slD 50 6 encHeader x.fHeads] := ⟨_, rfl⟩
  rw [← ha0]
  have HA0 := Lib.hid ha0; clear ha0
  by_cases h2 : left < (a0 : Nat)
  · have R0 := Lib.hid (szR_no h2)
    go_enter Tryd.func32, Tryd.ntmps32
    go_wp2_with fail
    (refine (szHeaderS_any _ x.fHeads _ _ (r0.ext (by (repeat (first | (with_reducible exact Ext.refl _) | (with_reducible assumption) | (with_reducible refine Ext.alloc ?_ _) | (with_reducible refine Ext.drew ?_) | (with_reducible refine Ext.drewN ?_ _) | ((with_reducible apply Ext.setCell); (case hp => first | omega | (simp; done) | (simp; omega))) | (with_reducible refine Ext.trans ?_ (by assumption)))))) K0.out (by omega) (by omega)).mono ?_); rw [show szL [slD 50 6 encHeader x.fHeads] = a0 from HA0.out.symm, R0.out]; rintro e w0 ⟨rfl, hb⟩; (obtain ⟨B0, c0, f0, l0⟩ := Box.after (k := w.heap.size) hb (by (repeat (first | (with_reducible assumption) | ((with_reducible apply Box.new); (first | (with_reducible rfl) | (simp; done) | (simp; omega))) | (with_reducible apply Box.alloc) | (with_reducible apply Box.drew) | (with_reducible apply Box.drewN) | (with_reducible apply Box.set) | ((with_reducible apply Box.set_ne); (case hne => first | omega | (simp; done) | (simp; omega)))))))
    have E0 : Ext w w0 := by (repeat (first | (with_reducible exact Ext.refl _) | (with_reducible assumption) | (with_reducible refine Ext.alloc ?_ _) | (with_reducible refine Ext.drew ?_) | (with_reducible refine Ext.drewN ?_ _) | ((with_reducible apply Ext.setCell); (case hp => first | omega | (simp; done) | (simp; omega))) | (with_reducible refine Ext.trans ?_ (by assumption))))
    clear hb
    go_wp2
    go_ret
    exact ⟨ret_int (szR_no (by omega)), by (repeat (first | (with_reducible exact Ext.refl _) | (with_reducible assumption) | (with_reducible refine Ext.alloc ?_ _) | (with_reducible refine Ext.drew ?_) | (with_reducible refine Ext.drewN ?_ _) | ((with_reducible apply Ext.setCell); (case hp => first | omega | (simp; done) | (simp; omega))) | (with_reducible refine Ext.trans ?_ (by assumption))))⟩
  · have R0 := Lib.hid (szR_yes h2)
    go_enter Tryd.func32, Tryd.ntmps32
    go_wp2_with fail
    (refine (szHeaderS_any _ x.fHeads _ _ (r0.ext (by (repeat (first | (with_reducible exact Ext.refl _) | (with_reducible assumption) | (with_reducible refine Ext.alloc ?_ _) | (with_reducible refine Ext.drew ?_) | (with_reducible refine Ext.drewN ?_ _) | ((with_reducible apply Ext.setCell); (case hp => first | omega | (simp; done) | (simp; omega))) | (with_reducible refine Ext.trans ?_ (by assumption)))))) K0.out (by omega) (by omega)).mono ?_); rw [show szL [slD 50 6 encHeader x.fHeads] = a0 from HA0.out.symm, R0.out]; rintro e w0 ⟨rfl, hb⟩; (obtain ⟨B0, c0, f0, l0⟩ := Box.after (k := w.heap.size) hb (by (repeat (first | (with_reducible assumption) | ((with_reducible apply Box.new); (first | (with_reducible rfl) | (simp; done) | (simp; omega))) | (with_reducible apply Box.alloc) | (with_reducible apply Box.drew) | (with_reducible apply Box.drewN) | (with_reducible apply Box.set) | ((with_reducible apply Box.set_ne); (case hne => first | omega | (simp; done) | (simp; omega)))))))
    have E0 : Ext w w0 := by (repeat (first | (with_reducible exact Ext.refl _) | (with_reducible assumption) | (with_reducible refine Ext.alloc ?_ _) | (with_reducible refine Ext.drew ?_) | (with_reducible refine Ext.drewN ?_ _) | ((with_reducible apply Ext.setCell); (case hp => first | omega | (simp; done) | (simp; omega))) | (with_reducible refine Ext.trans ?_ (by assumption))))
    clear hb
    go_wp2
    go_ret
    exact ⟨ret_int ((szR_yes (by omega)).trans (by omega)), by (repeat (first | (with_reducible exact Ext.refl _) | (with_reducible assumption) | (with_reducible refine Ext.alloc ?_ _) | (with_reducible refine Ext.drew ?_) | (with_reducible refine Ext.drewN ?_ _) | ((with_reducible apply Ext.setCell); (case hp => first | omega | (simp; done) | (simp; omega))) | (with_reducible refine Ext.trans ?_ (by assumption))))⟩
set_option maxRecDepth 100000 in
set_option maxHeartbeats 4000000 in
theorem eqStore_any (x : GStore) (o1 : Option Addr) (c1 : Nat) (p1 : Option Addr) (q1 : Nat) (w : World) (h1 : Rds w (encStore x) [.slice o1 x.fHeads.length c1, .int .i64 x.fSynced]) (h2 : Rds w (encStore x) [.slice p1 x.fHeads.length q1, .int .i64 x.fSynced]) :
    Calls Tryd.prog 52 #[.agg #[.slice o1 x.fHeads.length c1, .int .i64 x.fSynced], .agg #[.slice p1 x.fHeads.length q1, .int .i64 x.fSynced]] w fun e w' => e = .returned (.bool true) ∧ Ext w w' := by
  have r0_0 : RL 50 6 encHeader w (.slice o1 x.fHeads.length c1) x.fHeads := h1.cut 0 1
  have r0_1 : RL 50 6 encHeader w (.slice p1 x.fHeads.length q1) x.fHeads := h2.cut 0 1
  clear h1 h2
  go_enter Tryd.func52, Tryd.ntmps52
  go_wp2_with fail
  (refine (eqHeaderS_any _ _ x.fHeads _ (r0_0.ext (by (repeat (first | (with_reducible exact Ext.refl _) | (with_reducible assumption) | (with_reducible refine Ext.alloc ?_ _) | (with_reducible refine Ext.drew ?_) | (with_reducible refine Ext.drewN ?_ _) | ((with_reducible apply Ext.setCell); (case hp => first | omega | (simp; done) | (simp; omega))) | (with_reducible refine Ext.trans ?_ (by assumption)))))) (r0_1.ext (by (repeat (first | (with_reducible exact Ext.refl _) | (with_reducible assumption) | (with_reducible refine Ext.alloc ?_ _) | (with_reducible refine Ext.drew ?_) | (with_reducible refine Ext.drewN ?_ _) | ((with_reducible apply Ext.setCell); (case hp => first | omega | (simp; done) | (simp; omega))) | (with_reducible refine Ext.trans ?_ (by assumption))))))).mono ?_); rintro e w1 ⟨rfl, hb⟩; (obtain ⟨B0, c0, f0, l0⟩ := Box.after (k := w.heap.size) hb (by (repeat (first | (with_reducible assumption) | ((with_reducible apply Box.new); (first | (with_reducible rfl) | (simp; done) | (simp; omega))) | (with_reducible apply Box.alloc) | (with_reducible apply Box.drew) | (with_reducible apply Box.drewN) | (with_reducible apply Box.set) | ((with_reducible apply Box.set_ne); (case hne => first | omega | (simp; done) | (simp; omega))))))); (obtain ⟨B1, c1, f1, l1⟩ := Box.after (k := w.heap.size + 1) hb (by (repeat (first | (with_reducible assumption) | ((with_reducible apply Box.new); (first | (with_reducible rfl) | (simp; done) | (simp; omega))) | (with_reducible apply Box.alloc) | (with_reducible apply Box.drew) | (with_reducible apply Box.drewN) | (with_reducible apply Box.set) | ((with_reducible apply Box.set_ne); (case hne => first | omega | (simp; done) | (simp; omega)))))))
  have E1 : Ext w w1 := by (repeat (first | (with_reducible exact Ext.refl _) | (with_reducible assumption) | (with_reducible refine Ext.alloc ?_ _) | (with_reducible refine Ext.drew ?_) | (with_reducible refine Ext.drewN ?_ _) | ((with_reducible apply Ext.setCell); (case hp => first | omega | (simp; done) | (simp; omega))) | (with_reducible refine Ext.trans ?_ (by assumption))))
  clear hb
  go_wp2
  go_ret
  exact ⟨rfl, by (repeat (first | (with_reducible exact Ext.refl _) | (with_reducible assumption) | (with_reducible refine Ext.alloc ?_ _) | (with_reducible refine Ext.drew ?_) | (with_reducible refine Ext.drewN ?_ _) | ((with_reducible apply Ext.setCell); (case hp => first | omega | (simp; done) | (simp; omega))) | (with_reducible refine Ext.trans ?_ (by assumption))))⟩
end Go.Proofs.YtgcelmnmalfpcaaDoor
namespace Go.Proofs.YtgcelmnmalfpcaaDoor
set_option linter.unusedSimpArgs false
set_option linter.unusedVariables false
open Go.RowKit
def encPeer (x : GPeer) : List D := [.int x.fId, .bool x.fPinned, .int x.fUntil, .int x.fBans]
theorem dec_Peer : Dec [.int .i64, .bool, .int .i64, .int .i64] encPeer := by
  intro n W vs h
  match vs, h with
  | [_, _, _, _], ⟨k0, k1, k2, k3, _⟩ =>
    obtain ⟨a0, rfl, h0⟩ := cell_int k0
    obtain ⟨a1, rfl⟩ := cell_bool k1
    obtain ⟨a2, rfl, h2⟩ := cell_int k2
    obtain ⟨a3, rfl, h3⟩ := cell_int k3
    exact ⟨⟨a0, a1, a2, a3⟩, (Rds.int _ (Rds.bool _ (Rds.int _ (Rds.int _ Rds.nil)))), (okL_int h0 (okL_bool (okL_int h2 (okL_int h3 okL_nil))))⟩
theorem pv_Peer (x : GPeer) : toPVL (encPeer x) = pPeer x := by
  simp only [encPeer, pPeer, toPVL, toPV]
theorem pvs_Peer (e : TypeId) (xs : List GPeer) : toPV (slD e 4 encPeer xs) = .sl 4 (xs.map pPeer) := by rw [toPV_slD (enc := encPeer) (sz := 4) (fun _ => rfl)]; simp only [pv_Peer]
theorem cnt_Peer (x : GPeer) : cnt (encPeer x) ≤ 64 + 64 * szL (encPeer x) := by
  simp [encPeer, cnt, szL]
set_option maxRecDepth 100000 in
set_option maxHeartbeats 4000000 in
theorem toPeer_any (x : GPeer) (w : World) :
    Calls Tryd.prog 93 #[.agg #[.int .i64 x.fId, .bool x.fPinned, .int .i64 x.fUntil, .int .i64 x.fBans]] w fun e w' => e = .returned (.agg #[.int .i64 x.fId, .bool x.fPinned, .int .i64 x.fUntil, .int .i64 x.fBans]) ∧ Ext w w' := by
  go_enter Tryd.func93, Tryd.ntmps93
  go_wp2
  exact bodyPost_ret (v := .agg #[.int .i64 x.fId, .bool x.fPinned, .int .i64 x.fUntil, .int .i64 x.fBans]) (by simp [results, Tryd.results93, go_sem]) rfl ⟨rfl, by (repeat (first | (with_reducible exact Ext.refl _) | (with_reducible assumption) | (with_reducible refine Ext.alloc ?_ _) | (with_reducible refine Ext.drew ?_) | (with_reducible refine Ext.drewN ?_ _) | ((with_reducible apply Ext.setCell); (case hp => first | omega | (simp; done) | (simp; omega))) | (with_reducible refine Ext.trans ?_ (by assumption))))⟩
set_option maxRecDepth 100000 in
set_option maxHeartbeats 4000000 in
theorem eqPeer_any (x : GPeer) (w : World) (_h1 : Rds w (encPeer x) [.int .i64 x.fId, .bool x.fPinned, .int .i64 x.fUntil, .int .i64 x.fBans]) (_h2 : Rds w (encPeer x) [.int .i64 x.fId, .bool x.fPinned, .int .i64 x.fUntil, .int .i64 x.fBans]) :
    Calls Tryd.prog 98 #[.agg #[.int .i64 x.fId, .bool x.fPinned, .int .i64 x.fUntil, .int .i64 x.fBans], .agg #[.int .i64 x.fId, .bool x.fPinned, .int .i64 x.fUntil, .int .i64 x.fBans]] w fun e w' => e = .returned (.bool true) ∧ Ext w w' := by
  go_enter Tryd.func98, Tryd.ntmps98
  go_wp2
  go_ret
  exact ⟨rfl, by (repeat (first | (with_reducible exact Ext.refl _) | (with_reducible assumption) | (with_reducible refine Ext.alloc ?_ _) | (with_reducible refine Ext.drew ?_) | (with_reducible refine Ext.drewN ?_ _) | ((with_reducible apply Ext.setCell); (case hp => first | omega | (simp; done) | (simp; omega))) | (with_reducible refine Ext.trans ?_ (by assumption))))⟩
theorem infoPeerS : (Tryd.prog.info? 111).map (fun i => (i.zero, i.size, i.bytes)) = some (some (.agg #[.int .i64 0, .bool false, .int .i64 0, .int .i64 0]), 4, 32) := by kernel_rfl
set_option maxRecDepth 100000 in
set_option maxHeartbeats 4000000 in
theorem toPeerS_any (v : Value) (xs : List GPeer) (w : World) (h : RL 111 4 encPeer w v xs) (hz : szL [slD 111 4 encPeer xs] ≤ 1048576) :
    Calls Tryd.prog 76 #[v] w fun e w' => ∃ (p : Option Addr) (q : Nat), e = .returned (.slice p xs.length q) ∧ Obj w' w.heap.size w'.heap.size [slD 111 4 encPeer xs] [.slice p xs.length q] ∧ Ext w w' := by
  obtain ⟨i0, hi, hz0, hz1, hz2⟩ := info_parts infoPeerS
  have hzero : ∀ w, Ows w [.int 0, .bool false, .int 0, .int 0] #[.int .i64 0, .bool false, .int .i64 0, .int .i64 0].toList [] := fun w => (Ows.int _ (Ows.bool _ (Ows.int _ (Ows.int _ Ows.nil))))
  have HZ := Lib.hid hzero; clear hzero
  have hn : xs.length ≤ 1048576 := by simp only [szL, slD] at hz; omega
  rcases RS.cases h with ⟨hn0, _, o1, c1, rfl⟩ | ⟨b1, o1, c1, rfl, hp, _, hm, hx⟩
  · obtain rfl := List.eq_nil_of_length_eq_zero hn0
    clear h hn0 hz hn
    go_enter Tryd.func76, Tryd.ntmps76
    go_wp2_with (at_make; refine wpList_make_full _ rfl (.tmp 6) (.tmp 6) 57 rfl w.heap.size 111 i0 _ 4 Tryd.underlying57 hi hz0 hz1 .i64 .i64 _ _ 0 rfl rfl rfl rfl (by omega) (by omega) (Nat.le_refl _) ?_; intro w1 hown hgrow)
    have hE := Ext.of_grownBy hgrow
    have hO := Lib.hid (Obj.made (n := 0) HZ.out rfl (by decide) hown)
    clear hgrow hown
    refine wp_loop_rounds 1 ?_
    rw [rounds_succ]
    go_wp2
    go_ret
    exact ⟨_, _, rfl, hO.out, hE⟩
  · have HSZ := Lib.hid hz
    clear h hm hz
    go_enter Tryd.func76, Tryd.ntmps76
    go_wp2_with (at_make; refine wpList_make_full _ rfl (.tmp 6) (.tmp 6) 57 rfl w.heap.size 111 i0 _ 4 Tryd.underlying57 hi hz0 hz1 .i64 .i64 _ _ xs.length rfl rfl rfl rfl (by rw [hz2]; omega) (by unfold maxLen; omega) (Nat.le_refl _) ?_; intro w1 hown hgrow)
    have hE := Ext.of_grownBy hgrow
    have hO : Obj w1 w.heap.size w1.heap.size [.sl 111 4 xs.length (fillE encPeer [.int 0, .bool false, .int 0, .int 0] xs 0)] [.slice (some ⟨w.heap.size, 0, none⟩) xs.length xs.length] := by rw [fillE_zero]; exact Obj.made HZ.out rfl (by decide) hown
    clear hgrow hown
    go_loopg [4] xs.length (fun g i wr => ∃ k : Nat, k ≤ xs.length ∧ g = xs.length - k ∧ i = .int .i64 k ∧ Ext w wr ∧ Obj wr w.heap.size wr.heap.size [.sl 111 4 xs.length (fillE encPeer [.int 0, .bool false, .int 0, .int 0] xs k)] [.slice (some ⟨w.heap.size, 0, none⟩) xs.length xs.length])
    case atStart => exact ⟨0, by omega, by omega, rfl, hE, hO⟩
    case round =>
      clear hE hO
      obtain ⟨k, hk, hg, rfl, hE, hO⟩ := hrel
      have HG := Lib.hid hg; clear hg
      by_cases hlt : k < xs.length
      · obtain ⟨x, hxk⟩ : ∃ x, xs[k]? = some x := ⟨_, List.getElem?_eq_getElem hlt⟩
        have e1 := (RAt.elem (enc := encPeer) (sz := 4) (fun _ => rfl) hx hxk).ext hE
        have HX := Lib.hid hxk
        have HM := Lib.hid (List.mem_of_getElem? hxk)
        clear hxk
        have q0 : wr.cell? ⟨b1, o1 + k * 4, none⟩ = some (.int .i64 x.fId) := e1.int (j := 0) rfl
        have q1 : wr.cell? ⟨b1, o1 + k * 4 + 1, none⟩ = some (.bool x.fPinned) := e1.bool (j := 1) rfl
        have q2 : wr.cell? ⟨b1, o1 + k * 4 + 2, none⟩ = some (.int .i64 x.fUntil) := e1.int (j := 2) rfl
        have q3 : wr.cell? ⟨b1, o1 + k * 4 + 3, none⟩ = some (.int .i64 x.fBans) := e1.int (j := 3) rfl
        clear e1
        go_wp2_with fail
        (refine (toPeer_any x _).mono ?_); rintro e w2 ⟨rfl, hb⟩
        have hR : Obj w2 w2.heap.size w2.heap.size (encPeer x) [.int .i64 x.fId, .bool x.fPinned, .int .i64 x.fUntil, .int .i64 x.fBans] := (Obj.int (Obj.bool (Obj.int (Obj.int obj_nil))))
        have hO2 := hO.ext hb
        have hsz := hb.size
        obtain ⟨F, f1, f2, f3⟩ := hO2
        obtain ⟨v0, x0⟩ := f1.cellAt (o := k * 4 + 0) f2 (by rw [RS.len f1.read]; omega)
        have y0 := f1.frozenAt f2 (k * 4 + 0)
        obtain ⟨v1, x1⟩ := f1.cellAt (o := k * 4 + 1) f2 (by rw [RS.len f1.read]; omega)
        have y1 := f1.frozenAt f2 (k * 4 + 1)
        obtain ⟨v2, x2⟩ := f1.cellAt (o := k * 4 + 2) f2 (by rw [RS.len f1.read]; omega)
        have y2 := f1.frozenAt f2 (k * 4 + 2)
        obtain ⟨v3, x3⟩ := f1.cellAt (o := k * 4 + 3) f2 (by rw [RS.len f1.read]; omega)
        have y3 := f1.frozenAt f2 (k * 4 + 3)
        simp only [Nat.add_zero] at x0 y0
        have hO3 := Lib.hid (Obj.fill (enc := encPeer) (z := [.int 0, .bool false, .int 0, .int 0]) (sz := 4) (hi := w2.heap.size) (fun _ => rfl) rfl ⟨F, f1, f2, f3⟩ HX.out hR (by omega) (by omega))
        clear f1 f2 f3 hR
        go_wp2
        go_roundg (xs.length - (k + 1))
        case measure => rw [HG.out]; omega
        case rel => exact ⟨k + 1, by omega, rfl, by go_num, by (repeat (first | (with_reducible exact Ext.refl _) | (with_reducible assumption) | (with_reducible refine Ext.alloc ?_ _) | (with_reducible refine Ext.drew ?_) | (with_reducible refine Ext.drewN ?_ _) | ((with_reducible apply Ext.setCell); (case hp => first | omega | (simp; done) | (simp; omega))) | (with_reducible refine Ext.trans ?_ (by assumption)))), Obj.mono (by have h := hO3.out; (try simp only [Nat.mul_one] at h); exact h) (Nat.le_refl _) (by (first | omega | (simp; done) | (simp; omega)))⟩
      · obtain rfl : k = xs.length := by omega
        rw [fillE_end] at hO
        go_wp2
        go_ret
        exact ⟨_, _, rfl, hO, hE⟩
set_option maxRecDepth 100000 in
set_option maxHeartbeats 4000000 in
theorem szPeerS_any (v : Value) (xs : List GPeer) (left : Int) (w : World) (h : RL 111 4 encPeer w v xs) (_hok : okL [slD 111 4 encPeer xs]) (h0 : 0 ≤ left) (h1 : left ≤ 1048576) :
    Calls Tryd.prog 71 #[v, .int .i64 left] w fun e w' => e = .returned (.int .i64 (szR left (szL [slD 111 4 encPeer xs]))) ∧ Ext w w' := by
  have hm := RS.bd h
  replace hm : xs.length ≤ 9223372036854775807 := by unfold maxLen at hm; omega
  have hs : szL [slD 111 4 encPeer xs] = xs.length := by
    have : szL (xs.flatMap encPeer) = 0 := szL_zero (fun x => by simp [encPeer, szL]) xs
    simp [slD, szL, this]
  obtain ⟨o1, c1, rfl⟩ := RS.val h
  rw [hs]
  clear h hs
  go_enter Tryd.func71, Tryd.ntmps71
  go_wp2
  all_goals
    go_ret
    exact ⟨ret_int (by first | exact szR_no (by omega) | exact szR_yes (by omega)), by (repeat (first | (with_reducible exact Ext.refl _) | (with_reducible assumption) | (with_reducible refine Ext.alloc ?_ _) | (with_reducible refine Ext.drew ?_) | (with_reducible refine Ext.drewN ?_ _) | ((with_reducible apply Ext.setCell); (case hp => first | omega | (simp; done) | (simp; omega))) | (with_reducible refine Ext.trans ?_ (by assumption))))⟩
set_option maxRecDepth 100000 in
set_option maxHeartbeats 4000000 in
theorem eqPeerS_any (v1 v2 : Value) (xs : List GPeer) (w : World) (h1 : RL 111 4 encPeer w v1 xs) (h2 : RL 111 4 encPeer w v2 xs) :
    Calls Tryd.prog 80 #[v1, v2] w fun e w' => e = .returned (.bool true) ∧ Ext w w' := by
  rcases RS.cases h1 with ⟨hn, _, o1, c1, rfl⟩ | ⟨b1, o1, c1, rfl, hp, _, hm, hx⟩
  · rcases RS.cases h2 with ⟨_, _, o2, c2, rfl⟩ | ⟨b2, o2, c2, rfl, hp, _⟩
    · clear h1 h2 hn
      go_enter Tryd.func80, Tryd.ntmps80
      go_wp2
      refine wp_loop_rounds 1 ?_
      rw [rounds_succ]
      go_wp2
      go_ret
      exact ⟨rfl, by (repeat (first | (with_reducible exact Ext.refl _) | (with_reducible assumption) | (with_reducible refine Ext.alloc ?_ _) | (with_reducible refine Ext.drew ?_) | (with_reducible refine Ext.drewN ?_ _) | ((with_reducible apply Ext.setCell); (case hp => first | omega | (simp; done) | (simp; omega))) | (with_reducible refine Ext.trans ?_ (by assumption))))⟩
    · omega
  · rcases RS.cases h2 with ⟨hn, _⟩ | ⟨b2, o2, c2, rfl, _, _, _, hy⟩
    · omega
    · have hn : xs.length ≤ 9223372036854775807 := by unfold maxLen at hm; omega
      clear h1 h2 hp hm
      go_enter Tryd.func80, Tryd.ntmps80
      go_wp2
      go_loopg [5] xs.length (fun g i wr => ∃ k : Nat, k ≤ xs.length ∧ g = xs.length - k ∧ i = .int .i64 k ∧ Ext w wr)
      case atStart => exact ⟨0, by omega, by omega, rfl, Ext.refl _⟩
      case round =>
        obtain ⟨k, hk, hg, rfl, hE⟩ := hrel
        have HG := Lib.hid hg; clear hg
        by_cases hlt : k < xs.length
        · obtain ⟨x, hxk⟩ : ∃ x, xs[k]? = some x := ⟨_, List.getElem?_eq_getElem hlt⟩
          have e1 := (RAt.elem (enc := encPeer) (sz := 4) (fun _ => rfl) hx hxk).ext hE
          have e2 := (RAt.elem (enc := encPeer) (sz := 4) (fun _ => rfl) hy hxk).ext hE
          clear hxk
          have i0 : (0 : Int) ≤ (k : Int) := by omega
          have i1 : (k : Int) < (xs.length : Int) := by omega
          have q0 : wr.cell? ⟨b1, o1 + k * 4, none⟩ = some (.int .i64 x.fId) := e1.int (j := 0) rfl
          have q1 : wr.cell? ⟨b1, o1 + k * 4 + 1, none⟩ = some (.bool x.fPinned) := e1.bool (j := 1) rfl
          have q2 : wr.cell? ⟨b1, o1 + k * 4 + 2, none⟩ = some (.int .i64 x.fUntil) := e1.int (j := 2) rfl
          have q3 : wr.cell? ⟨b1, o1 + k * 4 + 3, none⟩ = some (.int .i64 x.fBans) := e1.int (j := 3) rfl
          have m0 : wr.cell? ⟨b2, o2 + k * 4, none⟩ = some (.int .i64 x.fId) := e2.int (j := 0) rfl
          have m1 : wr.cell? ⟨b2, o2 + k * 4 + 1, none⟩ = some (.bool x.fPinned) := e2.bool (j := 1) rfl
          have m2 : wr.cell? ⟨b2, o2 + k * 4 + 2, none⟩ = some (.int .i64 x.fUntil) := e2.int (j := 2) rfl
          have m3 : wr.cell? ⟨b2, o2 + k * 4 + 3, none⟩ = some (.int .i64 x.fBans) := e2.int (j := 3) rfl
          have d1 : Rds wr (encPeer x) [.int .i64 x.fId, .bool x.fPinned, .int .i64 x.fUntil, .int .i64 x.fBans] := (Rds.int _ (Rds.bool _ (Rds.int _ (Rds.int _ Rds.nil))))
          have d2 : Rds wr (encPeer x) [.int .i64 x.fId, .bool x.fPinned, .int .i64 x.fUntil, .int .i64 x.fBans] := (Rds.int _ (Rds.bool _ (Rds.int _ (Rds.int _ Rds.nil))))
          clear e1 e2
          go_wp2_with fail
          go_region_held3 (fun w' => w'.cell? ⟨b1, o1 + k * 4, none⟩ = some (.int .i64 x.fId) ∧ w'.cell? ⟨b1, o1 + k * 4 + 1, none⟩ = some (.bool x.fPinned) ∧ w'.cell? ⟨b1, o1 + k * 4 + 2, none⟩ = some (.int .i64 x.fUntil) ∧ w'.cell? ⟨b1, o1 + k * 4 + 3, none⟩ = some (.int .i64 x.fBans) ∧ w'.cell? ⟨b2, o2 + k * 4, none⟩ = some (.int .i64 x.fId) ∧ w'.cell? ⟨b2, o2 + k * 4 + 1, none⟩ = some (.bool x.fPinned) ∧ w'.cell? ⟨b2, o2 + k * 4 + 2, none⟩ = some (.int .i64 x.fUntil) ∧ w'.cell? ⟨b2, o2 + k * 4 + 3, none⟩ = some (.int .i64 x.fBans)) ((first | go_keep | ((try dsimp only); (try go_split_ands); (repeat' apply And.intro) <;> exact hb.cellSome (by assumption))))
            ((go_at_call 98; refine (eqPeer_any x _ (d1.ext (by (repeat (first | (with_reducible exact Ext.refl _) | (with_reducible assumption) | (with_reducible refine Ext.alloc ?_ _) | (with_reducible refine Ext.drew ?_) | (with_reducible refine Ext.drewN ?_ _) | ((with_reducible apply Ext.setCell); (case hp => first | omega | (simp; done) | (simp; omega))) | (with_reducible refine Ext.trans ?_ (by assumption)))))) (d2.ext (by (repeat (first | (with_reducible exact Ext.refl _) | (with_reducible assumption) | (with_reducible refine Ext.alloc ?_ _) | (with_reducible refine Ext.drew ?_) | (with_reducible refine Ext.drewN ?_ _) | ((with_reducible apply Ext.setCell); (case hp => first | omega | (simp; done) | (simp; omega))) | (with_reducible refine Ext.trans ?_ (by assumption))))))).mono ?_; rintro e w1 ⟨rfl, hb⟩))
          go_wp2
          go_roundg (xs.length - (k + 1))
          case measure => rw [HG.out]; omega
          case rel => exact ⟨k + 1, by omega, rfl, by go_num, by (repeat (first | (with_reducible exact Ext.refl _) | (with_reducible assumption) | (with_reducible refine Ext.alloc ?_ _) | (with_reducible refine Ext.drew ?_) | (with_reducible refine Ext.drewN ?_ _) | ((with_reducible apply Ext.setCell); (case hp => first | omega | (simp; done) | (simp; omega))) | (with_reducible refine Ext.trans ?_ (by assumption))))⟩
        · go_wp2
          go_ret
          exact ⟨rfl, by (repeat (first | (with_reducible exact Ext.refl _) | (with_reducible assumption) | (with_reducible refine Ext.alloc ?_ _) | (with_reducible refine Ext.drew ?_) | (with_reducible refine Ext.drewN ?_ _) | ((with_reducible apply Ext.setCell); (case hp => first | omega | (simp; done) | (simp; omega))) | (with_reducible refine Ext.trans ?_ (by assumption))))⟩
end Go.Proofs.YtgcelmnmalfpcaaDoor
namespace Go.Proofs.YtgcelmnmalfpcaaDoor
set_option linter.unusedSimpArgs false
set_option linter.unusedVariables false
open Go.RowKit
def encTable (x : GTable) : List D := [slD 111 4 encPeer x.fPeers, .int x.fTurn]
set_option maxRecDepth 100000 in
set_option maxHeartbeats 4000000 in
theorem toTable_any (x : GTable) (o1 : Option Addr) (c1 : Nat) (w : World) (h : Rds w (encTable x) [.slice o1 x.fPeers.length c1, .int .i64 x.fTurn]) (hz : szL (encTable x) ≤ 1048576) :
    Calls Tryd.prog 43 #[.agg #[.slice o1 x.fPeers.length c1, .int .i64 x.fTurn]] w fun e w' => ∃ (p1 : Option Addr) (q1 : Nat), e = .returned (.agg #[.slice p1 x.fPeers.length q1, .int .i64 x.fTurn]) ∧ Obj w' w.heap.size w'.heap.size (encTable x) [.slice p1 x.fPeers.length q1, .int .i64 x.fTurn] ∧ Ext w w' := by
  have r0 : RL 111 4 encPeer w (.slice o1 x.fPeers.length c1) x.fPeers := h.cut 0 1
  have z0 : szL [slD 111 4 encPeer x.fPeers] ≤ 1048576 := Nat.le_trans (szL_cut (encTable x) 0 1) hz
  have Z0 := Lib.hid z0; clear z0
  clear h hz
  go_enter Tryd.func43, Tryd.ntmps43
  go_wp2_with fail
  (refine (toPeerS_any _ x.fPeers _ (r0.ext (by (repeat (first | (with_reducible exact Ext.refl _) | (with_reducible assumption) | (with_reducible refine Ext.alloc ?_ _) | (with_reducible refine Ext.drew ?_) | (with_reducible refine Ext.drewN ?_ _) | ((with_reducible apply Ext.setCell); (case hp => first | omega | (simp; done) | (simp; omega))) | (with_reducible refine Ext.trans ?_ (by assumption)))))) Z0.out).mono ?_); rintro e w1 ⟨p1, q1, rfl, O, hb⟩; (obtain ⟨B0, c0, f0, l0⟩ := Box.after (k := w.heap.size) hb (by (repeat (first | (with_reducible assumption) | ((with_reducible apply Box.new); (first | (with_reducible rfl) | (simp; done) | (simp; omega))) | (with_reducible apply Box.alloc) | (with_reducible apply Box.drew) | (with_reducible apply Box.drewN) | (with_reducible apply Box.set) | ((with_reducible apply Box.set_ne); (case hne => first | omega | (simp; done) | (simp; omega))))))); (obtain ⟨B1, c1, f1, l1⟩ := Box.after (k := w.heap.size + 1) hb (by (repeat (first | (with_reducible assumption) | ((with_reducible apply Box.new); (first | (with_reducible rfl) | (simp; done) | (simp; omega))) | (with_reducible apply Box.alloc) | (with_reducible apply Box.drew) | (with_reducible apply Box.drewN) | (with_reducible apply Box.set) | ((with_reducible apply Box.set_ne); (case hne => first | omega | (simp; done) | (simp; omega))))))); (obtain ⟨B2, c2, f2, l2⟩ := Box.after (k := w.heap.size + 2) hb (by (repeat (first | (with_reducible assumption) | ((with_reducible apply Box.new); (first | (with_reducible rfl) | (simp; done) | (simp; omega))) | (with_reducible apply Box.alloc) | (with_reducible apply Box.drew) | (with_reducible apply Box.drewN) | (with_reducible apply Box.set) | ((with_reducible apply Box.set_ne); (case hne => first | omega | (simp; done) | (simp; omega)))))))
  have hz := hb.size; simp at hz
  have A : Obj w1 (w.heap.size + 3) (w.heap.size + 3) [] [] := obj_nil
  replace A : Obj w1 (w.heap.size + 3) w1.heap.size [slD 111 4 encPeer x.fPeers] [.slice p1 x.fPeers.length q1] := Obj.more A O (by (first | omega | (simp; done) | (simp; omega))) (by (first | omega | (simp; done) | (simp; omega))) (by (first | omega | (simp; done) | (simp; omega)))
  have E1 : Ext w w1 := by (repeat (first | (with_reducible exact Ext.refl _) | (with_reducible assumption) | (with_reducible refine Ext.alloc ?_ _) | (with_reducible refine Ext.drew ?_) | (with_reducible refine Ext.drewN ?_ _) | ((with_reducible apply Ext.setCell); (case hp => first | omega | (simp; done) | (simp; omega))) | (with_reducible refine Ext.trans ?_ (by assumption))))
  clear hb O hz
  replace A : Obj w1 (w.heap.size + 3) w1.heap.size [slD 111 4 encPeer x.fPeers, .int x.fTurn] [.slice p1 x.fPeers.length q1, .int .i64 x.fTurn] := Obj.more A (.int obj_nil : Obj _ w1.heap.size w1.heap.size _ _) (Nat.le_refl _) (Nat.le_refl _) (by (first | omega | (simp; done) | (simp; omega)))
  have AS := A.read
  have HA := Lib.hid A; clear A AS
  go_wp2
  exact bodyPost_ret (v := .agg #[.slice p1 x.fPeers.length q1, .int .i64 x.fTurn]) (by simp [results, Tryd.results43, go_sem, c1]) rfl ⟨_, _, rfl, Obj.mono (lo := w.heap.size + 3) (hi := w1.heap.size) (show Obj _ _ _ [slD 111 4 encPeer x.fPeers, .int x.fTurn] _ from by have A := HA.out; (repeat (first | (with_reducible assumption) | (with_reducible apply Obj.alloc) | (with_reducible apply Obj.drew) | (with_reducible apply Obj.drewN) | ((with_reducible apply Obj.set); (case hk => first | omega | (simp; done) | (simp; omega) | (left; simp; omega) | (right; simp; omega))) | (with_reducible refine Obj.ext ?_ (by assumption))))) (by (first | omega | (simp; done) | (simp; omega))) (by (first | omega | (simp; done) | (simp; omega))), by (repeat (first | (with_reducible exact Ext.refl _) | (with_reducible assumption) | (with_reducible refine Ext.alloc ?_ _) | (with_reducible refine Ext.drew ?_) | (with_reducible refine Ext.drewN ?_ _) | ((with_reducible apply Ext.setCell); (case hp => first | omega | (simp; done) | (simp; omega))) | (with_reducible refine Ext.trans ?_ (by assumption))))⟩
set_option maxRecDepth 100000 in
set_option maxHeartbeats 4000000 in
theorem szTable_any (x : GTable) (o1 : Option Addr) (c1 : Nat) (left : Int) (w : World) (h : Rds w (encTable x) [.slice o1 x.fPeers.length c1, .int .i64 x.fTurn]) (hok : okL (encTable x)) (h0 : 0 ≤ left) (h1 : left ≤ 1048576) :
    Calls Tryd.prog 33 #[.agg #[.slice o1 x.fPeers.length c1, .int .i64 x.fTurn], .int .i64 left] w fun e w' => e = .returned (.int .i64 (szR left (szL (encTable x)))) ∧ Ext w w' := by
  have r0 : RL 111 4 encPeer w (.slice o1 x.fPeers.length c1) x.fPeers := h.cut 0 1
  have k0 : okL [slD 111 4 encPeer x.fPeers] := okL_cut (ds := encTable x) 0 1 hok
  have K0 := Lib.hid k0; clear k0
  have hT : szL (encTable x) = szL [slD 111 4 encPeer x.fPeers] := by simp [encTable, szL, slD]; try omega
  rw [hT]
  clear hT hok h
  obtain ⟨a0, ha0⟩ : ∃ a, a = szL [slD 111 4 encPeer x.fPeers] := ⟨_, rfl⟩
  rw [← ha0]
  have HA0 := Lib.hid ha0; clear ha0
  by_cases h2 : left < (a0 : Nat)
  · have R0 := Lib.hid (szR_no h2)
    go_enter Tryd.func33, Tryd.ntmps33
    go_wp2_with fail
    (refine (szPeerS_any _ x.fPeers _ _ (r0.ext (by (repeat (first | (with_reducible exact Ext.refl _) | (with_reducible assumption) | (with_reducible refine Ext.alloc ?_ _) | (with_reducible refine Ext.drew ?_) | (with_reducible refine Ext.drewN ?_ _) | ((with_reducible apply Ext.setCell); (case hp => first | omega | (simp; done) | (simp; omega))) | (with_reducible refine Ext.trans ?_ (by assumption)))))) K0.out (by omega) (by omega)).mono ?_); rw [show szL [slD 111 4 encPeer x.fPeers] = a0 from HA0.out.symm, R0.out]; rintro e w0 ⟨rfl, hb⟩; (obtain ⟨B0, c0, f0, l0⟩ := Box.after (k := w.heap.size) hb (by (repeat (first | (with_reducible assumption) | ((with_reducible apply Box.new); (first | (with_reducible rfl) | (simp; done) | (simp; omega))) | (with_reducible apply Box.alloc) | (with_reducible apply Box.drew) | (with_reducible apply Box.drewN) | (with_reducible apply Box.set) | ((with_reducible apply Box.set_ne); (case hne => first | omega | (simp; done) | (simp; omega)))))))
    have E0 : Ext w w0 := by (repeat (first | (with_reducible exact Ext.refl _) | (with_reducible assumption) | (with_reducible refine Ext.alloc ?_ _) | (with_reducible refine Ext.drew ?_) | (with_reducible refine Ext.drewN ?_ _) | ((with_reducible apply Ext.setCell); (case hp => first | omega | (simp; done) | (simp; omega))) | (with_reducible refine Ext.trans ?_ (by assumption))))
    clear hb
    go_wp2
    go_ret
    exact ⟨ret_int (szR_no (by omega)), by (repeat (first | (with_reducible exact Ext.refl _) | (with_reducible assumption) | (with_reducible refine Ext.alloc ?_ _) | (with_reducible refine Ext.drew ?_) | (with_reducible refine Ext.drewN ?_ _) | ((with_reducible apply Ext.setCell); (case hp => first | omega | (simp; done) | (simp; omega))) | (with_reducible refine Ext.trans ?_ (by assumption))))⟩
  · have R0 := Lib.hid (szR_yes h2)
    go_enter Tryd.func33, Tryd.ntmps33
    go_wp2_with fail
    (refine (szPeerS_any _ x.fPeers _ _ (r0.ext (by (repeat (first | (with_reducible exact Ext.refl _) | (with_reducible assumption) | (with_reducible refine Ext.alloc ?_ _) | (with_reducible refine Ext.drew ?_) | (with_reducible refine Ext.drewN ?_ _) | ((with_reducible apply Ext.setCell); (case hp => first | omega | (simp; done) | (simp; omega))) | (with_reducible refine Ext.trans ?_ (by assumption)))))) K0.out (by omega) (by omega)).mono ?_); rw [show szL [slD 111 4 encPeer x.fPeers] = a0 from HA0.out.symm, R0.out]; rintro e w0 ⟨rfl, hb⟩; (obtain ⟨B0, c0, f0, l0⟩ := Box.after (k := w.heap.size) hb (by (repeat (first | (with_reducible assumption) | ((with_reducible apply Box.new); (first | (with_reducible rfl) | (simp; done) | (simp; omega))) | (with_reducible apply Box.alloc) | (with_reducible apply Box.drew) | (with_reducible apply Box.drewN) | (with_reducible apply Box.set) | ((with_reducible apply Box.set_ne); (case hne => first | omega | (simp; done) | (simp; omega)))))))
    have E0 : Ext w w0 := by (repeat (first | (with_reducible exact Ext.refl _) | (with_reducible assumption) | (with_reducible refine Ext.alloc ?_ _) | (with_reducible refine Ext.drew ?_) | (with_reducible refine Ext.drewN ?_ _) | ((with_reducible apply Ext.setCell); (case hp => first | omega | (simp; done) | (simp; omega))) | (with_reducible refine Ext.trans ?_ (by assumption))))
    clear hb
    go_wp2
    go_ret
    exact ⟨ret_int ((szR_yes (by omega)).trans (by omega)), by (repeat (first | (with_reducible exact Ext.refl _) | (with_reducible assumption) | (with_reducible refine Ext.alloc ?_ _) | (with_reducible refine Ext.drew ?_) | (with_reducible refine Ext.drewN ?_ _) | ((with_reducible apply Ext.setCell); (case hp => first | omega | (simp; done) | (simp; omega))) | (with_reducible refine Ext.trans ?_ (by assumption))))⟩
set_option maxRecDepth 100000 in
set_option maxHeartbeats 4000000 in
theorem eqTable_any (x : GTable) (o1 : Option Addr) (c1 : Nat) (p1 : Option Addr) (q1 : Nat) (w : World) (h1 : Rds w (encTable x) [.slice o1 x.fPeers.length c1, .int .i64 x.fTurn]) (h2 : Rds w (encTable x) [.slice p1 x.fPeers.length q1, .int .i64 x.fTurn]) :
    Calls Tryd.prog 53 #[.agg #[.slice o1 x.fPeers.length c1, .int .i64 x.fTurn], .agg #[.slice p1 x.fPeers.length q1, .int .i64 x.fTurn]] w fun e w' => e = .returned (.bool true) ∧ Ext w w' := by
  have r0_0 : RL 111 4 encPeer w (.slice o1 x.fPeers.length c1) x.fPeers := h1.cut 0 1
  have r0_1 : RL 111 4 encPeer w (.slice p1 x.fPeers.length q1) x.fPeers := h2.cut 0 1
  clear h1 h2
  go_enter Tryd.func53, Tryd.ntmps53
  go_wp2_with fail
  (refine (eqPeerS_any _ _ x.fPeers _ (r0_0.ext (by (repeat (first | (with_reducible exact Ext.refl _) | (with_reducible assumption) | (with_reducible refine Ext.alloc ?_ _) | (with_reducible refine Ext.drew ?_) | (with_reducible refine Ext.drewN ?_ _) | ((with_reducible apply Ext.setCell); (case hp => first | omega | (simp; done) | (simp; omega))) | (with_reducible refine Ext.trans ?_ (by assumption)))))) (r0_1.ext (by (repeat (first | (with_reducible exact Ext.refl _) | (with_reducible assumption) | (with_reducible refine Ext.alloc ?_ _) | (with_reducible refine Ext.drew ?_) | (with_reducible refine Ext.drewN ?_ _) | ((with_reducible apply Ext.setCell); (case hp => first | omega | (simp; done) | (simp; omega))) | (with_reducible refine Ext.trans ?_ (by assumption))))))).mono ?_); rintro e w1 ⟨rfl, hb⟩; (obtain ⟨B0, c0, f0, l0⟩ := Box.after (k := w.heap.size) hb (by (repeat (first | (with_reducible assumption) | ((with_reducible apply Box.new); (first | (with_reducible rfl) | (simp; done) | (simp; omega))) | (with_reducible apply Box.alloc) | (with_reducible apply Box.drew) | (with_reducible apply Box.drewN) | (with_reducible apply Box.set) | ((with_reducible apply Box.set_ne); (case hne => first | omega | (simp; done) | (simp; omega))))))); (obtain ⟨B1, c1, f1, l1⟩ := Box.after (k := w.heap.size + 1) hb (by (repeat (first | (with_reducible assumption) | ((with_reducible apply Box.new); (first | (with_reducible rfl) | (simp; done) | (simp; omega))) | (with_reducible apply Box.alloc) | (with_reducible apply Box.drew) | (with_reducible apply Box.drewN) | (with_reducible apply Box.set) | ((with_reducible apply Box.set_ne); (case hne => first | omega | (simp; done) | (simp; omega)))))))
  have E1 : Ext w w1 := by (repeat (first | (with_reducible exact Ext.refl _) | (with_reducible assumption) | (with_reducible refine Ext.alloc ?_ _) | (with_reducible refine Ext.drew ?_) | (with_reducible refine Ext.drewN ?_ _) | ((with_reducible apply Ext.setCell); (case hp => first | omega | (simp; done) | (simp; omega))) | (with_reducible refine Ext.trans ?_ (by assumption))))
  clear hb
  go_wp2
  go_ret
  exact ⟨rfl, by (repeat (first | (with_reducible exact Ext.refl _) | (with_reducible assumption) | (with_reducible refine Ext.alloc ?_ _) | (with_reducible refine Ext.drew ?_) | (with_reducible refine Ext.drewN ?_ _) | ((with_reducible apply Ext.setCell); (case hp => first | omega | (simp; done) | (simp; omega))) | (with_reducible refine Ext.trans ?_ (by assumption))))⟩
end Go.Proofs.YtgcelmnmalfpcaaDoor
namespace Go.Proofs.YtgcelmnmalfpcaaDoor
set_option linter.unusedSimpArgs false
set_option linter.unusedVariables false
open Go.RowKit
def encLight (x : GLight) : List D := [.int x.fTrust.fPeriod, .int x.fTrust.fSlack, .int x.fState, .int x.fAnchor.fHead.fHeight, .int x.fAnchor.fHead.fTime, .str x.fAnchor.fHead.fLast, .str x.fAnchor.fHead.fVals, .str x.fAnchor.fHead.fNext, .str x.fAnchor.fHead.fData, slD 120 2 encVal x.fAnchor.fNext, slD 50 6 encHeader x.fStore.fHeads, .int x.fStore.fSynced, slD 111 4 encPeer x.fPeers.fPeers, .int x.fPeers.fTurn, .int x.fNow]
theorem dec_Light : Dec [.int .i64, .int .i64, .int .i64, .int .i64, .int .i64, .str, .str, .str, .str, .sl [.int .i64, .int .i64], .sl [.int .i64, .int .i64, .str, .str, .str, .str], .int .i64, .sl [.int .i64, .bool, .int .i64, .int .i64], .int .i64, .int .i64] encLight := by
  intro n W vs h
  match vs, h with
  | [_, _, _, _, _, _, _, _, _, _, _, _, _, _, _], ⟨k0, k1, k2, k3, k4, k5, k6, k7, k8, k9, k10, k11, k12, k13, k14, _⟩ =>
    obtain ⟨a0, rfl, h0⟩ := cell_int k0
    obtain ⟨a1, rfl, h1⟩ := cell_int k1
    obtain ⟨a2, rfl, h2⟩ := cell_int k2
    obtain ⟨a3, rfl, h3⟩ := cell_int k3
    obtain ⟨a4, rfl, h4⟩ := cell_int k4
    obtain ⟨a5, rfl, h5⟩ := cell_str k5
    obtain ⟨a6, rfl, h6⟩ := cell_str k6
    obtain ⟨a7, rfl, h7⟩ := cell_str k7
    obtain ⟨a8, rfl, h8⟩ := cell_str k8
    obtain ⟨a9, r9, h9⟩ := dec_sl 120 dec_Val (fun _ => rfl) (by decide) k9
    obtain ⟨a10, r10, h10⟩ := dec_sl 50 dec_Header (fun _ => rfl) (by decide) k10
    obtain ⟨a11, rfl, h11⟩ := cell_int k11
    obtain ⟨a12, r12, h12⟩ := dec_sl 111 dec_Peer (fun _ => rfl) (by decide) k12
    obtain ⟨a13, rfl, h13⟩ := cell_int k13
    obtain ⟨a14, rfl, h14⟩ := cell_int k14
    exact ⟨⟨⟨a0, a1⟩, a2, ⟨⟨a3, a4, a5, a6, a7, a8⟩, a9⟩, ⟨a10, a11⟩, ⟨a12, a13⟩, a14⟩, (Rds.int _ (Rds.int _ (Rds.int _ (Rds.int _ (Rds.int _ (Rds.str _ (Rds.str _ (Rds.str _ (Rds.str _ (rds_slD.2 ⟨_, _, rfl, r9, (rds_slD.2 ⟨_, _, rfl, r10, (Rds.int _ (rds_slD.2 ⟨_, _, rfl, r12, (Rds.int _ (Rds.int _ Rds.nil))⟩))⟩)⟩)))))))))), (okL_int h0 (okL_int h1 (okL_int h2 (okL_int h3 (okL_int h4 (okL_str h5 (okL_str h6 (okL_str h7 (okL_str h8 (okL_cons h9 (okL_cons h10 (okL_int h11 (okL_cons h12 (okL_int h13 (okL_int h14 okL_nil)))))))))))))))⟩
theorem pv_Light (x : GLight) : toPVL (encLight x) = pLight x := by
  simp only [encLight, pLight, toPVL, toPV, pvs_Header, pvs_Peer, pvs_Val]
theorem cnt_Light (x : GLight) : cnt (encLight x) ≤ 64 + 64 * szL (encLight x) := by
  have h0 := cnt_list cnt_Val x.fAnchor.fNext
  have h1 := cnt_list cnt_Header x.fStore.fHeads
  have h2 := cnt_list cnt_Peer x.fPeers.fPeers
  simp [encLight, cnt, szL, slD]
  omega
set_option maxRecDepth 100000 in
set_option maxHeartbeats 4000000 in
theorem toLight_any (x : GLight) (o1 o2 o3 : Option Addr) (c1 c2 c3 : Nat) (w : World) (h : Rds w (encLight x) [.int .i64 x.fTrust.fPeriod, .int .i64 x.fTrust.fSlack, .int .i64 x.fState, .int .i64 x.fAnchor.fHead.fHeight, .int .i64 x.fAnchor.fHead.fTime, .string x.fAnchor.fHead.fLast, .string x.fAnchor.fHead.fVals, .string x.fAnchor.fHead.fNext, .string x.fAnchor.fHead.fData, .slice o1 x.fAnchor.fNext.length c1, .slice o2 x.fStore.fHeads.length c2, .int .i64 x.fStore.fSynced, .slice o3 x.fPeers.fPeers.length c3, .int .i64 x.fPeers.fTurn, .int .i64 x.fNow]) (hz : szL (encLight x) ≤ 1048576) :
    Calls Tryd.prog 15 #[.agg #[.int .i64 x.fTrust.fPeriod, .int .i64 x.fTrust.fSlack, .int .i64 x.fState, .int .i64 x.fAnchor.fHead.fHeight, .int .i64 x.fAnchor.fHead.fTime, .string x.fAnchor.fHead.fLast, .string x.fAnchor.fHead.fVals, .string x.fAnchor.fHead.fNext, .string x.fAnchor.fHead.fData, .slice o1 x.fAnchor.fNext.length c1, .slice o2 x.fStore.fHeads.length c2, .int .i64 x.fStore.fSynced, .slice o3 x.fPeers.fPeers.length c3, .int .i64 x.fPeers.fTurn, .int .i64 x.fNow]] w fun e w' => ∃ (p1 p2 p3 : Option Addr) (q1 q2 q3 : Nat), e = .returned (.agg #[.int .i64 x.fTrust.fPeriod, .int .i64 x.fTrust.fSlack, .int .i64 x.fState, .int .i64 x.fAnchor.fHead.fHeight, .int .i64 x.fAnchor.fHead.fTime, .string x.fAnchor.fHead.fLast, .string x.fAnchor.fHead.fVals, .string x.fAnchor.fHead.fNext, .string x.fAnchor.fHead.fData, .slice p1 x.fAnchor.fNext.length q1, .slice p2 x.fStore.fHeads.length q2, .int .i64 x.fStore.fSynced, .slice p3 x.fPeers.fPeers.length q3, .int .i64 x.fPeers.fTurn, .int .i64 x.fNow]) ∧ Obj w' w.heap.size w'.heap.size (encLight x) [.int .i64 x.fTrust.fPeriod, .int .i64 x.fTrust.fSlack, .int .i64 x.fState, .int .i64 x.fAnchor.fHead.fHeight, .int .i64 x.fAnchor.fHead.fTime, .string x.fAnchor.fHead.fLast, .string x.fAnchor.fHead.fVals, .string x.fAnchor.fHead.fNext, .string x.fAnchor.fHead.fData, .slice p1 x.fAnchor.fNext.length q1, .slice p2 x.fStore.fHeads.length q2, .int .i64 x.fStore.fSynced, .slice p3 x.fPeers.fPeers.length q3, .int .i64 x.fPeers.fTurn, .int .i64 x.fNow] ∧ Ext w w' := by
  have r2 : Rds w (encAnchor x.fAnchor) [.int .i64 x.fAnchor.fHead.fHeight, .int .i64 x.fAnchor.fHead.fTime, .string x.fAnchor.fHead.fLast, .string x.fAnchor.fHead.fVals, .string x.fAnchor.fHead.fNext, .string x.fAnchor.fHead.fData, .slice o1 x.fAnchor.fNext.length c1] := h.cut 3 7
  have z2 : szL (encAnchor x.fAnchor) ≤ 1048576 := Nat.le_trans (szL_cut (encLight x) 3 7) hz
  have Z2 := Lib.hid z2; clear z2
  have r3 : Rds w (encStore x.fStore) [.slice o2 x.fStore.fHeads.length c2, .int .i64 x.fStore.fSynced] := h.cut 10 2
  have z3 : szL (encStore x.fStore) ≤ 1048576 := Nat.le_trans (szL_cut (encLight x) 10 2) hz
  have Z3 := Lib.hid z3; clear z3
  have r4 : Rds w (encTable x.fPeers) [.slice o3 x.fPeers.fPeers.length c3, .int .i64 x.fPeers.fTurn] := h.cut 12 2
  have z4 : szL (encTable x.fPeers) ≤ 1048576 := Nat.le_trans (szL_cut (encLight x) 12 2) hz
  have Z4 := Lib.hid z4; clear z4
  clear h hz
  go_enter Tryd.func15, Tryd.ntmps15
  go_wp2_with fail
  (refine (toTrust_any x.fTrust _).mono ?_); rintro e w1 ⟨rfl, hb⟩; (obtain ⟨B0, c0, f0, l0⟩ := Box.after (k := w.heap.size) hb (by (repeat (first | (with_reducible assumption) | ((with_reducible apply Box.new); (first | (with_reducible rfl) | (simp; done) | (simp; omega))) | (with_reducible apply Box.alloc) | (with_reducible apply Box.drew) | (with_reducible apply Box.drewN) | (with_reducible apply Box.set) | ((with_reducible apply Box.set_ne); (case hne => first | omega | (simp; done) | (simp; omega))))))); (obtain ⟨B1, c1, f1, l1⟩ := Box.after (k := w.heap.size + 1) hb (by (repeat (first | (with_reducible assumption) | ((with_reducible apply Box.new); (first | (with_reducible rfl) | (simp; done) | (simp; omega))) | (with_reducible apply Box.alloc) | (with_reducible apply Box.drew) | (with_reducible apply Box.drewN) | (with_reducible apply Box.set) | ((with_reducible apply Box.set_ne); (case hne => first | omega | (simp; done) | (simp; omega))))))); (obtain ⟨B2, c2, f2, l2⟩ := Box.after (k := w.heap.size + 2) hb (by (repeat (first | (with_reducible assumption) | ((with_reducible apply Box.new); (first | (with_reducible rfl) | (simp; done) | (simp; omega))) | (with_reducible apply Box.alloc) | (with_reducible apply Box.drew) | (with_reducible apply Box.drewN) | (with_reducible apply Box.set) | ((with_reducible apply Box.set_ne); (case hne => first | omega | (simp; done) | (simp; omega)))))))
  have hz := hb.size; simp at hz
  have A : Obj w1 (w.heap.size + 3) (w.heap.size + 3) [] [] := obj_nil
  have O : Obj w1 w1.heap.size w1.heap.size [.int x.fTrust.fPeriod, .int x.fTrust.fSlack] [.int .i64 x.fTrust.fPeriod, .int .i64 x.fTrust.fSlack] := (Obj.int (Obj.int obj_nil))
  replace A : Obj w1 (w.heap.size + 3) w1.heap.size [.int x.fTrust.fPeriod, .int x.fTrust.fSlack] [.int .i64 x.fTrust.fPeriod, .int .i64 x.fTrust.fSlack] := Obj.more A O (by (first | omega | (simp; done) | (simp; omega))) (by (first | omega | (simp; done) | (simp; omega))) (by (first | omega | (simp; done) | (simp; omega)))
  have E1 : Ext w w1 := by (repeat (first | (with_reducible exact Ext.refl _) | (with_reducible assumption) | (with_reducible refine Ext.alloc ?_ _) | (with_reducible refine Ext.drew ?_) | (with_reducible refine Ext.drewN ?_ _) | ((with_reducible apply Ext.setCell); (case hp => first | omega | (simp; done) | (simp; omega))) | (with_reducible refine Ext.trans ?_ (by assumption))))
  clear hb O hz
  go_wp2_with fail
  (refine (toAnchor_any x.fAnchor _ _ _ (r2.ext (by (repeat (first | (with_reducible exact Ext.refl _) | (with_reducible assumption) | (with_reducible refine Ext.alloc ?_ _) | (with_reducible refine Ext.drew ?_) | (with_reducible refine Ext.drewN ?_ _) | ((with_reducible apply Ext.setCell); (case hp => first | omega | (simp; done) | (simp; omega))) | (with_reducible refine Ext.trans ?_ (by assumption)))))) Z2.out).mono ?_); rintro e w2 ⟨p1, q1, rfl, O, hb⟩; (obtain ⟨B0, c0, f0, l0⟩ := Box.after (k := w.heap.size) hb (by (repeat (first | (with_reducible assumption) | ((with_reducible apply Box.new); (first | (with_reducible rfl) | (simp; done) | (simp; omega))) | (with_reducible apply Box.alloc) | (with_reducible apply Box.drew) | (with_reducible apply Box.drewN) | (with_reducible apply Box.set) | ((with_reducible apply Box.set_ne); (case hne => first | omega | (simp; done) | (simp; omega))))))); (obtain ⟨B1, c1, f1, l1⟩ := Box.after (k := w.heap.size + 1) hb (by (repeat (first | (with_reducible assumption) | ((with_reducible apply Box.new); (first | (with_reducible rfl) | (simp; done) | (simp; omega))) | (with_reducible apply Box.alloc) | (with_reducible apply Box.drew) | (with_reducible apply Box.drewN) | (with_reducible apply Box.set) | ((with_reducible apply Box.set_ne); (case hne => first | omega | (simp; done) | (simp; omega))))))); (obtain ⟨B2, c2, f2, l2⟩ := Box.after (k := w.heap.size + 2) hb (by (repeat (first | (with_reducible assumption) | ((with_reducible apply Box.new); (first | (with_reducible rfl) | (simp; done) | (simp; omega))) | (with_reducible apply Box.alloc) | (with_reducible apply Box.drew) | (with_reducible apply Box.drewN) | (with_reducible apply Box.set) | ((with_reducible apply Box.set_ne); (case hne => first | omega | (simp; done) | (simp; omega)))))))
  have hz := hb.size; simp at hz
  replace A : Obj w2 (w.heap.size + 3) w1.heap.size [.int x.fTrust.fPeriod, .int x.fTrust.fSlack] [.int .i64 x.fTrust.fPeriod, .int .i64 x.fTrust.fSlack] := by (repeat (first | (with_reducible assumption) | (with_reducible apply Obj.alloc) | (with_reducible apply Obj.drew) | (with_reducible apply Obj.drewN) | ((with_reducible apply Obj.set); (case hk => first | omega | (simp; done) | (simp; omega) | (left; simp; omega) | (right; simp; omega))) | (with_reducible refine Obj.ext ?_ (by assumption))))
  replace A : Obj w2 (w.heap.size + 3) w1.heap.size [.int x.fTrust.fPeriod, .int x.fTrust.fSlack, .int x.fState] [.int .i64 x.fTrust.fPeriod, .int .i64 x.fTrust.fSlack, .int .i64 x.fState] := Obj.more A (.int obj_nil : Obj _ w1.heap.size w1.heap.size _ _) (Nat.le_refl _) (Nat.le_refl _) (by (first | omega | (simp; done) | (simp; omega)))
  replace A : Obj w2 (w.heap.size + 3) w2.heap.size [.int x.fTrust.fPeriod, .int x.fTrust.fSlack, .int x.fState, .int x.fAnchor.fHead.fHeight, .int x.fAnchor.fHead.fTime, .str x.fAnchor.fHead.fLast, .str x.fAnchor.fHead.fVals, .str x.fAnchor.fHead.fNext, .str x.fAnchor.fHead.fData, slD 120 2 encVal x.fAnchor.fNext] [.int .i64 x.fTrust.fPeriod, .int .i64 x.fTrust.fSlack, .int .i64 x.fState, .int .i64 x.fAnchor.fHead.fHeight, .int .i64 x.fAnchor.fHead.fTime, .string x.fAnchor.fHead.fLast, .string x.fAnchor.fHead.fVals, .string x.fAnchor.fHead.fNext, .string x.fAnchor.fHead.fData, .slice p1 x.fAnchor.fNext.length q1] := Obj.more A O (by (first | omega | (simp; done) | (simp; omega))) (by (first | omega | (simp; done) | (simp; omega))) (by (first | omega | (simp; done) | (simp; omega)))
  have E2 : Ext w w2 := by (repeat (first | (with_reducible exact Ext.refl _) | (with_reducible assumption) | (with_reducible refine Ext.alloc ?_ _) | (with_reducible refine Ext.drew ?_) | (with_reducible refine Ext.drewN ?_ _) | ((with_reducible apply Ext.setCell); (case hp => first | omega | (simp; done) | (simp; omega))) | (with_reducible refine Ext.trans ?_ (by assumption))))
  clear hb O hz E1
  go_wp2_with fail
  (refine (toStore_any x.fStore _ _ _ (r3.ext (by (repeat (first | (with_reducible exact Ext.refl _) | (with_reducible assumption) | (with_reducible refine Ext.alloc ?_ _) | (with_reducible refine Ext.drew ?_) | (with_reducible refine Ext.drewN ?_ _) | ((with_reducible apply Ext.setCell); (case hp => first | omega | (simp; done) | (simp; omega))) | (with_reducible refine Ext.trans ?_ (by assumption)))))) Z3.out).mono ?_); rintro e w3 ⟨p2, q2, rfl, O, hb⟩; (obtain ⟨B0, c0, f0, l0⟩ := Box.after (k := w.heap.size) hb (by (repeat (first | (with_reducible assumption) | ((with_reducible apply Box.new); (first | (with_reducible rfl) | (simp; done) | (simp; omega))) | (with_reducible apply Box.alloc) | (with_reducible apply Box.drew) | (with_reducible apply Box.drewN) | (with_reducible apply Box.set) | ((with_reducible apply Box.set_ne); (case hne => first | omega | (simp; done) | (simp; omega))))))); (obtain ⟨B1, c1, f1, l1⟩ := Box.after (k := w.heap.size + 1) hb (by (repeat (first | (with_reducible assumption) | ((with_reducible apply Box.new); (first | (with_reducible rfl) | (simp; done) | (simp; omega))) | (with_reducible apply Box.alloc) | (with_reducible apply Box.drew) | (with_reducible apply Box.drewN) | (with_reducible apply Box.set) | ((with_reducible apply Box.set_ne); (case hne => first | omega | (simp; done) | (simp; omega))))))); (obtain ⟨B2, c2, f2, l2⟩ := Box.after (k := w.heap.size + 2) hb (by (repeat (first | (with_reducible assumption) | ((with_reducible apply Box.new); (first | (with_reducible rfl) | (simp; done) | (simp; omega))) | (with_reducible apply Box.alloc) | (with_reducible apply Box.drew) | (with_reducible apply Box.drewN) | (with_reducible apply Box.set) | ((with_reducible apply Box.set_ne); (case hne => first | omega | (simp; done) | (simp; omega)))))))
  have hz := hb.size; simp at hz
  replace A : Obj w3 (w.heap.size + 3) w2.heap.size [.int x.fTrust.fPeriod, .int x.fTrust.fSlack, .int x.fState, .int x.fAnchor.fHead.fHeight, .int x.fAnchor.fHead.fTime, .str x.fAnchor.fHead.fLast, .str x.fAnchor.fHead.fVals, .str x.fAnchor.fHead.fNext, .str x.fAnchor.fHead.fData, slD 120 2 encVal x.fAnchor.fNext] [.int .i64 x.fTrust.fPeriod, .int .i64 x.fTrust.fSlack, .int .i64 x.fState, .int .i64 x.fAnchor.fHead.fHeight, .int .i64 x.fAnchor.fHead.fTime, .string x.fAnchor.fHead.fLast, .string x.fAnchor.fHead.fVals, .string x.fAnchor.fHead.fNext, .string x.fAnchor.fHead.fData, .slice p1 x.fAnchor.fNext.length q1] := by (repeat (first | (with_reducible assumption) | (with_reducible apply Obj.alloc) | (with_reducible apply Obj.drew) | (with_reducible apply Obj.drewN) | ((with_reducible apply Obj.set); (case hk => first | omega | (simp; done) | (simp; omega) | (left; simp; omega) | (right; simp; omega))) | (with_reducible refine Obj.ext ?_ (by assumption))))
  replace A : Obj w3 (w.heap.size + 3) w3.heap.size [.int x.fTrust.fPeriod, .int x.fTrust.fSlack, .int x.fState, .int x.fAnchor.fHead.fHeight, .int x.fAnchor.fHead.fTime, .str x.fAnchor.fHead.fLast, .str x.fAnchor.fHead.fVals, .str x.fAnchor.fHead.fNext, .str x.fAnchor.fHead.fData, slD 120 2 encVal x.fAnchor.fNext, slD 50 6 encHeader x.fStore.fHeads, .int x.fStore.fSynced] [.int .i64 x.fTrust.fPeriod, .int .i64 x.fTrust.fSlack, .int .i64 x.fState, .int .i64 x.fAnchor.fHead.fHeight, .int .i64 x.fAnchor.fHead.fTime, .string x.fAnchor.fHead.fLast, .string x.fAnchor.fHead.fVals, .string x.fAnchor.fHead.fNext, .string x.fAnchor.fHead.fData, .slice p1 x.fAnchor.fNext.length q1, .slice p2 x.fStore.fHeads.length q2, .int .i64 x.fStore.fSynced] := Obj.more A O (by (first | omega | (simp; done) | (simp; omega))) (by (first | omega | (simp; done) | (simp; omega))) (by (first | omega | (simp; done) | (simp; omega)))
  have E3 : Ext w w3 := by (repeat (first | (with_reducible exact Ext.refl _) | (with_reducible assumption) | (with_reducible refine Ext.alloc ?_ _) | (with_reducible refine Ext.drew ?_) | (with_reducible refine Ext.drewN ?_ _) | ((with_reducible apply Ext.setCell); (case hp => first | omega | (simp; done) | (simp; omega))) | (with_reducible refine Ext.trans ?_ (by assumption))))
  clear hb O hz E2
  go_wp2_with fail
  (refine (toTable_any x.fPeers _ _ _ (r4.ext (by (repeat (first | (with_reducible exact Ext.refl _) | (with_reducible assumption) | (with_reducible refine Ext.alloc ?_ _) | (with_reducible refine Ext.drew ?_) | (with_reducible refine Ext.drewN ?_ _) | ((with_reducible apply Ext.setCell); (case hp => first | omega | (simp; done) | (simp; omega))) | (with_reducible refine Ext.trans ?_ (by assumption)))))) Z4.out).mono ?_); rintro e w4 ⟨p3, q3, rfl, O, hb⟩; (obtain ⟨B0, c0, f0, l0⟩ := Box.after (k := w.heap.size) hb (by (repeat (first | (with_reducible assumption) | ((with_reducible apply Box.new); (first | (with_reducible rfl) | (simp; done) | (simp; omega))) | (with_reducible apply Box.alloc) | (with_reducible apply Box.drew) | (with_reducible apply Box.drewN) | (with_reducible apply Box.set) | ((with_reducible apply Box.set_ne); (case hne => first | omega | (simp; done) | (simp; omega))))))); (obtain ⟨B1, c1, f1, l1⟩ := Box.after (k := w.heap.size + 1) hb (by (repeat (first | (with_reducible assumption) | ((with_reducible apply Box.new); (first | (with_reducible rfl) | (simp; done) | (simp; omega))) | (with_reducible apply Box.alloc) | (with_reducible apply Box.drew) | (with_reducible apply Box.drewN) | (with_reducible apply Box.set) | ((with_reducible apply Box.set_ne); (case hne => first | omega | (simp; done) | (simp; omega))))))); (obtain ⟨B2, c2, f2, l2⟩ := Box.after (k := w.heap.size + 2) hb (by (repeat (first | (with_reducible assumption) | ((with_reducible apply Box.new); (first | (with_reducible rfl) | (simp; done) | (simp; omega))) | (with_reducible apply Box.alloc) | (with_reducible apply Box.drew) | (with_reducible apply Box.drewN) | (with_reducible apply Box.set) | ((with_reducible apply Box.set_ne); (case hne => first | omega | (simp; done) | (simp; omega)))))))
  have hz := hb.size; simp at hz
  replace A : Obj w4 (w.heap.size + 3) w3.heap.size [.int x.fTrust.fPeriod, .int x.fTrust.fSlack, .int x.fState, .int x.fAnchor.fHead.fHeight, .int x.fAnchor.fHead.fTime, .str x.fAnchor.fHead.fLast, .str x.fAnchor.fHead.fVals, .str x.fAnchor.fHead.fNext, .str x.fAnchor.fHead.fData, slD 120 2 encVal x.fAnchor.fNext, slD 50 6 encHeader x.fStore.fHeads, .int x.fStore.fSynced] [.int .i64 x.fTrust.fPeriod, .int .i64 x.fTrust.fSlack, .int .i64 x.fState, .int .i64 x.fAnchor.fHead.fHeight, .int .i64 x.fAnchor.fHead.fTime, .string x.fAnchor.fHead.fLast, .string x.fAnchor.fHead.fVals, .string x.fAnchor.fHead.fNext, .string x.fAnchor.fHead.fData, .slice p1 x.fAnchor.fNext.length q1, .slice p2 x.fStore.fHeads.length q2, .int .i64 x.fStore.fSynced] := by (repeat (first | (with_reducible assumption) | (with_reducible apply Obj.alloc) | (with_reducible apply Obj.drew) | (with_reducible apply Obj.drewN) | ((with_reducible apply Obj.set); (case hk => first | omega | (simp; done) | (simp; omega) | (left; simp; omega) | (right; simp; omega))) | (with_reducible refine Obj.ext ?_ (by assumption))))
  replace A : Obj w4 (w.heap.size + 3) w4.heap.size [.int x.fTrust.fPeriod, .int x.fTrust.fSlack, .int x.fState, .int x.fAnchor.fHead.fHeight, .int x.fAnchor.fHead.fTime, .str x.fAnchor.fHead.fLast, .str x.fAnchor.fHead.fVals, .str x.fAnchor.fHead.fNext, .str x.fAnchor.fHead.fData, slD 120 2 encVal x.fAnchor.fNext, slD 50 6 encHeader x.fStore.fHeads, .int x.fStore.fSynced, slD 111 4 encPeer x.fPeers.fPeers, .int x.fPeers.fTurn] [.int .i64 x.fTrust.fPeriod, .int .i64 x.fTrust.fSlack, .int .i64 x.fState, .int .i64 x.fAnchor.fHead.fHeight, .int .i64 x.fAnchor.fHead.fTime, .string x.fAnchor.fHead.fLast, .string x.fAnchor.fHead.fVals, .string x.fAnchor.fHead.fNext, .string x.fAnchor.fHead.fData, .slice p1 x.fAnchor.fNext.length q1, .slice p2 x.fStore.fHeads.length q2, .int .i64 x.fStore.fSynced, .slice p3 x.fPeers.fPeers.length q3, .int .i64 x.fPeers.fTurn] := Obj.more A O (by (first | omega | (simp; done) | (simp; omega))) (by (first | omega | (simp; done) | (simp; omega))) (by (first | omega | (simp; done) | (simp; omega)))
  have E4 : Ext w w4 := by (repeat (first | (with_reducible exact Ext.refl _) | (with_reducible assumption) | (with_reducible refine Ext.alloc ?_ _) | (with_reducible refine Ext.drew ?_) | (with_reducible refine Ext.drewN ?_ _) | ((with_reducible apply Ext.setCell); (case hp => first | omega | (simp; done) | (simp; omega))) | (with_reducible refine Ext.trans ?_ (by assumption))))
  clear hb O hz E3
  replace A : Obj w4 (w.heap.size + 3) w4.heap.size [.int x.fTrust.fPeriod, .int x.fTrust.fSlack, .int x.fState, .int x.fAnchor.fHead.fHeight, .int x.fAnchor.fHead.fTime, .str x.fAnchor.fHead.fLast, .str x.fAnchor.fHead.fVals, .str x.fAnchor.fHead.fNext, .str x.fAnchor.fHead.fData, slD 120 2 encVal x.fAnchor.fNext, slD 50 6 encHeader x.fStore.fHeads, .int x.fStore.fSynced, slD 111 4 encPeer x.fPeers.fPeers, .int x.fPeers.fTurn, .int x.fNow] [.int .i64 x.fTrust.fPeriod, .int .i64 x.fTrust.fSlack, .int .i64 x.fState, .int .i64 x.fAnchor.fHead.fHeight, .int .i64 x.fAnchor.fHead.fTime, .string x.fAnchor.fHead.fLast, .string x.fAnchor.fHead.fVals, .string x.fAnchor.fHead.fNext, .string x.fAnchor.fHead.fData, .slice p1 x.fAnchor.fNext.length q1, .slice p2 x.fStore.fHeads.length q2, .int .i64 x.fStore.fSynced, .slice p3 x.fPeers.fPeers.length q3, .int .i64 x.fPeers.fTurn, .int .i64 x.fNow] := Obj.more A (.int obj_nil : Obj _ w4.heap.size w4.heap.size _ _) (Nat.le_refl _) (Nat.le_refl _) (by (first | omega | (simp; done) | (simp; omega)))
  have AS := A.read
  have HA := Lib.hid A; clear A AS
  go_wp2
  exact bodyPost_ret (v := .agg #[.int .i64 x.fTrust.fPeriod, .int .i64 x.fTrust.fSlack, .int .i64 x.fState, .int .i64 x.fAnchor.fHead.fHeight, .int .i64 x.fAnchor.fHead.fTime, .string x.fAnchor.fHead.fLast, .string x.fAnchor.fHead.fVals, .string x.fAnchor.fHead.fNext, .string x.fAnchor.fHead.fData, .slice p1 x.fAnchor.fNext.length q1, .slice p2 x.fStore.fHeads.length q2, .int .i64 x.fStore.fSynced, .slice p3 x.fPeers.fPeers.length q3, .int .i64 x.fPeers.fTurn, .int .i64 x.fNow]) (by simp [results, Tryd.results15, go_sem, c1]) rfl ⟨_, _, _, _, _, _, rfl, Obj.mono (lo := w.heap.size + 3) (hi := w4.heap.size) (show Obj _ _ _ [.int x.fTrust.fPeriod, .int x.fTrust.fSlack, .int x.fState, .int x.fAnchor.fHead.fHeight, .int x.fAnchor.fHead.fTime, .str x.fAnchor.fHead.fLast, .str x.fAnchor.fHead.fVals, .str x.fAnchor.fHead.fNext, .str x.fAnchor.fHead.fData, slD 120 2 encVal x.fAnchor.fNext, slD 50 6 encHeader x.fStore.fHeads, .int x.fStore.fSynced, slD 111 4 encPeer x.fPeers.fPeers, .int x.fPeers.fTurn, .int x.fNow] _ from by have A := HA.out; (repeat (first | (with_reducible assumption) | (with_reducible apply Obj.alloc) | (with_reducible apply Obj.drew) | (with_reducible apply Obj.drewN) | ((with_reducible apply Obj.set); (case hk => first | omega | (simp; done) | (simp; omega) | (left; simp; omega) | (right; simp; omega))) | (with_reducible refine Obj.ext ?_ (by assumption))))) (by (first | omega | (simp; done) | (simp; omega))) (by (first | omega | (simp; done) | (simp; omega))), by (repeat (first | (with_reducible exact Ext.refl _) | (with_reducible assumption) | (with_reducible refine Ext.alloc ?_ _) | (with_reducible refine Ext.drew ?_) | (with_reducible refine Ext.drewN ?_ _) | ((with_reducible apply Ext.setCell); (case hp => first | omega | (simp; done) | (simp; omega))) | (with_reducible refine Ext.trans ?_ (by assumption))))⟩
set_option maxRecDepth 100000 in
set_option maxHeartbeats 4000000 in
theorem szLight_any (x : GLight) (o1 o2 o3 : Option Addr) (c1 c2 c3 : Nat) (left : Int) (w : World) (h : Rds w (encLight x) [.int .i64 x.fTrust.fPeriod, .int .i64 x.fTrust.fSlack, .int .i64 x.fState, .int .i64 x.fAnchor.fHead.fHeight, .int .i64 x.fAnchor.fHead.fTime, .string x.fAnchor.fHead.fLast, .string x.fAnchor.fHead.fVals, .string x.fAnchor.fHead.fNext, .string x.fAnchor.fHead.fData, .slice o1 x.fAnchor.fNext.length c1, .slice o2 x.fStore.fHeads.length c2, .int .i64 x.fStore.fSynced, .slice o3 x.fPeers.fPeers.length c3, .int .i64 x.fPeers.fTurn, .int .i64 x.fNow]) (hok : okL (encLight x)) (h0 : 0 ≤ left) (h1 : left ≤ 1048576) :
    Calls Tryd.prog 13 #[.agg #[.int .i64 x.fTrust.fPeriod, .int .i64 x.fTrust.fSlack, .int .i64 x.fState, .int .i64 x.fAnchor.fHead.fHeight, .int .i64 x.fAnchor.fHead.fTime, .string x.fAnchor.fHead.fLast, .string x.fAnchor.fHead.fVals, .string x.fAnchor.fHead.fNext, .string x.fAnchor.fHead.fData, .slice o1 x.fAnchor.fNext.length c1, .slice o2 x.fStore.fHeads.length c2, .int .i64 x.fStore.fSynced, .slice o3 x.fPeers.fPeers.length c3, .int .i64 x.fPeers.fTurn, .int .i64 x.fNow], .int .i64 left] w fun e w' => e = .returned (.int .i64 (szR left (szL (encLight x)))) ∧ Ext w w' := by
  have r2 : Rds w (encAnchor x.fAnchor) [.int .i64 x.fAnchor.fHead.fHeight, .int .i64 x.fAnchor.fHead.fTime, .string x.fAnchor.fHead.fLast, .string x.fAnchor.fHead.fVals, .string x.fAnchor.fHead.fNext, .string x.fAnchor.fHead.fData, .slice o1 x.fAnchor.fNext.length c1] := h.cut 3 7
  have k2 : okL (encAnchor x.fAnchor) := okL_cut (ds := encLight x) 3 7 hok
  have K2 := Lib.hid k2; clear k2
  have r3 : Rds w (encStore x.fStore) [.slice o2 x.fStore.fHeads.length c2, .int .i64 x.fStore.fSynced] := h.cut 10 2
  have k3 : okL (encStore x.fStore) := okL_cut (ds := encLight x) 10 2 hok
  have K3 := Lib.hid k3; clear k3
  have r4 : Rds w (encTable x.fPeers) [.slice o3 x.fPeers.fPeers.length c3, .int .i64 x.fPeers.fTurn] := h.cut 12 2
  have k4 : okL (encTable x.fPeers) := okL_cut (ds := encLight x) 12 2 hok
  have K4 := Lib.hid k4; clear k4
  have hT : szL (encLight x) = szL (encAnchor x.fAnchor) + szL (encStore x.fStore) + szL (encTable x.fPeers) := by simp [encLight, encTrust, encAnchor, encHeader, encStore, encTable, szL, slD]; try omega
  rw [hT]
  clear hT hok h
  obtain ⟨a2, ha2⟩ : ∃ a, a = szL (encAnchor x.fAnchor) := ⟨_, rfl⟩
  rw [← ha2]
  have HA2 := Lib.hid ha2; clear ha2
  obtain ⟨a3, ha3⟩ : ∃ a, a = szL (encStore x.fStore) := ⟨_, rfl⟩
  rw [← ha3]
  have HA3 := Lib.hid ha3; clear ha3
  obtain ⟨a4, ha4⟩ : ∃ a, a = szL (encTable x.fPeers) := ⟨_, rfl⟩
  rw [← ha4]
  have HA4 := Lib.hid ha4; clear ha4
  by_cases h2 : left < (a2 : Nat)
  · have R0 := Lib.hid (szR_no h2)
    go_enter Tryd.func13, Tryd.ntmps13
    go_wp2_with fail
    (refine (szAnchor_any x.fAnchor _ _ _ _ (r2.ext (by (repeat (first | (with_reducible exact Ext.refl _) | (with_reducible assumption) | (with_reducible refine Ext.alloc ?_ _) | (with_reducible refine Ext.drew ?_) | (with_reducible refine Ext.drewN ?_ _) | ((with_reducible apply Ext.setCell); (case hp => first | omega | (simp; done) | (simp; omega))) | (with_reducible refine Ext.trans ?_ (by assumption)))))) K2.out (by omega) (by omega)).mono ?_); rw [show szL (encAnchor x.fAnchor) = a2 from HA2.out.symm, R0.out]; rintro e w0 ⟨rfl, hb⟩; (obtain ⟨B0, c0, f0, l0⟩ := Box.after (k := w.heap.size) hb (by (repeat (first | (with_reducible assumption) | ((with_reducible apply Box.new); (first | (with_reducible rfl) | (simp; done) | (simp; omega))) | (with_reducible apply Box.alloc) | (with_reducible apply Box.drew) | (with_reducible apply Box.drewN) | (with_reducible apply Box.set) | ((with_reducible apply Box.set_ne); (case hne => first | omega | (simp; done) | (simp; omega)))))))
    have E0 : Ext w w0 := by (repeat (first | (with_reducible exact Ext.refl _) | (with_reducible assumption) | (with_reducible refine Ext.alloc ?_ _) | (with_reducible refine Ext.drew ?_) | (with_reducible refine Ext.drewN ?_ _) | ((with_reducible apply Ext.setCell); (case hp => first | omega | (simp; done) | (simp; omega))) | (with_reducible refine Ext.trans ?_ (by assumption))))
    clear hb
    go_wp2
    go_ret
    exact ⟨ret_int (szR_no (by omega)), by (repeat (first | (with_reducible exact Ext.refl _) | (with_reducible assumption) | (with_reducible refine Ext.alloc ?_ _) | (with_reducible refine Ext.drew ?_) | (with_reducible refine Ext.drewN ?_ _) | ((with_reducible apply Ext.setCell); (case hp => first | omega | (simp; done) | (simp; omega))) | (with_reducible refine Ext.trans ?_ (by assumption))))⟩
  · have R0 := Lib.hid (szR_yes h2)
    by_cases h3 : left - a2 < (a3 : Nat)
    · have R1 := Lib.hid (szR_no h3)
      go_enter Tryd.func13, Tryd.ntmps13
      go_wp2_with fail
      (refine (szAnchor_any x.fAnchor _ _ _ _ (r2.ext (by (repeat (first | (with_reducible exact Ext.refl _) | (with_reducible assumption) | (with_reducible refine Ext.alloc ?_ _) | (with_reducible refine Ext.drew ?_) | (with_reducible refine Ext.drewN ?_ _) | ((with_reducible apply Ext.setCell); (case hp => first | omega | (simp; done) | (simp; omega))) | (with_reducible refine Ext.trans ?_ (by assumption)))))) K2.out (by omega) (by omega)).mono ?_); rw [show szL (encAnchor x.fAnchor) = a2 from HA2.out.symm, R0.out]; rintro e w0 ⟨rfl, hb⟩; (obtain ⟨B0, c0, f0, l0⟩ := Box.after (k := w.heap.size) hb (by (repeat (first | (with_reducible assumption) | ((with_reducible apply Box.new); (first | (with_reducible rfl) | (simp; done) | (simp; omega))) | (with_reducible apply Box.alloc) | (with_reducible apply Box.drew) | (with_reducible apply Box.drewN) | (with_reducible apply Box.set) | ((with_reducible apply Box.set_ne); (case hne => first | omega | (simp; done) | (simp; omega)))))))
      have E0 : Ext w w0 := by (repeat (first | (with_reducible exact Ext.refl _) | (with_reducible assumption) | (with_reducible refine Ext.alloc ?_ _) | (with_reducible refine Ext.drew ?_) | (with_reducible refine Ext.drewN ?_ _) | ((with_reducible apply Ext.setCell); (case hp => first | omega | (simp; done) | (simp; omega))) | (with_reducible refine Ext.trans ?_ (by assumption))))
      clear hb
      go_wp2_with fail
      (refine (szStore_any x.fStore _ _ _ _ (r3.ext (by (repeat (first | (with_reducible exact Ext.refl _) | (with_reducible assumption) | (with_reducible refine Ext.alloc ?_ _) | (with_reducible refine Ext.drew ?_) | (with_reducible refine Ext.drewN ?_ _) | ((with_reducible apply Ext.setCell); (case hp => first | omega | (simp; done) | (simp; omega))) | (with_reducible refine Ext.trans ?_ (by assumption)))))) K3.out (by omega) (by omega)).mono ?_); rw [show szL (encStore x.fStore) = a3 from HA3.out.symm, R1.out]; rintro e w1 ⟨rfl, hb⟩; (obtain ⟨B0, c0, f0, l0⟩ := Box.after (k := w.heap.size) hb (by (repeat (first | (with_reducible assumption) | ((with_reducible apply Box.new); (first | (with_reducible rfl) | (simp; done) | (simp; omega))) | (with_reducible apply Box.alloc) | (with_reducible apply Box.drew) | (with_reducible apply Box.drewN) | (with_reducible apply Box.set) | ((with_reducible apply Box.set_ne); (case hne => first | omega | (simp; done) | (simp; omega)))))))
      have E1 : Ext w w1 := by (repeat (first | (with_reducible exact Ext.refl _) | (with_reducible assumption) | (with_reducible refine Ext.alloc ?_ _) | (with_reducible refine Ext.drew ?_) | (with_reducible refine Ext.drewN ?_ _) | ((with_reducible apply Ext.setCell); (case hp => first | omega | (simp; done) | (simp; omega))) | (with_reducible refine Ext.trans ?_ (by assumption))))
      clear hb
      go_wp2
      go_ret
      exact ⟨ret_int (szR_no (by omega)), by (repeat (first | (with_reducible exact Ext.refl _) | (with_reducible assumption) | (with_reducible refine Ext.alloc ?_ _) | (with_reducible refine Ext.drew ?_) | (with_reducible refine Ext.drewN ?_ _) | ((with_reducible apply Ext.setCell); (case hp => first | omega | (simp; done) | (simp; omega))) | (with_reducible refine Ext.trans ?_ (by assumption))))⟩
    · have R1 := Lib.hid (szR_yes h3)
      by_cases h4 : left - a2 - a3 < (a4 : Nat)
      · have R2 := Lib.hid (szR_no h4)
        go_enter Tryd.func13, Tryd.ntmps13
        go_wp2_with fail
        (refine (szAnchor_any x.fAnchor _ _ _ _ (r2.ext (by (repeat (first | (with_reducible exact Ext.refl _) | (with_reducible assumption) | (with_reducible refine Ext.alloc ?_ _) | (with_reducible refine Ext.drew ?_) | (with_reducible refine Ext.drewN ?_ _) | ((with_reducible apply Ext.setCell); (case hp => first | omega | (simp; done) | (simp; omega))) | (with_reducible refine Ext.trans ?_ (by assumption)))))) K2.out (by omega) (by omega)).mono ?_); rw [show szL (encAnchor x.fAnchor) = a2 from HA2.out.symm, R0.out]; rintro e w0 ⟨rfl, hb⟩; (obtain ⟨B0, c0, f0, l0⟩ := Box.after (k := w.heap.size) hb (by (repeat (first | (with_reducible assumption) | ((with_reducible apply Box.new); (first | (with_reducible rfl) | (simp; done) | (simp; omega))) | (with_reducible apply Box.alloc) | (with_reducible apply Box.drew) | (with_reducible apply Box.drewN) | (with_reducible apply Box.set) | ((with_reducible apply Box.set_ne); (case hne => first | omega | (simp; done) | (simp; omega)))))))
        have E0 : Ext w w0 := by (repeat (first | (with_reducible exact Ext.refl _) | (with_reducible assumption) | (with_reducible refine Ext.alloc ?_ _) | (with_reducible refine Ext.drew ?_) | (with_reducible refine Ext.drewN ?_ _) | ((with_reducible apply Ext.setCell); (case hp => first | omega | (simp; done) | (simp; omega))) | (with_reducible refine Ext.trans ?_ (by assumption))))
        clear hb
        go_wp2_with fail
        (refine (szStore_any x.fStore _ _ _ _ (r3.ext (by (repeat (first | (with_reducible exact Ext.refl _) | (with_reducible assumption) | (with_reducible refine Ext.alloc ?_ _) | (with_reducible refine Ext.drew ?_) | (with_reducible refine Ext.drewN ?_ _) | ((with_reducible apply Ext.setCell); (case hp => first | omega | (simp; done) | (simp; omega))) | (with_reducible refine Ext.trans ?_ (by assumption)))))) K3.out (by omega) (by omega)).mono ?_); rw [show szL (encStore x.fStore) = a3 from HA3.out.symm, R1.out]; rintro e w1 ⟨rfl, hb⟩; (obtain ⟨B0, c0, f0, l0⟩ := Box.after (k := w.heap.size) hb (by (repeat (first | (with_reducible assumption) | ((with_reducible apply Box.new); (first | (with_reducible rfl) | (simp; done) | (simp; omega))) | (with_reducible apply Box.alloc) | (with_reducible apply Box.drew) | (with_reducible apply Box.drewN) | (with_reducible apply Box.set) | ((with_reducible apply Box.set_ne); (case hne => first | omega | (simp; done) | (simp; omega)))))))
        have E1 : Ext w w1 := by (repeat (first | (with_reducible exact Ext.refl _) | (with_reducible assumption) | (with_reducible refine Ext.alloc ?_ _) | (with_reducible refine Ext.drew ?_) | (with_reducible refine Ext.drewN ?_ _) | ((with_reducible apply Ext.setCell); (case hp => first | omega | (simp; done) | (simp; omega))) | (with_reducible refine Ext.trans ?_ (by assumption))))
        clear hb
        go_wp2_with fail
        (refine (szTable_any x.fPeers _ _ _ _ (r4.ext (by (repeat (first | (with_reducible exact Ext.refl _) | (with_reducible assumption) | (with_reducible refine Ext.alloc ?_ _) | (with_reducible refine Ext.drew ?_) | (with_reducible refine Ext.drewN ?_ _) | ((with_reducible apply Ext.setCell); (case hp => first | omega | (simp; done) | (simp; omega))) | (with_reducible refine Ext.trans ?_ (by assumption)))))) K4.out (by omega) (by omega)).mono ?_); rw [show szL (encTable x.fPeers) = a4 from HA4.out.symm, R2.out]; rintro e w2 ⟨rfl, hb⟩; (obtain ⟨B0, c0, f0, l0⟩ := Box.after (k := w.heap.size) hb (by (repeat (first | (with_reducible assumption) | ((with_reducible apply Box.new); (first | (with_reducible rfl) | (simp; done) | (simp; omega))) | (with_reducible apply Box.alloc) | (with_reducible apply Box.drew) | (with_reducible apply Box.drewN) | (with_reducible apply Box.set) | ((with_reducible apply Box.set_ne); (case hne => first | omega | (simp; done) | (simp; omega)))))))
        have E2 : Ext w w2 := by (repeat (first | (with_reducible exact Ext.refl _) | (with_reducible assumption) | (with_reducible refine Ext.alloc ?_ _) | (with_reducible refine Ext.drew ?_) | (with_reducible refine Ext.drewN ?_ _) | ((with_reducible apply Ext.setCell); (case hp => first | omega | (simp; done) | (simp; omega))) | (with_reducible refine Ext.trans ?_ (by assumption))))
        clear hb
        go_wp2
        go_ret
        exact ⟨ret_int (szR_no (by omega)), by (repeat (first | (with_reducible exact Ext.refl _) | (with_reducible assumption) | (with_reducible refine Ext.alloc ?_ _) | (with_reducible refine Ext.drew ?_) | (with_reducible refine Ext.drewN ?_ _) | ((with_reducible apply Ext.setCell); (case hp => first | omega | (simp; done) | (simp; omega))) | (with_reducible refine Ext.trans ?_ (by assumption))))⟩
      · have R2 := Lib.hid (szR_yes h4)
        go_enter Tryd.func13, Tryd.ntmps13
        go_wp2_with fail
        (refine (szAnchor_any x.fAnchor _ _ _ _ (r2.ext (by (repeat (first | (with_reducible exact Ext.refl _) | (with_reducible assumption) | (with_reducible refine Ext.alloc ?_ _) | (with_reducible refine Ext.drew ?_) | (with_reducible refine Ext.drewN ?_ _) | ((with_reducible apply Ext.setCell); (case hp => first | omega | (simp; done) | (simp; omega))) | (with_reducible refine Ext.trans ?_ (by assumption)))))) K2.out (by omega) (by omega)).mono ?_); rw [show szL (encAnchor x.fAnchor) = a2 from HA2.out.symm, R0.out]; rintro e w0 ⟨rfl, hb⟩; (obtain ⟨B0, c0, f0, l0⟩ := Box.after (k := w.heap.size) hb (by (repeat (first | (with_reducible assumption) | ((with_reducible apply Box.new); (first | (with_reducible rfl) | (simp; done) | (simp; omega))) | (with_reducible apply Box.alloc) | (with_reducible apply Box.drew) | (with_reducible apply Box.drewN) | (with_reducible apply Box.set) | ((with_reducible apply Box.set_ne); (case hne => first | omega | (simp; done) | (simp; omega)))))))
        have E0 : Ext w w0 := by (repeat (first | (with_reducible exact Ext.refl _) | (with_reducible assumption) | (with_reducible refine Ext.alloc ?_ _) | (with_reducible refine Ext.drew ?_) | (with_reducible refine Ext.drewN ?_ _) | ((with_reducible apply Ext.setCell); (case hp => first | omega | (simp; done) | (simp; omega))) | (with_reducible refine Ext.trans ?_ (by assumption))))
        clear hb
        go_wp2_with fail
        (refine (szStore_any x.fStore _ _ _ _ (r3.ext (by (repeat (first | (with_reducible exact Ext.refl _) | (with_reducible assumption) | (with_reducible refine Ext.alloc ?_ _) | (with_reducible refine Ext.drew ?_) | (with_reducible refine Ext.drewN ?_ _) | ((with_reducible apply Ext.setCell); (case hp => first | omega | (simp; done) | (simp; omega))) | (with_reducible refine Ext.trans ?_ (by assumption)))))) K3.out (by omega) (by omega)).mono ?_); rw [show szL (encStore x.fStore) = a3 from HA3.out.symm, R1.out]; rintro e w1 ⟨rfl, hb⟩; (obtain ⟨B0, c0, f0, l0⟩ := Box.after (k := w.heap.size) hb (by (repeat (first | (with_reducible assumption) | ((with_reducible apply Box.new); (first | (with_reducible rfl) | (simp; done) | (simp; omega))) | (with_reducible apply Box.alloc) | (with_reducible apply Box.drew) | (with_reducible apply Box.drewN) | (with_reducible apply Box.set) | ((with_reducible apply Box.set_ne); (case hne => first | omega | (simp; done) | (simp; omega)))))))
        have E1 : Ext w w1 := by (repeat (first | (with_reducible exact Ext.refl _) | (with_reducible assumption) | (with_reducible refine Ext.alloc ?_ _) | (with_reducible refine Ext.drew ?_) | (with_reducible refine Ext.drewN ?_ _) | ((with_reducible apply Ext.setCell); (case hp => first | omega | (simp; done) | (simp; omega))) | (with_reducible refine Ext.trans ?_ (by assumption))))
        clear hb
        go_wp2_with fail
        (refine (szTable_any x.fPeers _ _ _ _ (r4.ext (by (repeat (first | (with_reducible exact Ext.refl _) | (with_reducible assumption) | (with_reducible refine Ext.alloc ?_ _) | (with_reducible refine Ext.drew ?_) | (with_reducible refine Ext.drewN ?_ _) | ((with_reducible apply Ext.setCell); (case hp => first | omega | (simp; done) | (simp; omega))) | (with_reducible refine Ext.trans ?_ (by assumption)))))) K4.out (by omega) (by omega)).mono ?_); rw [show szL (encTable x.fPeers) = a4 from HA4.out.symm, R2.out]; rintro e w2 ⟨rfl, hb⟩; (obtain ⟨B0, c0, f0, l0⟩ := Box.after (k := w.heap.size) hb (by (repeat (first | (with_reducible assumption) | ((with_reducible apply Box.new); (first | (with_reducible rfl) | (simp; done) | (simp; omega))) | (with_reducible apply Box.alloc) | (with_reducible apply Box.drew) | (with_reducible apply Box.drewN) | (with_reducible apply Box.set) | ((with_reducible apply Box.set_ne); (case hne => first | omega | (simp; done) | (simp; omega)))))))
        have E2 : Ext w w2 := by (repeat (first | (with_reducible exact Ext.refl _) | (with_reducible assumption) | (with_reducible refine Ext.alloc ?_ _) | (with_reducible refine Ext.drew ?_) | (with_reducible refine Ext.drewN ?_ _) | ((with_reducible apply Ext.setCell); (case hp => first | omega | (simp; done) | (simp; omega))) | (with_reducible refine Ext.trans ?_ (by assumption))))
        clear hb
        go_wp2
        go_ret
        exact ⟨ret_int ((szR_yes (by omega)).trans (by omega)), by (repeat (first | (with_reducible exact Ext.refl _) | (with_reducible assumption) | (with_reducible refine Ext.alloc ?_ _) | (with_reducible refine Ext.drew ?_) | (with_reducible refine Ext.drewN ?_ _) | ((with_reducible apply Ext.setCell); (case hp => first | omega | (simp; done) | (simp; omega))) | (with_reducible refine Ext.trans ?_ (by assumption))))⟩
set_option maxRecDepth 100000 in
set_option maxHeartbeats 4000000 in
theorem eqLight_any (x : GLight) (o1 o2 o3 : Option Addr) (c1 c2 c3 : Nat) (p1 p2 p3 : Option Addr) (q1 q2 q3 : Nat) (w : World) (h1 : Rds w (encLight x) [.int .i64 x.fTrust.fPeriod, .int .i64 x.fTrust.fSlack, .int .i64 x.fState, .int .i64 x.fAnchor.fHead.fHeight, .int .i64 x.fAnchor.fHead.fTime, .string x.fAnchor.fHead.fLast, .string x.fAnchor.fHead.fVals, .string x.fAnchor.fHead.fNext, .string x.fAnchor.fHead.fData, .slice o1 x.fAnchor.fNext.length c1, .slice o2 x.fStore.fHeads.length c2, .int .i64 x.fStore.fSynced, .slice o3 x.fPeers.fPeers.length c3, .int .i64 x.fPeers.fTurn, .int .i64 x.fNow]) (h2 : Rds w (encLight x) [.int .i64 x.fTrust.fPeriod, .int .i64 x.fTrust.fSlack, .int .i64 x.fState, .int .i64 x.fAnchor.fHead.fHeight, .int .i64 x.fAnchor.fHead.fTime, .string x.fAnchor.fHead.fLast, .string x.fAnchor.fHead.fVals, .string x.fAnchor.fHead.fNext, .string x.fAnchor.fHead.fData, .slice p1 x.fAnchor.fNext.length q1, .slice p2 x.fStore.fHeads.length q2, .int .i64 x.fStore.fSynced, .slice p3 x.fPeers.fPeers.length q3, .int .i64 x.fPeers.fTurn, .int .i64 x.fNow]) :
    Calls Tryd.prog 17 #[.agg #[.int .i64 x.fTrust.fPeriod, .int .i64 x.fTrust.fSlack, .int .i64 x.fState, .int .i64 x.fAnchor.fHead.fHeight, .int .i64 x.fAnchor.fHead.fTime, .string x.fAnchor.fHead.fLast, .string x.fAnchor.fHead.fVals, .string x.fAnchor.fHead.fNext, .string x.fAnchor.fHead.fData, .slice o1 x.fAnchor.fNext.length c1, .slice o2 x.fStore.fHeads.length c2, .int .i64 x.fStore.fSynced, .slice o3 x.fPeers.fPeers.length c3, .int .i64 x.fPeers.fTurn, .int .i64 x.fNow], .agg #[.int .i64 x.fTrust.fPeriod, .int .i64 x.fTrust.fSlack, .int .i64 x.fState, .int .i64 x.fAnchor.fHead.fHeight, .int .i64 x.fAnchor.fHead.fTime, .string x.fAnchor.fHead.fLast, .string x.fAnchor.fHead.fVals, .string x.fAnchor.fHead.fNext, .string x.fAnchor.fHead.fData, .slice p1 x.fAnchor.fNext.length q1, .slice p2 x.fStore.fHeads.length q2, .int .i64 x.fStore.fSynced, .slice p3 x.fPeers.fPeers.length q3, .int .i64 x.fPeers.fTurn, .int .i64 x.fNow]] w fun e w' => e = .returned (.bool true) ∧ Ext w w' := by
  have r0_0 : Rds w (encTrust x.fTrust) [.int .i64 x.fTrust.fPeriod, .int .i64 x.fTrust.fSlack] := h1.cut 0 2
  have r0_1 : Rds w (encTrust x.fTrust) [.int .i64 x.fTrust.fPeriod, .int .i64 x.fTrust.fSlack] := h2.cut 0 2
  have r2_0 : Rds w (encAnchor x.fAnchor) [.int .i64 x.fAnchor.fHead.fHeight, .int .i64 x.fAnchor.fHead.fTime, .string x.fAnchor.fHead.fLast, .string x.fAnchor.fHead.fVals, .string x.fAnchor.fHead.fNext, .string x.fAnchor.fHead.fData, .slice o1 x.fAnchor.fNext.length c1] := h1.cut 3 7
  have r2_1 : Rds w (encAnchor x.fAnchor) [.int .i64 x.fAnchor.fHead.fHeight, .int .i64 x.fAnchor.fHead.fTime, .string x.fAnchor.fHead.fLast, .string x.fAnchor.fHead.fVals, .string x.fAnchor.fHead.fNext, .string x.fAnchor.fHead.fData, .slice p1 x.fAnchor.fNext.length q1] := h2.cut 3 7
  have r3_0 : Rds w (encStore x.fStore) [.slice o2 x.fStore.fHeads.length c2, .int .i64 x.fStore.fSynced] := h1.cut 10 2
  have r3_1 : Rds w (encStore x.fStore) [.slice p2 x.fStore.fHeads.length q2, .int .i64 x.fStore.fSynced] := h2.cut 10 2
  have r4_0 : Rds w (encTable x.fPeers) [.slice o3 x.fPeers.fPeers.length c3, .int .i64 x.fPeers.fTurn] := h1.cut 12 2
  have r4_1 : Rds w (encTable x.fPeers) [.slice p3 x.fPeers.fPeers.length q3, .int .i64 x.fPeers.fTurn] := h2.cut 12 2
  clear h1 h2
  go_enter Tryd.func17, Tryd.ntmps17
  go_wp2_with fail
  (refine (eqTrust_any x.fTrust _ (r0_0.ext (by (repeat (first | (with_reducible exact Ext.refl _) | (with_reducible assumption) | (with_reducible refine Ext.alloc ?_ _) | (with_reducible refine Ext.drew ?_) | (with_reducible refine Ext.drewN ?_ _) | ((with_reducible apply Ext.setCell); (case hp => first | omega | (simp; done) | (simp; omega))) | (with_reducible refine Ext.trans ?_ (by assumption)))))) (r0_1.ext (by (repeat (first | (with_reducible exact Ext.refl _) | (with_reducible assumption) | (with_reducible refine Ext.alloc ?_ _) | (with_reducible refine Ext.drew ?_) | (with_reducible refine Ext.drewN ?_ _) | ((with_reducible apply Ext.setCell); (case hp => first | omega | (simp; done) | (simp; omega))) | (with_reducible refine Ext.trans ?_ (by assumption))))))).mono ?_); rintro e w1 ⟨rfl, hb⟩; (obtain ⟨B0, c0, f0, l0⟩ := Box.after (k := w.heap.size) hb (by (repeat (first | (with_reducible assumption) | ((with_reducible apply Box.new); (first | (with_reducible rfl) | (simp; done) | (simp; omega))) | (with_reducible apply Box.alloc) | (with_reducible apply Box.drew) | (with_reducible apply Box.drewN) | (with_reducible apply Box.set) | ((with_reducible apply Box.set_ne); (case hne => first | omega | (simp; done) | (simp; omega))))))); (obtain ⟨B1, c1, f1, l1⟩ := Box.after (k := w.heap.size + 1) hb (by (repeat (first | (with_reducible assumption) | ((with_reducible apply Box.new); (first | (with_reducible rfl) | (simp; done) | (simp; omega))) | (with_reducible apply Box.alloc) | (with_reducible apply Box.drew) | (with_reducible apply Box.drewN) | (with_reducible apply Box.set) | ((with_reducible apply Box.set_ne); (case hne => first | omega | (simp; done) | (simp; omega)))))))
  have E1 : Ext w w1 := by (repeat (first | (with_reducible exact Ext.refl _) | (with_reducible assumption) | (with_reducible refine Ext.alloc ?_ _) | (with_reducible refine Ext.drew ?_) | (with_reducible refine Ext.drewN ?_ _) | ((with_reducible apply Ext.setCell); (case hp => first | omega | (simp; done) | (simp; omega))) | (with_reducible refine Ext.trans ?_ (by assumption))))
  clear hb
  go_wp2_with fail
  (refine (eqAnchor_any x.fAnchor _ _ _ _ _ (r2_0.ext (by (repeat (first | (with_reducible exact Ext.refl _) | (with_reducible assumption) | (with_reducible refine Ext.alloc ?_ _) | (with_reducible refine Ext.drew ?_) | (with_reducible refine Ext.drewN ?_ _) | ((with_reducible apply Ext.setCell); (case hp => first | omega | (simp; done) | (simp; omega))) | (with_reducible refine Ext.trans ?_ (by assumption)))))) (r2_1.ext (by (repeat (first | (with_reducible exact Ext.refl _) | (with_reducible assumption) | (with_reducible refine Ext.alloc ?_ _) | (with_reducible refine Ext.drew ?_) | (with_reducible refine Ext.drewN ?_ _) | ((with_reducible apply Ext.setCell); (case hp => first | omega | (simp; done) | (simp; omega))) | (with_reducible refine Ext.trans ?_ (by assumption))))))).mono ?_); rintro e w2 ⟨rfl, hb⟩; (obtain ⟨B0, c0, f0, l0⟩ := Box.after (k := w.heap.size) hb (by (repeat (first | (with_reducible assumption) | ((with_reducible apply Box.new); (first | (with_reducible rfl) | (simp; done) | (simp; omega))) | (with_reducible apply Box.alloc) | (with_reducible apply Box.drew) | (with_reducible apply Box.drewN) | (with_reducible apply Box.set) | ((with_reducible apply Box.set_ne); (case hne => first | omega | (simp; done) | (simp; omega))))))); (obtain ⟨B1, c1, f1, l1⟩ := Box.after (k := w.heap.size + 1) hb (by (repeat (first | (with_reducible assumption) | ((with_reducible apply Box.new); (first | (with_reducible rfl) | (simp; done) | (simp; omega))) | (with_reducible apply Box.alloc) | (with_reducible apply Box.drew) | (with_reducible apply Box.drewN) | (with_reducible apply Box.set) | ((with_reducible apply Box.set_ne); (case hne => first | omega | (simp; done) | (simp; omega)))))))
  have E2 : Ext w w2 := by (repeat (first | (with_reducible exact Ext.refl _) | (with_reducible assumption) | (with_reducible refine Ext.alloc ?_ _) | (with_reducible refine Ext.drew ?_) | (with_reducible refine Ext.drewN ?_ _) | ((with_reducible apply Ext.setCell); (case hp => first | omega | (simp; done) | (simp; omega))) | (with_reducible refine Ext.trans ?_ (by assumption))))
  clear hb E1
  go_wp2_with fail
  (refine (eqStore_any x.fStore _ _ _ _ _ (r3_0.ext (by (repeat (first | (with_reducible exact Ext.refl _) | (with_reducible assumption) | (with_reducible refine Ext.alloc ?_ _) | (with_reducible refine Ext.drew ?_) | (with_reducible refine Ext.drewN ?_ _) | ((with_reducible apply Ext.setCell); (case hp => first | omega | (simp; done) | (simp; omega))) | (with_reducible refine Ext.trans ?_ (by assumption)))))) (r3_1.ext (by (repeat (first | (with_reducible exact Ext.refl _) | (with_reducible assumption) | (with_reducible refine Ext.alloc ?_ _) | (with_reducible refine Ext.drew ?_) | (with_reducible refine Ext.drewN ?_ _) | ((with_reducible apply Ext.setCell); (case hp => first | omega | (simp; done) | (simp; omega))) | (with_reducible refine Ext.trans ?_ (by assumption))))))).mono ?_); rintro e w3 ⟨rfl, hb⟩; (obtain ⟨B0, c0, f0, l0⟩ := Box.after (k := w.heap.size) hb (by (repeat (first | (with_reducible assumption) | ((with_reducible apply Box.new); (first | (with_reducible rfl) | (simp; done) | (simp; omega))) | (with_reducible apply Box.alloc) | (with_reducible apply Box.drew) | (with_reducible apply Box.drewN) | (with_reducible apply Box.set) | ((with_reducible apply Box.set_ne); (case hne => first | omega | (simp; done) | (simp; omega))))))); (obtain ⟨B1, c1, f1, l1⟩ := Box.after (k := w.heap.size + 1) hb (by (repeat (first | (with_reducible assumption) | ((with_reducible apply Box.new); (first | (with_reducible rfl) | (simp; done) | (simp; omega))) | (with_reducible apply Box.alloc) | (with_reducible apply Box.drew) | (with_reducible apply Box.drewN) | (with_reducible apply Box.set) | ((with_reducible apply Box.set_ne); (case hne => first | omega | (simp; done) | (simp; omega)))))))
  have E3 : Ext w w3 := by (repeat (first | (with_reducible exact Ext.refl _) | (with_reducible assumption) | (with_reducible refine Ext.alloc ?_ _) | (with_reducible refine Ext.drew ?_) | (with_reducible refine Ext.drewN ?_ _) | ((with_reducible apply Ext.setCell); (case hp => first | omega | (simp; done) | (simp; omega))) | (with_reducible refine Ext.trans ?_ (by assumption))))
  clear hb E2
  go_wp2_with fail
  (refine (eqTable_any x.fPeers _ _ _ _ _ (r4_0.ext (by (repeat (first | (with_reducible exact Ext.refl _) | (with_reducible assumption) | (with_reducible refine Ext.alloc ?_ _) | (with_reducible refine Ext.drew ?_) | (with_reducible refine Ext.drewN ?_ _) | ((with_reducible apply Ext.setCell); (case hp => first | omega | (simp; done) | (simp; omega))) | (with_reducible refine Ext.trans ?_ (by assumption)))))) (r4_1.ext (by (repeat (first | (with_reducible exact Ext.refl _) | (with_reducible assumption) | (with_reducible refine Ext.alloc ?_ _) | (with_reducible refine Ext.drew ?_) | (with_reducible refine Ext.drewN ?_ _) | ((with_reducible apply Ext.setCell); (case hp => first | omega | (simp; done) | (simp; omega))) | (with_reducible refine Ext.trans ?_ (by assumption))))))).mono ?_); rintro e w4 ⟨rfl, hb⟩; (obtain ⟨B0, c0, f0, l0⟩ := Box.after (k := w.heap.size) hb (by (repeat (first | (with_reducible assumption) | ((with_reducible apply Box.new); (first | (with_reducible rfl) | (simp; done) | (simp; omega))) | (with_reducible apply Box.alloc) | (with_reducible apply Box.drew) | (with_reducible apply Box.drewN) | (with_reducible apply Box.set) | ((with_reducible apply Box.set_ne); (case hne => first | omega | (simp; done) | (simp; omega))))))); (obtain ⟨B1, c1, f1, l1⟩ := Box.after (k := w.heap.size + 1) hb (by (repeat (first | (with_reducible assumption) | ((with_reducible apply Box.new); (first | (with_reducible rfl) | (simp; done) | (simp; omega))) | (with_reducible apply Box.alloc) | (with_reducible apply Box.drew) | (with_reducible apply Box.drewN) | (with_reducible apply Box.set) | ((with_reducible apply Box.set_ne); (case hne => first | omega | (simp; done) | (simp; omega)))))))
  have E4 : Ext w w4 := by (repeat (first | (with_reducible exact Ext.refl _) | (with_reducible assumption) | (with_reducible refine Ext.alloc ?_ _) | (with_reducible refine Ext.drew ?_) | (with_reducible refine Ext.drewN ?_ _) | ((with_reducible apply Ext.setCell); (case hp => first | omega | (simp; done) | (simp; omega))) | (with_reducible refine Ext.trans ?_ (by assumption))))
  clear hb E3
  go_wp2
  go_ret
  exact ⟨rfl, by (repeat (first | (with_reducible exact Ext.refl _) | (with_reducible assumption) | (with_reducible refine Ext.alloc ?_ _) | (with_reducible refine Ext.drew ?_) | (with_reducible refine Ext.drewN ?_ _) | ((with_reducible apply Ext.setCell); (case hp => first | omega | (simp; done) | (simp; omega))) | (with_reducible refine Ext.trans ?_ (by assumption))))⟩
end Go.Proofs.YtgcelmnmalfpcaaDoor
namespace Go.Proofs.YtgcelmnmalfpcaaDoor
set_option linter.unusedSimpArgs false
set_option linter.unusedVariables false
open Go.RowKit
theorem GlobW.ext {w w' : World} (h : GlobW w) (e : Ext w w') : GlobW w' := fun i n q => e.cellSome (h i n q)
end Go.Proofs.YtgcelmnmalfpcaaDoor
namespace Go.Proofs.YtgcelmnmalfpcaaDoor
set_option linter.unusedSimpArgs false
set_option linter.unusedVariables false
open Go.RowKit
theorem vr_tup2 {M : Mem} {h : Home} {a b : PV} {v : Value} (r : VR M h (.tup [a, b]) v) : ∃ x y, v = .tuple #[x, y] ∧ VR M h a x ∧ VR M h b y := by
  cases r with
  | tup _ vs h1 h2 =>
    obtain ⟨l⟩ := vs
    match l, h1, h2 with
    | [x, y], _, h2 => exact ⟨x, y, rfl, h2 0 a x rfl rfl, h2 1 b y rfl rfl⟩
end Go.Proofs.YtgcelmnmalfpcaaDoor
namespace Go.Proofs.YtgcelmnmalfpcaaDoor
set_option linter.unusedSimpArgs false
set_option linter.unusedVariables false
open Go.RowKit
abbrev mLightSeen := lightSeen
theorem mLightSeen_cnt (c : GLight) (n : Int) (z : szL (encLight c) ≤ 1048576) : cntT (encHeader (mLightSeen c n).1) ≤ 1000000000000 := by simp [encHeader, cntT]
theorem sLightSeen_any (x0 : GLight) (x1 : Int) (o1 o2 o3 : Option Addr) (c1 c2 c3 : Nat) (w : World) (h0 : Rds w (encLight x0) [.int .i64 x0.fTrust.fPeriod, .int .i64 x0.fTrust.fSlack, .int .i64 x0.fState, .int .i64 x0.fAnchor.fHead.fHeight, .int .i64 x0.fAnchor.fHead.fTime, .string x0.fAnchor.fHead.fLast, .string x0.fAnchor.fHead.fVals, .string x0.fAnchor.fHead.fNext, .string x0.fAnchor.fHead.fData, .slice o1 x0.fAnchor.fNext.length c1, .slice o2 x0.fStore.fHeads.length c2, .int .i64 x0.fStore.fSynced, .slice o3 x0.fPeers.fPeers.length c3, .int .i64 x0.fPeers.fTurn, .int .i64 x0.fNow]) (z0 : szL (encLight x0) ≤ 1048576) (k0 : okL (encLight x0)) (k1 : -9223372036854775808 ≤ x1 ∧ x1 ≤ 9223372036854775807) (hG : GlobW w) :
    Calls Tryd.prog 18 #[.agg #[.int .i64 x0.fTrust.fPeriod, .int .i64 x0.fTrust.fSlack, .int .i64 x0.fState, .int .i64 x0.fAnchor.fHead.fHeight, .int .i64 x0.fAnchor.fHead.fTime, .string x0.fAnchor.fHead.fLast, .string x0.fAnchor.fHead.fVals, .string x0.fAnchor.fHead.fNext, .string x0.fAnchor.fHead.fData, .slice o1 x0.fAnchor.fNext.length c1, .slice o2 x0.fStore.fHeads.length c2, .int .i64 x0.fStore.fSynced, .slice o3 x0.fPeers.fPeers.length c3, .int .i64 x0.fPeers.fTurn, .int .i64 x0.fNow], .int .i64 x1] w fun e w' => e = .returned (.tuple #[.agg #[.int .i64 (mLightSeen x0 x1).1.fHeight, .int .i64 (mLightSeen x0 x1).1.fTime, .string (mLightSeen x0 x1).1.fLast, .string (mLightSeen x0 x1).1.fVals, .string (mLightSeen x0 x1).1.fNext, .string (mLightSeen x0 x1).1.fData], .bool (mLightSeen x0 x1).2]) ∧ Obj w' w.heap.size w'.heap.size (encHeader ((mLightSeen x0 x1).1)) [.int .i64 ((mLightSeen x0 x1).1).fHeight, .int .i64 ((mLightSeen x0 x1).1).fTime, .string ((mLightSeen x0 x1).1).fLast, .string ((mLightSeen x0 x1).1).fVals, .string ((mLightSeen x0 x1).1).fNext, .string ((mLightSeen x0 x1).1).fData] ∧ Ext w w' := by
  have zz0 := z0; simp only [encLight, slD, szL] at zz0
  have hp := sLightSeen_p x0 x1 (by omega) (by omega) (by omega)
  refine (hp.use (w := w) hG.mem (vs := #[.agg #[.int .i64 x0.fTrust.fPeriod, .int .i64 x0.fTrust.fSlack, .int .i64 x0.fState, .int .i64 x0.fAnchor.fHead.fHeight, .int .i64 x0.fAnchor.fHead.fTime, .string x0.fAnchor.fHead.fLast, .string x0.fAnchor.fHead.fVals, .string x0.fAnchor.fHead.fNext, .string x0.fAnchor.fHead.fData, .slice o1 x0.fAnchor.fNext.length c1, .slice o2 x0.fStore.fHeads.length c2, .int .i64 x0.fStore.fSynced, .slice o3 x0.fPeers.fPeers.length c3, .int .i64 x0.fPeers.fTurn, .int .i64 x0.fNow], .int .i64 x1]) ⟨rfl, fun i pv v a b => ?_⟩).mono fun e w' ⟨v, M', h', pv, H', e1, e2, e3, _, e5, _⟩ => ?_
  · match i with
    | 0 => simp at a b; subst a; subst b; rw [← pv_Light]; exact Rds.agg h0 _
    | 1 => simp at a b; subst a; subst b; exact .val _
    | i + 2 => simp at a
  · obtain ⟨e2, -⟩ := e2; subst e2
    obtain ⟨r0, r1, ez, q0, q1⟩ := vr_tup2 e3; subst ez
    have z0_ := flat_vr (u := .agg #[.int .i64 (mLightSeen x0 x1).1.fHeight, .int .i64 (mLightSeen x0 x1).1.fTime, .string (mLightSeen x0 x1).1.fLast, .string (mLightSeen x0 x1).1.fVals, .string (mLightSeen x0 x1).1.fNext, .string (mLightSeen x0 x1).1.fData]) (by unfold pHeader; simp only [flat_agg, flatL_val, flatL_nil, Option.map_some]) q0
    subst z0_
    have z1_ := vr_val q1
    subst z1_
    exact ⟨e1, (Obj.int (Obj.int (Obj.str (Obj.str (Obj.str (Obj.str obj_nil)))))), e5⟩
theorem iLightSeen_any (x0 : GLight) (x1 : Int) (o1 o2 o3 : Option Addr) (c1 c2 c3 : Nat) (w : World) (h0 : Rds w (encLight x0) [.int .i64 x0.fTrust.fPeriod, .int .i64 x0.fTrust.fSlack, .int .i64 x0.fState, .int .i64 x0.fAnchor.fHead.fHeight, .int .i64 x0.fAnchor.fHead.fTime, .string x0.fAnchor.fHead.fLast, .string x0.fAnchor.fHead.fVals, .string x0.fAnchor.fHead.fNext, .string x0.fAnchor.fHead.fData, .slice o1 x0.fAnchor.fNext.length c1, .slice o2 x0.fStore.fHeads.length c2, .int .i64 x0.fStore.fSynced, .slice o3 x0.fPeers.fPeers.length c3, .int .i64 x0.fPeers.fTurn, .int .i64 x0.fNow]) (z0 : szL (encLight x0) ≤ 1048576) (k0 : okL (encLight x0)) (k1 : -9223372036854775808 ≤ x1 ∧ x1 ≤ 9223372036854775807) (hG : GlobW w) :
    Calls Tryd.prog 19 #[.agg #[.int .i64 x0.fTrust.fPeriod, .int .i64 x0.fTrust.fSlack, .int .i64 x0.fState, .int .i64 x0.fAnchor.fHead.fHeight, .int .i64 x0.fAnchor.fHead.fTime, .string x0.fAnchor.fHead.fLast, .string x0.fAnchor.fHead.fVals, .string x0.fAnchor.fHead.fNext, .string x0.fAnchor.fHead.fData, .slice o1 x0.fAnchor.fNext.length c1, .slice o2 x0.fStore.fHeads.length c2, .int .i64 x0.fStore.fSynced, .slice o3 x0.fPeers.fPeers.length c3, .int .i64 x0.fPeers.fTurn, .int .i64 x0.fNow], .int .i64 x1] w fun e w' => e = .returned (.tuple #[.agg #[.int .i64 (mLightSeen x0 x1).1.fHeight, .int .i64 (mLightSeen x0 x1).1.fTime, .string (mLightSeen x0 x1).1.fLast, .string (mLightSeen x0 x1).1.fVals, .string (mLightSeen x0 x1).1.fNext, .string (mLightSeen x0 x1).1.fData], .bool (mLightSeen x0 x1).2]) ∧ Obj w' w.heap.size w'.heap.size (encHeader ((mLightSeen x0 x1).1)) [.int .i64 ((mLightSeen x0 x1).1).fHeight, .int .i64 ((mLightSeen x0 x1).1).fTime, .string ((mLightSeen x0 x1).1).fLast, .string ((mLightSeen x0 x1).1).fVals, .string ((mLightSeen x0 x1).1).fNext, .string ((mLightSeen x0 x1).1).fData] ∧ Ext w w' := by
  have zz0 := z0; simp only [encLight, slD, szL] at zz0
  have hp := iLightSeen_p x0 x1 (by omega) (by omega) (by omega)
  refine (hp.use (w := w) hG.mem (vs := #[.agg #[.int .i64 x0.fTrust.fPeriod, .int .i64 x0.fTrust.fSlack, .int .i64 x0.fState, .int .i64 x0.fAnchor.fHead.fHeight, .int .i64 x0.fAnchor.fHead.fTime, .string x0.fAnchor.fHead.fLast, .string x0.fAnchor.fHead.fVals, .string x0.fAnchor.fHead.fNext, .string x0.fAnchor.fHead.fData, .slice o1 x0.fAnchor.fNext.length c1, .slice o2 x0.fStore.fHeads.length c2, .int .i64 x0.fStore.fSynced, .slice o3 x0.fPeers.fPeers.length c3, .int .i64 x0.fPeers.fTurn, .int .i64 x0.fNow], .int .i64 x1]) ⟨rfl, fun i pv v a b => ?_⟩).mono fun e w' ⟨v, M', h', pv, H', e1, e2, e3, _, e5, _⟩ => ?_
  · match i with
    | 0 => simp at a b; subst a; subst b; rw [← pv_Light]; exact Rds.agg h0 _
    | 1 => simp at a b; subst a; subst b; exact .val _
    | i + 2 => simp at a
  · obtain ⟨e2, -⟩ := e2; subst e2
    obtain ⟨r0, r1, ez, q0, q1⟩ := vr_tup2 e3; subst ez
    have z0_ := flat_vr (u := .agg #[.int .i64 (mLightSeen x0 x1).1.fHeight, .int .i64 (mLightSeen x0 x1).1.fTime, .string (mLightSeen x0 x1).1.fLast, .string (mLightSeen x0 x1).1.fVals, .string (mLightSeen x0 x1).1.fNext, .string (mLightSeen x0 x1).1.fData]) (by unfold pHeader; simp only [flat_agg, flatL_val, flatL_nil, Option.map_some]) q0
    subst z0_
    have z1_ := vr_val q1
    subst z1_
    exact ⟨e1, (Obj.int (Obj.int (Obj.str (Obj.str (Obj.str (Obj.str obj_nil)))))), e5⟩
end Go.Proofs.YtgcelmnmalfpcaaDoor
namespace Go.Proofs.YtgcelmnmalfpcaaDoor
set_option linter.unusedSimpArgs false
set_option linter.unusedVariables false
open Go.RowKit Go.ChangeShapes Go.WideShapes
set_option maxRecDepth 100000 in
set_option maxHeartbeats 4000000 in
theorem fnExactLightSeen_any (x0 : GLight) (x1 : Int) (o1 o2 o3 : Option Addr) (c1 c2 c3 : Nat) (w : World) (h0 : Rds w (encLight x0) [.int .i64 x0.fTrust.fPeriod, .int .i64 x0.fTrust.fSlack, .int .i64 x0.fState, .int .i64 x0.fAnchor.fHead.fHeight, .int .i64 x0.fAnchor.fHead.fTime, .string x0.fAnchor.fHead.fLast, .string x0.fAnchor.fHead.fVals, .string x0.fAnchor.fHead.fNext, .string x0.fAnchor.fHead.fData, .slice o1 x0.fAnchor.fNext.length c1, .slice o2 x0.fStore.fHeads.length c2, .int .i64 x0.fStore.fSynced, .slice o3 x0.fPeers.fPeers.length c3, .int .i64 x0.fPeers.fTurn, .int .i64 x0.fNow]) (k0 : okL (encLight x0)) (k1 : -9223372036854775808 ≤ x1 ∧ x1 ≤ 9223372036854775807) (hG : GlobW w) :
    Calls Tryd.prog 5 #[.agg #[.int .i64 x0.fTrust.fPeriod, .int .i64 x0.fTrust.fSlack, .int .i64 x0.fState, .int .i64 x0.fAnchor.fHead.fHeight, .int .i64 x0.fAnchor.fHead.fTime, .string x0.fAnchor.fHead.fLast, .string x0.fAnchor.fHead.fVals, .string x0.fAnchor.fHead.fNext, .string x0.fAnchor.fHead.fData, .slice o1 x0.fAnchor.fNext.length c1, .slice o2 x0.fStore.fHeads.length c2, .int .i64 x0.fStore.fSynced, .slice o3 x0.fPeers.fPeers.length c3, .int .i64 x0.fPeers.fTurn, .int .i64 x0.fNow], .int .i64 x1] w fun e w' => e = .returned (.bool true) ∧ Ext w w' := by
  have K0 := Lib.hid k0; clear k0
  obtain ⟨a0, ha0⟩ : ∃ a, a = szL (encLight x0) := ⟨_, rfl⟩
  have HA0 := Lib.hid ha0; clear ha0
  by_cases g0 : (1048576 : Int) < (a0 : Nat)
  · have R0 := Lib.hid (szR_no g0)
    go_enter Tryd.func5, Tryd.ntmps5
    go_wp2_with fail
    (refine (szLight_any x0 _ _ _ _ _ _ _ _ (h0.ext (by (repeat (first | (with_reducible exact Ext.refl _) | (with_reducible assumption) | (with_reducible refine Ext.alloc ?_ _) | (with_reducible refine Ext.drew ?_) | (with_reducible refine Ext.drewN ?_ _) | ((with_reducible apply Ext.setCell); (case hp => first | omega | (simp; done) | (simp; omega))) | (with_reducible refine Ext.trans ?_ (by assumption)))))) K0.out (by omega) (by omega)).mono ?_); rw [show szL (encLight x0) = a0 from HA0.out.symm, R0.out]; rintro e w1 ⟨rfl, hb⟩; (obtain ⟨BXa0, cXa0, fXa0, lXa0⟩ := Box.after (k := w.heap.size) hb (by (repeat (first | (with_reducible assumption) | ((with_reducible apply Box.new); (first | (with_reducible rfl) | (simp; done) | (simp; omega))) | (with_reducible apply Box.alloc) | (with_reducible apply Box.drew) | (with_reducible apply Box.drewN) | (with_reducible apply Box.set) | ((with_reducible apply Box.set_ne); (case hne => first | omega | (simp; done) | (simp; omega)))))))
    have s1 := hb.size; (try simp at s1)
    have E1 : Ext w w1 := by (repeat (first | (with_reducible exact Ext.refl _) | (with_reducible assumption) | (with_reducible refine Ext.alloc ?_ _) | (with_reducible refine Ext.drew ?_) | (with_reducible refine Ext.drewN ?_ _) | ((with_reducible apply Ext.setCell); (case hp => first | omega | (simp; done) | (simp; omega))) | (with_reducible refine Ext.trans ?_ (by assumption))))
    clear hb
    go_wp2
    go_ret
    exact ⟨rfl, by (repeat (first | (with_reducible exact Ext.refl _) | (with_reducible assumption) | (with_reducible refine Ext.alloc ?_ _) | (with_reducible refine Ext.drew ?_) | (with_reducible refine Ext.drewN ?_ _) | ((with_reducible apply Ext.setCell); (case hp => first | omega | (simp; done) | (simp; omega))) | (with_reducible refine Ext.trans ?_ (by assumption))))⟩
  · have R0 := Lib.hid (szR_yes g0)
    have Z0 : Hid (szL (encLight x0) ≤ 1048576) := Lib.hid (by have := HA0.out; omega)
    have N0 : cntT (encLight x0) ≤ 1000000000 := by have h1 := cntT_le (encLight x0); have h2 := cnt_Light x0; have h3 := Z0.out; omega
    have NR0 : cntT (encHeader ((mLightSeen x0 x1).1)) ≤ 1000000000000 := mLightSeen_cnt x0 x1 Z0.out
    obtain ⟨r0, hr0⟩ : ∃ r, r = (mLightSeen x0 x1).1 := ⟨_, rfl⟩
    have HR0 := Lib.hid hr0
    rw [← hr0] at NR0
    clear hr0
    obtain ⟨r1, hr1⟩ : ∃ r, r = (mLightSeen x0 x1).2 := ⟨_, rfl⟩
    have HR1 := Lib.hid hr1
    clear hr1
    go_enter Tryd.func5, Tryd.ntmps5
    go_wp2_with fail
    (refine (szLight_any x0 _ _ _ _ _ _ _ _ (h0.ext (by (repeat (first | (with_reducible exact Ext.refl _) | (with_reducible assumption) | (with_reducible refine Ext.alloc ?_ _) | (with_reducible refine Ext.drew ?_) | (with_reducible refine Ext.drewN ?_ _) | ((with_reducible apply Ext.setCell); (case hp => first | omega | (simp; done) | (simp; omega))) | (with_reducible refine Ext.trans ?_ (by assumption)))))) K0.out (by omega) (by omega)).mono ?_); rw [show szL (encLight x0) = a0 from HA0.out.symm, R0.out]; rintro e w1 ⟨rfl, hb⟩; (obtain ⟨BXa0, cXa0, fXa0, lXa0⟩ := Box.after (k := w.heap.size) hb (by (repeat (first | (with_reducible assumption) | ((with_reducible apply Box.new); (first | (with_reducible rfl) | (simp; done) | (simp; omega))) | (with_reducible apply Box.alloc) | (with_reducible apply Box.drew) | (with_reducible apply Box.drewN) | (with_reducible apply Box.set) | ((with_reducible apply Box.set_ne); (case hne => first | omega | (simp; done) | (simp; omega)))))))
    have s1 := hb.size; (try simp at s1)
    have E1 : Ext w w1 := by (repeat (first | (with_reducible exact Ext.refl _) | (with_reducible assumption) | (with_reducible refine Ext.alloc ?_ _) | (with_reducible refine Ext.drew ?_) | (with_reducible refine Ext.drewN ?_ _) | ((with_reducible apply Ext.setCell); (case hp => first | omega | (simp; done) | (simp; omega))) | (with_reducible refine Ext.trans ?_ (by assumption))))
    clear hb
    go_wp2_with fail
    (refine (toLight_any x0 _ _ _ _ _ _ _ (h0.ext (by (repeat (first | (with_reducible exact Ext.refl _) | (with_reducible assumption) | (with_reducible refine Ext.alloc ?_ _) | (with_reducible refine Ext.drew ?_) | (with_reducible refine Ext.drewN ?_ _) | ((with_reducible apply Ext.setCell); (case hp => first | omega | (simp; done) | (simp; omega))) | (with_reducible refine Ext.trans ?_ (by assumption)))))) Z0.out).mono ?_); rintro e w2 ⟨pw0_1, pw0_2, pw0_3, qw0_1, qw0_2, qw0_3, rfl, O, hb⟩; (obtain ⟨BXa0, cXa0, fXa0, lXa0⟩ := Box.after (k := w.heap.size) hb (by (repeat (first | (with_reducible assumption) | ((with_reducible apply Box.new); (first | (with_reducible rfl) | (simp; done) | (simp; omega))) | (with_reducible apply Box.alloc) | (with_reducible apply Box.drew) | (with_reducible apply Box.drewN) | (with_reducible apply Box.set) | ((with_reducible apply Box.set_ne); (case hne => first | omega | (simp; done) | (simp; omega)))))))
    have s2 := hb.size; (try simp at s2)
    have E2 : Ext w w2 := by (repeat (first | (with_reducible exact Ext.refl _) | (with_reducible assumption) | (with_reducible refine Ext.alloc ?_ _) | (with_reducible refine Ext.drew ?_) | (with_reducible refine Ext.drewN ?_ _) | ((with_reducible apply Ext.setCell); (case hp => first | omega | (simp; done) | (simp; omega))) | (with_reducible refine Ext.trans ?_ (by assumption))))
    have O_tw0 : Obj w2 w1.heap.size w2.heap.size (encLight x0) [.int .i64 x0.fTrust.fPeriod, .int .i64 x0.fTrust.fSlack, .int .i64 x0.fState, .int .i64 x0.fAnchor.fHead.fHeight, .int .i64 x0.fAnchor.fHead.fTime, .string x0.fAnchor.fHead.fLast, .string x0.fAnchor.fHead.fVals, .string x0.fAnchor.fHead.fNext, .string x0.fAnchor.fHead.fData, .slice pw0_1 x0.fAnchor.fNext.length qw0_1, .slice pw0_2 x0.fStore.fHeads.length qw0_2, .int .i64 x0.fStore.fSynced, .slice pw0_3 x0.fPeers.fPeers.length qw0_3, .int .i64 x0.fPeers.fTurn, .int .i64 x0.fNow] := Obj.mono O (by (first | omega | (simp; done) | (simp; omega))) (Nat.le_refl _)
    clear O
    clear hb E1
    go_wp2_with fail
    (refine (sLightSeen_any x0 x1 _ _ _ _ _ _ _ ((show Rds w2 (encLight x0) [.int .i64 x0.fTrust.fPeriod, .int .i64 x0.fTrust.fSlack, .int .i64 x0.fState, .int .i64 x0.fAnchor.fHead.fHeight, .int .i64 x0.fAnchor.fHead.fTime, .string x0.fAnchor.fHead.fLast, .string x0.fAnchor.fHead.fVals, .string x0.fAnchor.fHead.fNext, .string x0.fAnchor.fHead.fData, .slice pw0_1 x0.fAnchor.fNext.length qw0_1, .slice pw0_2 x0.fStore.fHeads.length qw0_2, .int .i64 x0.fStore.fSynced, .slice pw0_3 x0.fPeers.fPeers.length qw0_3, .int .i64 x0.fPeers.fTurn, .int .i64 x0.fNow] from O_tw0.read).ext (by (repeat (first | (with_reducible exact Ext.refl _) | (with_reducible assumption) | (with_reducible refine Ext.alloc ?_ _) | (with_reducible refine Ext.drew ?_) | (with_reducible refine Ext.drewN ?_ _) | ((with_reducible apply Ext.setCell); (case hp => first | omega | (simp; done) | (simp; omega))) | (with_reducible refine Ext.trans ?_ (by assumption)))))) Z0.out K0.out k1 (hG.ext (by (repeat (first | (with_reducible exact Ext.refl _) | (with_reducible assumption) | (with_reducible refine Ext.alloc ?_ _) | (with_reducible refine Ext.drew ?_) | (with_reducible refine Ext.drewN ?_ _) | ((with_reducible apply Ext.setCell); (case hp => first | omega | (simp; done) | (simp; omega))) | (with_reducible refine Ext.trans ?_ (by assumption))))))).mono ?_); rw [show (mLightSeen x0 x1).1 = r0 from HR0.out.symm]; rw [show (mLightSeen x0 x1).2 = r1 from HR1.out.symm]; rintro e w3 ⟨rfl, O, hb⟩; (obtain ⟨BXa0, cXa0, fXa0, lXa0⟩ := Box.after (k := w.heap.size) hb (by (repeat (first | (with_reducible assumption) | ((with_reducible apply Box.new); (first | (with_reducible rfl) | (simp; done) | (simp; omega))) | (with_reducible apply Box.alloc) | (with_reducible apply Box.drew) | (with_reducible apply Box.drewN) | (with_reducible apply Box.set) | ((with_reducible apply Box.set_ne); (case hne => first | omega | (simp; done) | (simp; omega)))))))
    have s3 := hb.size; (try simp at s3)
    replace O_tw0 : Obj w3 w1.heap.size w2.heap.size (encLight x0) [.int .i64 x0.fTrust.fPeriod, .int .i64 x0.fTrust.fSlack, .int .i64 x0.fState, .int .i64 x0.fAnchor.fHead.fHeight, .int .i64 x0.fAnchor.fHead.fTime, .string x0.fAnchor.fHead.fLast, .string x0.fAnchor.fHead.fVals, .string x0.fAnchor.fHead.fNext, .string x0.fAnchor.fHead.fData, .slice pw0_1 x0.fAnchor.fNext.length qw0_1, .slice pw0_2 x0.fStore.fHeads.length qw0_2, .int .i64 x0.fStore.fSynced, .slice pw0_3 x0.fPeers.fPeers.length qw0_3, .int .i64 x0.fPeers.fTurn, .int .i64 x0.fNow] := by (repeat (first | (with_reducible assumption) | (with_reducible apply Obj.alloc) | (with_reducible apply Obj.drew) | (with_reducible apply Obj.drewN) | ((with_reducible apply Obj.set); (case hk => first | omega | (simp; done) | (simp; omega) | (left; simp; omega) | (right; simp; omega))) | (with_reducible refine Obj.ext ?_ (by assumption))))
    have E3 : Ext w w3 := by (repeat (first | (with_reducible exact Ext.refl _) | (with_reducible assumption) | (with_reducible refine Ext.alloc ?_ _) | (with_reducible refine Ext.drew ?_) | (with_reducible refine Ext.drewN ?_ _) | ((with_reducible apply Ext.setCell); (case hp => first | omega | (simp; done) | (simp; omega))) | (with_reducible refine Ext.trans ?_ (by assumption))))
    have O_w : Obj w3 w2.heap.size w3.heap.size (encHeader r0) [.int .i64 r0.fHeight, .int .i64 r0.fTime, .string r0.fLast, .string r0.fVals, .string r0.fNext, .string r0.fData] := Obj.mono O (by (first | omega | (simp; done) | (simp; omega))) (Nat.le_refl _)
    clear O
    clear hb E2
    clear O_tw0
    go_wp2_with fail
    (refine (toLight_any x0 _ _ _ _ _ _ _ (h0.ext (by (repeat (first | (with_reducible exact Ext.refl _) | (with_reducible assumption) | (with_reducible refine Ext.alloc ?_ _) | (with_reducible refine Ext.drew ?_) | (with_reducible refine Ext.drewN ?_ _) | ((with_reducible apply Ext.setCell); (case hp => first | omega | (simp; done) | (simp; omega))) | (with_reducible refine Ext.trans ?_ (by assumption)))))) Z0.out).mono ?_); rintro e w4 ⟨px0_1, px0_2, px0_3, qx0_1, qx0_2, qx0_3, rfl, O, hb⟩; (obtain ⟨BXa0, cXa0, fXa0, lXa0⟩ := Box.after (k := w.heap.size) hb (by (repeat (first | (with_reducible assumption) | ((with_reducible apply Box.new); (first | (with_reducible rfl) | (simp; done) | (simp; omega))) | (with_reducible apply Box.alloc) | (with_reducible apply Box.drew) | (with_reducible apply Box.drewN) | (with_reducible apply Box.set) | ((with_reducible apply Box.set_ne); (case hne => first | omega | (simp; done) | (simp; omega))))))); (obtain ⟨BXw0, cXw0, fXw0, lXw0⟩ := Box.after (k := w3.heap.size) hb (by (repeat (first | (with_reducible assumption) | ((with_reducible apply Box.new); (first | (with_reducible rfl) | (simp; done) | (simp; omega))) | (with_reducible apply Box.alloc) | (with_reducible apply Box.drew) | (with_reducible apply Box.drewN) | (with_reducible apply Box.set) | ((with_reducible apply Box.set_ne); (case hne => first | omega | (simp; done) | (simp; omega)))))))
    have s4 := hb.size; (try simp at s4)
    replace O_w : Obj w4 w2.heap.size w3.heap.size (encHeader r0) [.int .i64 r0.fHeight, .int .i64 r0.fTime, .string r0.fLast, .string r0.fVals, .string r0.fNext, .string r0.fData] := by (repeat (first | (with_reducible assumption) | (with_reducible apply Obj.alloc) | (with_reducible apply Obj.drew) | (with_reducible apply Obj.drewN) | ((with_reducible apply Obj.set); (case hk => first | omega | (simp; done) | (simp; omega) | (left; simp; omega) | (right; simp; omega))) | (with_reducible refine Obj.ext ?_ (by assumption))))
    have E4 : Ext w w4 := by (repeat (first | (with_reducible exact Ext.refl _) | (with_reducible assumption) | (with_reducible refine Ext.alloc ?_ _) | (with_reducible refine Ext.drew ?_) | (with_reducible refine Ext.drewN ?_ _) | ((with_reducible apply Ext.setCell); (case hp => first | omega | (simp; done) | (simp; omega))) | (with_reducible refine Ext.trans ?_ (by assumption))))
    have O_x0 : Obj w4 (w3.heap.size + 1) w4.heap.size (encLight x0) [.int .i64 x0.fTrust.fPeriod, .int .i64 x0.fTrust.fSlack, .int .i64 x0.fState, .int .i64 x0.fAnchor.fHead.fHeight, .int .i64 x0.fAnchor.fHead.fTime, .string x0.fAnchor.fHead.fLast, .string x0.fAnchor.fHead.fVals, .string x0.fAnchor.fHead.fNext, .string x0.fAnchor.fHead.fData, .slice px0_1 x0.fAnchor.fNext.length qx0_1, .slice px0_2 x0.fStore.fHeads.length qx0_2, .int .i64 x0.fStore.fSynced, .slice px0_3 x0.fPeers.fPeers.length qx0_3, .int .i64 x0.fPeers.fTurn, .int .i64 x0.fNow] := Obj.mono O (by (first | omega | (simp; done) | (simp; omega))) (Nat.le_refl _)
    clear O
    clear hb E3
    go_wp2_with fail
    (refine (iLightSeen_any x0 x1 _ _ _ _ _ _ _ ((show Rds w4 (encLight x0) [.int .i64 x0.fTrust.fPeriod, .int .i64 x0.fTrust.fSlack, .int .i64 x0.fState, .int .i64 x0.fAnchor.fHead.fHeight, .int .i64 x0.fAnchor.fHead.fTime, .string x0.fAnchor.fHead.fLast, .string x0.fAnchor.fHead.fVals, .string x0.fAnchor.fHead.fNext, .string x0.fAnchor.fHead.fData, .slice px0_1 x0.fAnchor.fNext.length qx0_1, .slice px0_2 x0.fStore.fHeads.length qx0_2, .int .i64 x0.fStore.fSynced, .slice px0_3 x0.fPeers.fPeers.length qx0_3, .int .i64 x0.fPeers.fTurn, .int .i64 x0.fNow] from O_x0.read).ext (by (repeat (first | (with_reducible exact Ext.refl _) | (with_reducible assumption) | (with_reducible refine Ext.alloc ?_ _) | (with_reducible refine Ext.drew ?_) | (with_reducible refine Ext.drewN ?_ _) | ((with_reducible apply Ext.setCell); (case hp => first | omega | (simp; done) | (simp; omega))) | (with_reducible refine Ext.trans ?_ (by assumption)))))) Z0.out K0.out k1 (hG.ext (by (repeat (first | (with_reducible exact Ext.refl _) | (with_reducible assumption) | (with_reducible refine Ext.alloc ?_ _) | (with_reducible refine Ext.drew ?_) | (with_reducible refine Ext.drewN ?_ _) | ((with_reducible apply Ext.setCell); (case hp => first | omega | (simp; done) | (simp; omega))) | (with_reducible refine Ext.trans ?_ (by assumption))))))).mono ?_); rw [show (mLightSeen x0 x1).1 = r0 from HR0.out.symm]; rw [show (mLightSeen x0 x1).2 = r1 from HR1.out.symm]; rintro e w5 ⟨rfl, O, hb⟩; (obtain ⟨BXa0, cXa0, fXa0, lXa0⟩ := Box.after (k := w.heap.size) hb (by (repeat (first | (with_reducible assumption) | ((with_reducible apply Box.new); (first | (with_reducible rfl) | (simp; done) | (simp; omega))) | (with_reducible apply Box.alloc) | (with_reducible apply Box.drew) | (with_reducible apply Box.drewN) | (with_reducible apply Box.set) | ((with_reducible apply Box.set_ne); (case hne => first | omega | (simp; done) | (simp; omega))))))); (obtain ⟨BXw0, cXw0, fXw0, lXw0⟩ := Box.after (k := w3.heap.size) hb (by (repeat (first | (with_reducible assumption) | ((with_reducible apply Box.new); (first | (with_reducible rfl) | (simp; done) | (simp; omega))) | (with_reducible apply Box.alloc) | (with_reducible apply Box.drew) | (with_reducible apply Box.drewN) | (with_reducible apply Box.set) | ((with_reducible apply Box.set_ne); (case hne => first | omega | (simp; done) | (simp; omega))))))); (obtain ⟨BXx0, cXx0, fXx0, lXx0⟩ := Box.after (k := w4.heap.size) hb (by (repeat (first | (with_reducible assumption) | ((with_reducible apply Box.new); (first | (with_reducible rfl) | (simp; done) | (simp; omega))) | (with_reducible apply Box.alloc) | (with_reducible apply Box.drew) | (with_reducible apply Box.drewN) | (with_reducible apply Box.set) | ((with_reducible apply Box.set_ne); (case hne => first | omega | (simp; done) | (simp; omega)))))))
    have s5 := hb.size; (try simp at s5)
    replace O_w : Obj w5 w2.heap.size w3.heap.size (encHeader r0) [.int .i64 r0.fHeight, .int .i64 r0.fTime, .string r0.fLast, .string r0.fVals, .string r0.fNext, .string r0.fData] := by (repeat (first | (with_reducible assumption) | (with_reducible apply Obj.alloc) | (with_reducible apply Obj.drew) | (with_reducible apply Obj.drewN) | ((with_reducible apply Obj.set); (case hk => first | omega | (simp; done) | (simp; omega) | (left; simp; omega) | (right; simp; omega))) | (with_reducible refine Obj.ext ?_ (by assumption))))
    replace O_x0 : Obj w5 (w3.heap.size + 1) w4.heap.size (encLight x0) [.int .i64 x0.fTrust.fPeriod, .int .i64 x0.fTrust.fSlack, .int .i64 x0.fState, .int .i64 x0.fAnchor.fHead.fHeight, .int .i64 x0.fAnchor.fHead.fTime, .string x0.fAnchor.fHead.fLast, .string x0.fAnchor.fHead.fVals, .string x0.fAnchor.fHead.fNext, .string x0.fAnchor.fHead.fData, .slice px0_1 x0.fAnchor.fNext.length qx0_1, .slice px0_2 x0.fStore.fHeads.length qx0_2, .int .i64 x0.fStore.fSynced, .slice px0_3 x0.fPeers.fPeers.length qx0_3, .int .i64 x0.fPeers.fTurn, .int .i64 x0.fNow] := by (repeat (first | (with_reducible assumption) | (with_reducible apply Obj.alloc) | (with_reducible apply Obj.drew) | (with_reducible apply Obj.drewN) | ((with_reducible apply Obj.set); (case hk => first | omega | (simp; done) | (simp; omega) | (left; simp; omega) | (right; simp; omega))) | (with_reducible refine Obj.ext ?_ (by assumption))))
    have E5 : Ext w w5 := by (repeat (first | (with_reducible exact Ext.refl _) | (with_reducible assumption) | (with_reducible refine Ext.alloc ?_ _) | (with_reducible refine Ext.drew ?_) | (with_reducible refine Ext.drewN ?_ _) | ((with_reducible apply Ext.setCell); (case hp => first | omega | (simp; done) | (simp; omega))) | (with_reducible refine Ext.trans ?_ (by assumption))))
    have O_g : Obj w5 (w4.heap.size + 1) w5.heap.size (encHeader r0) [.int .i64 r0.fHeight, .int .i64 r0.fTime, .string r0.fLast, .string r0.fVals, .string r0.fNext, .string r0.fData] := Obj.mono O (by (first | omega | (simp; done) | (simp; omega))) (Nat.le_refl _)
    clear O
    clear hb E4
    go_wp2_with fail
    (refine (eqHeader_any r0 _ ((Obj.read O_g).ext (by (repeat (first | (with_reducible exact Ext.refl _) | (with_reducible assumption) | (with_reducible refine Ext.alloc ?_ _) | (with_reducible refine Ext.drew ?_) | (with_reducible refine Ext.drewN ?_ _) | ((with_reducible apply Ext.setCell); (case hp => first | omega | (simp; done) | (simp; omega))) | (with_reducible refine Ext.trans ?_ (by assumption)))))) ((Obj.read O_w).ext (by (repeat (first | (with_reducible exact Ext.refl _) | (with_reducible assumption) | (with_reducible refine Ext.alloc ?_ _) | (with_reducible refine Ext.drew ?_) | (with_reducible refine Ext.drewN ?_ _) | ((with_reducible apply Ext.setCell); (case hp => first | omega | (simp; done) | (simp; omega))) | (with_reducible refine Ext.trans ?_ (by assumption))))))).mono ?_); rintro e w6 ⟨rfl, hb⟩; (obtain ⟨BXa0, cXa0, fXa0, lXa0⟩ := Box.after (k := w.heap.size) hb (by (repeat (first | (with_reducible assumption) | ((with_reducible apply Box.new); (first | (with_reducible rfl) | (simp; done) | (simp; omega))) | (with_reducible apply Box.alloc) | (with_reducible apply Box.drew) | (with_reducible apply Box.drewN) | (with_reducible apply Box.set) | ((with_reducible apply Box.set_ne); (case hne => first | omega | (simp; done) | (simp; omega))))))); (obtain ⟨BXw0, cXw0, fXw0, lXw0⟩ := Box.after (k := w3.heap.size) hb (by (repeat (first | (with_reducible assumption) | ((with_reducible apply Box.new); (first | (with_reducible rfl) | (simp; done) | (simp; omega))) | (with_reducible apply Box.alloc) | (with_reducible apply Box.drew) | (with_reducible apply Box.drewN) | (with_reducible apply Box.set) | ((with_reducible apply Box.set_ne); (case hne => first | omega | (simp; done) | (simp; omega))))))); (obtain ⟨BXx0, cXx0, fXx0, lXx0⟩ := Box.after (k := w4.heap.size) hb (by (repeat (first | (with_reducible assumption) | ((with_reducible apply Box.new); (first | (with_reducible rfl) | (simp; done) | (simp; omega))) | (with_reducible apply Box.alloc) | (with_reducible apply Box.drew) | (with_reducible apply Box.drewN) | (with_reducible apply Box.set) | ((with_reducible apply Box.set_ne); (case hne => first | omega | (simp; done) | (simp; omega))))))); (obtain ⟨BXg0, cXg0, fXg0, lXg0⟩ := Box.after (k := w5.heap.size) hb (by (repeat (first | (with_reducible assumption) | ((with_reducible apply Box.new); (first | (with_reducible rfl) | (simp; done) | (simp; omega))) | (with_reducible apply Box.alloc) | (with_reducible apply Box.drew) | (with_reducible apply Box.drewN) | (with_reducible apply Box.set) | ((with_reducible apply Box.set_ne); (case hne => first | omega | (simp; done) | (simp; omega)))))))
    have s6 := hb.size; (try simp at s6)
    replace O_w : Obj w6 w2.heap.size w3.heap.size (encHeader r0) [.int .i64 r0.fHeight, .int .i64 r0.fTime, .string r0.fLast, .string r0.fVals, .string r0.fNext, .string r0.fData] := by (repeat (first | (with_reducible assumption) | (with_reducible apply Obj.alloc) | (with_reducible apply Obj.drew) | (with_reducible apply Obj.drewN) | ((with_reducible apply Obj.set); (case hk => first | omega | (simp; done) | (simp; omega) | (left; simp; omega) | (right; simp; omega))) | (with_reducible refine Obj.ext ?_ (by assumption))))
    replace O_x0 : Obj w6 (w3.heap.size + 1) w4.heap.size (encLight x0) [.int .i64 x0.fTrust.fPeriod, .int .i64 x0.fTrust.fSlack, .int .i64 x0.fState, .int .i64 x0.fAnchor.fHead.fHeight, .int .i64 x0.fAnchor.fHead.fTime, .string x0.fAnchor.fHead.fLast, .string x0.fAnchor.fHead.fVals, .string x0.fAnchor.fHead.fNext, .string x0.fAnchor.fHead.fData, .slice px0_1 x0.fAnchor.fNext.length qx0_1, .slice px0_2 x0.fStore.fHeads.length qx0_2, .int .i64 x0.fStore.fSynced, .slice px0_3 x0.fPeers.fPeers.length qx0_3, .int .i64 x0.fPeers.fTurn, .int .i64 x0.fNow] := by (repeat (first | (with_reducible assumption) | (with_reducible apply Obj.alloc) | (with_reducible apply Obj.drew) | (with_reducible apply Obj.drewN) | ((with_reducible apply Obj.set); (case hk => first | omega | (simp; done) | (simp; omega) | (left; simp; omega) | (right; simp; omega))) | (with_reducible refine Obj.ext ?_ (by assumption))))
    replace O_g : Obj w6 (w4.heap.size + 1) w5.heap.size (encHeader r0) [.int .i64 r0.fHeight, .int .i64 r0.fTime, .string r0.fLast, .string r0.fVals, .string r0.fNext, .string r0.fData] := by (repeat (first | (with_reducible assumption) | (with_reducible apply Obj.alloc) | (with_reducible apply Obj.drew) | (with_reducible apply Obj.drewN) | ((with_reducible apply Obj.set); (case hk => first | omega | (simp; done) | (simp; omega) | (left; simp; omega) | (right; simp; omega))) | (with_reducible refine Obj.ext ?_ (by assumption))))
    have E6 : Ext w w6 := by (repeat (first | (with_reducible exact Ext.refl _) | (with_reducible assumption) | (with_reducible refine Ext.alloc ?_ _) | (with_reducible refine Ext.drew ?_) | (with_reducible refine Ext.drewN ?_ _) | ((with_reducible apply Ext.setCell); (case hp => first | omega | (simp; done) | (simp; omega))) | (with_reducible refine Ext.trans ?_ (by assumption))))
    clear hb E5
    have S_x0 := Lib.hid (Obj.read O_x0)
    have F_x0 := Lib.hid E6
    go_wp2_with fail
    go_region_held3 (fun w' => w'.cell? ⟨w.heap.size, 0, none⟩ = some (.int .i64 x0.fTrust.fPeriod) ∧ w'.cell? ⟨w.heap.size, 1, none⟩ = some (.int .i64 x0.fTrust.fSlack) ∧ w'.cell? ⟨w.heap.size, 2, none⟩ = some (.int .i64 x0.fState) ∧ w'.cell? ⟨w.heap.size, 3, none⟩ = some (.int .i64 x0.fAnchor.fHead.fHeight) ∧ w'.cell? ⟨w.heap.size, 4, none⟩ = some (.int .i64 x0.fAnchor.fHead.fTime) ∧ w'.cell? ⟨w.heap.size, 5, none⟩ = some (.string x0.fAnchor.fHead.fLast) ∧ w'.cell? ⟨w.heap.size, 6, none⟩ = some (.string x0.fAnchor.fHead.fVals) ∧ w'.cell? ⟨w.heap.size, 7, none⟩ = some (.string x0.fAnchor.fHead.fNext) ∧ w'.cell? ⟨w.heap.size, 8, none⟩ = some (.string x0.fAnchor.fHead.fData) ∧ w'.cell? ⟨w.heap.size, 9, none⟩ = some (.slice o1 x0.fAnchor.fNext.length c1) ∧ w'.cell? ⟨w.heap.size, 10, none⟩ = some (.slice o2 x0.fStore.fHeads.length c2) ∧ w'.cell? ⟨w.heap.size, 11, none⟩ = some (.int .i64 x0.fStore.fSynced) ∧ w'.cell? ⟨w.heap.size, 12, none⟩ = some (.slice o3 x0.fPeers.fPeers.length c3) ∧ w'.cell? ⟨w.heap.size, 13, none⟩ = some (.int .i64 x0.fPeers.fTurn) ∧ w'.cell? ⟨w.heap.size, 14, none⟩ = some (.int .i64 x0.fNow) ∧ w'.cell? ⟨w4.heap.size, 0, none⟩ = some (.int .i64 x0.fTrust.fPeriod) ∧ w'.cell? ⟨w4.heap.size, 1, none⟩ = some (.int .i64 x0.fTrust.fSlack) ∧ w'.cell? ⟨w4.heap.size, 2, none⟩ = some (.int .i64 x0.fState) ∧ w'.cell? ⟨w4.heap.size, 3, none⟩ = some (.int .i64 x0.fAnchor.fHead.fHeight) ∧ w'.cell? ⟨w4.heap.size, 4, none⟩ = some (.int .i64 x0.fAnchor.fHead.fTime) ∧ w'.cell? ⟨w4.heap.size, 5, none⟩ = some (.string x0.fAnchor.fHead.fLast) ∧ w'.cell? ⟨w4.heap.size, 6, none⟩ = some (.string x0.fAnchor.fHead.fVals) ∧ w'.cell? ⟨w4.heap.size, 7, none⟩ = some (.string x0.fAnchor.fHead.fNext) ∧ w'.cell? ⟨w4.heap.size, 8, none⟩ = some (.string x0.fAnchor.fHead.fData) ∧ w'.cell? ⟨w4.heap.size, 9, none⟩ = some (.slice px0_1 x0.fAnchor.fNext.length qx0_1) ∧ w'.cell? ⟨w4.heap.size, 10, none⟩ = some (.slice px0_2 x0.fStore.fHeads.length qx0_2) ∧ w'.cell? ⟨w4.heap.size, 11, none⟩ = some (.int .i64 x0.fStore.fSynced) ∧ w'.cell? ⟨w4.heap.size, 12, none⟩ = some (.slice px0_3 x0.fPeers.fPeers.length qx0_3) ∧ w'.cell? ⟨w4.heap.size, 13, none⟩ = some (.int .i64 x0.fPeers.fTurn) ∧ w'.cell? ⟨w4.heap.size, 14, none⟩ = some (.int .i64 x0.fNow)) ((first | go_keep | ((try dsimp only); (try go_split_ands); (repeat' apply And.intro) <;> exact hb.cellSome (by assumption))))
      (first | (go_at_call 15; refine (toLight_any x0 _ _ _ _ _ _ _ (h0.ext (by (repeat (first | (with_reducible exact Ext.refl _) | (with_reducible assumption) | (with_reducible refine Ext.alloc ?_ _) | (with_reducible refine Ext.drew ?_) | (with_reducible refine Ext.drewN ?_ _) | ((with_reducible apply Ext.setCell); (case hp => first | omega | (simp; done) | (simp; omega))) | (with_reducible refine Ext.trans ?_ (by assumption)))))) Z0.out).mono ?_; rintro e w7 ⟨pt_1, pt_2, pt_3, qt_1, qt_2, qt_3, rfl, O, hb⟩) | (go_at_call 17; refine (eqLight_any x0 _ _ _ _ _ _ _ _ _ _ _ _ _ (S_x0.out.ext (by (repeat (first | (with_reducible exact Ext.refl _) | (with_reducible assumption) | (with_reducible refine Ext.alloc ?_ _) | (with_reducible refine Ext.drew ?_) | (with_reducible refine Ext.drewN ?_ _) | ((with_reducible apply Ext.setCell); (case hp => first | omega | (simp; done) | (simp; omega))) | (with_reducible refine Ext.trans ?_ (by assumption)))))) (O.read.ext (by (repeat (first | (with_reducible exact Ext.refl _) | (with_reducible assumption) | (with_reducible refine Ext.alloc ?_ _) | (with_reducible refine Ext.drew ?_) | (with_reducible refine Ext.drewN ?_ _) | ((with_reducible apply Ext.setCell); (case hp => first | omega | (simp; done) | (simp; omega))) | (with_reducible refine Ext.trans ?_ (by assumption))))))).mono ?_; rintro e w8 ⟨rfl, hb⟩))
    all_goals
      have hbb : Ext w6 w8 := by (repeat (first | (with_reducible exact Ext.refl _) | (with_reducible assumption) | (with_reducible refine Ext.alloc ?_ _) | (with_reducible refine Ext.drew ?_) | (with_reducible refine Ext.drewN ?_ _) | ((with_reducible apply Ext.setCell); (case hp => first | omega | (simp; done) | (simp; omega))) | (with_reducible refine Ext.trans ?_ (by assumption))))
      have E8 : Ext w w8 := Ext.trans F_x0.out hbb
      clear hb O; have hb := hbb; clear hbb E6
      (obtain ⟨BXa0, cXa0, fXa0, lXa0⟩ := Box.after (k := w.heap.size) hb (by (repeat (first | (with_reducible assumption) | ((with_reducible apply Box.new); (first | (with_reducible rfl) | (simp; done) | (simp; omega))) | (with_reducible apply Box.alloc) | (with_reducible apply Box.drew) | (with_reducible apply Box.drewN) | (with_reducible apply Box.set) | ((with_reducible apply Box.set_ne); (case hne => first | omega | (simp; done) | (simp; omega)))))))
      (obtain ⟨BXw0, cXw0, fXw0, lXw0⟩ := Box.after (k := w3.heap.size) hb (by (repeat (first | (with_reducible assumption) | ((with_reducible apply Box.new); (first | (with_reducible rfl) | (simp; done) | (simp; omega))) | (with_reducible apply Box.alloc) | (with_reducible apply Box.drew) | (with_reducible apply Box.drewN) | (with_reducible apply Box.set) | ((with_reducible apply Box.set_ne); (case hne => first | omega | (simp; done) | (simp; omega)))))))
      (obtain ⟨BXx0, cXx0, fXx0, lXx0⟩ := Box.after (k := w4.heap.size) hb (by (repeat (first | (with_reducible assumption) | ((with_reducible apply Box.new); (first | (with_reducible rfl) | (simp; done) | (simp; omega))) | (with_reducible apply Box.alloc) | (with_reducible apply Box.drew) | (with_reducible apply Box.drewN) | (with_reducible apply Box.set) | ((with_reducible apply Box.set_ne); (case hne => first | omega | (simp; done) | (simp; omega)))))))
      (obtain ⟨BXg0, cXg0, fXg0, lXg0⟩ := Box.after (k := w5.heap.size) hb (by (repeat (first | (with_reducible assumption) | ((with_reducible apply Box.new); (first | (with_reducible rfl) | (simp; done) | (simp; omega))) | (with_reducible apply Box.alloc) | (with_reducible apply Box.drew) | (with_reducible apply Box.drewN) | (with_reducible apply Box.set) | ((with_reducible apply Box.set_ne); (case hne => first | omega | (simp; done) | (simp; omega)))))))
      have s8 := hb.size
      replace O_w : Obj w8 w2.heap.size w3.heap.size (encHeader r0) [.int .i64 r0.fHeight, .int .i64 r0.fTime, .string r0.fLast, .string r0.fVals, .string r0.fNext, .string r0.fData] := by (repeat (first | (with_reducible assumption) | (with_reducible apply Obj.alloc) | (with_reducible apply Obj.drew) | (with_reducible apply Obj.drewN) | ((with_reducible apply Obj.set); (case hk => first | omega | (simp; done) | (simp; omega) | (left; simp; omega) | (right; simp; omega))) | (with_reducible refine Obj.ext ?_ (by assumption))))
      replace O_x0 : Obj w8 (w3.heap.size + 1) w4.heap.size (encLight x0) [.int .i64 x0.fTrust.fPeriod, .int .i64 x0.fTrust.fSlack, .int .i64 x0.fState, .int .i64 x0.fAnchor.fHead.fHeight, .int .i64 x0.fAnchor.fHead.fTime, .string x0.fAnchor.fHead.fLast, .string x0.fAnchor.fHead.fVals, .string x0.fAnchor.fHead.fNext, .string x0.fAnchor.fHead.fData, .slice px0_1 x0.fAnchor.fNext.length qx0_1, .slice px0_2 x0.fStore.fHeads.length qx0_2, .int .i64 x0.fStore.fSynced, .slice px0_3 x0.fPeers.fPeers.length qx0_3, .int .i64 x0.fPeers.fTurn, .int .i64 x0.fNow] := by (repeat (first | (with_reducible assumption) | (with_reducible apply Obj.alloc) | (with_reducible apply Obj.drew) | (with_reducible apply Obj.drewN) | ((with_reducible apply Obj.set); (case hk => first | omega | (simp; done) | (simp; omega) | (left; simp; omega) | (right; simp; omega))) | (with_reducible refine Obj.ext ?_ (by assumption))))
      replace O_g : Obj w8 (w4.heap.size + 1) w5.heap.size (encHeader r0) [.int .i64 r0.fHeight, .int .i64 r0.fTime, .string r0.fLast, .string r0.fVals, .string r0.fNext, .string r0.fData] := by (repeat (first | (with_reducible assumption) | (with_reducible apply Obj.alloc) | (with_reducible apply Obj.drew) | (with_reducible apply Obj.drewN) | ((with_reducible apply Obj.set); (case hk => first | omega | (simp; done) | (simp; omega) | (left; simp; omega) | (right; simp; omega))) | (with_reducible refine Obj.ext ?_ (by assumption))))
      clear hb S_x0 F_x0
      go_wp2
      go_ret
      exact ⟨rfl, by (repeat (first | (with_reducible exact Ext.refl _) | (with_reducible assumption) | (with_reducible refine Ext.alloc ?_ _) | (with_reducible refine Ext.drew ?_) | (with_reducible refine Ext.drewN ?_ _) | ((with_reducible apply Ext.setCell); (case hp => first | omega | (simp; done) | (simp; omega))) | (with_reducible refine Ext.trans ?_ (by assumption))))⟩
set_option maxRecDepth 100000 in
theorem fnExactLightSeen_args {H : Type} {enc : TypeId × Value → H} (W : World) (base : Nat) (args : Array Value) (ds : List (DataW H)) (p : List MemPlace) (hG : GlobW W)
    (hval : ∀ (j : Nat) t v, #[46, 3][j]? = some t → args[j]? = some v → Value.okWide Tryd.prog W .any base t v)
    (hA : DataW.TrodAll enc Tryd.prog W 0 (fun _ => true) true #[46, 3].toList args.toList ds p) :
    Calls Tryd.prog 5 args W fun e W' => e = .returned (.bool true) ∧ Ext W W' := by
  obtain ⟨v0, v1, d0, d1, p0, p1, rfl, rfl, rfl, h0, h1⟩ := trodAll_two hA
  obtain ⟨cs0, rfl, e0⟩ := read_struct Tryd.underlying46 (n := 8) (ss := [.int .i64, .int .i64, .int .i64, .int .i64, .int .i64, .str, .str, .str, .str, .sl [.int .i64, .int .i64], .sl [.int .i64, .int .i64, .str, .str, .str, .str], .int .i64, .sl [.int .i64, .bool, .int .i64, .int .i64], .int .i64, .int .i64]) (by kernel_rfl) (hval 0 _ _ rfl rfl) h0
  obtain ⟨x0, r0, k0⟩ := dec_Light _ _ _ e0
  have q0 := r0
  obtain ⟨l0_0, e0_0, q0⟩ := rds_int.1 q0
  obtain ⟨l0_1, e0_1, q0⟩ := rds_int.1 q0
  obtain ⟨l0_2, e0_2, q0⟩ := rds_int.1 q0
  obtain ⟨l0_3, e0_3, q0⟩ := rds_int.1 q0
  obtain ⟨l0_4, e0_4, q0⟩ := rds_int.1 q0
  obtain ⟨l0_5, e0_5, q0⟩ := rds_str.1 q0
  obtain ⟨l0_6, e0_6, q0⟩ := rds_str.1 q0
  obtain ⟨l0_7, e0_7, q0⟩ := rds_str.1 q0
  obtain ⟨l0_8, e0_8, q0⟩ := rds_str.1 q0
  obtain ⟨_, l0_9, e0_9, b0_9, q0⟩ := rds_slD.1 q0
  obtain ⟨o1, c1, rfl⟩ := RS.val b0_9
  obtain ⟨_, l0_10, e0_10, b0_10, q0⟩ := rds_slD.1 q0
  obtain ⟨o2, c2, rfl⟩ := RS.val b0_10
  obtain ⟨l0_11, e0_11, q0⟩ := rds_int.1 q0
  obtain ⟨_, l0_12, e0_12, b0_12, q0⟩ := rds_slD.1 q0
  obtain ⟨o3, c3, rfl⟩ := RS.val b0_12
  obtain ⟨l0_13, e0_13, q0⟩ := rds_int.1 q0
  obtain ⟨l0_14, e0_14, q0⟩ := rds_int.1 q0
  have z0 := rds_nil.1 q0
  subst z0
  subst e0_14
  subst e0_13
  subst e0_12
  subst e0_11
  subst e0_10
  subst e0_9
  subst e0_8
  subst e0_7
  subst e0_6
  subst e0_5
  subst e0_4
  subst e0_3
  subst e0_2
  subst e0_1
  obtain rfl : cs0 = #[.int .i64 x0.fTrust.fPeriod, .int .i64 x0.fTrust.fSlack, .int .i64 x0.fState, .int .i64 x0.fAnchor.fHead.fHeight, .int .i64 x0.fAnchor.fHead.fTime, .string x0.fAnchor.fHead.fLast, .string x0.fAnchor.fHead.fVals, .string x0.fAnchor.fHead.fNext, .string x0.fAnchor.fHead.fData, .slice o1 x0.fAnchor.fNext.length c1, .slice o2 x0.fStore.fHeads.length c2, .int .i64 x0.fStore.fSynced, .slice o3 x0.fPeers.fPeers.length c3, .int .i64 x0.fPeers.fTurn, .int .i64 x0.fNow] := by rw [← Array.toArray_toList (xs := cs0), e0_0]
  obtain ⟨x1, rfl, u1⟩ := read_int Tryd.underlying3 (hval 1 _ _ rfl rfl) h1
  exact fnExactLightSeen_any x0 x1 o1 o2 o3 c1 c2 c3 W r0 k0 (wf_bd u1) hG
end Go.Proofs.YtgcelmnmalfpcaaDoor
namespace Go.Proofs.YtgcelmnmalfpcaaDoor
set_option linter.unusedSimpArgs false
set_option linter.unusedVariables false
open Go.RowKit Go.ChangeShapes Go.WideShapes
section
variable {H : Type} {enc : TypeId × Value → H} {P : Program} {w : World}
theorem law_postV {fn : Func} {f : FuncId} {s : ChangeSpec} {tb : TypeId} {apart : Bool} (hv : varsRowed P s.vars = true) (hres : fn.resultTypes = #[tb]) (hb : P.underlying tb = some .bool) (hlaid : laidOutB P = true)
    (hread : fn.params.toList.all (fun t => P.readableRec t && decide (t < P.types.size)) = true)
    (hspec : ∀ (ds gs : List (DataW H)), ds.length = fn.params.toList.length → gs.length = s.vars.length → (s.fn H (ds ++ gs)).results = [.lit (.bool true)] ∧ (s.fn H (ds ++ gs)).args = ds ∧ (s.fn H (ds ++ gs)).vars = gs)
    {args : Array Value} {ds gs : List (DataW H)} {before : List MemPlace} (hgl : gs.length = s.vars.length) (hW : DataW.Whole enc P fn.params.toList s.vars apart w args.toList ds gs before)
    (h : Calls P f args w fun e W' => e = .returned (.bool true) ∧ Ext w W') :
    Calls P f args w fun e W' => ∃ v, e = .returned v ∧ s.post enc P fn apart true false false w args v W' := by
  refine h.mono fun e W' ⟨he, hx⟩ => ⟨_, he, ?_⟩
  have hW' := hW
  obtain ⟨p, q, hA, hV, rfl, hfz, hnd⟩ := hW
  obtain ⟨e1, e2, e3⟩ := hspec ds gs (trodAll_length _ _ _ _ hA) hgl
  refine ⟨ds, gs, _, [], p, q, hW', ?_, ?_, ?_, Below.frame hx _, fun h => by cases h⟩
  · rw [e1, hres]
    exact trodAll_mk1 (shut_bool hb _)
  · rw [e2]
    exact trodAll_below hlaid _ _ _ _ hread hA hx
  · rw [e3]
    exact Below.trodVars hlaid hx hv hV
theorem trodVars_length : ∀ {ns : List String} {gs : List (DataW H)} {sp : Nat → Bool} {ps : List MemPlace}, DataW.TrodVars enc P w sp ns gs ps → gs.length = ns.length
  | [], [], _, _, _ => rfl
  | [], _ :: _, _, _, h => h.elim
  | _ :: _, [], _, _, h => h.elim
  | _ :: ns, _ :: gs, _, _, h => by
    obtain ⟨g, t, cs, fuel, p, q, h1, h2, h3, h4, hs, e⟩ := h
    rw [List.length_cons, List.length_cons, trodVars_length hs]
end
end Go.Proofs.YtgcelmnmalfpcaaDoor
