/- Table: data, and the laws' helpers. Printed by a program of ours. -/
import Derived.Test.YtkbikihbomnghaaTyPeer
import Derived.Test.YtkbikihbomnghaaT1
namespace Go.Proofs.Ytkbikihbomnghaa
set_option linter.unusedSimpArgs false
set_option linter.unusedVariables false
open Go.RowKit

def encTable (x : GTable) : List D := [slD 64 4 encPeer x.fPeers, .int x.fTurn]
theorem encTable_len (x : GTable) : (encTable x).length = 2 := rfl
theorem dec_Table : Dec [.sl [.int .i64, .bool, .int .i64, .int .i64], .int .i64] encTable := by
  intro n W vs h
  match vs, h with
  | [_, _], ⟨k0, k1, _⟩ =>
    obtain ⟨a0, r0, h0⟩ := dec_sl 64 dec_Peer (fun _ => rfl) (by decide) k0
    obtain ⟨a1, rfl, h1⟩ := cell_int k1
    exact ⟨⟨a0, a1⟩, (rds_slD.2 ⟨_, _, rfl, r0, (Rds.int _ Rds.nil)⟩), (okL_cons h0 (okL_int h1 okL_nil))⟩
theorem pv_Table (x : GTable) : toPVL (encTable x) = pTable x := by
  simp only [encTable, pTable, toPVL, toPV, pvs_Peer]
theorem pvs_Table (e : TypeId) (xs : List GTable) : toPV (slD e 2 encTable xs) = .sl 2 (xs.map pTable) := by rw [toPV_slD (enc := encTable) (sz := 2) (fun _ => rfl)]; simp only [pv_Table]
theorem cnt_Table (x : GTable) : cnt (encTable x) ≤ 64 + 64 * szL (encTable x) := by
  have h0 := cnt_list cnt_Peer x.fPeers
  simp [encTable, cnt, szL, slD]
  omega

set_option maxRecDepth 100000 in
set_option maxHeartbeats 4000000 in
theorem toTable_any (x : GTable) (o1 : Option Addr) (c1 : Nat) (w : World) (h : Rds w (encTable x) [.slice o1 x.fPeers.length c1, .int .i64 x.fTurn]) (hz : szL (encTable x) ≤ 1048576) :
    Calls Try.prog 16 #[.agg #[.slice o1 x.fPeers.length c1, .int .i64 x.fTurn]] w fun e w' => ∃ (p1 : Option Addr) (q1 : Nat), e = .returned (.agg #[.slice p1 x.fPeers.length q1, .int .i64 x.fTurn]) ∧ Obj w' w.heap.size w'.heap.size (encTable x) [.slice p1 x.fPeers.length q1, .int .i64 x.fTurn] ∧ Ext w w' := by
  have r0 : RL 64 4 encPeer w (.slice o1 x.fPeers.length c1) x.fPeers := h.cut 0 1
  have z0 : szL [slD 64 4 encPeer x.fPeers] ≤ 1048576 := Nat.le_trans (szL_cut (encTable x) 0 1) hz
  have Z0 := Lib.hid z0; clear z0
  clear h hz
  go_enter Try.func16, Try.ntmps16
  go_wp2_with fail
  (refine (toPeerS_any _ x.fPeers _ (r0.ext (by (repeat (first | (with_reducible exact Ext.refl _) | (with_reducible assumption) | (with_reducible refine Ext.alloc ?_ _) | (with_reducible refine Ext.drew ?_) | (with_reducible refine Ext.drewN ?_ _) | ((with_reducible apply Ext.setCell); (case hp => first | omega | (simp; done) | (simp; omega))) | (with_reducible refine Ext.trans ?_ (by assumption)))))) Z0.out).mono ?_); rintro e w1 ⟨p1, q1, rfl, O, hb⟩; (obtain ⟨B0, c0, f0, l0⟩ := Box.after (k := w.heap.size) hb (by (repeat (first | (with_reducible assumption) | ((with_reducible apply Box.new); (first | (with_reducible rfl) | (simp; done) | (simp; omega))) | (with_reducible apply Box.alloc) | (with_reducible apply Box.drew) | (with_reducible apply Box.drewN) | (with_reducible apply Box.set) | ((with_reducible apply Box.set_ne); (case hne => first | omega | (simp; done) | (simp; omega))))))); (obtain ⟨B1, c1, f1, l1⟩ := Box.after (k := w.heap.size + 1) hb (by (repeat (first | (with_reducible assumption) | ((with_reducible apply Box.new); (first | (with_reducible rfl) | (simp; done) | (simp; omega))) | (with_reducible apply Box.alloc) | (with_reducible apply Box.drew) | (with_reducible apply Box.drewN) | (with_reducible apply Box.set) | ((with_reducible apply Box.set_ne); (case hne => first | omega | (simp; done) | (simp; omega))))))); (obtain ⟨B2, c2, f2, l2⟩ := Box.after (k := w.heap.size + 2) hb (by (repeat (first | (with_reducible assumption) | ((with_reducible apply Box.new); (first | (with_reducible rfl) | (simp; done) | (simp; omega))) | (with_reducible apply Box.alloc) | (with_reducible apply Box.drew) | (with_reducible apply Box.drewN) | (with_reducible apply Box.set) | ((with_reducible apply Box.set_ne); (case hne => first | omega | (simp; done) | (simp; omega)))))))
  have hz := hb.size; simp at hz
  have A : Obj w1 (w.heap.size + 3) (w.heap.size + 3) [] [] := obj_nil
  replace A : Obj w1 (w.heap.size + 3) w1.heap.size [slD 64 4 encPeer x.fPeers] [.slice p1 x.fPeers.length q1] := Obj.more A O (by (first | omega | (simp; done) | (simp; omega))) (by (first | omega | (simp; done) | (simp; omega))) (by (first | omega | (simp; done) | (simp; omega)))
  have E1 : Ext w w1 := by (repeat (first | (with_reducible exact Ext.refl _) | (with_reducible assumption) | (with_reducible refine Ext.alloc ?_ _) | (with_reducible refine Ext.drew ?_) | (with_reducible refine Ext.drewN ?_ _) | ((with_reducible apply Ext.setCell); (case hp => first | omega | (simp; done) | (simp; omega))) | (with_reducible refine Ext.trans ?_ (by assumption))))
  clear hb O hz
  replace A : Obj w1 (w.heap.size + 3) w1.heap.size [slD 64 4 encPeer x.fPeers, .int x.fTurn] [.slice p1 x.fPeers.length q1, .int .i64 x.fTurn] := Obj.more A (.int obj_nil : Obj _ w1.heap.size w1.heap.size _ _) (Nat.le_refl _) (Nat.le_refl _) (by (first | omega | (simp; done) | (simp; omega)))
  have AS := A.read
  have HA := Lib.hid A; clear A AS
  go_wp2
  exact bodyPost_ret (v := .agg #[.slice p1 x.fPeers.length q1, .int .i64 x.fTurn]) (by simp [results, Try.results16, go_sem, c1]) rfl ⟨_, _, rfl, Obj.mono (lo := w.heap.size + 3) (hi := w1.heap.size) (show Obj _ _ _ [slD 64 4 encPeer x.fPeers, .int x.fTurn] _ from by have A := HA.out; (repeat (first | (with_reducible assumption) | (with_reducible apply Obj.alloc) | (with_reducible apply Obj.drew) | (with_reducible apply Obj.drewN) | ((with_reducible apply Obj.set); (case hk => first | omega | (simp; done) | (simp; omega) | (left; simp; omega) | (right; simp; omega))) | (with_reducible refine Obj.ext ?_ (by assumption))))) (by (first | omega | (simp; done) | (simp; omega))) (by (first | omega | (simp; done) | (simp; omega))), by (repeat (first | (with_reducible exact Ext.refl _) | (with_reducible assumption) | (with_reducible refine Ext.alloc ?_ _) | (with_reducible refine Ext.drew ?_) | (with_reducible refine Ext.drewN ?_ _) | ((with_reducible apply Ext.setCell); (case hp => first | omega | (simp; done) | (simp; omega))) | (with_reducible refine Ext.trans ?_ (by assumption))))⟩

set_option maxRecDepth 100000 in
set_option maxHeartbeats 4000000 in
theorem szTable_any (x : GTable) (o1 : Option Addr) (c1 : Nat) (left : Int) (w : World) (h : Rds w (encTable x) [.slice o1 x.fPeers.length c1, .int .i64 x.fTurn]) (hok : okL (encTable x)) (h0 : 0 ≤ left) (h1 : left ≤ 1048576) :
    Calls Try.prog 14 #[.agg #[.slice o1 x.fPeers.length c1, .int .i64 x.fTurn], .int .i64 left] w fun e w' => e = .returned (.int .i64 (szR left (szL (encTable x)))) ∧ Ext w w' := by
  have r0 : RL 64 4 encPeer w (.slice o1 x.fPeers.length c1) x.fPeers := h.cut 0 1
  have k0 : okL [slD 64 4 encPeer x.fPeers] := okL_cut (ds := encTable x) 0 1 hok
  have K0 := Lib.hid k0; clear k0
  have hT : szL (encTable x) = szL [slD 64 4 encPeer x.fPeers] := by simp [encTable, szL, slD]; try omega
  rw [hT]
  clear hT hok h
  obtain ⟨a0, ha0⟩ : ∃ a, a = szL [slD 64 4 encPeer x.fPeers] := ⟨_, rfl⟩
  rw [← ha0]
  have HA0 := Lib.hid ha0; clear ha0
  by_cases h2 : left < (a0 : Nat)
  · have R0 := Lib.hid (szR_no h2)
    go_enter Try.func14, Try.ntmps14
    go_wp2_with fail
    (refine (szPeerS_any _ x.fPeers _ _ (r0.ext (by (repeat (first | (with_reducible exact Ext.refl _) | (with_reducible assumption) | (with_reducible refine Ext.alloc ?_ _) | (with_reducible refine Ext.drew ?_) | (with_reducible refine Ext.drewN ?_ _) | ((with_reducible apply Ext.setCell); (case hp => first | omega | (simp; done) | (simp; omega))) | (with_reducible refine Ext.trans ?_ (by assumption)))))) K0.out (by omega) (by omega)).mono ?_); rw [show szL [slD 64 4 encPeer x.fPeers] = a0 from HA0.out.symm, R0.out]; rintro e w0 ⟨rfl, hb⟩; (obtain ⟨B0, c0, f0, l0⟩ := Box.after (k := w.heap.size) hb (by (repeat (first | (with_reducible assumption) | ((with_reducible apply Box.new); (first | (with_reducible rfl) | (simp; done) | (simp; omega))) | (with_reducible apply Box.alloc) | (with_reducible apply Box.drew) | (with_reducible apply Box.drewN) | (with_reducible apply Box.set) | ((with_reducible apply Box.set_ne); (case hne => first | omega | (simp; done) | (simp; omega)))))))
    have E0 : Ext w w0 := by (repeat (first | (with_reducible exact Ext.refl _) | (with_reducible assumption) | (with_reducible refine Ext.alloc ?_ _) | (with_reducible refine Ext.drew ?_) | (with_reducible refine Ext.drewN ?_ _) | ((with_reducible apply Ext.setCell); (case hp => first | omega | (simp; done) | (simp; omega))) | (with_reducible refine Ext.trans ?_ (by assumption))))
    clear hb
    go_wp2
    go_ret
    exact ⟨ret_int (szR_no (by omega)), by (repeat (first | (with_reducible exact Ext.refl _) | (with_reducible assumption) | (with_reducible refine Ext.alloc ?_ _) | (with_reducible refine Ext.drew ?_) | (with_reducible refine Ext.drewN ?_ _) | ((with_reducible apply Ext.setCell); (case hp => first | omega | (simp; done) | (simp; omega))) | (with_reducible refine Ext.trans ?_ (by assumption))))⟩
  · have R0 := Lib.hid (szR_yes h2)
    go_enter Try.func14, Try.ntmps14
    go_wp2_with fail
    (refine (szPeerS_any _ x.fPeers _ _ (r0.ext (by (repeat (first | (with_reducible exact Ext.refl _) | (with_reducible assumption) | (with_reducible refine Ext.alloc ?_ _) | (with_reducible refine Ext.drew ?_) | (with_reducible refine Ext.drewN ?_ _) | ((with_reducible apply Ext.setCell); (case hp => first | omega | (simp; done) | (simp; omega))) | (with_reducible refine Ext.trans ?_ (by assumption)))))) K0.out (by omega) (by omega)).mono ?_); rw [show szL [slD 64 4 encPeer x.fPeers] = a0 from HA0.out.symm, R0.out]; rintro e w0 ⟨rfl, hb⟩; (obtain ⟨B0, c0, f0, l0⟩ := Box.after (k := w.heap.size) hb (by (repeat (first | (with_reducible assumption) | ((with_reducible apply Box.new); (first | (with_reducible rfl) | (simp; done) | (simp; omega))) | (with_reducible apply Box.alloc) | (with_reducible apply Box.drew) | (with_reducible apply Box.drewN) | (with_reducible apply Box.set) | ((with_reducible apply Box.set_ne); (case hne => first | omega | (simp; done) | (simp; omega)))))))
    have E0 : Ext w w0 := by (repeat (first | (with_reducible exact Ext.refl _) | (with_reducible assumption) | (with_reducible refine Ext.alloc ?_ _) | (with_reducible refine Ext.drew ?_) | (with_reducible refine Ext.drewN ?_ _) | ((with_reducible apply Ext.setCell); (case hp => first | omega | (simp; done) | (simp; omega))) | (with_reducible refine Ext.trans ?_ (by assumption))))
    clear hb
    go_wp2
    go_ret
    exact ⟨ret_int ((szR_yes (by omega)).trans (by omega)), by (repeat (first | (with_reducible exact Ext.refl _) | (with_reducible assumption) | (with_reducible refine Ext.alloc ?_ _) | (with_reducible refine Ext.drew ?_) | (with_reducible refine Ext.drewN ?_ _) | ((with_reducible apply Ext.setCell); (case hp => first | omega | (simp; done) | (simp; omega))) | (with_reducible refine Ext.trans ?_ (by assumption))))⟩

set_option maxRecDepth 100000 in
set_option maxHeartbeats 4000000 in
theorem eqTable_any (x : GTable) (o1 : Option Addr) (c1 : Nat) (p1 : Option Addr) (q1 : Nat) (w : World) (h1 : Rds w (encTable x) [.slice o1 x.fPeers.length c1, .int .i64 x.fTurn]) (h2 : Rds w (encTable x) [.slice p1 x.fPeers.length q1, .int .i64 x.fTurn]) :
    Calls Try.prog 18 #[.agg #[.slice o1 x.fPeers.length c1, .int .i64 x.fTurn], .agg #[.slice p1 x.fPeers.length q1, .int .i64 x.fTurn]] w fun e w' => e = .returned (.bool true) ∧ Ext w w' := by
  have r0_0 : RL 64 4 encPeer w (.slice o1 x.fPeers.length c1) x.fPeers := h1.cut 0 1
  have r0_1 : RL 64 4 encPeer w (.slice p1 x.fPeers.length q1) x.fPeers := h2.cut 0 1
  clear h1 h2
  go_enter Try.func18, Try.ntmps18
  go_wp2_with fail
  (refine (eqPeerS_any _ _ x.fPeers _ (r0_0.ext (by (repeat (first | (with_reducible exact Ext.refl _) | (with_reducible assumption) | (with_reducible refine Ext.alloc ?_ _) | (with_reducible refine Ext.drew ?_) | (with_reducible refine Ext.drewN ?_ _) | ((with_reducible apply Ext.setCell); (case hp => first | omega | (simp; done) | (simp; omega))) | (with_reducible refine Ext.trans ?_ (by assumption)))))) (r0_1.ext (by (repeat (first | (with_reducible exact Ext.refl _) | (with_reducible assumption) | (with_reducible refine Ext.alloc ?_ _) | (with_reducible refine Ext.drew ?_) | (with_reducible refine Ext.drewN ?_ _) | ((with_reducible apply Ext.setCell); (case hp => first | omega | (simp; done) | (simp; omega))) | (with_reducible refine Ext.trans ?_ (by assumption))))))).mono ?_); rintro e w1 ⟨rfl, hb⟩; (obtain ⟨B0, c0, f0, l0⟩ := Box.after (k := w.heap.size) hb (by (repeat (first | (with_reducible assumption) | ((with_reducible apply Box.new); (first | (with_reducible rfl) | (simp; done) | (simp; omega))) | (with_reducible apply Box.alloc) | (with_reducible apply Box.drew) | (with_reducible apply Box.drewN) | (with_reducible apply Box.set) | ((with_reducible apply Box.set_ne); (case hne => first | omega | (simp; done) | (simp; omega))))))); (obtain ⟨B1, c1, f1, l1⟩ := Box.after (k := w.heap.size + 1) hb (by (repeat (first | (with_reducible assumption) | ((with_reducible apply Box.new); (first | (with_reducible rfl) | (simp; done) | (simp; omega))) | (with_reducible apply Box.alloc) | (with_reducible apply Box.drew) | (with_reducible apply Box.drewN) | (with_reducible apply Box.set) | ((with_reducible apply Box.set_ne); (case hne => first | omega | (simp; done) | (simp; omega)))))))
  have E1 : Ext w w1 := by (repeat (first | (with_reducible exact Ext.refl _) | (with_reducible assumption) | (with_reducible refine Ext.alloc ?_ _) | (with_reducible refine Ext.drew ?_) | (with_reducible refine Ext.drewN ?_ _) | ((with_reducible apply Ext.setCell); (case hp => first | omega | (simp; done) | (simp; omega))) | (with_reducible refine Ext.trans ?_ (by assumption))))
  clear hb
  go_wp2
  go_ret
  exact ⟨rfl, by (repeat (first | (with_reducible exact Ext.refl _) | (with_reducible assumption) | (with_reducible refine Ext.alloc ?_ _) | (with_reducible refine Ext.drew ?_) | (with_reducible refine Ext.drewN ?_ _) | ((with_reducible apply Ext.setCell); (case hp => first | omega | (simp; done) | (simp; omega))) | (with_reducible refine Ext.trans ?_ (by assumption))))⟩

set_option maxRecDepth 100000 in
set_option maxHeartbeats 4000000 in
theorem markTable_any (x : GTable) (o1 : Option Addr) (c1 : Nat) (k0 : Int) (F : List Nat) (w : World) (h : Ows w (encTable x) [.slice o1 x.fPeers.length c1, .int .i64 x.fTurn] F) (hn : F.Nodup) (h0 : 0 ≤ k0) (h1 : k0 + cntT (encTable x) ≤ 1099511627776) :
    Calls Try.prog 19 #[.agg #[.slice o1 x.fPeers.length c1, .int .i64 x.fTurn], .int .i64 k0] w fun e w' => e = .returned (.int .i64 (k0 + cntT (encTable x))) ∧ Ows w' (mkT (encTable x) k0) [.slice o1 x.fPeers.length c1, .int .i64 x.fTurn] F ∧ Chg F w w' := by
  have HN := Lib.hid hn
  have H1 := Lib.hid h1
  clear hn h1
  have O0 : Hid (Ows w (midT (encTable x) k0 0) [.slice o1 x.fPeers.length c1, .int .i64 x.fTurn] F) := by rw [midT_zero]; exact Lib.hid h
  have hlow : ∀ k ∈ F, k < w.heap.size := h.mem
  have HLOW := Lib.hid hlow
  clear h hlow
  have C0 : Hid (CnT (encTable x) k0 0 k0) := Lib.hid CnT.zero
  have hC : Chg F w w := Chg.refl
  go_enter Try.func19, Try.ntmps19
  obtain ⟨Fd0, n0, p0, s0, t0⟩ := O0.out.stepT (o := 0) 1 HN.out (by simp [encTable]) C0.out
  have N0 := Lib.hid n0; have P0 := Lib.hid p0; have S0 := Lib.hid s0; have T0 := Lib.hid t0; clear n0 p0 s0 t0 O0
  have D0 := Lib.hid (C0.out.step (n := 1))
  have b0 := (C0.out.bd h0 H1.out).1
  have e0 : cntT (((encTable x).drop 0).take 1) = cnt (x.fPeers.flatMap encPeer) := by simp [encTable, cntT, slD]
  rw [e0] at D0
  have q0 := (D0.out.bd h0 H1.out).2
  clear e0 C0
  go_wp2_with fail
  (refine (markPeerS_any _ x.fPeers _ Fd0 _ ((show Ows w [slD 64 4 encPeer x.fPeers] [.slice o1 x.fPeers.length c1] Fd0 from N0.out).ext (by (repeat (first | (with_reducible exact Ext.refl _) | (with_reducible assumption) | (with_reducible refine Ext.alloc ?_ _) | (with_reducible refine Ext.drew ?_) | (with_reducible refine Ext.drewN ?_ _) | ((with_reducible apply Ext.setCell); (case hp => first | omega | (simp; done) | (simp; omega))) | (with_reducible refine Ext.trans ?_ (by assumption)))))) P0.out (by omega) q0).mono ?_); rintro e u1 ⟨rfl, hN, hb⟩
  have B1 : Box u1 w.heap.size #[.slice o1 x.fPeers.length c1, .int .i64 x.fTurn] := Box.chg (by (repeat (first | (with_reducible assumption) | ((with_reducible apply Box.new); (first | (with_reducible rfl) | (simp; done) | (simp; omega))) | (with_reducible apply Box.alloc) | (with_reducible apply Box.drew) | (with_reducible apply Box.drewN) | (with_reducible apply Box.set) | ((with_reducible apply Box.set_ne); (case hne => first | omega | (simp; done) | (simp; omega)))))) hb (fun h => by have := HLOW.out _ (S0.out _ h); omega)
  obtain ⟨c1_, f1_, l1_⟩ := B1.rules
  have hM : Chg Fd0 w u1 := Chg.trans (Ext.chg (by (repeat (first | (with_reducible exact Ext.refl _) | (with_reducible assumption) | (with_reducible refine Ext.alloc ?_ _) | (with_reducible refine Ext.drew ?_) | (with_reducible refine Ext.drewN ?_ _) | ((with_reducible apply Ext.setCell); (case hp => first | omega | (simp; done) | (simp; omega))) | (with_reducible refine Ext.trans ?_ (by assumption)))))) hb
  have O0 := Lib.hid (T0.out u1 (by simpa [encTable, mkT, slD] using hN) hM)
  replace hC := hC.trans (hM.mono S0.out)
  have C0 := D0
  clear hb hN hM
  replace O0 : Hid (Ows u1 (midT (encTable x) k0 2) [.slice o1 x.fPeers.length c1, .int .i64 x.fTurn] F) := by have h := O0.out; rw [show 2 = 1 + 1 from rfl, midT_skip (ds := encTable x) (o := 1) (n := 1) rfl]; exact Lib.hid h
  replace C0 := Lib.hid (C0.out.skip (o := 1) (n := 1) rfl)
  have HE := Lib.hid (C0.out.last rfl)
  have OE := O0.out; rw [midT_end (ds := encTable x) (o := 2) rfl] at OE
  go_wp2
  go_ret
  exact ⟨ret_int HE.out.symm, OE, hC⟩

set_option maxRecDepth 100000 in
set_option maxHeartbeats 4000000 in
theorem heldTable_any (x : GTable) (o1 : Option Addr) (c1 : Nat) (k0 : Int) (w : World) (h : Rds w (mkT (encTable x) k0) [.slice o1 x.fPeers.length c1, .int .i64 x.fTurn]) (h0 : 0 ≤ k0) (h1 : k0 + cntT (encTable x) ≤ 1099511627776) :
    Calls Try.prog 20 #[.agg #[.slice o1 x.fPeers.length c1, .int .i64 x.fTurn], .int .i64 k0] w fun e w' => e = .returned (.int .i64 (k0 + cntT (encTable x))) ∧ Ext w w' := by
  have H1 := Lib.hid h1
  clear h1
  have C0 : Hid (CnT (encTable x) k0 0 k0) := Lib.hid CnT.zero
  have r0 := Rds.cutT (o := 0) 1 h (by simp [encTable]) C0.out
  replace r0 : RS w 64 4 x.fPeers.length (mk (x.fPeers.flatMap encPeer) (k0)) (.slice o1 x.fPeers.length c1) := by simpa [RS, encTable, mkT, slD] using r0
  have b0 := (C0.out.bd h0 H1.out).1
  replace C0 := Lib.hid (C0.out.step (n := 1))
  have e0 : cntT (((encTable x).drop 0).take 1) = cnt (x.fPeers.flatMap encPeer) := by simp [encTable, cntT, slD]
  rw [e0] at C0
  have q0 := (C0.out.bd h0 H1.out).2
  clear e0
  replace C0 := Lib.hid (C0.out.skip (o := 1) (n := 1) rfl)
  clear h
  have HE := Lib.hid (C0.out.last rfl); clear C0
  go_enter Try.func20, Try.ntmps20
  go_wp2_with fail
  (refine (heldPeerS_any _ x.fPeers _ _ (RS.ext r0 (by (repeat (first | (with_reducible exact Ext.refl _) | (with_reducible assumption) | (with_reducible refine Ext.alloc ?_ _) | (with_reducible refine Ext.drew ?_) | (with_reducible refine Ext.drewN ?_ _) | ((with_reducible apply Ext.setCell); (case hp => first | omega | (simp; done) | (simp; omega))) | (with_reducible refine Ext.trans ?_ (by assumption)))))) (by omega) q0).mono ?_); rintro e u0 ⟨rfl, hb⟩; (obtain ⟨B0, c0, f0, l0⟩ := Box.after (k := w.heap.size) hb (by (repeat (first | (with_reducible assumption) | ((with_reducible apply Box.new); (first | (with_reducible rfl) | (simp; done) | (simp; omega))) | (with_reducible apply Box.alloc) | (with_reducible apply Box.drew) | (with_reducible apply Box.drewN) | (with_reducible apply Box.set) | ((with_reducible apply Box.set_ne); (case hne => first | omega | (simp; done) | (simp; omega)))))))
  have E0 : Ext w u0 := by (repeat (first | (with_reducible exact Ext.refl _) | (with_reducible assumption) | (with_reducible refine Ext.alloc ?_ _) | (with_reducible refine Ext.drew ?_) | (with_reducible refine Ext.drewN ?_ _) | ((with_reducible apply Ext.setCell); (case hp => first | omega | (simp; done) | (simp; omega))) | (with_reducible refine Ext.trans ?_ (by assumption))))
  clear hb
  go_wp2
  go_ret
  exact ⟨ret_int HE.out.symm, by (repeat (first | (with_reducible exact Ext.refl _) | (with_reducible assumption) | (with_reducible refine Ext.alloc ?_ _) | (with_reducible refine Ext.drew ?_) | (with_reducible refine Ext.drewN ?_ _) | ((with_reducible apply Ext.setCell); (case hp => first | omega | (simp; done) | (simp; omega))) | (with_reducible refine Ext.trans ?_ (by assumption))))⟩
end Go.Proofs.Ytkbikihbomnghaa
