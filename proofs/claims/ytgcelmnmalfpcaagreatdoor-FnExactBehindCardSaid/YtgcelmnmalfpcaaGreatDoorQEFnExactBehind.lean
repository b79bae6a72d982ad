/- FnExactBehind: whatever the input, the call returns true and every argument reads afterwards as it read before. No condition. -/
import Derived.Test.YtgcelmnmalfpcaaGreatDoorQE7
import Derived.Test.YtgcelmnmalfpcaaGreatDoorCards
import Derived.Test.YtgcelmnmalfpcaaGreatDoorTie
import Derived.Deep.DeepHandedRow
import Derived.JoinedOf
import Derived.Handed
namespace Go.Proofs.YtgcelmnmalfpcaaGreatDoor
set_option linter.unusedSimpArgs false
set_option linter.unusedVariables false
open Go.RowKit Go.ChangeShapes Go.WideShapes
set_option maxRecDepth 100000 in
set_option maxHeartbeats 4000000 in
theorem fnExactBehind_any (x0 : GLight) (x1 : (List GBlock)) (o1 o2 o3 o4 : Option Addr) (c1 c2 c3 c4 : Nat) (w : World) (h0 : Rds w (encLight x0) [.int .i64 x0.fTrust.fPeriod, .int .i64 x0.fTrust.fSlack, .int .i64 x0.fState, .int .i64 x0.fAnchor.fHead.fHeight, .int .i64 x0.fAnchor.fHead.fTime, .string x0.fAnchor.fHead.fLast, .string x0.fAnchor.fHead.fVals, .string x0.fAnchor.fHead.fNext, .string x0.fAnchor.fHead.fData, .slice o1 x0.fAnchor.fNext.length c1, .slice o2 x0.fStore.fHeads.length c2, .int .i64 x0.fStore.fSynced, .slice o3 x0.fPeers.fPeers.length c3, .int .i64 x0.fPeers.fTurn, .int .i64 x0.fNow]) (k0 : okL (encLight x0)) (h1 : RL 70 12 encBlock w (.slice o4 x1.length c4) x1) (k1 : okL ([slD 70 12 encBlock x1])) (hG : GlobW w) :
    Calls Tryz.prog 8 #[.agg #[.int .i64 x0.fTrust.fPeriod, .int .i64 x0.fTrust.fSlack, .int .i64 x0.fState, .int .i64 x0.fAnchor.fHead.fHeight, .int .i64 x0.fAnchor.fHead.fTime, .string x0.fAnchor.fHead.fLast, .string x0.fAnchor.fHead.fVals, .string x0.fAnchor.fHead.fNext, .string x0.fAnchor.fHead.fData, .slice o1 x0.fAnchor.fNext.length c1, .slice o2 x0.fStore.fHeads.length c2, .int .i64 x0.fStore.fSynced, .slice o3 x0.fPeers.fPeers.length c3, .int .i64 x0.fPeers.fTurn, .int .i64 x0.fNow], .slice o4 x1.length c4] w fun e w' => e = .returned (.bool true) ∧ Ext w w' := by
  have K0 := Lib.hid k0; clear k0
  have K1 := Lib.hid k1; clear k1
  obtain ⟨a0, ha0⟩ : ∃ a, a = szL (encLight x0) := ⟨_, rfl⟩
  have HA0 := Lib.hid ha0; clear ha0
  obtain ⟨a1, ha1⟩ : ∃ a, a = szL ([slD 70 12 encBlock x1]) := ⟨_, rfl⟩
  have HA1 := Lib.hid ha1; clear ha1
  by_cases g0 : (1048576 : Int) < (a0 : Nat)
  · have R0 := Lib.hid (szR_no g0)
    go_enter Tryz.func8, Tryz.ntmps8
    go_wp2_with fail
    (refine (szLight_any x0 _ _ _ _ _ _ _ _ (h0.extA) K0.out (by omega) (by omega)).mono ?_); rw [show szL (encLight x0) = a0 from HA0.out.symm, R0.out]; rintro e w1 ⟨rfl, hb⟩; (obtain ⟨BXa0, cXa0, fXa0, lXa0⟩ := Box.afterA (k := w.heap.size) hb)
    have s1 := hb.size; (try simp at s1)
    have E1 : Ext w w1 := by (repeat (first | (with_reducible exact Ext.refl _) | (with_reducible assumption) | (with_reducible refine Ext.alloc ?_ _) | (with_reducible refine Ext.drew ?_) | (with_reducible refine Ext.drewN ?_ _) | ((with_reducible apply Ext.setCell); (case hp => first | omega | (simp; done) | (simp; omega))) | (with_reducible refine Ext.trans ?_ (by assumption))))
    clear hb
    go_wp2
    go_ret
    exact ⟨rfl, by (repeat (first | (with_reducible exact Ext.refl _) | (with_reducible assumption) | (with_reducible refine Ext.alloc ?_ _) | (with_reducible refine Ext.drew ?_) | (with_reducible refine Ext.drewN ?_ _) | ((with_reducible apply Ext.setCell); (case hp => first | omega | (simp; done) | (simp; omega))) | (with_reducible refine Ext.trans ?_ (by assumption))))⟩
  · have R0 := Lib.hid (szR_yes g0)
    by_cases g1 : (1048576 - a0 : Int) < (a1 : Nat)
    · have R1 := Lib.hid (szR_no g1)
      go_enter Tryz.func8, Tryz.ntmps8
      go_wp2_with fail
      (refine (szLight_any x0 _ _ _ _ _ _ _ _ (h0.extA) K0.out (by omega) (by omega)).mono ?_); rw [show szL (encLight x0) = a0 from HA0.out.symm, R0.out]; rintro e w1 ⟨rfl, hb⟩; (obtain ⟨BXa0, cXa0, fXa0, lXa0⟩ := Box.afterA (k := w.heap.size) hb)
      have s1 := hb.size; (try simp at s1)
      have E1 : Ext w w1 := by (repeat (first | (with_reducible exact Ext.refl _) | (with_reducible assumption) | (with_reducible refine Ext.alloc ?_ _) | (with_reducible refine Ext.drew ?_) | (with_reducible refine Ext.drewN ?_ _) | ((with_reducible apply Ext.setCell); (case hp => first | omega | (simp; done) | (simp; omega))) | (with_reducible refine Ext.trans ?_ (by assumption))))
      clear hb
      go_wp2_with fail
      (refine (szBlockS_any _ x1 _ _ (RS.extA h1) K1.out (by omega) (by omega)).mono ?_); rw [show szL ([slD 70 12 encBlock x1]) = a1 from HA1.out.symm, R1.out]; rintro e w2 ⟨rfl, hb⟩; (obtain ⟨BXa0, cXa0, fXa0, lXa0⟩ := Box.afterA (k := w.heap.size) hb)
      have s2 := hb.size; (try simp at s2)
      have E2 : Ext w w2 := by (repeat (first | (with_reducible exact Ext.refl _) | (with_reducible assumption) | (with_reducible refine Ext.alloc ?_ _) | (with_reducible refine Ext.drew ?_) | (with_reducible refine Ext.drewN ?_ _) | ((with_reducible apply Ext.setCell); (case hp => first | omega | (simp; done) | (simp; omega))) | (with_reducible refine Ext.trans ?_ (by assumption))))
      clear hb E1
      go_wp2
      go_ret
      exact ⟨rfl, by (repeat (first | (with_reducible exact Ext.refl _) | (with_reducible assumption) | (with_reducible refine Ext.alloc ?_ _) | (with_reducible refine Ext.drew ?_) | (with_reducible refine Ext.drewN ?_ _) | ((with_reducible apply Ext.setCell); (case hp => first | omega | (simp; done) | (simp; omega))) | (with_reducible refine Ext.trans ?_ (by assumption))))⟩
    · have R1 := Lib.hid (szR_yes g1)
      have Z0 : Hid (szL (encLight x0) ≤ 1048576) := Lib.hid (by have := HA0.out; omega)
      have N0 : cntT (encLight x0) ≤ 1000000000 := by have h1 := cntT_le (encLight x0); have h2 := cnt_Light x0; have h3 := Z0.out; omega
      have Z1 : Hid (szL ([slD 70 12 encBlock x1]) ≤ 1048576) := Lib.hid (by have := HA1.out; omega)
      have N1 : cnt (x1.flatMap encBlock) ≤ 1000000000 := by have h2 := cnt_list cnt_Block x1; have h3 := Z1.out; simp only [slD, szL] at h3; omega
      obtain ⟨r0, hr0⟩ : ∃ r, r = (mBehind x0 x1) := ⟨_, rfl⟩
      have HR0 := Lib.hid hr0
      clear hr0
      go_enter Tryz.func8, Tryz.ntmps8
      go_wp2_with fail
      (refine (szLight_any x0 _ _ _ _ _ _ _ _ (h0.extA) K0.out (by omega) (by omega)).mono ?_); rw [show szL (encLight x0) = a0 from HA0.out.symm, R0.out]; rintro e w1 ⟨rfl, hb⟩; (obtain ⟨BXa0, cXa0, fXa0, lXa0⟩ := Box.afterA (k := w.heap.size) hb)
      have s1 := hb.size; (try simp at s1)
      have E1 : Ext w w1 := by (repeat (first | (with_reducible exact Ext.refl _) | (with_reducible assumption) | (with_reducible refine Ext.alloc ?_ _) | (with_reducible refine Ext.drew ?_) | (with_reducible refine Ext.drewN ?_ _) | ((with_reducible apply Ext.setCell); (case hp => first | omega | (simp; done) | (simp; omega))) | (with_reducible refine Ext.trans ?_ (by assumption))))
      clear hb
      go_wp2_with fail
      (refine (szBlockS_any _ x1 _ _ (RS.extA h1) K1.out (by omega) (by omega)).mono ?_); rw [show szL ([slD 70 12 encBlock x1]) = a1 from HA1.out.symm, R1.out]; rintro e w2 ⟨rfl, hb⟩; (obtain ⟨BXa0, cXa0, fXa0, lXa0⟩ := Box.afterA (k := w.heap.size) hb)
      have s2 := hb.size; (try simp at s2)
      have E2 : Ext w w2 := by (repeat (first | (with_reducible exact Ext.refl _) | (with_reducible assumption) | (with_reducible refine Ext.alloc ?_ _) | (with_reducible refine Ext.drew ?_) | (with_reducible refine Ext.drewN ?_ _) | ((with_reducible apply Ext.setCell); (case hp => first | omega | (simp; done) | (simp; omega))) | (with_reducible refine Ext.trans ?_ (by assumption))))
      clear hb E1
      go_wp2_with fail
      (refine (toLight_any x0 _ _ _ _ _ _ _ (h0.extA) Z0.out).mono ?_); rintro e w3 ⟨pw0_1, pw0_2, pw0_3, qw0_1, qw0_2, qw0_3, rfl, O, hb⟩; (obtain ⟨BXa0, cXa0, fXa0, lXa0⟩ := Box.afterA (k := w.heap.size) hb)
      have s3 := hb.size; (try simp at s3)
      have E3 : Ext w w3 := by (repeat (first | (with_reducible exact Ext.refl _) | (with_reducible assumption) | (with_reducible refine Ext.alloc ?_ _) | (with_reducible refine Ext.drew ?_) | (with_reducible refine Ext.drewN ?_ _) | ((with_reducible apply Ext.setCell); (case hp => first | omega | (simp; done) | (simp; omega))) | (with_reducible refine Ext.trans ?_ (by assumption))))
      have O_tw0 : Obj w3 w2.heap.size w3.heap.size (encLight x0) [.int .i64 x0.fTrust.fPeriod, .int .i64 x0.fTrust.fSlack, .int .i64 x0.fState, .int .i64 x0.fAnchor.fHead.fHeight, .int .i64 x0.fAnchor.fHead.fTime, .string x0.fAnchor.fHead.fLast, .string x0.fAnchor.fHead.fVals, .string x0.fAnchor.fHead.fNext, .string x0.fAnchor.fHead.fData, .slice pw0_1 x0.fAnchor.fNext.length qw0_1, .slice pw0_2 x0.fStore.fHeads.length qw0_2, .int .i64 x0.fStore.fSynced, .slice pw0_3 x0.fPeers.fPeers.length qw0_3, .int .i64 x0.fPeers.fTurn, .int .i64 x0.fNow] := Obj.mono O (by (first | omega | (simp; done) | (simp; omega))) (Nat.le_refl _)
      clear O
      clear hb E2
      go_wp2_with fail
      (refine (toBlockS_any _ x1 _ (RS.extA h1) Z1.out).mono ?_); rintro e w4 ⟨pw1_4, qw1_4, rfl, O, hb⟩; (obtain ⟨BXa0, cXa0, fXa0, lXa0⟩ := Box.afterA (k := w.heap.size) hb)
      have s4 := hb.size; (try simp at s4)
      replace O_tw0 : Obj w4 w2.heap.size w3.heap.size (encLight x0) [.int .i64 x0.fTrust.fPeriod, .int .i64 x0.fTrust.fSlack, .int .i64 x0.fState, .int .i64 x0.fAnchor.fHead.fHeight, .int .i64 x0.fAnchor.fHead.fTime, .string x0.fAnchor.fHead.fLast, .string x0.fAnchor.fHead.fVals, .string x0.fAnchor.fHead.fNext, .string x0.fAnchor.fHead.fData, .slice pw0_1 x0.fAnchor.fNext.length qw0_1, .slice pw0_2 x0.fStore.fHeads.length qw0_2, .int .i64 x0.fStore.fSynced, .slice pw0_3 x0.fPeers.fPeers.length qw0_3, .int .i64 x0.fPeers.fTurn, .int .i64 x0.fNow] := by (repeat (first | (with_reducible assumption) | (with_reducible apply Obj.alloc) | (with_reducible apply Obj.drew) | (with_reducible apply Obj.drewN) | ((with_reducible apply Obj.set); (case hk => first | omega | (simp; done) | (simp; omega) | (left; simp; omega) | (right; simp; omega))) | (with_reducible refine Obj.ext ?_ (by assumption))))
      have E4 : Ext w w4 := by (repeat (first | (with_reducible exact Ext.refl _) | (with_reducible assumption) | (with_reducible refine Ext.alloc ?_ _) | (with_reducible refine Ext.drew ?_) | (with_reducible refine Ext.drewN ?_ _) | ((with_reducible apply Ext.setCell); (case hp => first | omega | (simp; done) | (simp; omega))) | (with_reducible refine Ext.trans ?_ (by assumption))))
      have O_tw1 : Obj w4 w3.heap.size w4.heap.size ([slD 70 12 encBlock x1]) [.slice pw1_4 x1.length qw1_4] := Obj.mono O (by (first | omega | (simp; done) | (simp; omega))) (Nat.le_refl _)
      clear O
      clear hb E3
      go_wp2_with fail
      (refine (sBehind_any x0 x1 _ _ _ _ _ _ _ _ _ ((show Rds w4 (encLight x0) [.int .i64 x0.fTrust.fPeriod, .int .i64 x0.fTrust.fSlack, .int .i64 x0.fState, .int .i64 x0.fAnchor.fHead.fHeight, .int .i64 x0.fAnchor.fHead.fTime, .string x0.fAnchor.fHead.fLast, .string x0.fAnchor.fHead.fVals, .string x0.fAnchor.fHead.fNext, .string x0.fAnchor.fHead.fData, .slice pw0_1 x0.fAnchor.fNext.length qw0_1, .slice pw0_2 x0.fStore.fHeads.length qw0_2, .int .i64 x0.fStore.fSynced, .slice pw0_3 x0.fPeers.fPeers.length qw0_3, .int .i64 x0.fPeers.fTurn, .int .i64 x0.fNow] from O_tw0.read).extA) Z0.out K0.out ((show Rds w4 ([slD 70 12 encBlock x1]) [.slice pw1_4 x1.length qw1_4] from O_tw1.read).extA) Z1.out K1.out (hG.extA)).mono ?_); rw [show (mBehind x0 x1) = r0 from HR0.out.symm]; rintro e w5 ⟨rfl, hb⟩; (obtain ⟨BXa0, cXa0, fXa0, lXa0⟩ := Box.afterA (k := w.heap.size) hb)
      have s5 := hb.size; (try simp at s5)
      replace O_tw0 : Obj w5 w2.heap.size w3.heap.size (encLight x0) [.int .i64 x0.fTrust.fPeriod, .int .i64 x0.fTrust.fSlack, .int .i64 x0.fState, .int .i64 x0.fAnchor.fHead.fHeight, .int .i64 x0.fAnchor.fHead.fTime, .string x0.fAnchor.fHead.fLast, .string x0.fAnchor.fHead.fVals, .string x0.fAnchor.fHead.fNext, .string x0.fAnchor.fHead.fData, .slice pw0_1 x0.fAnchor.fNext.length qw0_1, .slice pw0_2 x0.fStore.fHeads.length qw0_2, .int .i64 x0.fStore.fSynced, .slice pw0_3 x0.fPeers.fPeers.length qw0_3, .int .i64 x0.fPeers.fTurn, .int .i64 x0.fNow] := by (repeat (first | (with_reducible assumption) | (with_reducible apply Obj.alloc) | (with_reducible apply Obj.drew) | (with_reducible apply Obj.drewN) | ((with_reducible apply Obj.set); (case hk => first | omega | (simp; done) | (simp; omega) | (left; simp; omega) | (right; simp; omega))) | (with_reducible refine Obj.ext ?_ (by assumption))))
      replace O_tw1 : Obj w5 w3.heap.size w4.heap.size ([slD 70 12 encBlock x1]) [.slice pw1_4 x1.length qw1_4] := by (repeat (first | (with_reducible assumption) | (with_reducible apply Obj.alloc) | (with_reducible apply Obj.drew) | (with_reducible apply Obj.drewN) | ((with_reducible apply Obj.set); (case hk => first | omega | (simp; done) | (simp; omega) | (left; simp; omega) | (right; simp; omega))) | (with_reducible refine Obj.ext ?_ (by assumption))))
      have E5 : Ext w w5 := by (repeat (first | (with_reducible exact Ext.refl _) | (with_reducible assumption) | (with_reducible refine Ext.alloc ?_ _) | (with_reducible refine Ext.drew ?_) | (with_reducible refine Ext.drewN ?_ _) | ((with_reducible apply Ext.setCell); (case hp => first | omega | (simp; done) | (simp; omega))) | (with_reducible refine Ext.trans ?_ (by assumption))))
      clear hb E4
      clear O_tw0
      clear O_tw1
      as_aux_lemma =>
       go_wp2_with fail
       (refine (toLight_any x0 _ _ _ _ _ _ _ (h0.extA) Z0.out).mono ?_); rintro e w6 ⟨px0_1, px0_2, px0_3, qx0_1, qx0_2, qx0_3, rfl, O, hb⟩; (obtain ⟨BXa0, cXa0, fXa0, lXa0⟩ := Box.afterA (k := w.heap.size) hb)
       have s6 := hb.size; (try simp at s6)
       have E6 : Ext w w6 := by (repeat (first | (with_reducible exact Ext.refl _) | (with_reducible assumption) | (with_reducible refine Ext.alloc ?_ _) | (with_reducible refine Ext.drew ?_) | (with_reducible refine Ext.drewN ?_ _) | ((with_reducible apply Ext.setCell); (case hp => first | omega | (simp; done) | (simp; omega))) | (with_reducible refine Ext.trans ?_ (by assumption))))
       have O_x0 : Obj w6 w5.heap.size w6.heap.size (encLight x0) [.int .i64 x0.fTrust.fPeriod, .int .i64 x0.fTrust.fSlack, .int .i64 x0.fState, .int .i64 x0.fAnchor.fHead.fHeight, .int .i64 x0.fAnchor.fHead.fTime, .string x0.fAnchor.fHead.fLast, .string x0.fAnchor.fHead.fVals, .string x0.fAnchor.fHead.fNext, .string x0.fAnchor.fHead.fData, .slice px0_1 x0.fAnchor.fNext.length qx0_1, .slice px0_2 x0.fStore.fHeads.length qx0_2, .int .i64 x0.fStore.fSynced, .slice px0_3 x0.fPeers.fPeers.length qx0_3, .int .i64 x0.fPeers.fTurn, .int .i64 x0.fNow] := Obj.mono O (by (first | omega | (simp; done) | (simp; omega))) (Nat.le_refl _)
       clear O
       clear hb E5
       as_aux_lemma =>
        go_wp2_with fail
        (refine (toBlockS_any _ x1 _ (RS.extA h1) Z1.out).mono ?_); rintro e w7 ⟨px1_4, qx1_4, rfl, O, hb⟩; (obtain ⟨BXa0, cXa0, fXa0, lXa0⟩ := Box.afterA (k := w.heap.size) hb); (obtain ⟨BXx0, cXx0, fXx0, lXx0⟩ := Box.afterA (k := w6.heap.size) hb)
        have s7 := hb.size; (try simp at s7)
        replace O_x0 : Obj w7 w5.heap.size w6.heap.size (encLight x0) [.int .i64 x0.fTrust.fPeriod, .int .i64 x0.fTrust.fSlack, .int .i64 x0.fState, .int .i64 x0.fAnchor.fHead.fHeight, .int .i64 x0.fAnchor.fHead.fTime, .string x0.fAnchor.fHead.fLast, .string x0.fAnchor.fHead.fVals, .string x0.fAnchor.fHead.fNext, .string x0.fAnchor.fHead.fData, .slice px0_1 x0.fAnchor.fNext.length qx0_1, .slice px0_2 x0.fStore.fHeads.length qx0_2, .int .i64 x0.fStore.fSynced, .slice px0_3 x0.fPeers.fPeers.length qx0_3, .int .i64 x0.fPeers.fTurn, .int .i64 x0.fNow] := by (repeat (first | (with_reducible assumption) | (with_reducible apply Obj.alloc) | (with_reducible apply Obj.drew) | (with_reducible apply Obj.drewN) | ((with_reducible apply Obj.set); (case hk => first | omega | (simp; done) | (simp; omega) | (left; simp; omega) | (right; simp; omega))) | (with_reducible refine Obj.ext ?_ (by assumption))))
        have E7 : Ext w w7 := by (repeat (first | (with_reducible exact Ext.refl _) | (with_reducible assumption) | (with_reducible refine Ext.alloc ?_ _) | (with_reducible refine Ext.drew ?_) | (with_reducible refine Ext.drewN ?_ _) | ((with_reducible apply Ext.setCell); (case hp => first | omega | (simp; done) | (simp; omega))) | (with_reducible refine Ext.trans ?_ (by assumption))))
        have O_x1 : Obj w7 (w6.heap.size + 1) w7.heap.size ([slD 70 12 encBlock x1]) [.slice px1_4 x1.length qx1_4] := Obj.mono O (by (first | omega | (simp; done) | (simp; omega))) (Nat.le_refl _)
        clear O
        clear hb E6
        as_aux_lemma =>
         go_wp2_with fail
         (refine (iBehind_any x0 x1 _ _ _ _ _ _ _ _ _ ((show Rds w7 (encLight x0) [.int .i64 x0.fTrust.fPeriod, .int .i64 x0.fTrust.fSlack, .int .i64 x0.fState, .int .i64 x0.fAnchor.fHead.fHeight, .int .i64 x0.fAnchor.fHead.fTime, .string x0.fAnchor.fHead.fLast, .string x0.fAnchor.fHead.fVals, .string x0.fAnchor.fHead.fNext, .string x0.fAnchor.fHead.fData, .slice px0_1 x0.fAnchor.fNext.length qx0_1, .slice px0_2 x0.fStore.fHeads.length qx0_2, .int .i64 x0.fStore.fSynced, .slice px0_3 x0.fPeers.fPeers.length qx0_3, .int .i64 x0.fPeers.fTurn, .int .i64 x0.fNow] from O_x0.read).extA) Z0.out K0.out ((show Rds w7 ([slD 70 12 encBlock x1]) [.slice px1_4 x1.length qx1_4] from O_x1.read).extA) Z1.out K1.out (hG.extA)).mono ?_); rw [show (mBehind x0 x1) = r0 from HR0.out.symm]; rintro e w8 ⟨rfl, hb⟩; (obtain ⟨BXa0, cXa0, fXa0, lXa0⟩ := Box.afterA (k := w.heap.size) hb); (obtain ⟨BXx0, cXx0, fXx0, lXx0⟩ := Box.afterA (k := w6.heap.size) hb)
         have s8 := hb.size; (try simp at s8)
         replace O_x0 : Obj w8 w5.heap.size w6.heap.size (encLight x0) [.int .i64 x0.fTrust.fPeriod, .int .i64 x0.fTrust.fSlack, .int .i64 x0.fState, .int .i64 x0.fAnchor.fHead.fHeight, .int .i64 x0.fAnchor.fHead.fTime, .string x0.fAnchor.fHead.fLast, .string x0.fAnchor.fHead.fVals, .string x0.fAnchor.fHead.fNext, .string x0.fAnchor.fHead.fData, .slice px0_1 x0.fAnchor.fNext.length qx0_1, .slice px0_2 x0.fStore.fHeads.length qx0_2, .int .i64 x0.fStore.fSynced, .slice px0_3 x0.fPeers.fPeers.length qx0_3, .int .i64 x0.fPeers.fTurn, .int .i64 x0.fNow] := by (repeat (first | (with_reducible assumption) | (with_reducible apply Obj.alloc) | (with_reducible apply Obj.drew) | (with_reducible apply Obj.drewN) | ((with_reducible apply Obj.set); (case hk => first | omega | (simp; done) | (simp; omega) | (left; simp; omega) | (right; simp; omega))) | (with_reducible refine Obj.ext ?_ (by assumption))))
         replace O_x1 : Obj w8 (w6.heap.size + 1) w7.heap.size ([slD 70 12 encBlock x1]) [.slice px1_4 x1.length qx1_4] := by (repeat (first | (with_reducible assumption) | (with_reducible apply Obj.alloc) | (with_reducible apply Obj.drew) | (with_reducible apply Obj.drewN) | ((with_reducible apply Obj.set); (case hk => first | omega | (simp; done) | (simp; omega) | (left; simp; omega) | (right; simp; omega))) | (with_reducible refine Obj.ext ?_ (by assumption))))
         have E8 : Ext w w8 := by (repeat (first | (with_reducible exact Ext.refl _) | (with_reducible assumption) | (with_reducible refine Ext.alloc ?_ _) | (with_reducible refine Ext.drew ?_) | (with_reducible refine Ext.drewN ?_ _) | ((with_reducible apply Ext.setCell); (case hp => first | omega | (simp; done) | (simp; omega))) | (with_reducible refine Ext.trans ?_ (by assumption))))
         clear hb E7
         as_aux_lemma =>
          as_aux_lemma =>
           have S_x0 := Lib.hid (Obj.read O_x0)
           have F_x0 := Lib.hid E8
           go_wp2_with fail
           go_region_held3 (fun w' => w'.cell? ⟨w.heap.size, 0, none⟩ = some (.int .i64 x0.fTrust.fPeriod) ∧ w'.cell? ⟨w.heap.size, 1, none⟩ = some (.int .i64 x0.fTrust.fSlack) ∧ w'.cell? ⟨w.heap.size, 2, none⟩ = some (.int .i64 x0.fState) ∧ w'.cell? ⟨w.heap.size, 3, none⟩ = some (.int .i64 x0.fAnchor.fHead.fHeight) ∧ w'.cell? ⟨w.heap.size, 4, none⟩ = some (.int .i64 x0.fAnchor.fHead.fTime) ∧ w'.cell? ⟨w.heap.size, 5, none⟩ = some (.string x0.fAnchor.fHead.fLast) ∧ w'.cell? ⟨w.heap.size, 6, none⟩ = some (.string x0.fAnchor.fHead.fVals) ∧ w'.cell? ⟨w.heap.size, 7, none⟩ = some (.string x0.fAnchor.fHead.fNext) ∧ w'.cell? ⟨w.heap.size, 8, none⟩ = some (.string x0.fAnchor.fHead.fData) ∧ w'.cell? ⟨w.heap.size, 9, none⟩ = some (.slice o1 x0.fAnchor.fNext.length c1) ∧ w'.cell? ⟨w.heap.size, 10, none⟩ = some (.slice o2 x0.fStore.fHeads.length c2) ∧ w'.cell? ⟨w.heap.size, 11, none⟩ = some (.int .i64 x0.fStore.fSynced) ∧ w'.cell? ⟨w.heap.size, 12, none⟩ = some (.slice o3 x0.fPeers.fPeers.length c3) ∧ w'.cell? ⟨w.heap.size, 13, none⟩ = some (.int .i64 x0.fPeers.fTurn) ∧ w'.cell? ⟨w.heap.size, 14, none⟩ = some (.int .i64 x0.fNow) ∧ w'.cell? ⟨w6.heap.size, 0, none⟩ = some (.int .i64 x0.fTrust.fPeriod) ∧ w'.cell? ⟨w6.heap.size, 1, none⟩ = some (.int .i64 x0.fTrust.fSlack) ∧ w'.cell? ⟨w6.heap.size, 2, none⟩ = some (.int .i64 x0.fState) ∧ w'.cell? ⟨w6.heap.size, 3, none⟩ = some (.int .i64 x0.fAnchor.fHead.fHeight) ∧ w'.cell? ⟨w6.heap.size, 4, none⟩ = some (.int .i64 x0.fAnchor.fHead.fTime) ∧ w'.cell? ⟨w6.heap.size, 5, none⟩ = some (.string x0.fAnchor.fHead.fLast) ∧ w'.cell? ⟨w6.heap.size, 6, none⟩ = some (.string x0.fAnchor.fHead.fVals) ∧ w'.cell? ⟨w6.heap.size, 7, none⟩ = some (.string x0.fAnchor.fHead.fNext) ∧ w'.cell? ⟨w6.heap.size, 8, none⟩ = some (.string x0.fAnchor.fHead.fData) ∧ w'.cell? ⟨w6.heap.size, 9, none⟩ = some (.slice px0_1 x0.fAnchor.fNext.length qx0_1) ∧ w'.cell? ⟨w6.heap.size, 10, none⟩ = some (.slice px0_2 x0.fStore.fHeads.length qx0_2) ∧ w'.cell? ⟨w6.heap.size, 11, none⟩ = some (.int .i64 x0.fStore.fSynced) ∧ w'.cell? ⟨w6.heap.size, 12, none⟩ = some (.slice px0_3 x0.fPeers.fPeers.length qx0_3) ∧ w'.cell? ⟨w6.heap.size, 13, none⟩ = some (.int .i64 x0.fPeers.fTurn) ∧ w'.cell? ⟨w6.heap.size, 14, none⟩ = some (.int .i64 x0.fNow)) ((first | go_keep | ((try dsimp only); (try go_split_ands); (repeat' apply And.intro) <;> exact hb.cellSome (by assumption))))
             (first | (go_at_call 14; refine (toLight_any x0 _ _ _ _ _ _ _ (h0.extA) Z0.out).mono ?_; rintro e w9 ⟨pt_1, pt_2, pt_3, qt_1, qt_2, qt_3, rfl, O, hb⟩) | (go_at_call 16; refine (eqLight_any x0 _ _ _ _ _ _ _ _ _ _ _ _ _ (S_x0.out.extA) (O.read.extA)).mono ?_; rintro e w10 ⟨rfl, hb⟩))
           all_goals
             have hbb : Ext w8 w10 := by (repeat (first | (with_reducible exact Ext.refl _) | (with_reducible assumption) | (with_reducible refine Ext.alloc ?_ _) | (with_reducible refine Ext.drew ?_) | (with_reducible refine Ext.drewN ?_ _) | ((with_reducible apply Ext.setCell); (case hp => first | omega | (simp; done) | (simp; omega))) | (with_reducible refine Ext.trans ?_ (by assumption))))
             have E10 : Ext w w10 := Ext.trans F_x0.out hbb
             clear hb O; have hb := hbb; clear hbb E8
             (obtain ⟨BXa0, cXa0, fXa0, lXa0⟩ := Box.afterA (k := w.heap.size) hb)
             (obtain ⟨BXx0, cXx0, fXx0, lXx0⟩ := Box.afterA (k := w6.heap.size) hb)
             have s10 := hb.size
             replace O_x0 : Obj w10 w5.heap.size w6.heap.size (encLight x0) [.int .i64 x0.fTrust.fPeriod, .int .i64 x0.fTrust.fSlack, .int .i64 x0.fState, .int .i64 x0.fAnchor.fHead.fHeight, .int .i64 x0.fAnchor.fHead.fTime, .string x0.fAnchor.fHead.fLast, .string x0.fAnchor.fHead.fVals, .string x0.fAnchor.fHead.fNext, .string x0.fAnchor.fHead.fData, .slice px0_1 x0.fAnchor.fNext.length qx0_1, .slice px0_2 x0.fStore.fHeads.length qx0_2, .int .i64 x0.fStore.fSynced, .slice px0_3 x0.fPeers.fPeers.length qx0_3, .int .i64 x0.fPeers.fTurn, .int .i64 x0.fNow] := by (repeat (first | (with_reducible assumption) | (with_reducible apply Obj.alloc) | (with_reducible apply Obj.drew) | (with_reducible apply Obj.drewN) | ((with_reducible apply Obj.set); (case hk => first | omega | (simp; done) | (simp; omega) | (left; simp; omega) | (right; simp; omega))) | (with_reducible refine Obj.ext ?_ (by assumption))))
             replace O_x1 : Obj w10 (w6.heap.size + 1) w7.heap.size ([slD 70 12 encBlock x1]) [.slice px1_4 x1.length qx1_4] := by (repeat (first | (with_reducible assumption) | (with_reducible apply Obj.alloc) | (with_reducible apply Obj.drew) | (with_reducible apply Obj.drewN) | ((with_reducible apply Obj.set); (case hk => first | omega | (simp; done) | (simp; omega) | (left; simp; omega) | (right; simp; omega))) | (with_reducible refine Obj.ext ?_ (by assumption))))
             clear hb S_x0 F_x0
             as_aux_lemma =>
              go_wp2_with fail
              (refine (toBlockS_any _ x1 _ (RS.extA h1) Z1.out).mono ?_); rintro e w11 ⟨pt_4, qt_4, rfl, O, hb⟩; (obtain ⟨BXa0, cXa0, fXa0, lXa0⟩ := Box.afterA (k := w.heap.size) hb); (obtain ⟨BXx0, cXx0, fXx0, lXx0⟩ := Box.afterA (k := w6.heap.size) hb)
              have s11 := hb.size; (try simp at s11)
              replace O_x0 : Obj w11 w5.heap.size w6.heap.size (encLight x0) [.int .i64 x0.fTrust.fPeriod, .int .i64 x0.fTrust.fSlack, .int .i64 x0.fState, .int .i64 x0.fAnchor.fHead.fHeight, .int .i64 x0.fAnchor.fHead.fTime, .string x0.fAnchor.fHead.fLast, .string x0.fAnchor.fHead.fVals, .string x0.fAnchor.fHead.fNext, .string x0.fAnchor.fHead.fData, .slice px0_1 x0.fAnchor.fNext.length qx0_1, .slice px0_2 x0.fStore.fHeads.length qx0_2, .int .i64 x0.fStore.fSynced, .slice px0_3 x0.fPeers.fPeers.length qx0_3, .int .i64 x0.fPeers.fTurn, .int .i64 x0.fNow] := by (repeat (first | (with_reducible assumption) | (with_reducible apply Obj.alloc) | (with_reducible apply Obj.drew) | (with_reducible apply Obj.drewN) | ((with_reducible apply Obj.set); (case hk => first | omega | (simp; done) | (simp; omega) | (left; simp; omega) | (right; simp; omega))) | (with_reducible refine Obj.ext ?_ (by assumption))))
              replace O_x1 : Obj w11 (w6.heap.size + 1) w7.heap.size ([slD 70 12 encBlock x1]) [.slice px1_4 x1.length qx1_4] := by (repeat (first | (with_reducible assumption) | (with_reducible apply Obj.alloc) | (with_reducible apply Obj.drew) | (with_reducible apply Obj.drewN) | ((with_reducible apply Obj.set); (case hk => first | omega | (simp; done) | (simp; omega) | (left; simp; omega) | (right; simp; omega))) | (with_reducible refine Obj.ext ?_ (by assumption))))
              have E11 : Ext w w11 := by (repeat (first | (with_reducible exact Ext.refl _) | (with_reducible assumption) | (with_reducible refine Ext.alloc ?_ _) | (with_reducible refine Ext.drew ?_) | (with_reducible refine Ext.drewN ?_ _) | ((with_reducible apply Ext.setCell); (case hp => first | omega | (simp; done) | (simp; omega))) | (with_reducible refine Ext.trans ?_ (by assumption))))
              have O_t : Obj w11 w10.heap.size w11.heap.size ([slD 70 12 encBlock x1]) [.slice pt_4 x1.length qt_4] := Obj.mono O (by (first | omega | (simp; done) | (simp; omega))) (Nat.le_refl _)
              clear O
              clear hb E10
              go_wp2_with fail
              (refine (eqBlockS_any _ _ x1 _ (Rds.extA (Obj.read O_x1)) (Rds.extA (Obj.read O_t))).mono ?_); rintro e w12 ⟨rfl, hb⟩; (obtain ⟨BXa0, cXa0, fXa0, lXa0⟩ := Box.afterA (k := w.heap.size) hb); (obtain ⟨BXx0, cXx0, fXx0, lXx0⟩ := Box.afterA (k := w6.heap.size) hb)
              have s12 := hb.size; (try simp at s12)
              replace O_x0 : Obj w12 w5.heap.size w6.heap.size (encLight x0) [.int .i64 x0.fTrust.fPeriod, .int .i64 x0.fTrust.fSlack, .int .i64 x0.fState, .int .i64 x0.fAnchor.fHead.fHeight, .int .i64 x0.fAnchor.fHead.fTime, .string x0.fAnchor.fHead.fLast, .string x0.fAnchor.fHead.fVals, .string x0.fAnchor.fHead.fNext, .string x0.fAnchor.fHead.fData, .slice px0_1 x0.fAnchor.fNext.length qx0_1, .slice px0_2 x0.fStore.fHeads.length qx0_2, .int .i64 x0.fStore.fSynced, .slice px0_3 x0.fPeers.fPeers.length qx0_3, .int .i64 x0.fPeers.fTurn, .int .i64 x0.fNow] := by (repeat (first | (with_reducible assumption) | (with_reducible apply Obj.alloc) | (with_reducible apply Obj.drew) | (with_reducible apply Obj.drewN) | ((with_reducible apply Obj.set); (case hk => first | omega | (simp; done) | (simp; omega) | (left; simp; omega) | (right; simp; omega))) | (with_reducible refine Obj.ext ?_ (by assumption))))
              replace O_x1 : Obj w12 (w6.heap.size + 1) w7.heap.size ([slD 70 12 encBlock x1]) [.slice px1_4 x1.length qx1_4] := by (repeat (first | (with_reducible assumption) | (with_reducible apply Obj.alloc) | (with_reducible apply Obj.drew) | (with_reducible apply Obj.drewN) | ((with_reducible apply Obj.set); (case hk => first | omega | (simp; done) | (simp; omega) | (left; simp; omega) | (right; simp; omega))) | (with_reducible refine Obj.ext ?_ (by assumption))))
              replace O_t : Obj w12 w10.heap.size w11.heap.size ([slD 70 12 encBlock x1]) [.slice pt_4 x1.length qt_4] := by (repeat (first | (with_reducible assumption) | (with_reducible apply Obj.alloc) | (with_reducible apply Obj.drew) | (with_reducible apply Obj.drewN) | ((with_reducible apply Obj.set); (case hk => first | omega | (simp; done) | (simp; omega) | (left; simp; omega) | (right; simp; omega))) | (with_reducible refine Obj.ext ?_ (by assumption))))
              have E12 : Ext w w12 := by (repeat (first | (with_reducible exact Ext.refl _) | (with_reducible assumption) | (with_reducible refine Ext.alloc ?_ _) | (with_reducible refine Ext.drew ?_) | (with_reducible refine Ext.drewN ?_ _) | ((with_reducible apply Ext.setCell); (case hp => first | omega | (simp; done) | (simp; omega))) | (with_reducible refine Ext.trans ?_ (by assumption))))
              clear hb E11
              clear O_t
              as_aux_lemma =>
               go_wp2
               go_ret
               exact ⟨rfl, by (repeat (first | (with_reducible exact Ext.refl _) | (with_reducible assumption) | (with_reducible refine Ext.alloc ?_ _) | (with_reducible refine Ext.drew ?_) | (with_reducible refine Ext.drewN ?_ _) | ((with_reducible apply Ext.setCell); (case hp => first | omega | (simp; done) | (simp; omega))) | (with_reducible refine Ext.trans ?_ (by assumption))))⟩
set_option maxRecDepth 100000 in
theorem fnExactBehind_args {H : Type} {enc : TypeId × Value → H} (W : World) (base : Nat) (args : Array Value) (ds : List (DataW H)) (p : List MemPlace) (hG : GlobW W)
    (hval : ∀ (j : Nat) t v, #[36, 74][j]? = some t → args[j]? = some v → Value.okWide Tryz.prog W .any base t v)
    (hA : DataW.TrodAll enc Tryz.prog W 0 (fun _ => true) true #[36, 74].toList args.toList ds p) :
    Calls Tryz.prog 8 args W fun e W' => e = .returned (.bool true) ∧ Ext W W' := by
  obtain ⟨v0, v1, d0, d1, p0, p1, rfl, rfl, rfl, h0, h1⟩ := trodAll_two hA
  obtain ⟨cs0, rfl, e0⟩ := read_struct Tryz.underlying36 (n := 8) (ss := [.int .i64, .int .i64, .int .i64, .int .i64, .int .i64, .str, .str, .str, .str, .sl [.int .i64, .int .i64], .sl [.int .i64, .int .i64, .str, .str, .str, .str], .int .i64, .sl [.int .i64, .bool, .int .i64, .int .i64], .int .i64, .int .i64]) (by kernel_rfl) (hval 0 _ _ rfl rfl) h0
  obtain ⟨x0, r0, k0⟩ := dec_Light _ _ _ e0
  have q0 := r0
  obtain ⟨l0_0, e0_0, q0⟩ := rds_int.1 q0
  obtain ⟨l0_1, e0_1, q0⟩ := rds_int.1 q0
  obtain ⟨l0_2, e0_2, q0⟩ := rds_int.1 q0
  obtain ⟨l0_3, e0_3, q0⟩ := rds_int.1 q0
  obtain ⟨l0_4, e0_4, q0⟩ := rds_int.1 q0
  obtain ⟨l0_5, e0_5, q0⟩ := rds_str.1 q0
  obtain ⟨l0_6, e0_6, q0⟩ := rds_str.1 q0
  obtain ⟨l0_7, e0_7, q0⟩ := rds_str.1 q0
  obtain ⟨l0_8, e0_8, q0⟩ := rds_str.1 q0
  obtain ⟨_, l0_9, e0_9, b0_9, q0⟩ := rds_slD.1 q0
  obtain ⟨o1, c1, rfl⟩ := RS.val b0_9
  obtain ⟨_, l0_10, e0_10, b0_10, q0⟩ := rds_slD.1 q0
  obtain ⟨o2, c2, rfl⟩ := RS.val b0_10
  obtain ⟨l0_11, e0_11, q0⟩ := rds_int.1 q0
  obtain ⟨_, l0_12, e0_12, b0_12, q0⟩ := rds_slD.1 q0
  obtain ⟨o3, c3, rfl⟩ := RS.val b0_12
  obtain ⟨l0_13, e0_13, q0⟩ := rds_int.1 q0
  obtain ⟨l0_14, e0_14, q0⟩ := rds_int.1 q0
  have z0 := rds_nil.1 q0
  subst z0
  subst e0_14
  subst e0_13
  subst e0_12
  subst e0_11
  subst e0_10
  subst e0_9
  subst e0_8
  subst e0_7
  subst e0_6
  subst e0_5
  subst e0_4
  subst e0_3
  subst e0_2
  subst e0_1
  obtain rfl : cs0 = #[.int .i64 x0.fTrust.fPeriod, .int .i64 x0.fTrust.fSlack, .int .i64 x0.fState, .int .i64 x0.fAnchor.fHead.fHeight, .int .i64 x0.fAnchor.fHead.fTime, .string x0.fAnchor.fHead.fLast, .string x0.fAnchor.fHead.fVals, .string x0.fAnchor.fHead.fNext, .string x0.fAnchor.fHead.fData, .slice o1 x0.fAnchor.fNext.length c1, .slice o2 x0.fStore.fHeads.length c2, .int .i64 x0.fStore.fSynced, .slice o3 x0.fPeers.fPeers.length c3, .int .i64 x0.fPeers.fTurn, .int .i64 x0.fNow] := by rw [← Array.toArray_toList (xs := cs0), e0_0]
  have e1 := read_slice Tryz.underlying74 (n := 8) (s := .sl [.int .i64, .int .i64, .str, .str, .str, .str, .sl [.int .i64, .int .i64], .sl [.int .i64, .int .i64], .int .i64, .int .i64, .str, .sl [.int .i64, .str]]) (by kernel_rfl) (hval 1 _ _ rfl rfl) h1
  obtain ⟨x1, r1, k1⟩ := dec_sl 70 dec_Block (fun _ => rfl) (by decide) e1
  obtain ⟨o4, c4, rfl⟩ := RS.val r1
  exact fnExactBehind_any x0 x1 o1 o2 o3 o4 c1 c2 c3 c4 W r0 k0 r1 k1 hG
end Go.Proofs.YtgcelmnmalfpcaaGreatDoor
namespace Go.Proofs.YtgcelmnmalfpcaaGreatDoor
set_option linter.unusedSimpArgs false
set_option linter.unusedVariables false
open Go.RowKit Go.ChangeShapes Go.WideShapes Go.ChangeAt
theorem fnExactBehind_gTab : Tryz.prog.globalNamed "loop.example/g00946/impl.shaWords" = some 0 := by kernel_rfl
theorem fnExactBehind_gTy : (Tryz.prog.globals[0]?).map (·.type) = some 237 := by kernel_rfl
theorem fnExactBehind_glob {W : World} (h : laidMetH Tryz.prog Rows.fnExactBehindRow.laid W) : GlobW W := fun i n q => by
  have t : Lib.TabIs Tryz.prog W "loop.example/g00946/impl.shaWords" .u32 globL := Lib.tabIs_of_head (rest := []) fnExactBehind_gTab fnExactBehind_gTy Tryz.underlying237 Tryz.underlying221 (by kernel_rfl) (by kernel_rfl) h
  rw [t.cell fnExactBehind_gTab i (List.getElem?_eq_some_iff.1 q).1, List.getD_eq_getElem?_getD, q]
  rfl
noncomputable def fnExactBehind_world (os : Os) : World :=
  { World.holding Tryz.prog os ⟨#[], #[], []⟩ with heap := (World.holding Tryz.prog os ⟨#[], #[], []⟩).heap.modify 0 fun
      | .cells _ t frozen => .cells (globL.map fun z => Value.int .u32 z).toArray t frozen
      | o => o }
set_option maxRecDepth 100000 in
theorem fnExactBehind_met (os : Os) : laidMet Tryz.prog Rows.fnExactBehindRow.laid ((fnExactBehind_world os).forCall (fun _ _ => 0) ⟨#[], #[.agg #[.int .i64 0, .int .i64 0, .int .i64 0, .int .i64 0, .int .i64 0, .string ByteArray.empty, .string ByteArray.empty, .string ByteArray.empty, .string ByteArray.empty, .slice none 0 0, .slice none 0 0, .int .i64 0, .slice none 0 0, .int .i64 0, .int .i64 0], .slice none 0 0], []⟩).memory := laidMet_of_run' 8 (by kernel_rfl) (by kernel_rfl)
set_option maxRecDepth 100000 in
theorem fnExactBehind_reads (os : Os) {H : Type} (enc : TypeId × Value → H) : ∃ x, DataW.whole enc Tryz.prog ((fnExactBehind_world os).forCall (fun _ _ => 0) ⟨#[], #[.agg #[.int .i64 0, .int .i64 0, .int .i64 0, .int .i64 0, .int .i64 0, .string ByteArray.empty, .string ByteArray.empty, .string ByteArray.empty, .string ByteArray.empty, .slice none 0 0, .slice none 0 0, .int .i64 0, .slice none 0 0, .int .i64 0, .int .i64 0], .slice none 0 0], []⟩).memory Tryz.f8.params.toList Rows.fnExactBehindSpec.vars false #[.agg #[.int .i64 0, .int .i64 0, .int .i64 0, .int .i64 0, .int .i64 0, .string ByteArray.empty, .string ByteArray.empty, .string ByteArray.empty, .string ByteArray.empty, .slice none 0 0, .slice none 0 0, .int .i64 0, .slice none 0 0, .int .i64 0, .int .i64 0], .slice none 0 0].toList 8 = some x := Option.isSome_iff_exists.1 (by kernel_rfl)
set_option maxRecDepth 100000 in
theorem fnExactBehind_lifted (os : Os) (started : os.Started) (H : Type) (enc : TypeId × Value → H) (F : Stop.Interp) :
    ReturnsInHanded {} Tryz.checked os 8 .any ((OpenSpec.ofChange Rows.fnExactBehindSpec).preRow enc Tryz.prog Tryz.f8 Rows.fnExactBehindRow.domain false Rows.fnExactBehindRow.laid) (((OpenSpec.ofChange Rows.fnExactBehindSpec).at F).post enc Tryz.prog Tryz.f8 false true false false) := by
  obtain ⟨x, hx⟩ := fnExactBehind_reads os enc
  refine returnsInHanded_of_row (C := Tryz.checked) (s := OpenSpec.ofChange Rows.fnExactBehindSpec) (by kernel_rfl) started (by kernel_rfl) Tryz.func8
    (witness_row_at (enc := enc) (C := Tryz.checked) false (fnExactBehind_world os) #[.agg #[.int .i64 0, .int .i64 0, .int .i64 0, .int .i64 0, .int .i64 0, .string ByteArray.empty, .string ByteArray.empty, .string ByteArray.empty, .string ByteArray.empty, .slice none 0 0, .slice none 0 0, .int .i64 0, .slice none 0 0, .int .i64 0, .int .i64 0], .slice none 0 0] rfl (by kernel_rfl) (by kernel_rfl) (by kernel_rfl)
      (OpenSpec.preRow_of_cond 8 hx rfl (fun k hk => by cases hk) (by kernel_rfl) (fnExactBehind_met os))) ?_
  intro W base args ds gs before hval hW _ _ _ hL _ _
  have hgl : gs.length = 1 := by obtain ⟨_, _, _, hV, _⟩ := hW; exact trodVars_length hV
  refine law_postV (s := Rows.fnExactBehindSpec) (by kernel_rfl) (by kernel_rfl) Tryz.underlying4 (by kernel_rfl) (by kernel_rfl) (by intro ds gs hl hl2; match ds, hl, gs, hl2 with | [d0, d1], _, [g], _ => exact ⟨rfl, rfl, rfl⟩) hgl hW ?_
  obtain ⟨p, q, hA, _⟩ := hW
  have hA' : DataW.TrodAll enc Tryz.prog W 0 (fun _ => true) true Tryz.f8.params.toList args.toList ds p := hA
  have hval' : ∀ (j : Nat) t v, Tryz.f8.params[j]? = some t → args[j]? = some v → Value.okWide Tryz.prog W .any base t v := hval
  rw [Tryz.params8] at hA' hval'
  exact fnExactBehind_args W base args ds p (fnExactBehind_glob hL) hval' hA'
set_option maxRecDepth 100000 in
theorem fnExactBehind_said : Rows.FnExactBehindSaid :=
  OpenClaim.holds_of_cond 8 Tryz.f8 rfl rfl rfl rfl rfl rfl rfl ⟨rfl, rfl, rfl, rfl, rfl⟩ rfl rfl rfl rfl rfl (by kernel_rfl) Tryz.func8 (by kernel_rfl)
    (of_decide_eq_true (by kernel_rfl)) (by unfold Func.isWrapper; first | (rw [if_pos (by decide +kernel)]; kernel_rfl) | (rw [if_neg (by decide +kernel)]; exact ⟨rfl, rfl⟩))
    (fun os started H enc _ F => by rw [OpenClaim.pre_eq_preRow]; exact fnExactBehind_lifted os started H enc F)
theorem fnExactBehind_plain (f : FuncId) (fn : Func) (hf : Tryz.pinned.checked.prog.funcNamed "loop.example/g00946/laws.FnExactBehind" = some f) (hfn : Tryz.pinned.checked.prog.funcs[f]? = some fn) :
    false = Tryz.pinned.checked.prog.looks [] ∧ ∀ (j : Nat) t, fn.params[j]? = some t → Tryz.pinned.checked.prog.wantsStandIn t = false := by
  obtain rfl : f = 8 := Option.some.inj ((show Tryz.prog.funcNamed "loop.example/g00946/laws.FnExactBehind" = some 8 by kernel_rfl).symm.trans hf) |>.symm
  obtain rfl : fn = Tryz.f8 := (Option.some.inj (Tryz.func8.symm.trans hfn)).symm
  refine ⟨by kernel_rfl, fun j t ht => ?_⟩
  have hm : t ∈ Tryz.f8.params.toList := by simpa using Array.mem_of_getElem? ht
  have hall : (Tryz.f8.params.toList.all fun u => !Tryz.prog.wantsStandIn u) = true := by kernel_rfl
  exact (show Tryz.prog.wantsStandIn t = false by simpa using List.all_eq_true.1 hall t hm)
theorem fnExactBehind_holds : Rows.FnExactBehindCardSaid :=
  Claim7.holds_tied_plain_at .later [] _ _ _ _ fnExactBehind_said (fun _ h => by cases h) (by kernel_rfl) (fun _ h => by cases h) fnExactBehind_row_tie rfl ⟨rfl, rfl⟩ (by kernel_rfl) rfl fnExactBehind_plain (by kernel_rfl)
#print axioms fnExactBehind_holds
end Go.Proofs.YtgcelmnmalfpcaaGreatDoor
