/- FnExactBlockOk: whatever the input, the call returns true and every argument reads afterwards as it read before. No condition. -/
import Derived.Test.YtgcelmnmalfpcaaGreatDoorQA6
import Derived.Test.YtgcelmnmalfpcaaGreatDoorCards
import Derived.Test.YtgcelmnmalfpcaaGreatDoorTie
import Derived.Deep.DeepHandedRow
import Derived.JoinedOf
import Derived.Handed
namespace Go.Proofs.YtgcelmnmalfpcaaGreatDoor
set_option linter.unusedSimpArgs false
set_option linter.unusedVariables false
open Go.RowKit Go.ChangeShapes Go.WideShapes
set_option maxRecDepth 100000 in
set_option maxHeartbeats 4000000 in
theorem fnExactBlockOk_any (x0 : GBlock) (o1 o2 o3 : Option Addr) (c1 c2 c3 : Nat) (w : World) (h0 : Rds w (encBlock x0) [.int .i64 x0.fHead.fHeight, .int .i64 x0.fHead.fTime, .string x0.fHead.fLast, .string x0.fHead.fVals, .string x0.fHead.fNext, .string x0.fHead.fData, .slice o1 x0.fVals.length c1, .slice o2 x0.fNext.length c2, .int .i64 x0.fCommit.fHeight, .int .i64 x0.fCommit.fRound, .string x0.fCommit.fId, .slice o3 x0.fCommit.fSigs.length c3]) (k0 : okL (encBlock x0)) (hG : GlobW w) :
    Calls Tryz.prog 5 #[.agg #[.int .i64 x0.fHead.fHeight, .int .i64 x0.fHead.fTime, .string x0.fHead.fLast, .string x0.fHead.fVals, .string x0.fHead.fNext, .string x0.fHead.fData, .slice o1 x0.fVals.length c1, .slice o2 x0.fNext.length c2, .int .i64 x0.fCommit.fHeight, .int .i64 x0.fCommit.fRound, .string x0.fCommit.fId, .slice o3 x0.fCommit.fSigs.length c3]] w fun e w' => e = .returned (.bool true) ∧ Ext w w' := by
  have K0 := Lib.hid k0; clear k0
  obtain ⟨a0, ha0⟩ : ∃ a, a = szL (encBlock x0) := ⟨_, rfl⟩
  have HA0 := Lib.hid ha0; clear ha0
  by_cases g0 : (1048576 : Int) < (a0 : Nat)
  · have R0 := Lib.hid (szR_no g0)
    go_enter Tryz.func5, Tryz.ntmps5
    go_wp2_with fail
    (refine (szBlock_any x0 _ _ _ _ _ _ _ _ (h0.ext (by (repeat (first | (with_reducible exact Ext.refl _) | (with_reducible assumption) | (with_reducible refine Ext.alloc ?_ _) | (with_reducible refine Ext.drew ?_) | (with_reducible refine Ext.drewN ?_ _) | ((with_reducible apply Ext.setCell); (case hp => first | omega | (simp; done) | (simp; omega))) | (with_reducible refine Ext.trans ?_ (by assumption)))))) K0.out (by omega) (by omega)).mono ?_); rw [show szL (encBlock x0) = a0 from HA0.out.symm, R0.out]; rintro e w1 ⟨rfl, hb⟩; (obtain ⟨BXa0, cXa0, fXa0, lXa0⟩ := Box.after (k := w.heap.size) hb (by (repeat (first | (with_reducible assumption) | ((with_reducible apply Box.new); (first | (with_reducible rfl) | (simp; done) | (simp; omega))) | (with_reducible apply Box.alloc) | (with_reducible apply Box.drew) | (with_reducible apply Box.drewN) | (with_reducible apply Box.set) | ((with_reducible apply Box.set_ne); (case hne => first | omega | (simp; done) | (simp; omega)))))))
    have s1 := hb.size; (try simp at s1)
    have E1 : Ext w w1 := by (repeat (first | (with_reducible exact Ext.refl _) | (with_reducible assumption) | (with_reducible refine Ext.alloc ?_ _) | (with_reducible refine Ext.drew ?_) | (with_reducible refine Ext.drewN ?_ _) | ((with_reducible apply Ext.setCell); (case hp => first | omega | (simp; done) | (simp; omega))) | (with_reducible refine Ext.trans ?_ (by assumption))))
    clear hb
    go_wp2
    go_ret
    exact ⟨rfl, by (repeat (first | (with_reducible exact Ext.refl _) | (with_reducible assumption) | (with_reducible refine Ext.alloc ?_ _) | (with_reducible refine Ext.drew ?_) | (with_reducible refine Ext.drewN ?_ _) | ((with_reducible apply Ext.setCell); (case hp => first | omega | (simp; done) | (simp; omega))) | (with_reducible refine Ext.trans ?_ (by assumption))))⟩
  · have R0 := Lib.hid (szR_yes g0)
    have Z0 : Hid (szL (encBlock x0) ≤ 1048576) := Lib.hid (by have := HA0.out; omega)
    have N0 : cntT (encBlock x0) ≤ 1000000000 := by have h1 := cntT_le (encBlock x0); have h2 := cnt_Block x0; have h3 := Z0.out; omega
    obtain ⟨r0, hr0⟩ : ∃ r, r = (mBlockOk x0) := ⟨_, rfl⟩
    have HR0 := Lib.hid hr0
    clear hr0
    go_enter Tryz.func5, Tryz.ntmps5
    go_wp2_with fail
    (refine (szBlock_any x0 _ _ _ _ _ _ _ _ (h0.ext (by (repeat (first | (with_reducible exact Ext.refl _) | (with_reducible assumption) | (with_reducible refine Ext.alloc ?_ _) | (with_reducible refine Ext.drew ?_) | (with_reducible refine Ext.drewN ?_ _) | ((with_reducible apply Ext.setCell); (case hp => first | omega | (simp; done) | (simp; omega))) | (with_reducible refine Ext.trans ?_ (by assumption)))))) K0.out (by omega) (by omega)).mono ?_); rw [show szL (encBlock x0) = a0 from HA0.out.symm, R0.out]; rintro e w1 ⟨rfl, hb⟩; (obtain ⟨BXa0, cXa0, fXa0, lXa0⟩ := Box.after (k := w.heap.size) hb (by (repeat (first | (with_reducible assumption) | ((with_reducible apply Box.new); (first | (with_reducible rfl) | (simp; done) | (simp; omega))) | (with_reducible apply Box.alloc) | (with_reducible apply Box.drew) | (with_reducible apply Box.drewN) | (with_reducible apply Box.set) | ((with_reducible apply Box.set_ne); (case hne => first | omega | (simp; done) | (simp; omega)))))))
    have s1 := hb.size; (try simp at s1)
    have E1 : Ext w w1 := by (repeat (first | (with_reducible exact Ext.refl _) | (with_reducible assumption) | (with_reducible refine Ext.alloc ?_ _) | (with_reducible refine Ext.drew ?_) | (with_reducible refine Ext.drewN ?_ _) | ((with_reducible apply Ext.setCell); (case hp => first | omega | (simp; done) | (simp; omega))) | (with_reducible refine Ext.trans ?_ (by assumption))))
    clear hb
    go_wp2_with fail
    (refine (toBlock_any x0 _ _ _ _ _ _ _ (h0.ext (by (repeat (first | (with_reducible exact Ext.refl _) | (with_reducible assumption) | (with_reducible refine Ext.alloc ?_ _) | (with_reducible refine Ext.drew ?_) | (with_reducible refine Ext.drewN ?_ _) | ((with_reducible apply Ext.setCell); (case hp => first | omega | (simp; done) | (simp; omega))) | (with_reducible refine Ext.trans ?_ (by assumption)))))) Z0.out).mono ?_); rintro e w2 ⟨pw0_1, pw0_2, pw0_3, qw0_1, qw0_2, qw0_3, rfl, O, hb⟩; (obtain ⟨BXa0, cXa0, fXa0, lXa0⟩ := Box.after (k := w.heap.size) hb (by (repeat (first | (with_reducible assumption) | ((with_reducible apply Box.new); (first | (with_reducible rfl) | (simp; done) | (simp; omega))) | (with_reducible apply Box.alloc) | (with_reducible apply Box.drew) | (with_reducible apply Box.drewN) | (with_reducible apply Box.set) | ((with_reducible apply Box.set_ne); (case hne => first | omega | (simp; done) | (simp; omega)))))))
    have s2 := hb.size; (try simp at s2)
    have E2 : Ext w w2 := by (repeat (first | (with_reducible exact Ext.refl _) | (with_reducible assumption) | (with_reducible refine Ext.alloc ?_ _) | (with_reducible refine Ext.drew ?_) | (with_reducible refine Ext.drewN ?_ _) | ((with_reducible apply Ext.setCell); (case hp => first | omega | (simp; done) | (simp; omega))) | (with_reducible refine Ext.trans ?_ (by assumption))))
    have O_tw0 : Obj w2 w1.heap.size w2.heap.size (encBlock x0) [.int .i64 x0.fHead.fHeight, .int .i64 x0.fHead.fTime, .string x0.fHead.fLast, .string x0.fHead.fVals, .string x0.fHead.fNext, .string x0.fHead.fData, .slice pw0_1 x0.fVals.length qw0_1, .slice pw0_2 x0.fNext.length qw0_2, .int .i64 x0.fCommit.fHeight, .int .i64 x0.fCommit.fRound, .string x0.fCommit.fId, .slice pw0_3 x0.fCommit.fSigs.length qw0_3] := Obj.mono O (by (first | omega | (simp; done) | (simp; omega))) (Nat.le_refl _)
    clear O
    clear hb E1
    go_wp2_with fail
    (refine (sBlockOk_any x0 _ _ _ _ _ _ _ ((show Rds w2 (encBlock x0) [.int .i64 x0.fHead.fHeight, .int .i64 x0.fHead.fTime, .string x0.fHead.fLast, .string x0.fHead.fVals, .string x0.fHead.fNext, .string x0.fHead.fData, .slice pw0_1 x0.fVals.length qw0_1, .slice pw0_2 x0.fNext.length qw0_2, .int .i64 x0.fCommit.fHeight, .int .i64 x0.fCommit.fRound, .string x0.fCommit.fId, .slice pw0_3 x0.fCommit.fSigs.length qw0_3] from O_tw0.read).ext (by (repeat (first | (with_reducible exact Ext.refl _) | (with_reducible assumption) | (with_reducible refine Ext.alloc ?_ _) | (with_reducible refine Ext.drew ?_) | (with_reducible refine Ext.drewN ?_ _) | ((with_reducible apply Ext.setCell); (case hp => first | omega | (simp; done) | (simp; omega))) | (with_reducible refine Ext.trans ?_ (by assumption)))))) Z0.out K0.out (hG.ext (by (repeat (first | (with_reducible exact Ext.refl _) | (with_reducible assumption) | (with_reducible refine Ext.alloc ?_ _) | (with_reducible refine Ext.drew ?_) | (with_reducible refine Ext.drewN ?_ _) | ((with_reducible apply Ext.setCell); (case hp => first | omega | (simp; done) | (simp; omega))) | (with_reducible refine Ext.trans ?_ (by assumption))))))).mono ?_); rw [show (mBlockOk x0) = r0 from HR0.out.symm]; rintro e w3 ⟨rfl, hb⟩; (obtain ⟨BXa0, cXa0, fXa0, lXa0⟩ := Box.after (k := w.heap.size) hb (by (repeat (first | (with_reducible assumption) | ((with_reducible apply Box.new); (first | (with_reducible rfl) | (simp; done) | (simp; omega))) | (with_reducible apply Box.alloc) | (with_reducible apply Box.drew) | (with_reducible apply Box.drewN) | (with_reducible apply Box.set) | ((with_reducible apply Box.set_ne); (case hne => first | omega | (simp; done) | (simp; omega)))))))
    have s3 := hb.size; (try simp at s3)
    replace O_tw0 : Obj w3 w1.heap.size w2.heap.size (encBlock x0) [.int .i64 x0.fHead.fHeight, .int .i64 x0.fHead.fTime, .string x0.fHead.fLast, .string x0.fHead.fVals, .string x0.fHead.fNext, .string x0.fHead.fData, .slice pw0_1 x0.fVals.length qw0_1, .slice pw0_2 x0.fNext.length qw0_2, .int .i64 x0.fCommit.fHeight, .int .i64 x0.fCommit.fRound, .string x0.fCommit.fId, .slice pw0_3 x0.fCommit.fSigs.length qw0_3] := by (repeat (first | (with_reducible assumption) | (with_reducible apply Obj.alloc) | (with_reducible apply Obj.drew) | (with_reducible apply Obj.drewN) | ((with_reducible apply Obj.set); (case hk => first | omega | (simp; done) | (simp; omega) | (left; simp; omega) | (right; simp; omega))) | (with_reducible refine Obj.ext ?_ (by assumption))))
    have E3 : Ext w w3 := by (repeat (first | (with_reducible exact Ext.refl _) | (with_reducible assumption) | (with_reducible refine Ext.alloc ?_ _) | (with_reducible refine Ext.drew ?_) | (with_reducible refine Ext.drewN ?_ _) | ((with_reducible apply Ext.setCell); (case hp => first | omega | (simp; done) | (simp; omega))) | (with_reducible refine Ext.trans ?_ (by assumption))))
    clear hb E2
    clear O_tw0
    go_wp2_with fail
    (refine (toBlock_any x0 _ _ _ _ _ _ _ (h0.ext (by (repeat (first | (with_reducible exact Ext.refl _) | (with_reducible assumption) | (with_reducible refine Ext.alloc ?_ _) | (with_reducible refine Ext.drew ?_) | (with_reducible refine Ext.drewN ?_ _) | ((with_reducible apply Ext.setCell); (case hp => first | omega | (simp; done) | (simp; omega))) | (with_reducible refine Ext.trans ?_ (by assumption)))))) Z0.out).mono ?_); rintro e w4 ⟨px0_1, px0_2, px0_3, qx0_1, qx0_2, qx0_3, rfl, O, hb⟩; (obtain ⟨BXa0, cXa0, fXa0, lXa0⟩ := Box.after (k := w.heap.size) hb (by (repeat (first | (with_reducible assumption) | ((with_reducible apply Box.new); (first | (with_reducible rfl) | (simp; done) | (simp; omega))) | (with_reducible apply Box.alloc) | (with_reducible apply Box.drew) | (with_reducible apply Box.drewN) | (with_reducible apply Box.set) | ((with_reducible apply Box.set_ne); (case hne => first | omega | (simp; done) | (simp; omega)))))))
    have s4 := hb.size; (try simp at s4)
    have E4 : Ext w w4 := by (repeat (first | (with_reducible exact Ext.refl _) | (with_reducible assumption) | (with_reducible refine Ext.alloc ?_ _) | (with_reducible refine Ext.drew ?_) | (with_reducible refine Ext.drewN ?_ _) | ((with_reducible apply Ext.setCell); (case hp => first | omega | (simp; done) | (simp; omega))) | (with_reducible refine Ext.trans ?_ (by assumption))))
    have O_x0 : Obj w4 w3.heap.size w4.heap.size (encBlock x0) [.int .i64 x0.fHead.fHeight, .int .i64 x0.fHead.fTime, .string x0.fHead.fLast, .string x0.fHead.fVals, .string x0.fHead.fNext, .string x0.fHead.fData, .slice px0_1 x0.fVals.length qx0_1, .slice px0_2 x0.fNext.length qx0_2, .int .i64 x0.fCommit.fHeight, .int .i64 x0.fCommit.fRound, .string x0.fCommit.fId, .slice px0_3 x0.fCommit.fSigs.length qx0_3] := Obj.mono O (by (first | omega | (simp; done) | (simp; omega))) (Nat.le_refl _)
    clear O
    clear hb E3
    go_wp2_with fail
    (refine (iBlockOk_any x0 _ _ _ _ _ _ _ ((show Rds w4 (encBlock x0) [.int .i64 x0.fHead.fHeight, .int .i64 x0.fHead.fTime, .string x0.fHead.fLast, .string x0.fHead.fVals, .string x0.fHead.fNext, .string x0.fHead.fData, .slice px0_1 x0.fVals.length qx0_1, .slice px0_2 x0.fNext.length qx0_2, .int .i64 x0.fCommit.fHeight, .int .i64 x0.fCommit.fRound, .string x0.fCommit.fId, .slice px0_3 x0.fCommit.fSigs.length qx0_3] from O_x0.read).ext (by (repeat (first | (with_reducible exact Ext.refl _) | (with_reducible assumption) | (with_reducible refine Ext.alloc ?_ _) | (with_reducible refine Ext.drew ?_) | (with_reducible refine Ext.drewN ?_ _) | ((with_reducible apply Ext.setCell); (case hp => first | omega | (simp; done) | (simp; omega))) | (with_reducible refine Ext.trans ?_ (by assumption)))))) Z0.out K0.out (hG.ext (by (repeat (first | (with_reducible exact Ext.refl _) | (with_reducible assumption) | (with_reducible refine Ext.alloc ?_ _) | (with_reducible refine Ext.drew ?_) | (with_reducible refine Ext.drewN ?_ _) | ((with_reducible apply Ext.setCell); (case hp => first | omega | (simp; done) | (simp; omega))) | (with_reducible refine Ext.trans ?_ (by assumption))))))).mono ?_); rw [show (mBlockOk x0) = r0 from HR0.out.symm]; rintro e w5 ⟨rfl, hb⟩; (obtain ⟨BXa0, cXa0, fXa0, lXa0⟩ := Box.after (k := w.heap.size) hb (by (repeat (first | (with_reducible assumption) | ((with_reducible apply Box.new); (first | (with_reducible rfl) | (simp; done) | (simp; omega))) | (with_reducible apply Box.alloc) | (with_reducible apply Box.drew) | (with_reducible apply Box.drewN) | (with_reducible apply Box.set) | ((with_reducible apply Box.set_ne); (case hne => first | omega | (simp; done) | (simp; omega))))))); (obtain ⟨BXx0, cXx0, fXx0, lXx0⟩ := Box.after (k := w4.heap.size) hb (by (repeat (first | (with_reducible assumption) | ((with_reducible apply Box.new); (first | (with_reducible rfl) | (simp; done) | (simp; omega))) | (with_reducible apply Box.alloc) | (with_reducible apply Box.drew) | (with_reducible apply Box.drewN) | (with_reducible apply Box.set) | ((with_reducible apply Box.set_ne); (case hne => first | omega | (simp; done) | (simp; omega)))))))
    have s5 := hb.size; (try simp at s5)
    replace O_x0 : Obj w5 w3.heap.size w4.heap.size (encBlock x0) [.int .i64 x0.fHead.fHeight, .int .i64 x0.fHead.fTime, .string x0.fHead.fLast, .string x0.fHead.fVals, .string x0.fHead.fNext, .string x0.fHead.fData, .slice px0_1 x0.fVals.length qx0_1, .slice px0_2 x0.fNext.length qx0_2, .int .i64 x0.fCommit.fHeight, .int .i64 x0.fCommit.fRound, .string x0.fCommit.fId, .slice px0_3 x0.fCommit.fSigs.length qx0_3] := by (repeat (first | (with_reducible assumption) | (with_reducible apply Obj.alloc) | (with_reducible apply Obj.drew) | (with_reducible apply Obj.drewN) | ((with_reducible apply Obj.set); (case hk => first | omega | (simp; done) | (simp; omega) | (left; simp; omega) | (right; simp; omega))) | (with_reducible refine Obj.ext ?_ (by assumption))))
    have E5 : Ext w w5 := by (repeat (first | (with_reducible exact Ext.refl _) | (with_reducible assumption) | (with_reducible refine Ext.alloc ?_ _) | (with_reducible refine Ext.drew ?_) | (with_reducible refine Ext.drewN ?_ _) | ((with_reducible apply Ext.setCell); (case hp => first | omega | (simp; done) | (simp; omega))) | (with_reducible refine Ext.trans ?_ (by assumption))))
    clear hb E4
    have S_x0 := Lib.hid (Obj.read O_x0)
    have F_x0 := Lib.hid E5
    go_wp2_with fail
    go_region_held3 (fun w' => w'.cell? ⟨w.heap.size, 0, none⟩ = some (.int .i64 x0.fHead.fHeight) ∧ w'.cell? ⟨w.heap.size, 1, none⟩ = some (.int .i64 x0.fHead.fTime) ∧ w'.cell? ⟨w.heap.size, 2, none⟩ = some (.string x0.fHead.fLast) ∧ w'.cell? ⟨w.heap.size, 3, none⟩ = some (.string x0.fHead.fVals) ∧ w'.cell? ⟨w.heap.size, 4, none⟩ = some (.string x0.fHead.fNext) ∧ w'.cell? ⟨w.heap.size, 5, none⟩ = some (.string x0.fHead.fData) ∧ w'.cell? ⟨w.heap.size, 6, none⟩ = some (.slice o1 x0.fVals.length c1) ∧ w'.cell? ⟨w.heap.size, 7, none⟩ = some (.slice o2 x0.fNext.length c2) ∧ w'.cell? ⟨w.heap.size, 8, none⟩ = some (.int .i64 x0.fCommit.fHeight) ∧ w'.cell? ⟨w.heap.size, 9, none⟩ = some (.int .i64 x0.fCommit.fRound) ∧ w'.cell? ⟨w.heap.size, 10, none⟩ = some (.string x0.fCommit.fId) ∧ w'.cell? ⟨w.heap.size, 11, none⟩ = some (.slice o3 x0.fCommit.fSigs.length c3) ∧ w'.cell? ⟨w4.heap.size, 0, none⟩ = some (.int .i64 x0.fHead.fHeight) ∧ w'.cell? ⟨w4.heap.size, 1, none⟩ = some (.int .i64 x0.fHead.fTime) ∧ w'.cell? ⟨w4.heap.size, 2, none⟩ = some (.string x0.fHead.fLast) ∧ w'.cell? ⟨w4.heap.size, 3, none⟩ = some (.string x0.fHead.fVals) ∧ w'.cell? ⟨w4.heap.size, 4, none⟩ = some (.string x0.fHead.fNext) ∧ w'.cell? ⟨w4.heap.size, 5, none⟩ = some (.string x0.fHead.fData) ∧ w'.cell? ⟨w4.heap.size, 6, none⟩ = some (.slice px0_1 x0.fVals.length qx0_1) ∧ w'.cell? ⟨w4.heap.size, 7, none⟩ = some (.slice px0_2 x0.fNext.length qx0_2) ∧ w'.cell? ⟨w4.heap.size, 8, none⟩ = some (.int .i64 x0.fCommit.fHeight) ∧ w'.cell? ⟨w4.heap.size, 9, none⟩ = some (.int .i64 x0.fCommit.fRound) ∧ w'.cell? ⟨w4.heap.size, 10, none⟩ = some (.string x0.fCommit.fId) ∧ w'.cell? ⟨w4.heap.size, 11, none⟩ = some (.slice px0_3 x0.fCommit.fSigs.length qx0_3)) ((first | go_keep | ((try dsimp only); (try go_split_ands); (repeat' apply And.intro) <;> exact hb.cellSome (by assumption))))
      (first | (go_at_call 23; refine (toBlock_any x0 _ _ _ _ _ _ _ (h0.ext (by (repeat (first | (with_reducible exact Ext.refl _) | (with_reducible assumption) | (with_reducible refine Ext.alloc ?_ _) | (with_reducible refine Ext.drew ?_) | (with_reducible refine Ext.drewN ?_ _) | ((with_reducible apply Ext.setCell); (case hp => first | omega | (simp; done) | (simp; omega))) | (with_reducible refine Ext.trans ?_ (by assumption)))))) Z0.out).mono ?_; rintro e w6 ⟨pt_1, pt_2, pt_3, qt_1, qt_2, qt_3, rfl, O, hb⟩) | (go_at_call 25; refine (eqBlock_any x0 _ _ _ _ _ _ _ _ _ _ _ _ _ (S_x0.out.ext (by (repeat (first | (with_reducible exact Ext.refl _) | (with_reducible assumption) | (with_reducible refine Ext.alloc ?_ _) | (with_reducible refine Ext.drew ?_) | (with_reducible refine Ext.drewN ?_ _) | ((with_reducible apply Ext.setCell); (case hp => first | omega | (simp; done) | (simp; omega))) | (with_reducible refine Ext.trans ?_ (by assumption)))))) (O.read.ext (by (repeat (first | (with_reducible exact Ext.refl _) | (with_reducible assumption) | (with_reducible refine Ext.alloc ?_ _) | (with_reducible refine Ext.drew ?_) | (with_reducible refine Ext.drewN ?_ _) | ((with_reducible apply Ext.setCell); (case hp => first | omega | (simp; done) | (simp; omega))) | (with_reducible refine Ext.trans ?_ (by assumption))))))).mono ?_; rintro e w7 ⟨rfl, hb⟩))
    all_goals
      have hbb : Ext w5 w7 := by (repeat (first | (with_reducible exact Ext.refl _) | (with_reducible assumption) | (with_reducible refine Ext.alloc ?_ _) | (with_reducible refine Ext.drew ?_) | (with_reducible refine Ext.drewN ?_ _) | ((with_reducible apply Ext.setCell); (case hp => first | omega | (simp; done) | (simp; omega))) | (with_reducible refine Ext.trans ?_ (by assumption))))
      have E7 : Ext w w7 := Ext.trans F_x0.out hbb
      clear hb O; have hb := hbb; clear hbb E5
      (obtain ⟨BXa0, cXa0, fXa0, lXa0⟩ := Box.after (k := w.heap.size) hb (by (repeat (first | (with_reducible assumption) | ((with_reducible apply Box.new); (first | (with_reducible rfl) | (simp; done) | (simp; omega))) | (with_reducible apply Box.alloc) | (with_reducible apply Box.drew) | (with_reducible apply Box.drewN) | (with_reducible apply Box.set) | ((with_reducible apply Box.set_ne); (case hne => first | omega | (simp; done) | (simp; omega)))))))
      (obtain ⟨BXx0, cXx0, fXx0, lXx0⟩ := Box.after (k := w4.heap.size) hb (by (repeat (first | (with_reducible assumption) | ((with_reducible apply Box.new); (first | (with_reducible rfl) | (simp; done) | (simp; omega))) | (with_reducible apply Box.alloc) | (with_reducible apply Box.drew) | (with_reducible apply Box.drewN) | (with_reducible apply Box.set) | ((with_reducible apply Box.set_ne); (case hne => first | omega | (simp; done) | (simp; omega)))))))
      have s7 := hb.size
      replace O_x0 : Obj w7 w3.heap.size w4.heap.size (encBlock x0) [.int .i64 x0.fHead.fHeight, .int .i64 x0.fHead.fTime, .string x0.fHead.fLast, .string x0.fHead.fVals, .string x0.fHead.fNext, .string x0.fHead.fData, .slice px0_1 x0.fVals.length qx0_1, .slice px0_2 x0.fNext.length qx0_2, .int .i64 x0.fCommit.fHeight, .int .i64 x0.fCommit.fRound, .string x0.fCommit.fId, .slice px0_3 x0.fCommit.fSigs.length qx0_3] := by (repeat (first | (with_reducible assumption) | (with_reducible apply Obj.alloc) | (with_reducible apply Obj.drew) | (with_reducible apply Obj.drewN) | ((with_reducible apply Obj.set); (case hk => first | omega | (simp; done) | (simp; omega) | (left; simp; omega) | (right; simp; omega))) | (with_reducible refine Obj.ext ?_ (by assumption))))
      clear hb S_x0 F_x0
      go_wp2
      go_ret
      exact ⟨rfl, by (repeat (first | (with_reducible exact Ext.refl _) | (with_reducible assumption) | (with_reducible refine Ext.alloc ?_ _) | (with_reducible refine Ext.drew ?_) | (with_reducible refine Ext.drewN ?_ _) | ((with_reducible apply Ext.setCell); (case hp => first | omega | (simp; done) | (simp; omega))) | (with_reducible refine Ext.trans ?_ (by assumption))))⟩
set_option maxRecDepth 100000 in
theorem fnExactBlockOk_args {H : Type} {enc : TypeId × Value → H} (W : World) (base : Nat) (args : Array Value) (ds : List (DataW H)) (p : List MemPlace) (hG : GlobW W)
    (hval : ∀ (j : Nat) t v, #[63][j]? = some t → args[j]? = some v → Value.okWide Tryz.prog W .any base t v)
    (hA : DataW.TrodAll enc Tryz.prog W 0 (fun _ => true) true #[63].toList args.toList ds p) :
    Calls Tryz.prog 5 args W fun e W' => e = .returned (.bool true) ∧ Ext W W' := by
  obtain ⟨v0, d0, rfl, rfl, h0⟩ := trodAll_one hA
  obtain ⟨cs0, rfl, e0⟩ := read_struct Tryz.underlying63 (n := 8) (ss := [.int .i64, .int .i64, .str, .str, .str, .str, .sl [.int .i64, .int .i64], .sl [.int .i64, .int .i64], .int .i64, .int .i64, .str, .sl [.int .i64, .str]]) (by kernel_rfl) (hval 0 _ _ rfl rfl) h0
  obtain ⟨x0, r0, k0⟩ := dec_Block _ _ _ e0
  have q0 := r0
  obtain ⟨l0_0, e0_0, q0⟩ := rds_int.1 q0
  obtain ⟨l0_1, e0_1, q0⟩ := rds_int.1 q0
  obtain ⟨l0_2, e0_2, q0⟩ := rds_str.1 q0
  obtain ⟨l0_3, e0_3, q0⟩ := rds_str.1 q0
  obtain ⟨l0_4, e0_4, q0⟩ := rds_str.1 q0
  obtain ⟨l0_5, e0_5, q0⟩ := rds_str.1 q0
  obtain ⟨_, l0_6, e0_6, b0_6, q0⟩ := rds_slD.1 q0
  obtain ⟨o1, c1, rfl⟩ := RS.val b0_6
  obtain ⟨_, l0_7, e0_7, b0_7, q0⟩ := rds_slD.1 q0
  obtain ⟨o2, c2, rfl⟩ := RS.val b0_7
  obtain ⟨l0_8, e0_8, q0⟩ := rds_int.1 q0
  obtain ⟨l0_9, e0_9, q0⟩ := rds_int.1 q0
  obtain ⟨l0_10, e0_10, q0⟩ := rds_str.1 q0
  obtain ⟨_, l0_11, e0_11, b0_11, q0⟩ := rds_slD.1 q0
  obtain ⟨o3, c3, rfl⟩ := RS.val b0_11
  have z0 := rds_nil.1 q0
  subst z0
  subst e0_11
  subst e0_10
  subst e0_9
  subst e0_8
  subst e0_7
  subst e0_6
  subst e0_5
  subst e0_4
  subst e0_3
  subst e0_2
  subst e0_1
  obtain rfl : cs0 = #[.int .i64 x0.fHead.fHeight, .int .i64 x0.fHead.fTime, .string x0.fHead.fLast, .string x0.fHead.fVals, .string x0.fHead.fNext, .string x0.fHead.fData, .slice o1 x0.fVals.length c1, .slice o2 x0.fNext.length c2, .int .i64 x0.fCommit.fHeight, .int .i64 x0.fCommit.fRound, .string x0.fCommit.fId, .slice o3 x0.fCommit.fSigs.length c3] := by rw [← Array.toArray_toList (xs := cs0), e0_0]
  exact fnExactBlockOk_any x0 o1 o2 o3 c1 c2 c3 W r0 k0 hG
end Go.Proofs.YtgcelmnmalfpcaaGreatDoor
namespace Go.Proofs.YtgcelmnmalfpcaaGreatDoor
set_option linter.unusedSimpArgs false
set_option linter.unusedVariables false
open Go.RowKit Go.ChangeShapes Go.WideShapes Go.ChangeAt
theorem fnExactBlockOk_gTab : Tryz.prog.globalNamed "loop.example/g00946/impl.shaWords" = some 0 := by kernel_rfl
theorem fnExactBlockOk_gTy : (Tryz.prog.globals[0]?).map (·.type) = some 237 := by kernel_rfl
theorem fnExactBlockOk_glob {W : World} (h : laidMetH Tryz.prog Rows.fnExactBlockOkRow.laid W) : GlobW W := fun i n q => by
  have t : Lib.TabIs Tryz.prog W "loop.example/g00946/impl.shaWords" .u32 globL := Lib.tabIs_of_head (rest := []) fnExactBlockOk_gTab fnExactBlockOk_gTy Tryz.underlying237 Tryz.underlying221 (by kernel_rfl) (by kernel_rfl) h
  rw [t.cell fnExactBlockOk_gTab i (List.getElem?_eq_some_iff.1 q).1, List.getD_eq_getElem?_getD, q]
  rfl
noncomputable def fnExactBlockOk_world (os : Os) : World :=
  { World.holding Tryz.prog os ⟨#[], #[], []⟩ with heap := (World.holding Tryz.prog os ⟨#[], #[], []⟩).heap.modify 0 fun
      | .cells _ t frozen => .cells (globL.map fun z => Value.int .u32 z).toArray t frozen
      | o => o }
set_option maxRecDepth 100000 in
theorem fnExactBlockOk_met (os : Os) : laidMet Tryz.prog Rows.fnExactBlockOkRow.laid ((fnExactBlockOk_world os).forCall (fun _ _ => 0) ⟨#[], #[.agg #[.int .i64 0, .int .i64 0, .string ByteArray.empty, .string ByteArray.empty, .string ByteArray.empty, .string ByteArray.empty, .slice none 0 0, .slice none 0 0, .int .i64 0, .int .i64 0, .string ByteArray.empty, .slice none 0 0]], []⟩).memory := laidMet_of_run' 8 (by kernel_rfl) (by kernel_rfl)
set_option maxRecDepth 100000 in
theorem fnExactBlockOk_reads (os : Os) {H : Type} (enc : TypeId × Value → H) : ∃ x, DataW.whole enc Tryz.prog ((fnExactBlockOk_world os).forCall (fun _ _ => 0) ⟨#[], #[.agg #[.int .i64 0, .int .i64 0, .string ByteArray.empty, .string ByteArray.empty, .string ByteArray.empty, .string ByteArray.empty, .slice none 0 0, .slice none 0 0, .int .i64 0, .int .i64 0, .string ByteArray.empty, .slice none 0 0]], []⟩).memory Tryz.f5.params.toList Rows.fnExactBlockOkSpec.vars false #[.agg #[.int .i64 0, .int .i64 0, .string ByteArray.empty, .string ByteArray.empty, .string ByteArray.empty, .string ByteArray.empty, .slice none 0 0, .slice none 0 0, .int .i64 0, .int .i64 0, .string ByteArray.empty, .slice none 0 0]].toList 8 = some x := Option.isSome_iff_exists.1 (by kernel_rfl)
set_option maxRecDepth 100000 in
theorem fnExactBlockOk_lifted (os : Os) (started : os.Started) (H : Type) (enc : TypeId × Value → H) (F : Stop.Interp) :
    ReturnsInHanded {} Tryz.checked os 5 .any ((OpenSpec.ofChange Rows.fnExactBlockOkSpec).preRow enc Tryz.prog Tryz.f5 Rows.fnExactBlockOkRow.domain false Rows.fnExactBlockOkRow.laid) (((OpenSpec.ofChange Rows.fnExactBlockOkSpec).at F).post enc Tryz.prog Tryz.f5 false true false false) := by
  obtain ⟨x, hx⟩ := fnExactBlockOk_reads os enc
  refine returnsInHanded_of_row (C := Tryz.checked) (s := OpenSpec.ofChange Rows.fnExactBlockOkSpec) (by kernel_rfl) started (by kernel_rfl) Tryz.func5
    (witness_row_at (enc := enc) (C := Tryz.checked) false (fnExactBlockOk_world os) #[.agg #[.int .i64 0, .int .i64 0, .string ByteArray.empty, .string ByteArray.empty, .string ByteArray.empty, .string ByteArray.empty, .slice none 0 0, .slice none 0 0, .int .i64 0, .int .i64 0, .string ByteArray.empty, .slice none 0 0]] rfl (by kernel_rfl) (by kernel_rfl) (by kernel_rfl)
      (OpenSpec.preRow_of_cond 8 hx rfl (fun k hk => by cases hk) (by kernel_rfl) (fnExactBlockOk_met os))) ?_
  intro W base args ds gs before hval hW _ _ _ hL _ _
  have hgl : gs.length = 1 := by obtain ⟨_, _, _, hV, _⟩ := hW; exact trodVars_length hV
  refine law_postV (s := Rows.fnExactBlockOkSpec) (by kernel_rfl) (by kernel_rfl) Tryz.underlying4 (by kernel_rfl) (by kernel_rfl) (by intro ds gs hl hl2; match ds, hl, gs, hl2 with | [d0], _, [g], _ => exact ⟨rfl, rfl, rfl⟩) hgl hW ?_
  obtain ⟨p, q, hA, _⟩ := hW
  have hA' : DataW.TrodAll enc Tryz.prog W 0 (fun _ => true) true Tryz.f5.params.toList args.toList ds p := hA
  have hval' : ∀ (j : Nat) t v, Tryz.f5.params[j]? = some t → args[j]? = some v → Value.okWide Tryz.prog W .any base t v := hval
  rw [Tryz.params5] at hA' hval'
  exact fnExactBlockOk_args W base args ds p (fnExactBlockOk_glob hL) hval' hA'
set_option maxRecDepth 100000 in
theorem fnExactBlockOk_said : Rows.FnExactBlockOkSaid :=
  OpenClaim.holds_of_cond 5 Tryz.f5 rfl rfl rfl rfl rfl rfl rfl ⟨rfl, rfl, rfl, rfl, rfl⟩ rfl rfl rfl rfl rfl (by kernel_rfl) Tryz.func5 (by kernel_rfl)
    (of_decide_eq_true (by kernel_rfl)) (by unfold Func.isWrapper; first | (rw [if_pos (by decide +kernel)]; kernel_rfl) | (rw [if_neg (by decide +kernel)]; exact ⟨rfl, rfl⟩))
    (fun os started H enc _ F => by rw [OpenClaim.pre_eq_preRow]; exact fnExactBlockOk_lifted os started H enc F)
theorem fnExactBlockOk_plain (f : FuncId) (fn : Func) (hf : Tryz.pinned.checked.prog.funcNamed "loop.example/g00946/laws.FnExactBlockOk" = some f) (hfn : Tryz.pinned.checked.prog.funcs[f]? = some fn) :
    false = Tryz.pinned.checked.prog.looks [] ∧ ∀ (j : Nat) t, fn.params[j]? = some t → Tryz.pinned.checked.prog.wantsStandIn t = false := by
  obtain rfl : f = 5 := Option.some.inj ((show Tryz.prog.funcNamed "loop.example/g00946/laws.FnExactBlockOk" = some 5 by kernel_rfl).symm.trans hf) |>.symm
  obtain rfl : fn = Tryz.f5 := (Option.some.inj (Tryz.func5.symm.trans hfn)).symm
  refine ⟨by kernel_rfl, fun j t ht => ?_⟩
  have hm : t ∈ Tryz.f5.params.toList := by simpa using Array.mem_of_getElem? ht
  have hall : (Tryz.f5.params.toList.all fun u => !Tryz.prog.wantsStandIn u) = true := by kernel_rfl
  exact (show Tryz.prog.wantsStandIn t = false by simpa using List.all_eq_true.1 hall t hm)
theorem fnExactBlockOk_holds : Rows.FnExactBlockOkCardSaid :=
  Claim7.holds_tied_plain_at .later [] _ _ _ _ fnExactBlockOk_said (fun _ h => by cases h) (by kernel_rfl) (fun _ h => by cases h) fnExactBlockOk_row_tie rfl ⟨rfl, rfl⟩ (by kernel_rfl) rfl fnExactBlockOk_plain (by kernel_rfl)
#print axioms fnExactBlockOk_holds
end Go.Proofs.YtgcelmnmalfpcaaGreatDoor
