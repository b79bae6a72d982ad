/- FnExactLanesWait: the walk of the law. Printed by a program of ours. -/
import Derived.Test.YtkbikihbomnghaaBl1
import Derived.Test.YtkbikihbomnghaaI1
namespace Go.Proofs.Ytkbikihbomnghaa
set_option linter.unusedSimpArgs false
set_option linter.unusedVariables false
open Go.RowKit Go.ChangeShapes Go.WideShapes

set_option maxRecDepth 100000 in
set_option maxHeartbeats 4000000 in
theorem fnExactLanesWait_any (x0 : GLanes) (x1 : Int) (o1 : Option Addr) (c1 : Nat) (w : World) (h0 : Rds w (encLanes x0) [.slice o1 x0.fRows.length c1, .int .i64 x0.fTurn]) (k0 : okL (encLanes x0)) (k1 : -9223372036854775808 ≤ x1 ∧ x1 ≤ 9223372036854775807) (hG : GlobW w) :
    Calls Try.prog 11 #[.agg #[.slice o1 x0.fRows.length c1, .int .i64 x0.fTurn], .int .i64 x1] w fun e w' => e = .returned (.bool true) ∧ Ext w w' := by
  have K0 := Lib.hid k0; clear k0
  obtain ⟨a0, ha0⟩ : ∃ a, a = szL (encLanes x0) := ⟨_, rfl⟩
  have HA0 := Lib.hid ha0; clear ha0
  by_cases g0 : (1048576 : Int) < (a0 : Nat)
  · have R0 := Lib.hid (szR_no g0)
    go_enter Try.func11, Try.ntmps11
    go_wp2_with fail
    (refine (szLanes_any x0 _ _ _ _ (h0.ext (by (repeat (first | (with_reducible exact Ext.refl _) | (with_reducible assumption) | (with_reducible refine Ext.alloc ?_ _) | (with_reducible refine Ext.drew ?_) | (with_reducible refine Ext.drewN ?_ _) | ((with_reducible apply Ext.setCell); (case hp => first | omega | (simp; done) | (simp; omega))) | (with_reducible refine Ext.trans ?_ (by assumption)))))) K0.out (by omega) (by omega)).mono ?_); rw [show szL (encLanes x0) = a0 from HA0.out.symm, R0.out]; rintro e w1 ⟨rfl, hb⟩; (obtain ⟨BXa0, cXa0, fXa0, lXa0⟩ := Box.after (k := w.heap.size) hb (by (repeat (first | (with_reducible assumption) | ((with_reducible apply Box.new); (first | (with_reducible rfl) | (simp; done) | (simp; omega))) | (with_reducible apply Box.alloc) | (with_reducible apply Box.drew) | (with_reducible apply Box.drewN) | (with_reducible apply Box.set) | ((with_reducible apply Box.set_ne); (case hne => first | omega | (simp; done) | (simp; omega)))))))
    have s1 := hb.size; (try simp at s1)
    have E1 : Ext w w1 := by (repeat (first | (with_reducible exact Ext.refl _) | (with_reducible assumption) | (with_reducible refine Ext.alloc ?_ _) | (with_reducible refine Ext.drew ?_) | (with_reducible refine Ext.drewN ?_ _) | ((with_reducible apply Ext.setCell); (case hp => first | omega | (simp; done) | (simp; omega))) | (with_reducible refine Ext.trans ?_ (by assumption))))
    clear hb
    go_wp2
    go_ret
    exact ⟨rfl, by (repeat (first | (with_reducible exact Ext.refl _) | (with_reducible assumption) | (with_reducible refine Ext.alloc ?_ _) | (with_reducible refine Ext.drew ?_) | (with_reducible refine Ext.drewN ?_ _) | ((with_reducible apply Ext.setCell); (case hp => first | omega | (simp; done) | (simp; omega))) | (with_reducible refine Ext.trans ?_ (by assumption))))⟩
  · have R0 := Lib.hid (szR_yes g0)
    have Z0 : Hid (szL (encLanes x0) ≤ 1048576) := Lib.hid (by have := HA0.out; omega)
    have N0 : cntT (encLanes x0) ≤ 1000000000 := by have h1 := cntT_le (encLanes x0); have h2 := cnt_Lanes x0; have h3 := Z0.out; omega
    obtain ⟨r0, hr0⟩ : ∃ r, r = (mLanesWait x0 x1) := ⟨_, rfl⟩
    have HR0 := Lib.hid hr0
    clear hr0
    go_enter Try.func11, Try.ntmps11
    go_wp2_with fail
    (refine (szLanes_any x0 _ _ _ _ (h0.ext (by (repeat (first | (with_reducible exact Ext.refl _) | (with_reducible assumption) | (with_reducible refine Ext.alloc ?_ _) | (with_reducible refine Ext.drew ?_) | (with_reducible refine Ext.drewN ?_ _) | ((with_reducible apply Ext.setCell); (case hp => first | omega | (simp; done) | (simp; omega))) | (with_reducible refine Ext.trans ?_ (by assumption)))))) K0.out (by omega) (by omega)).mono ?_); rw [show szL (encLanes x0) = a0 from HA0.out.symm, R0.out]; rintro e w1 ⟨rfl, hb⟩; (obtain ⟨BXa0, cXa0, fXa0, lXa0⟩ := Box.after (k := w.heap.size) hb (by (repeat (first | (with_reducible assumption) | ((with_reducible apply Box.new); (first | (with_reducible rfl) | (simp; done) | (simp; omega))) | (with_reducible apply Box.alloc) | (with_reducible apply Box.drew) | (with_reducible apply Box.drewN) | (with_reducible apply Box.set) | ((with_reducible apply Box.set_ne); (case hne => first | omega | (simp; done) | (simp; omega)))))))
    have s1 := hb.size; (try simp at s1)
    have E1 : Ext w w1 := by (repeat (first | (with_reducible exact Ext.refl _) | (with_reducible assumption) | (with_reducible refine Ext.alloc ?_ _) | (with_reducible refine Ext.drew ?_) | (with_reducible refine Ext.drewN ?_ _) | ((with_reducible apply Ext.setCell); (case hp => first | omega | (simp; done) | (simp; omega))) | (with_reducible refine Ext.trans ?_ (by assumption))))
    clear hb
    go_wp2_with fail
    (refine (toLanes_any x0 _ _ _ (h0.ext (by (repeat (first | (with_reducible exact Ext.refl _) | (with_reducible assumption) | (with_reducible refine Ext.alloc ?_ _) | (with_reducible refine Ext.drew ?_) | (with_reducible refine Ext.drewN ?_ _) | ((with_reducible apply Ext.setCell); (case hp => first | omega | (simp; done) | (simp; omega))) | (with_reducible refine Ext.trans ?_ (by assumption)))))) Z0.out).mono ?_); rintro e w2 ⟨pw0_1, qw0_1, rfl, O, hb⟩; (obtain ⟨BXa0, cXa0, fXa0, lXa0⟩ := Box.after (k := w.heap.size) hb (by (repeat (first | (with_reducible assumption) | ((with_reducible apply Box.new); (first | (with_reducible rfl) | (simp; done) | (simp; omega))) | (with_reducible apply Box.alloc) | (with_reducible apply Box.drew) | (with_reducible apply Box.drewN) | (with_reducible apply Box.set) | ((with_reducible apply Box.set_ne); (case hne => first | omega | (simp; done) | (simp; omega)))))))
    have s2 := hb.size; (try simp at s2)
    have E2 : Ext w w2 := by (repeat (first | (with_reducible exact Ext.refl _) | (with_reducible assumption) | (with_reducible refine Ext.alloc ?_ _) | (with_reducible refine Ext.drew ?_) | (with_reducible refine Ext.drewN ?_ _) | ((with_reducible apply Ext.setCell); (case hp => first | omega | (simp; done) | (simp; omega))) | (with_reducible refine Ext.trans ?_ (by assumption))))
    have O_tw0 : Obj w2 w1.heap.size w2.heap.size (encLanes x0) [.slice pw0_1 x0.fRows.length qw0_1, .int .i64 x0.fTurn] := Obj.mono O (by (first | omega | (simp; done) | (simp; omega))) (Nat.le_refl _)
    clear O
    clear hb E1
    go_wp2_with fail
    (refine (sLanesWait_any x0 x1 _ _ _ ((show Rds w2 (encLanes x0) [.slice pw0_1 x0.fRows.length qw0_1, .int .i64 x0.fTurn] from O_tw0.read).ext (by (repeat (first | (with_reducible exact Ext.refl _) | (with_reducible assumption) | (with_reducible refine Ext.alloc ?_ _) | (with_reducible refine Ext.drew ?_) | (with_reducible refine Ext.drewN ?_ _) | ((with_reducible apply Ext.setCell); (case hp => first | omega | (simp; done) | (simp; omega))) | (with_reducible refine Ext.trans ?_ (by assumption)))))) Z0.out K0.out k1 (hG.ext (by (repeat (first | (with_reducible exact Ext.refl _) | (with_reducible assumption) | (with_reducible refine Ext.alloc ?_ _) | (with_reducible refine Ext.drew ?_) | (with_reducible refine Ext.drewN ?_ _) | ((with_reducible apply Ext.setCell); (case hp => first | omega | (simp; done) | (simp; omega))) | (with_reducible refine Ext.trans ?_ (by assumption))))))).mono ?_); rw [show (mLanesWait x0 x1) = r0 from HR0.out.symm]; rintro e w3 ⟨rfl, hb⟩; (obtain ⟨BXa0, cXa0, fXa0, lXa0⟩ := Box.after (k := w.heap.size) hb (by (repeat (first | (with_reducible assumption) | ((with_reducible apply Box.new); (first | (with_reducible rfl) | (simp; done) | (simp; omega))) | (with_reducible apply Box.alloc) | (with_reducible apply Box.drew) | (with_reducible apply Box.drewN) | (with_reducible apply Box.set) | ((with_reducible apply Box.set_ne); (case hne => first | omega | (simp; done) | (simp; omega)))))))
    have s3 := hb.size; (try simp at s3)
    replace O_tw0 : Obj w3 w1.heap.size w2.heap.size (encLanes x0) [.slice pw0_1 x0.fRows.length qw0_1, .int .i64 x0.fTurn] := by (repeat (first | (with_reducible assumption) | (with_reducible apply Obj.alloc) | (with_reducible apply Obj.drew) | (with_reducible apply Obj.drewN) | ((with_reducible apply Obj.set); (case hk => first | omega | (simp; done) | (simp; omega) | (left; simp; omega) | (right; simp; omega))) | (with_reducible refine Obj.ext ?_ (by assumption))))
    have E3 : Ext w w3 := by (repeat (first | (with_reducible exact Ext.refl _) | (with_reducible assumption) | (with_reducible refine Ext.alloc ?_ _) | (with_reducible refine Ext.drew ?_) | (with_reducible refine Ext.drewN ?_ _) | ((with_reducible apply Ext.setCell); (case hp => first | omega | (simp; done) | (simp; omega))) | (with_reducible refine Ext.trans ?_ (by assumption))))
    clear hb E2
    clear O_tw0
    go_wp2_with fail
    (refine (toLanes_any x0 _ _ _ (h0.ext (by (repeat (first | (with_reducible exact Ext.refl _) | (with_reducible assumption) | (with_reducible refine Ext.alloc ?_ _) | (with_reducible refine Ext.drew ?_) | (with_reducible refine Ext.drewN ?_ _) | ((with_reducible apply Ext.setCell); (case hp => first | omega | (simp; done) | (simp; omega))) | (with_reducible refine Ext.trans ?_ (by assumption)))))) Z0.out).mono ?_); rintro e w4 ⟨px0_1, qx0_1, rfl, O, hb⟩; (obtain ⟨BXa0, cXa0, fXa0, lXa0⟩ := Box.after (k := w.heap.size) hb (by (repeat (first | (with_reducible assumption) | ((with_reducible apply Box.new); (first | (with_reducible rfl) | (simp; done) | (simp; omega))) | (with_reducible apply Box.alloc) | (with_reducible apply Box.drew) | (with_reducible apply Box.drewN) | (with_reducible apply Box.set) | ((with_reducible apply Box.set_ne); (case hne => first | omega | (simp; done) | (simp; omega)))))))
    have s4 := hb.size; (try simp at s4)
    have E4 : Ext w w4 := by (repeat (first | (with_reducible exact Ext.refl _) | (with_reducible assumption) | (with_reducible refine Ext.alloc ?_ _) | (with_reducible refine Ext.drew ?_) | (with_reducible refine Ext.drewN ?_ _) | ((with_reducible apply Ext.setCell); (case hp => first | omega | (simp; done) | (simp; omega))) | (with_reducible refine Ext.trans ?_ (by assumption))))
    have O_x0 : Obj w4 w3.heap.size w4.heap.size (encLanes x0) [.slice px0_1 x0.fRows.length qx0_1, .int .i64 x0.fTurn] := Obj.mono O (by (first | omega | (simp; done) | (simp; omega))) (Nat.le_refl _)
    clear O
    clear hb E3
    go_wp2_with fail
    (refine (iLanesWait_any x0 x1 _ _ _ ((show Rds w4 (encLanes x0) [.slice px0_1 x0.fRows.length qx0_1, .int .i64 x0.fTurn] from O_x0.read).ext (by (repeat (first | (with_reducible exact Ext.refl _) | (with_reducible assumption) | (with_reducible refine Ext.alloc ?_ _) | (with_reducible refine Ext.drew ?_) | (with_reducible refine Ext.drewN ?_ _) | ((with_reducible apply Ext.setCell); (case hp => first | omega | (simp; done) | (simp; omega))) | (with_reducible refine Ext.trans ?_ (by assumption)))))) Z0.out K0.out k1 (hG.ext (by (repeat (first | (with_reducible exact Ext.refl _) | (with_reducible assumption) | (with_reducible refine Ext.alloc ?_ _) | (with_reducible refine Ext.drew ?_) | (with_reducible refine Ext.drewN ?_ _) | ((with_reducible apply Ext.setCell); (case hp => first | omega | (simp; done) | (simp; omega))) | (with_reducible refine Ext.trans ?_ (by assumption))))))).mono ?_); rw [show (mLanesWait x0 x1) = r0 from HR0.out.symm]; rintro e w5 ⟨rfl, hb⟩; (obtain ⟨BXa0, cXa0, fXa0, lXa0⟩ := Box.after (k := w.heap.size) hb (by (repeat (first | (with_reducible assumption) | ((with_reducible apply Box.new); (first | (with_reducible rfl) | (simp; done) | (simp; omega))) | (with_reducible apply Box.alloc) | (with_reducible apply Box.drew) | (with_reducible apply Box.drewN) | (with_reducible apply Box.set) | ((with_reducible apply Box.set_ne); (case hne => first | omega | (simp; done) | (simp; omega))))))); (obtain ⟨BXx0, cXx0, fXx0, lXx0⟩ := Box.after (k := w4.heap.size) hb (by (repeat (first | (with_reducible assumption) | ((with_reducible apply Box.new); (first | (with_reducible rfl) | (simp; done) | (simp; omega))) | (with_reducible apply Box.alloc) | (with_reducible apply Box.drew) | (with_reducible apply Box.drewN) | (with_reducible apply Box.set) | ((with_reducible apply Box.set_ne); (case hne => first | omega | (simp; done) | (simp; omega)))))))
    have s5 := hb.size; (try simp at s5)
    replace O_x0 : Obj w5 w3.heap.size w4.heap.size (encLanes x0) [.slice px0_1 x0.fRows.length qx0_1, .int .i64 x0.fTurn] := by (repeat (first | (with_reducible assumption) | (with_reducible apply Obj.alloc) | (with_reducible apply Obj.drew) | (with_reducible apply Obj.drewN) | ((with_reducible apply Obj.set); (case hk => first | omega | (simp; done) | (simp; omega) | (left; simp; omega) | (right; simp; omega))) | (with_reducible refine Obj.ext ?_ (by assumption))))
    have E5 : Ext w w5 := by (repeat (first | (with_reducible exact Ext.refl _) | (with_reducible assumption) | (with_reducible refine Ext.alloc ?_ _) | (with_reducible refine Ext.drew ?_) | (with_reducible refine Ext.drewN ?_ _) | ((with_reducible apply Ext.setCell); (case hp => first | omega | (simp; done) | (simp; omega))) | (with_reducible refine Ext.trans ?_ (by assumption))))
    clear hb E4
    have S_x0 := Lib.hid (Obj.read O_x0)
    have F_x0 := Lib.hid E5
    go_wp2_with fail
    go_region_held3 (fun w' => w'.cell? ⟨w.heap.size, 0, none⟩ = some (.slice o1 x0.fRows.length c1) ∧ w'.cell? ⟨w.heap.size, 1, none⟩ = some (.int .i64 x0.fTurn) ∧ w'.cell? ⟨w4.heap.size, 0, none⟩ = some (.slice px0_1 x0.fRows.length qx0_1) ∧ w'.cell? ⟨w4.heap.size, 1, none⟩ = some (.int .i64 x0.fTurn)) ((first | go_keep | ((try dsimp only); (try go_split_ands); (repeat' apply And.intro) <;> exact hb.cellSome (by assumption))))
      (first | (go_at_call 62; refine (toLanes_any x0 _ _ _ (h0.ext (by (repeat (first | (with_reducible exact Ext.refl _) | (with_reducible assumption) | (with_reducible refine Ext.alloc ?_ _) | (with_reducible refine Ext.drew ?_) | (with_reducible refine Ext.drewN ?_ _) | ((with_reducible apply Ext.setCell); (case hp => first | omega | (simp; done) | (simp; omega))) | (with_reducible refine Ext.trans ?_ (by assumption)))))) Z0.out).mono ?_; rintro e w6 ⟨pt_1, qt_1, rfl, O, hb⟩) | (go_at_call 63; refine (eqLanes_any x0 _ _ _ _ _ (S_x0.out.ext (by (repeat (first | (with_reducible exact Ext.refl _) | (with_reducible assumption) | (with_reducible refine Ext.alloc ?_ _) | (with_reducible refine Ext.drew ?_) | (with_reducible refine Ext.drewN ?_ _) | ((with_reducible apply Ext.setCell); (case hp => first | omega | (simp; done) | (simp; omega))) | (with_reducible refine Ext.trans ?_ (by assumption)))))) (O.read.ext (by (repeat (first | (with_reducible exact Ext.refl _) | (with_reducible assumption) | (with_reducible refine Ext.alloc ?_ _) | (with_reducible refine Ext.drew ?_) | (with_reducible refine Ext.drewN ?_ _) | ((with_reducible apply Ext.setCell); (case hp => first | omega | (simp; done) | (simp; omega))) | (with_reducible refine Ext.trans ?_ (by assumption))))))).mono ?_; rintro e w7 ⟨rfl, hb⟩))
    all_goals
      have hbb : Ext w5 w7 := by (repeat (first | (with_reducible exact Ext.refl _) | (with_reducible assumption) | (with_reducible refine Ext.alloc ?_ _) | (with_reducible refine Ext.drew ?_) | (with_reducible refine Ext.drewN ?_ _) | ((with_reducible apply Ext.setCell); (case hp => first | omega | (simp; done) | (simp; omega))) | (with_reducible refine Ext.trans ?_ (by assumption))))
      have E7 : Ext w w7 := Ext.trans F_x0.out hbb
      clear hb O; have hb := hbb; clear hbb E5
      (obtain ⟨BXa0, cXa0, fXa0, lXa0⟩ := Box.after (k := w.heap.size) hb (by (repeat (first | (with_reducible assumption) | ((with_reducible apply Box.new); (first | (with_reducible rfl) | (simp; done) | (simp; omega))) | (with_reducible apply Box.alloc) | (with_reducible apply Box.drew) | (with_reducible apply Box.drewN) | (with_reducible apply Box.set) | ((with_reducible apply Box.set_ne); (case hne => first | omega | (simp; done) | (simp; omega)))))))
      (obtain ⟨BXx0, cXx0, fXx0, lXx0⟩ := Box.after (k := w4.heap.size) hb (by (repeat (first | (with_reducible assumption) | ((with_reducible apply Box.new); (first | (with_reducible rfl) | (simp; done) | (simp; omega))) | (with_reducible apply Box.alloc) | (with_reducible apply Box.drew) | (with_reducible apply Box.drewN) | (with_reducible apply Box.set) | ((with_reducible apply Box.set_ne); (case hne => first | omega | (simp; done) | (simp; omega)))))))
      have s7 := hb.size
      replace O_x0 : Obj w7 w3.heap.size w4.heap.size (encLanes x0) [.slice px0_1 x0.fRows.length qx0_1, .int .i64 x0.fTurn] := by (repeat (first | (with_reducible assumption) | (with_reducible apply Obj.alloc) | (with_reducible apply Obj.drew) | (with_reducible apply Obj.drewN) | ((with_reducible apply Obj.set); (case hk => first | omega | (simp; done) | (simp; omega) | (left; simp; omega) | (right; simp; omega))) | (with_reducible refine Obj.ext ?_ (by assumption))))
      clear hb S_x0 F_x0
      go_wp2
      go_ret
      exact ⟨rfl, by (repeat (first | (with_reducible exact Ext.refl _) | (with_reducible assumption) | (with_reducible refine Ext.alloc ?_ _) | (with_reducible refine Ext.drew ?_) | (with_reducible refine Ext.drewN ?_ _) | ((with_reducible apply Ext.setCell); (case hp => first | omega | (simp; done) | (simp; omega))) | (with_reducible refine Ext.trans ?_ (by assumption))))⟩

set_option maxRecDepth 100000 in
theorem fnExactLanesWait_args {H : Type} {enc : TypeId × Value → H} (W : World) (base : Nat) (args : Array Value) (ds : List (DataW H)) (p : List MemPlace) (hG : GlobW W)
    (hval : ∀ (j : Nat) t v, #[88, 3][j]? = some t → args[j]? = some v → Value.okWide Try.prog W .any base t v)
    (hA : DataW.TrodAll enc Try.prog W 0 (fun _ => true) true #[88, 3].toList args.toList ds p) :
    Calls Try.prog 11 args W fun e W' => e = .returned (.bool true) ∧ Ext W W' := by
  obtain ⟨v0, v1, d0, d1, p0, p1, rfl, rfl, rfl, h0, h1⟩ := trodAll_two hA
  obtain ⟨cs0, rfl, e0⟩ := read_struct Try.underlying88 (n := 8) (ss := [.sl [.sl [.int .i64]], .int .i64]) (by kernel_rfl) (hval 0 _ _ rfl rfl) h0
  obtain ⟨x0, r0, k0⟩ := dec_Lanes _ _ _ e0
  have q0 := r0
  obtain ⟨_, l0_0, e0_0, b0_0, q0⟩ := rds_slD.1 q0
  obtain ⟨o1, c1, rfl⟩ := RS.val b0_0
  obtain ⟨l0_1, e0_1, q0⟩ := rds_int.1 q0
  have z0 := rds_nil.1 q0
  subst z0
  subst e0_1
  obtain rfl : cs0 = #[.slice o1 x0.fRows.length c1, .int .i64 x0.fTurn] := by rw [← Array.toArray_toList (xs := cs0), e0_0]
  obtain ⟨x1, rfl, u1⟩ := read_int Try.underlying3 (hval 1 _ _ rfl rfl) h1
  exact fnExactLanesWait_any x0 x1 o1 c1 W r0 k0 (wf_bd u1) hG
end Go.Proofs.Ytkbikihbomnghaa
