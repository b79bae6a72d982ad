/- FnExactChainOk: whatever the input, the call returns true and every argument reads afterwards as it read before. No condition. -/
import Derived.Test.YtgcelmnmalfpcaaGreatDoorQA6
import Derived.Test.YtgcelmnmalfpcaaGreatDoorCards
import Derived.Test.YtgcelmnmalfpcaaGreatDoorTie
import Derived.Deep.DeepHandedRow
import Derived.JoinedOf
import Derived.Handed
namespace Go.Proofs.YtgcelmnmalfpcaaGreatDoor
set_option linter.unusedSimpArgs false
set_option linter.unusedVariables false
open Go.RowKit Go.ChangeShapes Go.WideShapes
set_option maxRecDepth 100000 in
set_option maxHeartbeats 4000000 in
theorem fnExactChainOk_any (x0 : (List GBlock)) (o1 : Option Addr) (c1 : Nat) (w : World) (h0 : RL 70 12 encBlock w (.slice o1 x0.length c1) x0) (k0 : okL ([slD 70 12 encBlock x0])) (hG : GlobW w) :
    Calls Tryz.prog 6 #[.slice o1 x0.length c1] w fun e w' => e = .returned (.bool true) ∧ Ext w w' := by
  have K0 := Lib.hid k0; clear k0
  obtain ⟨a0, ha0⟩ : ∃ a, a = szL ([slD 70 12 encBlock x0]) := ⟨_, rfl⟩
  have HA0 := Lib.hid ha0; clear ha0
  by_cases g0 : (1048576 : Int) < (a0 : Nat)
  · have R0 := Lib.hid (szR_no g0)
    go_enter Tryz.func6, Tryz.ntmps6
    go_wp2_with fail
    (refine (szBlockS_any _ x0 _ _ (RS.ext h0 (by (repeat (first | (with_reducible exact Ext.refl _) | (with_reducible assumption) | (with_reducible refine Ext.alloc ?_ _) | (with_reducible refine Ext.drew ?_) | (with_reducible refine Ext.drewN ?_ _) | ((with_reducible apply Ext.setCell); (case hp => first | omega | (simp; done) | (simp; omega))) | (with_reducible refine Ext.trans ?_ (by assumption)))))) K0.out (by omega) (by omega)).mono ?_); rw [show szL ([slD 70 12 encBlock x0]) = a0 from HA0.out.symm, R0.out]; rintro e w1 ⟨rfl, hb⟩
    have s1 := hb.size; (try simp at s1)
    have E1 : Ext w w1 := by (repeat (first | (with_reducible exact Ext.refl _) | (with_reducible assumption) | (with_reducible refine Ext.alloc ?_ _) | (with_reducible refine Ext.drew ?_) | (with_reducible refine Ext.drewN ?_ _) | ((with_reducible apply Ext.setCell); (case hp => first | omega | (simp; done) | (simp; omega))) | (with_reducible refine Ext.trans ?_ (by assumption))))
    clear hb
    go_wp2
    go_ret
    exact ⟨rfl, by (repeat (first | (with_reducible exact Ext.refl _) | (with_reducible assumption) | (with_reducible refine Ext.alloc ?_ _) | (with_reducible refine Ext.drew ?_) | (with_reducible refine Ext.drewN ?_ _) | ((with_reducible apply Ext.setCell); (case hp => first | omega | (simp; done) | (simp; omega))) | (with_reducible refine Ext.trans ?_ (by assumption))))⟩
  · have R0 := Lib.hid (szR_yes g0)
    have Z0 : Hid (szL ([slD 70 12 encBlock x0]) ≤ 1048576) := Lib.hid (by have := HA0.out; omega)
    have N0 : cnt (x0.flatMap encBlock) ≤ 1000000000 := by have h2 := cnt_list cnt_Block x0; have h3 := Z0.out; simp only [slD, szL] at h3; omega
    obtain ⟨r0, hr0⟩ : ∃ r, r = (mChainOk x0) := ⟨_, rfl⟩
    have HR0 := Lib.hid hr0
    clear hr0
    go_enter Tryz.func6, Tryz.ntmps6
    go_wp2_with fail
    (refine (szBlockS_any _ x0 _ _ (RS.ext h0 (by (repeat (first | (with_reducible exact Ext.refl _) | (with_reducible assumption) | (with_reducible refine Ext.alloc ?_ _) | (with_reducible refine Ext.drew ?_) | (with_reducible refine Ext.drewN ?_ _) | ((with_reducible apply Ext.setCell); (case hp => first | omega | (simp; done) | (simp; omega))) | (with_reducible refine Ext.trans ?_ (by assumption)))))) K0.out (by omega) (by omega)).mono ?_); rw [show szL ([slD 70 12 encBlock x0]) = a0 from HA0.out.symm, R0.out]; rintro e w1 ⟨rfl, hb⟩
    have s1 := hb.size; (try simp at s1)
    have E1 : Ext w w1 := by (repeat (first | (with_reducible exact Ext.refl _) | (with_reducible assumption) | (with_reducible refine Ext.alloc ?_ _) | (with_reducible refine Ext.drew ?_) | (with_reducible refine Ext.drewN ?_ _) | ((with_reducible apply Ext.setCell); (case hp => first | omega | (simp; done) | (simp; omega))) | (with_reducible refine Ext.trans ?_ (by assumption))))
    clear hb
    go_wp2_with fail
    (refine (toBlockS_any _ x0 _ (RS.ext h0 (by (repeat (first | (with_reducible exact Ext.refl _) | (with_reducible assumption) | (with_reducible refine Ext.alloc ?_ _) | (with_reducible refine Ext.drew ?_) | (with_reducible refine Ext.drewN ?_ _) | ((with_reducible apply Ext.setCell); (case hp => first | omega | (simp; done) | (simp; omega))) | (with_reducible refine Ext.trans ?_ (by assumption)))))) Z0.out).mono ?_); rintro e w2 ⟨pw0_1, qw0_1, rfl, O, hb⟩
    have s2 := hb.size; (try simp at s2)
    have E2 : Ext w w2 := by (repeat (first | (with_reducible exact Ext.refl _) | (with_reducible assumption) | (with_reducible refine Ext.alloc ?_ _) | (with_reducible refine Ext.drew ?_) | (with_reducible refine Ext.drewN ?_ _) | ((with_reducible apply Ext.setCell); (case hp => first | omega | (simp; done) | (simp; omega))) | (with_reducible refine Ext.trans ?_ (by assumption))))
    have O_tw0 : Obj w2 w1.heap.size w2.heap.size ([slD 70 12 encBlock x0]) [.slice pw0_1 x0.length qw0_1] := Obj.mono O (by (first | omega | (simp; done) | (simp; omega))) (Nat.le_refl _)
    clear O
    clear hb E1
    go_wp2_with fail
    (refine (sChainOk_any x0 _ _ _ ((show Rds w2 ([slD 70 12 encBlock x0]) [.slice pw0_1 x0.length qw0_1] from O_tw0.read).ext (by (repeat (first | (with_reducible exact Ext.refl _) | (with_reducible assumption) | (with_reducible refine Ext.alloc ?_ _) | (with_reducible refine Ext.drew ?_) | (with_reducible refine Ext.drewN ?_ _) | ((with_reducible apply Ext.setCell); (case hp => first | omega | (simp; done) | (simp; omega))) | (with_reducible refine Ext.trans ?_ (by assumption)))))) Z0.out K0.out (hG.ext (by (repeat (first | (with_reducible exact Ext.refl _) | (with_reducible assumption) | (with_reducible refine Ext.alloc ?_ _) | (with_reducible refine Ext.drew ?_) | (with_reducible refine Ext.drewN ?_ _) | ((with_reducible apply Ext.setCell); (case hp => first | omega | (simp; done) | (simp; omega))) | (with_reducible refine Ext.trans ?_ (by assumption))))))).mono ?_); rw [show (mChainOk x0) = r0 from HR0.out.symm]; rintro e w3 ⟨rfl, hb⟩
    have s3 := hb.size; (try simp at s3)
    replace O_tw0 : Obj w3 w1.heap.size w2.heap.size ([slD 70 12 encBlock x0]) [.slice pw0_1 x0.length qw0_1] := by (repeat (first | (with_reducible assumption) | (with_reducible apply Obj.alloc) | (with_reducible apply Obj.drew) | (with_reducible apply Obj.drewN) | ((with_reducible apply Obj.set); (case hk => first | omega | (simp; done) | (simp; omega) | (left; simp; omega) | (right; simp; omega))) | (with_reducible refine Obj.ext ?_ (by assumption))))
    have E3 : Ext w w3 := by (repeat (first | (with_reducible exact Ext.refl _) | (with_reducible assumption) | (with_reducible refine Ext.alloc ?_ _) | (with_reducible refine Ext.drew ?_) | (with_reducible refine Ext.drewN ?_ _) | ((with_reducible apply Ext.setCell); (case hp => first | omega | (simp; done) | (simp; omega))) | (with_reducible refine Ext.trans ?_ (by assumption))))
    clear hb E2
    clear O_tw0
    go_wp2_with fail
    (refine (toBlockS_any _ x0 _ (RS.ext h0 (by (repeat (first | (with_reducible exact Ext.refl _) | (with_reducible assumption) | (with_reducible refine Ext.alloc ?_ _) | (with_reducible refine Ext.drew ?_) | (with_reducible refine Ext.drewN ?_ _) | ((with_reducible apply Ext.setCell); (case hp => first | omega | (simp; done) | (simp; omega))) | (with_reducible refine Ext.trans ?_ (by assumption)))))) Z0.out).mono ?_); rintro e w4 ⟨px0_1, qx0_1, rfl, O, hb⟩
    have s4 := hb.size; (try simp at s4)
    have E4 : Ext w w4 := by (repeat (first | (with_reducible exact Ext.refl _) | (with_reducible assumption) | (with_reducible refine Ext.alloc ?_ _) | (with_reducible refine Ext.drew ?_) | (with_reducible refine Ext.drewN ?_ _) | ((with_reducible apply Ext.setCell); (case hp => first | omega | (simp; done) | (simp; omega))) | (with_reducible refine Ext.trans ?_ (by assumption))))
    have O_x0 : Obj w4 w3.heap.size w4.heap.size ([slD 70 12 encBlock x0]) [.slice px0_1 x0.length qx0_1] := Obj.mono O (by (first | omega | (simp; done) | (simp; omega))) (Nat.le_refl _)
    clear O
    clear hb E3
    go_wp2_with fail
    (refine (iChainOk_any x0 _ _ _ ((show Rds w4 ([slD 70 12 encBlock x0]) [.slice px0_1 x0.length qx0_1] from O_x0.read).ext (by (repeat (first | (with_reducible exact Ext.refl _) | (with_reducible assumption) | (with_reducible refine Ext.alloc ?_ _) | (with_reducible refine Ext.drew ?_) | (with_reducible refine Ext.drewN ?_ _) | ((with_reducible apply Ext.setCell); (case hp => first | omega | (simp; done) | (simp; omega))) | (with_reducible refine Ext.trans ?_ (by assumption)))))) Z0.out K0.out (hG.ext (by (repeat (first | (with_reducible exact Ext.refl _) | (with_reducible assumption) | (with_reducible refine Ext.alloc ?_ _) | (with_reducible refine Ext.drew ?_) | (with_reducible refine Ext.drewN ?_ _) | ((with_reducible apply Ext.setCell); (case hp => first | omega | (simp; done) | (simp; omega))) | (with_reducible refine Ext.trans ?_ (by assumption))))))).mono ?_); rw [show (mChainOk x0) = r0 from HR0.out.symm]; rintro e w5 ⟨rfl, hb⟩
    have s5 := hb.size; (try simp at s5)
    replace O_x0 : Obj w5 w3.heap.size w4.heap.size ([slD 70 12 encBlock x0]) [.slice px0_1 x0.length qx0_1] := by (repeat (first | (with_reducible assumption) | (with_reducible apply Obj.alloc) | (with_reducible apply Obj.drew) | (with_reducible apply Obj.drewN) | ((with_reducible apply Obj.set); (case hk => first | omega | (simp; done) | (simp; omega) | (left; simp; omega) | (right; simp; omega))) | (with_reducible refine Obj.ext ?_ (by assumption))))
    have E5 : Ext w w5 := by (repeat (first | (with_reducible exact Ext.refl _) | (with_reducible assumption) | (with_reducible refine Ext.alloc ?_ _) | (with_reducible refine Ext.drew ?_) | (with_reducible refine Ext.drewN ?_ _) | ((with_reducible apply Ext.setCell); (case hp => first | omega | (simp; done) | (simp; omega))) | (with_reducible refine Ext.trans ?_ (by assumption))))
    clear hb E4
    go_wp2_with fail
    (refine (toBlockS_any _ x0 _ (RS.ext h0 (by (repeat (first | (with_reducible exact Ext.refl _) | (with_reducible assumption) | (with_reducible refine Ext.alloc ?_ _) | (with_reducible refine Ext.drew ?_) | (with_reducible refine Ext.drewN ?_ _) | ((with_reducible apply Ext.setCell); (case hp => first | omega | (simp; done) | (simp; omega))) | (with_reducible refine Ext.trans ?_ (by assumption)))))) Z0.out).mono ?_); rintro e w6 ⟨pt_1, qt_1, rfl, O, hb⟩
    have s6 := hb.size; (try simp at s6)
    replace O_x0 : Obj w6 w3.heap.size w4.heap.size ([slD 70 12 encBlock x0]) [.slice px0_1 x0.length qx0_1] := by (repeat (first | (with_reducible assumption) | (with_reducible apply Obj.alloc) | (with_reducible apply Obj.drew) | (with_reducible apply Obj.drewN) | ((with_reducible apply Obj.set); (case hk => first | omega | (simp; done) | (simp; omega) | (left; simp; omega) | (right; simp; omega))) | (with_reducible refine Obj.ext ?_ (by assumption))))
    have E6 : Ext w w6 := by (repeat (first | (with_reducible exact Ext.refl _) | (with_reducible assumption) | (with_reducible refine Ext.alloc ?_ _) | (with_reducible refine Ext.drew ?_) | (with_reducible refine Ext.drewN ?_ _) | ((with_reducible apply Ext.setCell); (case hp => first | omega | (simp; done) | (simp; omega))) | (with_reducible refine Ext.trans ?_ (by assumption))))
    have O_t : Obj w6 w5.heap.size w6.heap.size ([slD 70 12 encBlock x0]) [.slice pt_1 x0.length qt_1] := Obj.mono O (by (first | omega | (simp; done) | (simp; omega))) (Nat.le_refl _)
    clear O
    clear hb E5
    go_wp2_with fail
    (refine (eqBlockS_any _ _ x0 _ (Rds.ext (Obj.read O_x0) (by (repeat (first | (with_reducible exact Ext.refl _) | (with_reducible assumption) | (with_reducible refine Ext.alloc ?_ _) | (with_reducible refine Ext.drew ?_) | (with_reducible refine Ext.drewN ?_ _) | ((with_reducible apply Ext.setCell); (case hp => first | omega | (simp; done) | (simp; omega))) | (with_reducible refine Ext.trans ?_ (by assumption)))))) (Rds.ext (Obj.read O_t) (by (repeat (first | (with_reducible exact Ext.refl _) | (with_reducible assumption) | (with_reducible refine Ext.alloc ?_ _) | (with_reducible refine Ext.drew ?_) | (with_reducible refine Ext.drewN ?_ _) | ((with_reducible apply Ext.setCell); (case hp => first | omega | (simp; done) | (simp; omega))) | (with_reducible refine Ext.trans ?_ (by assumption))))))).mono ?_); rintro e w7 ⟨rfl, hb⟩
    have s7 := hb.size; (try simp at s7)
    replace O_x0 : Obj w7 w3.heap.size w4.heap.size ([slD 70 12 encBlock x0]) [.slice px0_1 x0.length qx0_1] := by (repeat (first | (with_reducible assumption) | (with_reducible apply Obj.alloc) | (with_reducible apply Obj.drew) | (with_reducible apply Obj.drewN) | ((with_reducible apply Obj.set); (case hk => first | omega | (simp; done) | (simp; omega) | (left; simp; omega) | (right; simp; omega))) | (with_reducible refine Obj.ext ?_ (by assumption))))
    replace O_t : Obj w7 w5.heap.size w6.heap.size ([slD 70 12 encBlock x0]) [.slice pt_1 x0.length qt_1] := by (repeat (first | (with_reducible assumption) | (with_reducible apply Obj.alloc) | (with_reducible apply Obj.drew) | (with_reducible apply Obj.drewN) | ((with_reducible apply Obj.set); (case hk => first | omega | (simp; done) | (simp; omega) | (left; simp; omega) | (right; simp; omega))) | (with_reducible refine Obj.ext ?_ (by assumption))))
    have E7 : Ext w w7 := by (repeat (first | (with_reducible exact Ext.refl _) | (with_reducible assumption) | (with_reducible refine Ext.alloc ?_ _) | (with_reducible refine Ext.drew ?_) | (with_reducible refine Ext.drewN ?_ _) | ((with_reducible apply Ext.setCell); (case hp => first | omega | (simp; done) | (simp; omega))) | (with_reducible refine Ext.trans ?_ (by assumption))))
    clear hb E6
    clear O_t
    go_wp2
    go_ret
    exact ⟨rfl, by (repeat (first | (with_reducible exact Ext.refl _) | (with_reducible assumption) | (with_reducible refine Ext.alloc ?_ _) | (with_reducible refine Ext.drew ?_) | (with_reducible refine Ext.drewN ?_ _) | ((with_reducible apply Ext.setCell); (case hp => first | omega | (simp; done) | (simp; omega))) | (with_reducible refine Ext.trans ?_ (by assumption))))⟩
set_option maxRecDepth 100000 in
theorem fnExactChainOk_args {H : Type} {enc : TypeId × Value → H} (W : World) (base : Nat) (args : Array Value) (ds : List (DataW H)) (p : List MemPlace) (hG : GlobW W)
    (hval : ∀ (j : Nat) t v, #[74][j]? = some t → args[j]? = some v → Value.okWide Tryz.prog W .any base t v)
    (hA : DataW.TrodAll enc Tryz.prog W 0 (fun _ => true) true #[74].toList args.toList ds p) :
    Calls Tryz.prog 6 args W fun e W' => e = .returned (.bool true) ∧ Ext W W' := by
  obtain ⟨v0, d0, rfl, rfl, h0⟩ := trodAll_one hA
  have e0 := read_slice Tryz.underlying74 (n := 8) (s := .sl [.int .i64, .int .i64, .str, .str, .str, .str, .sl [.int .i64, .int .i64], .sl [.int .i64, .int .i64], .int .i64, .int .i64, .str, .sl [.int .i64, .str]]) (by kernel_rfl) (hval 0 _ _ rfl rfl) h0
  obtain ⟨x0, r0, k0⟩ := dec_sl 70 dec_Block (fun _ => rfl) (by decide) e0
  obtain ⟨o1, c1, rfl⟩ := RS.val r0
  exact fnExactChainOk_any x0 o1 c1 W r0 k0 hG
end Go.Proofs.YtgcelmnmalfpcaaGreatDoor
namespace Go.Proofs.YtgcelmnmalfpcaaGreatDoor
set_option linter.unusedSimpArgs false
set_option linter.unusedVariables false
open Go.RowKit Go.ChangeShapes Go.WideShapes Go.ChangeAt
theorem fnExactChainOk_gTab : Tryz.prog.globalNamed "loop.example/g00946/impl.shaWords" = some 0 := by kernel_rfl
theorem fnExactChainOk_gTy : (Tryz.prog.globals[0]?).map (·.type) = some 237 := by kernel_rfl
theorem fnExactChainOk_glob {W : World} (h : laidMetH Tryz.prog Rows.fnExactChainOkRow.laid W) : GlobW W := fun i n q => by
  have t : Lib.TabIs Tryz.prog W "loop.example/g00946/impl.shaWords" .u32 globL := Lib.tabIs_of_head (rest := []) fnExactChainOk_gTab fnExactChainOk_gTy Tryz.underlying237 Tryz.underlying221 (by kernel_rfl) (by kernel_rfl) h
  rw [t.cell fnExactChainOk_gTab i (List.getElem?_eq_some_iff.1 q).1, List.getD_eq_getElem?_getD, q]
  rfl
noncomputable def fnExactChainOk_world (os : Os) : World :=
  { World.holding Tryz.prog os ⟨#[], #[], []⟩ with heap := (World.holding Tryz.prog os ⟨#[], #[], []⟩).heap.modify 0 fun
      | .cells _ t frozen => .cells (globL.map fun z => Value.int .u32 z).toArray t frozen
      | o => o }
set_option maxRecDepth 100000 in
theorem fnExactChainOk_met (os : Os) : laidMet Tryz.prog Rows.fnExactChainOkRow.laid ((fnExactChainOk_world os).forCall (fun _ _ => 0) ⟨#[], #[.slice none 0 0], []⟩).memory := laidMet_of_run' 8 (by kernel_rfl) (by kernel_rfl)
set_option maxRecDepth 100000 in
theorem fnExactChainOk_reads (os : Os) {H : Type} (enc : TypeId × Value → H) : ∃ x, DataW.whole enc Tryz.prog ((fnExactChainOk_world os).forCall (fun _ _ => 0) ⟨#[], #[.slice none 0 0], []⟩).memory Tryz.f6.params.toList Rows.fnExactChainOkSpec.vars false #[.slice none 0 0].toList 8 = some x := Option.isSome_iff_exists.1 (by kernel_rfl)
set_option maxRecDepth 100000 in
theorem fnExactChainOk_lifted (os : Os) (started : os.Started) (H : Type) (enc : TypeId × Value → H) (F : Stop.Interp) :
    ReturnsInHanded {} Tryz.checked os 6 .any ((OpenSpec.ofChange Rows.fnExactChainOkSpec).preRow enc Tryz.prog Tryz.f6 Rows.fnExactChainOkRow.domain false Rows.fnExactChainOkRow.laid) (((OpenSpec.ofChange Rows.fnExactChainOkSpec).at F).post enc Tryz.prog Tryz.f6 false true false false) := by
  obtain ⟨x, hx⟩ := fnExactChainOk_reads os enc
  refine returnsInHanded_of_row (C := Tryz.checked) (s := OpenSpec.ofChange Rows.fnExactChainOkSpec) (by kernel_rfl) started (by kernel_rfl) Tryz.func6
    (witness_row_at (enc := enc) (C := Tryz.checked) false (fnExactChainOk_world os) #[.slice none 0 0] rfl (by kernel_rfl) (by kernel_rfl) (by kernel_rfl)
      (OpenSpec.preRow_of_cond 8 hx rfl (fun k hk => by cases hk) (by kernel_rfl) (fnExactChainOk_met os))) ?_
  intro W base args ds gs before hval hW _ _ _ hL _ _
  have hgl : gs.length = 1 := by obtain ⟨_, _, _, hV, _⟩ := hW; exact trodVars_length hV
  refine law_postV (s := Rows.fnExactChainOkSpec) (by kernel_rfl) (by kernel_rfl) Tryz.underlying4 (by kernel_rfl) (by kernel_rfl) (by intro ds gs hl hl2; match ds, hl, gs, hl2 with | [d0], _, [g], _ => exact ⟨rfl, rfl, rfl⟩) hgl hW ?_
  obtain ⟨p, q, hA, _⟩ := hW
  have hA' : DataW.TrodAll enc Tryz.prog W 0 (fun _ => true) true Tryz.f6.params.toList args.toList ds p := hA
  have hval' : ∀ (j : Nat) t v, Tryz.f6.params[j]? = some t → args[j]? = some v → Value.okWide Tryz.prog W .any base t v := hval
  rw [Tryz.params6] at hA' hval'
  exact fnExactChainOk_args W base args ds p (fnExactChainOk_glob hL) hval' hA'
set_option maxRecDepth 100000 in
theorem fnExactChainOk_said : Rows.FnExactChainOkSaid :=
  OpenClaim.holds_of_cond 6 Tryz.f6 rfl rfl rfl rfl rfl rfl rfl ⟨rfl, rfl, rfl, rfl, rfl⟩ rfl rfl rfl rfl rfl (by kernel_rfl) Tryz.func6 (by kernel_rfl)
    (of_decide_eq_true (by kernel_rfl)) (by unfold Func.isWrapper; first | (rw [if_pos (by decide +kernel)]; kernel_rfl) | (rw [if_neg (by decide +kernel)]; exact ⟨rfl, rfl⟩))
    (fun os started H enc _ F => by rw [OpenClaim.pre_eq_preRow]; exact fnExactChainOk_lifted os started H enc F)
theorem fnExactChainOk_plain (f : FuncId) (fn : Func) (hf : Tryz.pinned.checked.prog.funcNamed "loop.example/g00946/laws.FnExactChainOk" = some f) (hfn : Tryz.pinned.checked.prog.funcs[f]? = some fn) :
    false = Tryz.pinned.checked.prog.looks [] ∧ ∀ (j : Nat) t, fn.params[j]? = some t → Tryz.pinned.checked.prog.wantsStandIn t = false := by
  obtain rfl : f = 6 := Option.some.inj ((show Tryz.prog.funcNamed "loop.example/g00946/laws.FnExactChainOk" = some 6 by kernel_rfl).symm.trans hf) |>.symm
  obtain rfl : fn = Tryz.f6 := (Option.some.inj (Tryz.func6.symm.trans hfn)).symm
  refine ⟨by kernel_rfl, fun j t ht => ?_⟩
  have hm : t ∈ Tryz.f6.params.toList := by simpa using Array.mem_of_getElem? ht
  have hall : (Tryz.f6.params.toList.all fun u => !Tryz.prog.wantsStandIn u) = true := by kernel_rfl
  exact (show Tryz.prog.wantsStandIn t = false by simpa using List.all_eq_true.1 hall t hm)
theorem fnExactChainOk_holds : Rows.FnExactChainOkCardSaid :=
  Claim7.holds_tied_plain_at .later [] _ _ _ _ fnExactChainOk_said (fun _ h => by cases h) (by kernel_rfl) (fun _ h => by cases h) fnExactChainOk_row_tie rfl ⟨rfl, rfl⟩ (by kernel_rfl) rfl fnExactChainOk_plain (by kernel_rfl)
#print axioms fnExactChainOk_holds
end Go.Proofs.YtgcelmnmalfpcaaGreatDoor
