/- FnServe: whatever the input, the call returns true and the argument reads afterwards as it read before. No condition. -/
import Derived.Test.YtiboajlnjldalaaGreatDoorQS8
import Derived.Test.YtiboajlnjldalaaGreatDoorCards
import Derived.Test.YtiboajlnjldalaaGreatDoorTie
import Derived.Deep.DeepHandedRow
import Derived.JoinedOf
import Derived.Handed
namespace Go.Proofs.YtiboajlnjldalaaGreatDoor
set_option linter.unusedSimpArgs false
set_option linter.unusedVariables false
open Go.RowKit Go.ChangeShapes Go.WideShapes Go.ChangeAt
set_option maxRecDepth 100000 in
theorem fnServe_args {H : Type} {enc : TypeId × Value → H} (W : World) (base : Nat) (args : Array Value) (ds : List (DataW H)) (p : List MemPlace) (hG : GlobW W)
    (hval : ∀ (j : Nat) t v, #[22][j]? = some t → args[j]? = some v → Value.okWide Tryz.prog W .any base t v)
    (hA : DataW.TrodAll enc Tryz.prog W 0 (fun _ => true) true #[22].toList args.toList ds p) :
    Calls Tryz.prog 5 args W fun e W' => e = .returned (.bool true) ∧ Ext W W' := code_law fnServe_p W base args ds p hG hval hA
theorem fnServe_gTab : Tryz.prog.globalNamed "loop.example/g00946/impl.shaWords" = some 0 := by kernel_rfl
theorem fnServe_gTy : (Tryz.prog.globals[0]?).map (·.type) = some 284 := by kernel_rfl
theorem fnServe_glob {W : World} (h : laidMetH Tryz.prog Rows.fnServeRow.laid W) : GlobW W := fun i n q => by
  have t : Lib.TabIs Tryz.prog W "loop.example/g00946/impl.shaWords" .u32 globL := Lib.tabIs_of_head (rest := []) fnServe_gTab fnServe_gTy Tryz.underlying284 Tryz.underlying261 (by kernel_rfl) (by kernel_rfl) h
  rw [t.cell fnServe_gTab i (List.getElem?_eq_some_iff.1 q).1, List.getD_eq_getElem?_getD, q]
  rfl
noncomputable def fnServe_world (os : Os) : World :=
  { World.holding Tryz.prog os ⟨#[], #[], []⟩ with heap := (World.holding Tryz.prog os ⟨#[], #[], []⟩).heap.modify 0 fun
      | .cells _ t frozen => .cells (globL.map fun z => Value.int .u32 z).toArray t frozen
      | o => o }
set_option maxRecDepth 100000 in
theorem fnServe_met (os : Os) : laidMet Tryz.prog Rows.fnServeRow.laid ((fnServe_world os).forCall (fun _ _ => 0) ⟨#[], #[.slice none 0 0], []⟩).memory := laidMet_of_run' 8 (by kernel_rfl) (by kernel_rfl)
set_option maxRecDepth 100000 in
theorem fnServe_reads (os : Os) {H : Type} (enc : TypeId × Value → H) : ∃ x, DataW.whole enc Tryz.prog ((fnServe_world os).forCall (fun _ _ => 0) ⟨#[], #[.slice none 0 0], []⟩).memory Tryz.f5.params.toList Rows.fnServeSpec.vars false #[.slice none 0 0].toList 8 = some x := Option.isSome_iff_exists.1 (by kernel_rfl)
set_option maxRecDepth 100000 in
theorem fnServe_lifted (os : Os) (started : os.Started) (H : Type) (enc : TypeId × Value → H) (F : Stop.Interp) :
    ReturnsInHanded {} Tryz.checked os 5 .any ((OpenSpec.ofChange Rows.fnServeSpec).preRow enc Tryz.prog Tryz.f5 Rows.fnServeRow.domain false Rows.fnServeRow.laid) (((OpenSpec.ofChange Rows.fnServeSpec).at F).post enc Tryz.prog Tryz.f5 false true false false) := by
  obtain ⟨x, hx⟩ := fnServe_reads os enc
  refine returnsInHanded_of_row (C := Tryz.checked) (s := OpenSpec.ofChange Rows.fnServeSpec) (by kernel_rfl) started (by kernel_rfl) Tryz.func5
    (witness_row_at (enc := enc) (C := Tryz.checked) false (fnServe_world os) #[.slice none 0 0] rfl (by kernel_rfl) (by kernel_rfl) (by kernel_rfl)
      (OpenSpec.preRow_of_cond 8 hx rfl (fun k hk => by cases hk) (by kernel_rfl) (fnServe_met os))) ?_
  intro W base args ds gs before hval hW _ _ _ hL _ _
  have hgl : gs.length = 1 := by obtain ⟨_, _, _, hV, _⟩ := hW; exact trodVars_length hV
  refine law_postV (s := Rows.fnServeSpec) (by kernel_rfl) (by kernel_rfl) Tryz.underlying4 (by kernel_rfl) (by kernel_rfl) (by intro ds gs hl hl2; match ds, hl, gs, hl2 with | [d0], _, [g], _ => exact ⟨rfl, rfl, rfl⟩) hgl hW ?_
  obtain ⟨p, q, hA, _⟩ := hW
  have hA' : DataW.TrodAll enc Tryz.prog W 0 (fun _ => true) true Tryz.f5.params.toList args.toList ds p := hA
  have hval' : ∀ (j : Nat) t v, Tryz.f5.params[j]? = some t → args[j]? = some v → Value.okWide Tryz.prog W .any base t v := hval
  rw [Tryz.params5] at hA' hval'
  exact fnServe_args W base args ds p (fnServe_glob hL) hval' hA'
set_option maxRecDepth 100000 in
theorem fnServe_f1 : Tryz.pinned.checked.prog.funcNamed Rows.fnServeRow.func = some 5 := by kernel_rfl
set_option maxRecDepth 100000 in
set_option maxHeartbeats 40000000 in
theorem fnServe_f2 : joinedFacts Tryz.pinned.checked.prog 5 Tryz.f5 (OpenSpec.ofChange Rows.fnServeSpec).bare Rows.fnServeRow = true := by
  unfold joinedFacts
  simp only [Bool.and_eq_true]
  repeat' apply And.intro
  all_goals as_aux_lemma => kernel_rfl
set_option maxRecDepth 100000 in
theorem fnServe_f3 : Tryz.f5.isInstance Tryz.pinned.checked.prog Rows.fnServeRow.origin Rows.fnServeRow.targs := of_decide_eq_true (by kernel_rfl)
set_option maxRecDepth 100000 in
theorem fnServe_f4 : Tryz.f5.isWrapper Tryz.pinned.checked.prog Rows.fnServeRow.wrapper Rows.fnServeRow.mainSum := by unfold Func.isWrapper; first | (rw [if_pos (by decide +kernel)]; kernel_rfl) | (rw [if_neg (by decide +kernel)]; exact ⟨rfl, rfl⟩)
set_option maxRecDepth 100000 in
theorem fnServe_f5 (os : Os) (started : os.Started) (H : Type) (enc : TypeId × Value → H) (F : Stop.Interp) :
    ReturnsInHanded Rows.fnServeRow.assume Tryz.pinned.checked os 5 .any (Rows.fnServeRow.pre enc Tryz.pinned.checked.prog Tryz.f5 (OpenSpec.ofChange Rows.fnServeSpec)) (((OpenSpec.ofChange Rows.fnServeSpec).at F).post enc Tryz.pinned.checked.prog Tryz.f5 Rows.fnServeRow.apart Rows.fnServeRow.fresh Rows.fnServeRow.handsOn Rows.fnServeRow.again) := by rw [OpenClaim.pre_eq_preRow]; exact fnServe_lifted os started H enc F
set_option maxRecDepth 100000 in
theorem fnServe_said : Rows.FnServeSaid :=
  OpenClaim.holds_of_cond 5 Tryz.f5 rfl rfl rfl rfl rfl rfl rfl ⟨rfl, rfl, rfl, rfl, rfl⟩ rfl rfl rfl rfl rfl fnServe_f1 Tryz.func5 fnServe_f2 fnServe_f3 fnServe_f4
    (fun os started H enc _ F => fnServe_f5 os started H enc F)
theorem fnServe_plain (f : FuncId) (fn : Func) (hf : Tryz.pinned.checked.prog.funcNamed "loop.example/g00946/laws.FnServe" = some f) (hfn : Tryz.pinned.checked.prog.funcs[f]? = some fn) :
    false = Tryz.pinned.checked.prog.looks [] ∧ ∀ (j : Nat) t, fn.params[j]? = some t → Tryz.pinned.checked.prog.wantsStandIn t = false := by
  obtain rfl : f = 5 := Option.some.inj ((show Tryz.prog.funcNamed "loop.example/g00946/laws.FnServe" = some 5 by kernel_rfl).symm.trans hf) |>.symm
  obtain rfl : fn = Tryz.f5 := (Option.some.inj (Tryz.func5.symm.trans hfn)).symm
  refine ⟨by kernel_rfl, fun j t ht => ?_⟩
  have hm : t ∈ Tryz.f5.params.toList := by simpa using Array.mem_of_getElem? ht
  have hall : (Tryz.f5.params.toList.all fun u => !Tryz.prog.wantsStandIn u) = true := by kernel_rfl
  exact (show Tryz.prog.wantsStandIn t = false by simpa using List.all_eq_true.1 hall t hm)
theorem fnServe_holds : Rows.FnServeCardSaid :=
  Claim7.holds_tied_plain_at .later [] _ _ _ _ fnServe_said (fun _ h => by cases h) (by kernel_rfl) (fun _ h => by cases h) fnServe_row_tie rfl ⟨rfl, rfl⟩ (by kernel_rfl) rfl fnServe_plain (by kernel_rfl)
#print axioms fnServe_holds
end Go.Proofs.YtiboajlnjldalaaGreatDoor
