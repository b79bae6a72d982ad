/- FnChain: whatever the input, the call returns true and the argument reads afterwards as it read before. No condition. -/
import Derived.Test.YtiboajlnjldalaaGreatDoorQC8
import Derived.Test.YtiboajlnjldalaaGreatDoorCards
import Derived.Test.YtiboajlnjldalaaGreatDoorTie
import Derived.Deep.DeepHandedRow
import Derived.JoinedOf
import Derived.Handed
namespace Go.Proofs.YtiboajlnjldalaaGreatDoor
set_option linter.unusedSimpArgs false
set_option linter.unusedVariables false
open Go.RowKit Go.ChangeShapes Go.WideShapes Go.ChangeAt
set_option maxRecDepth 100000 in
theorem fnChain_args {H : Type} {enc : TypeId × Value → H} (W : World) (base : Nat) (args : Array Value) (ds : List (DataW H)) (p : List MemPlace) (hG : GlobW W)
    (hval : ∀ (j : Nat) t v, #[22][j]? = some t → args[j]? = some v → Value.okWide Tryz.prog W .any base t v)
    (hA : DataW.TrodAll enc Tryz.prog W 0 (fun _ => true) true #[22].toList args.toList ds p) :
    Calls Tryz.prog 3 args W fun e W' => e = .returned (.bool true) ∧ Ext W W' := code_law fnChain_p W base args ds p hG hval hA
theorem fnChain_gTab : Tryz.prog.globalNamed "loop.example/g00946/impl.shaWords" = some 0 := by kernel_rfl
theorem fnChain_gTy : (Tryz.prog.globals[0]?).map (·.type) = some 284 := by kernel_rfl
theorem fnChain_glob {W : World} (h : laidMetH Tryz.prog Rows.fnChainRow.laid W) : GlobW W := fun i n q => by
  have t : Lib.TabIs Tryz.prog W "loop.example/g00946/impl.shaWords" .u32 globL := Lib.tabIs_of_head (rest := []) fnChain_gTab fnChain_gTy Tryz.underlying284 Tryz.underlying261 (by kernel_rfl) (by kernel_rfl) h
  rw [t.cell fnChain_gTab i (List.getElem?_eq_some_iff.1 q).1, List.getD_eq_getElem?_getD, q]
  rfl
noncomputable def fnChain_world (os : Os) : World :=
  { World.holding Tryz.prog os ⟨#[], #[], []⟩ with heap := (World.holding Tryz.prog os ⟨#[], #[], []⟩).heap.modify 0 fun
      | .cells _ t frozen => .cells (globL.map fun z => Value.int .u32 z).toArray t frozen
      | o => o }
set_option maxRecDepth 100000 in
theorem fnChain_met (os : Os) : laidMet Tryz.prog Rows.fnChainRow.laid ((fnChain_world os).forCall (fun _ _ => 0) ⟨#[], #[.slice none 0 0], []⟩).memory := laidMet_of_run' 8 (by kernel_rfl) (by kernel_rfl)
set_option maxRecDepth 100000 in
theorem fnChain_reads (os : Os) {H : Type} (enc : TypeId × Value → H) : ∃ x, DataW.whole enc Tryz.prog ((fnChain_world os).forCall (fun _ _ => 0) ⟨#[], #[.slice none 0 0], []⟩).memory Tryz.f3.params.toList Rows.fnChainSpec.vars false #[.slice none 0 0].toList 8 = some x := Option.isSome_iff_exists.1 (by kernel_rfl)
set_option maxRecDepth 100000 in
theorem fnChain_lifted (os : Os) (started : os.Started) (H : Type) (enc : TypeId × Value → H) (F : Stop.Interp) :
    ReturnsInHanded {} Tryz.checked os 3 .any ((OpenSpec.ofChange Rows.fnChainSpec).preRow enc Tryz.prog Tryz.f3 Rows.fnChainRow.domain false Rows.fnChainRow.laid) (((OpenSpec.ofChange Rows.fnChainSpec).at F).post enc Tryz.prog Tryz.f3 false true false false) := by
  obtain ⟨x, hx⟩ := fnChain_reads os enc
  refine returnsInHanded_of_row (C := Tryz.checked) (s := OpenSpec.ofChange Rows.fnChainSpec) (by kernel_rfl) started (by kernel_rfl) Tryz.func3
    (witness_row_at (enc := enc) (C := Tryz.checked) false (fnChain_world os) #[.slice none 0 0] rfl (by kernel_rfl) (by kernel_rfl) (by kernel_rfl)
      (OpenSpec.preRow_of_cond 8 hx rfl (fun k hk => by cases hk) (by kernel_rfl) (fnChain_met os))) ?_
  intro W base args ds gs before hval hW _ _ _ hL _ _
  have hgl : gs.length = 1 := by obtain ⟨_, _, _, hV, _⟩ := hW; exact trodVars_length hV
  refine law_postV (s := Rows.fnChainSpec) (by kernel_rfl) (by kernel_rfl) Tryz.underlying4 (by kernel_rfl) (by kernel_rfl) (by intro ds gs hl hl2; match ds, hl, gs, hl2 with | [d0], _, [g], _ => exact ⟨rfl, rfl, rfl⟩) hgl hW ?_
  obtain ⟨p, q, hA, _⟩ := hW
  have hA' : DataW.TrodAll enc Tryz.prog W 0 (fun _ => true) true Tryz.f3.params.toList args.toList ds p := hA
  have hval' : ∀ (j : Nat) t v, Tryz.f3.params[j]? = some t → args[j]? = some v → Value.okWide Tryz.prog W .any base t v := hval
  rw [Tryz.params3] at hA' hval'
  exact fnChain_args W base args ds p (fnChain_glob hL) hval' hA'
set_option maxRecDepth 100000 in
theorem fnChain_f1 : Tryz.pinned.checked.prog.funcNamed Rows.fnChainRow.func = some 3 := by kernel_rfl
set_option maxRecDepth 100000 in
set_option maxHeartbeats 40000000 in
theorem fnChain_f2 : joinedFacts Tryz.pinned.checked.prog 3 Tryz.f3 (OpenSpec.ofChange Rows.fnChainSpec).bare Rows.fnChainRow = true := by
  unfold joinedFacts
  simp only [Bool.and_eq_true]
  repeat' apply And.intro
  all_goals as_aux_lemma => kernel_rfl
set_option maxRecDepth 100000 in
theorem fnChain_f3 : Tryz.f3.isInstance Tryz.pinned.checked.prog Rows.fnChainRow.origin Rows.fnChainRow.targs := of_decide_eq_true (by kernel_rfl)
set_option maxRecDepth 100000 in
theorem fnChain_f4 : Tryz.f3.isWrapper Tryz.pinned.checked.prog Rows.fnChainRow.wrapper Rows.fnChainRow.mainSum := by unfold Func.isWrapper; first | (rw [if_pos (by decide +kernel)]; kernel_rfl) | (rw [if_neg (by decide +kernel)]; exact ⟨rfl, rfl⟩)
set_option maxRecDepth 100000 in
theorem fnChain_f5 (os : Os) (started : os.Started) (H : Type) (enc : TypeId × Value → H) (F : Stop.Interp) :
    ReturnsInHanded Rows.fnChainRow.assume Tryz.pinned.checked os 3 .any (Rows.fnChainRow.pre enc Tryz.pinned.checked.prog Tryz.f3 (OpenSpec.ofChange Rows.fnChainSpec)) (((OpenSpec.ofChange Rows.fnChainSpec).at F).post enc Tryz.pinned.checked.prog Tryz.f3 Rows.fnChainRow.apart Rows.fnChainRow.fresh Rows.fnChainRow.handsOn Rows.fnChainRow.again) := by rw [OpenClaim.pre_eq_preRow]; exact fnChain_lifted os started H enc F
set_option maxRecDepth 100000 in
theorem fnChain_said : Rows.FnChainSaid :=
  OpenClaim.holds_of_cond 3 Tryz.f3 rfl rfl rfl rfl rfl rfl rfl ⟨rfl, rfl, rfl, rfl, rfl⟩ rfl rfl rfl rfl rfl fnChain_f1 Tryz.func3 fnChain_f2 fnChain_f3 fnChain_f4
    (fun os started H enc _ F => fnChain_f5 os started H enc F)
theorem fnChain_plain (f : FuncId) (fn : Func) (hf : Tryz.pinned.checked.prog.funcNamed "loop.example/g00946/laws.FnChain" = some f) (hfn : Tryz.pinned.checked.prog.funcs[f]? = some fn) :
    false = Tryz.pinned.checked.prog.looks [] ∧ ∀ (j : Nat) t, fn.params[j]? = some t → Tryz.pinned.checked.prog.wantsStandIn t = false := by
  obtain rfl : f = 3 := Option.some.inj ((show Tryz.prog.funcNamed "loop.example/g00946/laws.FnChain" = some 3 by kernel_rfl).symm.trans hf) |>.symm
  obtain rfl : fn = Tryz.f3 := (Option.some.inj (Tryz.func3.symm.trans hfn)).symm
  refine ⟨by kernel_rfl, fun j t ht => ?_⟩
  have hm : t ∈ Tryz.f3.params.toList := by simpa using Array.mem_of_getElem? ht
  have hall : (Tryz.f3.params.toList.all fun u => !Tryz.prog.wantsStandIn u) = true := by kernel_rfl
  exact (show Tryz.prog.wantsStandIn t = false by simpa using List.all_eq_true.1 hall t hm)
theorem fnChain_holds : Rows.FnChainCardSaid :=
  Claim7.holds_tied_plain_at .later [] _ _ _ _ fnChain_said (fun _ h => by cases h) (by kernel_rfl) (fun _ h => by cases h) fnChain_row_tie rfl ⟨rfl, rfl⟩ (by kernel_rfl) rfl fnChain_plain (by kernel_rfl)
#print axioms fnChain_holds
end Go.Proofs.YtiboajlnjldalaaGreatDoor
