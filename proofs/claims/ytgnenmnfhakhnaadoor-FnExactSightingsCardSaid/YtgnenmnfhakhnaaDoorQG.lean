/- FnExactSightings: whatever the input, the call returns true and every argument reads afterwards as it read before. No condition. -/
import Derived.Test.YtgnenmnfhakhnaaDoorQG4
import Derived.Test.YtgnenmnfhakhnaaDoorCards
import Derived.Test.YtgnenmnfhakhnaaDoorTie
import Derived.Deep.DeepHandedRow
import Derived.JoinedOf
import Derived.Handed
namespace Go.Proofs.YtgnenmnfhakhnaaDoor
set_option linter.unusedSimpArgs false
set_option linter.unusedVariables false
open Go.RowKit Go.ChangeShapes Go.WideShapes Go.ChangeAt
theorem fnExactSightings_gTab : Tryd.prog.globalNamed "loop.example/g00946/impl.shaWords" = some 0 := by kernel_rfl
theorem fnExactSightings_gTy : (Tryd.prog.globals[0]?).map (·.type) = some 83 := by kernel_rfl
theorem fnExactSightings_glob {W : World} (h : laidMetH Tryd.prog Rows.fnExactSightingsRow.laid W) : GlobW W := fun i n q => by
  have t : Lib.TabIs Tryd.prog W "loop.example/g00946/impl.shaWords" .u32 globL := Lib.tabIs_of_head (rest := []) fnExactSightings_gTab fnExactSightings_gTy Tryd.underlying83 Tryd.underlying78 (by kernel_rfl) (by kernel_rfl) h
  rw [t.cell fnExactSightings_gTab i (List.getElem?_eq_some_iff.1 q).1, List.getD_eq_getElem?_getD, q]
  rfl
noncomputable def fnExactSightings_world (os : Os) : World :=
  { World.holding Tryd.prog os ⟨#[], #[], []⟩ with heap := (World.holding Tryd.prog os ⟨#[], #[], []⟩).heap.modify 0 fun
      | .cells _ t frozen => .cells (globL.map fun z => Value.int .u32 z).toArray t frozen
      | o => o }
set_option maxRecDepth 100000 in
theorem fnExactSightings_met (os : Os) : laidMet Tryd.prog Rows.fnExactSightingsRow.laid ((fnExactSightings_world os).forCall (fun _ _ => 0) ⟨#[], #[.slice none 0 0, .slice none 0 0, .string ByteArray.empty], []⟩).memory := laidMet_of_run' 8 (by kernel_rfl) (by kernel_rfl)
set_option maxRecDepth 100000 in
theorem fnExactSightings_reads (os : Os) {H : Type} (enc : TypeId × Value → H) : ∃ x, DataW.whole enc Tryd.prog ((fnExactSightings_world os).forCall (fun _ _ => 0) ⟨#[], #[.slice none 0 0, .slice none 0 0, .string ByteArray.empty], []⟩).memory Tryd.f3.params.toList Rows.fnExactSightingsSpec.vars false #[.slice none 0 0, .slice none 0 0, .string ByteArray.empty].toList 8 = some x := Option.isSome_iff_exists.1 (by kernel_rfl)
set_option maxRecDepth 100000 in
theorem fnExactSightings_lifted (os : Os) (started : os.Started) (H : Type) (enc : TypeId × Value → H) (F : Stop.Interp) :
    ReturnsInHanded {} Tryd.checked os 3 .any ((OpenSpec.ofChange Rows.fnExactSightingsSpec).preRow enc Tryd.prog Tryd.f3 Rows.fnExactSightingsRow.domain false Rows.fnExactSightingsRow.laid) (((OpenSpec.ofChange Rows.fnExactSightingsSpec).at F).post enc Tryd.prog Tryd.f3 false true false false) := by
  obtain ⟨x, hx⟩ := fnExactSightings_reads os enc
  refine returnsInHanded_of_row (C := Tryd.checked) (s := OpenSpec.ofChange Rows.fnExactSightingsSpec) (by kernel_rfl) started (by kernel_rfl) Tryd.func3
    (witness_row_at (enc := enc) (C := Tryd.checked) false (fnExactSightings_world os) #[.slice none 0 0, .slice none 0 0, .string ByteArray.empty] rfl (by kernel_rfl) (by kernel_rfl) (by kernel_rfl)
      (OpenSpec.preRow_of_cond 8 hx rfl (fun k hk => by cases hk) (by kernel_rfl) (fnExactSightings_met os))) ?_
  intro W base args ds gs before hval hW _ _ _ hL _ _
  have hgl : gs.length = 1 := by obtain ⟨_, _, _, hV, _⟩ := hW; exact trodVars_length hV
  refine law_postV (s := Rows.fnExactSightingsSpec) (by kernel_rfl) (by kernel_rfl) Tryd.underlying4 (by kernel_rfl) (by kernel_rfl) (by intro ds gs hl hl2; match ds, hl, gs, hl2 with | [d0, d1, d2], _, [g], _ => exact ⟨rfl, rfl, rfl⟩) hgl hW ?_
  obtain ⟨p, q, hA, _⟩ := hW
  have hA' : DataW.TrodAll enc Tryd.prog W 0 (fun _ => true) true Tryd.f3.params.toList args.toList ds p := hA
  have hval' : ∀ (j : Nat) t v, Tryd.f3.params[j]? = some t → args[j]? = some v → Value.okWide Tryd.prog W .any base t v := hval
  rw [Tryd.params3] at hA' hval'
  exact fnExactSightings_args W base args ds p (fnExactSightings_glob hL) hval' hA'
set_option maxRecDepth 100000 in
theorem fnExactSightings_f1 : Tryd.pinned.checked.prog.funcNamed Rows.fnExactSightingsRow.func = some 3 := by kernel_rfl
set_option maxRecDepth 100000 in
set_option maxHeartbeats 40000000 in
theorem fnExactSightings_f2 : joinedFacts Tryd.pinned.checked.prog 3 Tryd.f3 (OpenSpec.ofChange Rows.fnExactSightingsSpec).bare Rows.fnExactSightingsRow = true := by
  unfold joinedFacts
  simp only [Bool.and_eq_true]
  repeat' apply And.intro
  all_goals as_aux_lemma => kernel_rfl
set_option maxRecDepth 100000 in
theorem fnExactSightings_f3 : Tryd.f3.isInstance Tryd.pinned.checked.prog Rows.fnExactSightingsRow.origin Rows.fnExactSightingsRow.targs := of_decide_eq_true (by kernel_rfl)
set_option maxRecDepth 100000 in
theorem fnExactSightings_f4 : Tryd.f3.isWrapper Tryd.pinned.checked.prog Rows.fnExactSightingsRow.wrapper Rows.fnExactSightingsRow.mainSum := by unfold Func.isWrapper; first | (rw [if_pos (by decide +kernel)]; kernel_rfl) | (rw [if_neg (by decide +kernel)]; exact ⟨rfl, rfl⟩)
set_option maxRecDepth 100000 in
theorem fnExactSightings_f5 (os : Os) (started : os.Started) (H : Type) (enc : TypeId × Value → H) (F : Stop.Interp) :
    ReturnsInHanded Rows.fnExactSightingsRow.assume Tryd.pinned.checked os 3 .any (Rows.fnExactSightingsRow.pre enc Tryd.pinned.checked.prog Tryd.f3 (OpenSpec.ofChange Rows.fnExactSightingsSpec)) (((OpenSpec.ofChange Rows.fnExactSightingsSpec).at F).post enc Tryd.pinned.checked.prog Tryd.f3 Rows.fnExactSightingsRow.apart Rows.fnExactSightingsRow.fresh Rows.fnExactSightingsRow.handsOn Rows.fnExactSightingsRow.again) := by rw [OpenClaim.pre_eq_preRow]; exact fnExactSightings_lifted os started H enc F
set_option maxRecDepth 100000 in
theorem fnExactSightings_said : Rows.FnExactSightingsSaid :=
  OpenClaim.holds_of_cond 3 Tryd.f3 rfl rfl rfl rfl rfl rfl rfl ⟨rfl, rfl, rfl, rfl, rfl⟩ rfl rfl rfl rfl rfl fnExactSightings_f1 Tryd.func3 fnExactSightings_f2 fnExactSightings_f3 fnExactSightings_f4
    (fun os started H enc _ F => fnExactSightings_f5 os started H enc F)
theorem fnExactSightings_plain (f : FuncId) (fn : Func) (hf : Tryd.pinned.checked.prog.funcNamed "loop.example/g00946/laws.FnExactSightings" = some f) (hfn : Tryd.pinned.checked.prog.funcs[f]? = some fn) :
    false = Tryd.pinned.checked.prog.looks [] ∧ ∀ (j : Nat) t, fn.params[j]? = some t → Tryd.pinned.checked.prog.wantsStandIn t = false := by
  obtain rfl : f = 3 := Option.some.inj ((show Tryd.prog.funcNamed "loop.example/g00946/laws.FnExactSightings" = some 3 by kernel_rfl).symm.trans hf) |>.symm
  obtain rfl : fn = Tryd.f3 := (Option.some.inj (Tryd.func3.symm.trans hfn)).symm
  refine ⟨by kernel_rfl, fun j t ht => ?_⟩
  have hm : t ∈ Tryd.f3.params.toList := by simpa using Array.mem_of_getElem? ht
  have hall : (Tryd.f3.params.toList.all fun u => !Tryd.prog.wantsStandIn u) = true := by kernel_rfl
  exact (show Tryd.prog.wantsStandIn t = false by simpa using List.all_eq_true.1 hall t hm)
theorem fnExactSightings_holds : Rows.FnExactSightingsCardSaid :=
  Claim7.holds_tied_plain_at .later [] _ _ _ _ fnExactSightings_said (fun _ h => by cases h) (by kernel_rfl) (fun _ h => by cases h) fnExactSightings_row_tie rfl ⟨rfl, rfl⟩ (by kernel_rfl) rfl fnExactSightings_plain (by kernel_rfl)
#print axioms fnExactSightings_holds
end Go.Proofs.YtgnenmnfhakhnaaDoor
