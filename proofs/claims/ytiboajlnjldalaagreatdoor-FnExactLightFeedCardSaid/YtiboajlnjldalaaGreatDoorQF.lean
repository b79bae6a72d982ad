/- FnExactLightFeed: whatever the input, the call returns true and every argument reads afterwards as it read before. No condition. -/
import Derived.Test.YtiboajlnjldalaaGreatDoorQF7
import Derived.Test.YtiboajlnjldalaaGreatDoorCards
import Derived.Test.YtiboajlnjldalaaGreatDoorTie
import Derived.Deep.DeepHandedRow
import Derived.JoinedOf
import Derived.Handed
namespace Go.Proofs.YtiboajlnjldalaaGreatDoor
set_option linter.unusedSimpArgs false
set_option linter.unusedVariables false
open Go.RowKit Go.ChangeShapes Go.WideShapes Go.ChangeAt
theorem fnExactLightFeed_gTab : Tryz.prog.globalNamed "loop.example/g00946/impl.shaWords" = some 0 := by kernel_rfl
theorem fnExactLightFeed_gTy : (Tryz.prog.globals[0]?).map (·.type) = some 284 := by kernel_rfl
theorem fnExactLightFeed_glob {W : World} (h : laidMetH Tryz.prog Rows.fnExactLightFeedRow.laid W) : GlobW W := fun i n q => by
  have t : Lib.TabIs Tryz.prog W "loop.example/g00946/impl.shaWords" .u32 globL := Lib.tabIs_of_head (rest := []) fnExactLightFeed_gTab fnExactLightFeed_gTy Tryz.underlying284 Tryz.underlying261 (by kernel_rfl) (by kernel_rfl) h
  rw [t.cell fnExactLightFeed_gTab i (List.getElem?_eq_some_iff.1 q).1, List.getD_eq_getElem?_getD, q]
  rfl
noncomputable def fnExactLightFeed_world (os : Os) : World :=
  { World.holding Tryz.prog os ⟨#[], #[], []⟩ with heap := (World.holding Tryz.prog os ⟨#[], #[], []⟩).heap.modify 0 fun
      | .cells _ t frozen => .cells (globL.map fun z => Value.int .u32 z).toArray t frozen
      | o => o }
set_option maxRecDepth 100000 in
theorem fnExactLightFeed_met (os : Os) : laidMet Tryz.prog Rows.fnExactLightFeedRow.laid ((fnExactLightFeed_world os).forCall (fun _ _ => 0) ⟨#[], #[.agg #[.int .i64 0, .int .i64 0, .int .i64 0, .int .i64 0, .int .i64 0, .string ByteArray.empty, .string ByteArray.empty, .string ByteArray.empty, .string ByteArray.empty, .slice none 0 0, .slice none 0 0, .int .i64 0, .slice none 0 0, .int .i64 0, .int .i64 0], .int .i64 0, .agg #[.int .i64 0, .int .i64 0, .string ByteArray.empty, .string ByteArray.empty, .string ByteArray.empty, .string ByteArray.empty, .slice none 0 0, .slice none 0 0, .int .i64 0, .int .i64 0, .string ByteArray.empty, .slice none 0 0]], []⟩).memory := laidMet_of_run' 8 (by kernel_rfl) (by kernel_rfl)
set_option maxRecDepth 100000 in
theorem fnExactLightFeed_reads (os : Os) {H : Type} (enc : TypeId × Value → H) : ∃ x, DataW.whole enc Tryz.prog ((fnExactLightFeed_world os).forCall (fun _ _ => 0) ⟨#[], #[.agg #[.int .i64 0, .int .i64 0, .int .i64 0, .int .i64 0, .int .i64 0, .string ByteArray.empty, .string ByteArray.empty, .string ByteArray.empty, .string ByteArray.empty, .slice none 0 0, .slice none 0 0, .int .i64 0, .slice none 0 0, .int .i64 0, .int .i64 0], .int .i64 0, .agg #[.int .i64 0, .int .i64 0, .string ByteArray.empty, .string ByteArray.empty, .string ByteArray.empty, .string ByteArray.empty, .slice none 0 0, .slice none 0 0, .int .i64 0, .int .i64 0, .string ByteArray.empty, .slice none 0 0]], []⟩).memory Tryz.f7.params.toList Rows.fnExactLightFeedSpec.vars false #[.agg #[.int .i64 0, .int .i64 0, .int .i64 0, .int .i64 0, .int .i64 0, .string ByteArray.empty, .string ByteArray.empty, .string ByteArray.empty, .string ByteArray.empty, .slice none 0 0, .slice none 0 0, .int .i64 0, .slice none 0 0, .int .i64 0, .int .i64 0], .int .i64 0, .agg #[.int .i64 0, .int .i64 0, .string ByteArray.empty, .string ByteArray.empty, .string ByteArray.empty, .string ByteArray.empty, .slice none 0 0, .slice none 0 0, .int .i64 0, .int .i64 0, .string ByteArray.empty, .slice none 0 0]].toList 8 = some x := Option.isSome_iff_exists.1 (by kernel_rfl)
set_option maxRecDepth 100000 in
theorem fnExactLightFeed_lifted (os : Os) (started : os.Started) (H : Type) (enc : TypeId × Value → H) (F : Stop.Interp) :
    ReturnsInHanded {} Tryz.checked os 7 .any ((OpenSpec.ofChange Rows.fnExactLightFeedSpec).preRow enc Tryz.prog Tryz.f7 Rows.fnExactLightFeedRow.domain false Rows.fnExactLightFeedRow.laid) (((OpenSpec.ofChange Rows.fnExactLightFeedSpec).at F).post enc Tryz.prog Tryz.f7 false true false false) := by
  obtain ⟨x, hx⟩ := fnExactLightFeed_reads os enc
  refine returnsInHanded_of_row (C := Tryz.checked) (s := OpenSpec.ofChange Rows.fnExactLightFeedSpec) (by kernel_rfl) started (by kernel_rfl) Tryz.func7
    (witness_row_at (enc := enc) (C := Tryz.checked) false (fnExactLightFeed_world os) #[.agg #[.int .i64 0, .int .i64 0, .int .i64 0, .int .i64 0, .int .i64 0, .string ByteArray.empty, .string ByteArray.empty, .string ByteArray.empty, .string ByteArray.empty, .slice none 0 0, .slice none 0 0, .int .i64 0, .slice none 0 0, .int .i64 0, .int .i64 0], .int .i64 0, .agg #[.int .i64 0, .int .i64 0, .string ByteArray.empty, .string ByteArray.empty, .string ByteArray.empty, .string ByteArray.empty, .slice none 0 0, .slice none 0 0, .int .i64 0, .int .i64 0, .string ByteArray.empty, .slice none 0 0]] rfl (by kernel_rfl) (by kernel_rfl) (by kernel_rfl)
      (OpenSpec.preRow_of_cond 8 hx rfl (fun k hk => by cases hk) (by kernel_rfl) (fnExactLightFeed_met os))) ?_
  intro W base args ds gs before hval hW _ _ _ hL _ _
  have hgl : gs.length = 1 := by obtain ⟨_, _, _, hV, _⟩ := hW; exact trodVars_length hV
  refine law_postV (s := Rows.fnExactLightFeedSpec) (by kernel_rfl) (by kernel_rfl) Tryz.underlying4 (by kernel_rfl) (by kernel_rfl) (by intro ds gs hl hl2; match ds, hl, gs, hl2 with | [d0, d1, d2], _, [g], _ => exact ⟨rfl, rfl, rfl⟩) hgl hW ?_
  obtain ⟨p, q, hA, _⟩ := hW
  have hA' : DataW.TrodAll enc Tryz.prog W 0 (fun _ => true) true Tryz.f7.params.toList args.toList ds p := hA
  have hval' : ∀ (j : Nat) t v, Tryz.f7.params[j]? = some t → args[j]? = some v → Value.okWide Tryz.prog W .any base t v := hval
  rw [Tryz.params7] at hA' hval'
  exact fnExactLightFeed_args W base args ds p (fnExactLightFeed_glob hL) hval' hA'
set_option maxRecDepth 100000 in
theorem fnExactLightFeed_f1 : Tryz.pinned.checked.prog.funcNamed Rows.fnExactLightFeedRow.func = some 7 := by kernel_rfl
set_option maxRecDepth 100000 in
set_option maxHeartbeats 40000000 in
theorem fnExactLightFeed_f2 : joinedFacts Tryz.pinned.checked.prog 7 Tryz.f7 (OpenSpec.ofChange Rows.fnExactLightFeedSpec).bare Rows.fnExactLightFeedRow = true := by
  unfold joinedFacts
  simp only [Bool.and_eq_true]
  repeat' apply And.intro
  all_goals as_aux_lemma => kernel_rfl
set_option maxRecDepth 100000 in
theorem fnExactLightFeed_f3 : Tryz.f7.isInstance Tryz.pinned.checked.prog Rows.fnExactLightFeedRow.origin Rows.fnExactLightFeedRow.targs := of_decide_eq_true (by kernel_rfl)
set_option maxRecDepth 100000 in
theorem fnExactLightFeed_f4 : Tryz.f7.isWrapper Tryz.pinned.checked.prog Rows.fnExactLightFeedRow.wrapper Rows.fnExactLightFeedRow.mainSum := by unfold Func.isWrapper; first | (rw [if_pos (by decide +kernel)]; kernel_rfl) | (rw [if_neg (by decide +kernel)]; exact ⟨rfl, rfl⟩)
set_option maxRecDepth 100000 in
theorem fnExactLightFeed_f5 (os : Os) (started : os.Started) (H : Type) (enc : TypeId × Value → H) (F : Stop.Interp) :
    ReturnsInHanded Rows.fnExactLightFeedRow.assume Tryz.pinned.checked os 7 .any (Rows.fnExactLightFeedRow.pre enc Tryz.pinned.checked.prog Tryz.f7 (OpenSpec.ofChange Rows.fnExactLightFeedSpec)) (((OpenSpec.ofChange Rows.fnExactLightFeedSpec).at F).post enc Tryz.pinned.checked.prog Tryz.f7 Rows.fnExactLightFeedRow.apart Rows.fnExactLightFeedRow.fresh Rows.fnExactLightFeedRow.handsOn Rows.fnExactLightFeedRow.again) := by rw [OpenClaim.pre_eq_preRow]; exact fnExactLightFeed_lifted os started H enc F
set_option maxRecDepth 100000 in
theorem fnExactLightFeed_said : Rows.FnExactLightFeedSaid :=
  OpenClaim.holds_of_cond 7 Tryz.f7 rfl rfl rfl rfl rfl rfl rfl ⟨rfl, rfl, rfl, rfl, rfl⟩ rfl rfl rfl rfl rfl fnExactLightFeed_f1 Tryz.func7 fnExactLightFeed_f2 fnExactLightFeed_f3 fnExactLightFeed_f4
    (fun os started H enc _ F => fnExactLightFeed_f5 os started H enc F)
theorem fnExactLightFeed_plain (f : FuncId) (fn : Func) (hf : Tryz.pinned.checked.prog.funcNamed "loop.example/g00946/laws.FnExactLightFeed" = some f) (hfn : Tryz.pinned.checked.prog.funcs[f]? = some fn) :
    false = Tryz.pinned.checked.prog.looks [] ∧ ∀ (j : Nat) t, fn.params[j]? = some t → Tryz.pinned.checked.prog.wantsStandIn t = false := by
  obtain rfl : f = 7 := Option.some.inj ((show Tryz.prog.funcNamed "loop.example/g00946/laws.FnExactLightFeed" = some 7 by kernel_rfl).symm.trans hf) |>.symm
  obtain rfl : fn = Tryz.f7 := (Option.some.inj (Tryz.func7.symm.trans hfn)).symm
  refine ⟨by kernel_rfl, fun j t ht => ?_⟩
  have hm : t ∈ Tryz.f7.params.toList := by simpa using Array.mem_of_getElem? ht
  have hall : (Tryz.f7.params.toList.all fun u => !Tryz.prog.wantsStandIn u) = true := by kernel_rfl
  exact (show Tryz.prog.wantsStandIn t = false by simpa using List.all_eq_true.1 hall t hm)
theorem fnExactLightFeed_holds : Rows.FnExactLightFeedCardSaid :=
  Claim7.holds_tied_plain_at .later [] _ _ _ _ fnExactLightFeed_said (fun _ h => by cases h) (by kernel_rfl) (fun _ h => by cases h) fnExactLightFeed_row_tie rfl ⟨rfl, rfl⟩ (by kernel_rfl) rfl fnExactLightFeed_plain (by kernel_rfl)
#print axioms fnExactLightFeed_holds
end Go.Proofs.YtiboajlnjldalaaGreatDoor
