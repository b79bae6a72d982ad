/- FnLive: whatever the input, the call returns true and the argument reads afterwards as it read before. No condition. -/
import Derived.Test.YtcbknmnlgoeniaaLawFnLive
import Derived.Test.YtcbknmnlgoeniaaRows
import Derived.JoinedOf
import Derived.Handed
-- @LAWOLD
namespace Go.Proofs.Ytcbknmnlgoeniaa
set_option linter.unusedSimpArgs false
set_option linter.unusedVariables false
open Go.RowKit Go.ChangeShapes Go.WideShapes Go.ChangeAt
theorem globW_none (w : World) : GlobW w := fun i n q => by simp [globL] at q
set_option maxRecDepth 100000 in
theorem fnLive_args {H : Type} {enc : TypeId × Value → H} (W : World) (base : Nat) (args : Array Value) (ds : List (DataW H)) (p : List MemPlace)
    (hval : ∀ (j : Nat) t v, #[22][j]? = some t → args[j]? = some v → Value.okWide Try.prog W .any base t v)
    (hA : DataW.TrodAll enc Try.prog W 0 (fun _ => true) true #[22].toList args.toList ds p) :
    Calls Try.prog 3 args W fun e W' => e = .returned (.bool true) ∧ Ext W W' := code_law fnLive_p W base args ds p (globW_none W) hval hA
set_option maxRecDepth 100000 in
theorem fnLive_lifted (os : Os) (started : os.Started) (H : Type) (enc : TypeId × Value → H) :
    ReturnsInHanded {} Try.checked os 3 .any (Rows.fnLiveSpec.pre6 enc Try.prog Try.f3 Rows.fnLiveRow.domain false) (Rows.fnLiveSpec.post enc Try.prog Try.f3 false true false false) := by
  refine returnsInHanded_of_change (C := Try.checked) (by kernel_rfl) started (by kernel_rfl) Try.func3
    (ChangeSpec.witness6 (enc := enc) (C := Try.checked) false ⟨#[], #[.slice none 0 0], []⟩ 8 (by kernel_rfl) (by kernel_rfl) (by kernel_rfl) (by kernel_rfl)) ?_
  intro W base args ds gs before hval hW _ _
  refine law_post rfl (by kernel_rfl) Try.underlying4 (by kernel_rfl) (by kernel_rfl) (by intro ds hl; match ds, hl with | [d0], _ => exact ⟨rfl, rfl, rfl⟩) hW ?_
  obtain ⟨p, q, hA, _⟩ := hW
  have hA' : DataW.TrodAll enc Try.prog W 0 (fun _ => true) true Try.f3.params.toList args.toList ds p := hA
  have hval' : ∀ (j : Nat) t v, Try.f3.params[j]? = some t → args[j]? = some v → Value.okWide Try.prog W .any base t v := hval
  rw [Try.params3] at hA' hval'
  exact fnLive_args W base args ds p hval' hA'
theorem fnLive_holds : Rows.FnLiveSaid :=
  OpenClaim.holds_of_wide 3 Try.f3 rfl rfl rfl rfl rfl rfl rfl ⟨rfl, rfl, rfl, rfl, rfl⟩ rfl rfl rfl rfl rfl (by kernel_rfl) Try.func3 (by kernel_rfl)
    (of_decide_eq_true (by kernel_rfl)) (by unfold Func.isWrapper; rw [if_neg (of_decide_eq_false (by kernel_rfl))]; exact ⟨rfl, rfl⟩)
    (fun os started H enc _ => fnLive_lifted os started H enc)
#print axioms fnLive_holds
end Go.Proofs.Ytcbknmnlgoeniaa
