/- FnExactHear: whatever the input, the call returns true and every argument reads afterwards as it read before. No condition. -/
import Derived.Test.YtkbikihbomnghaaLxHear
import Derived.JoinedOf
import Derived.Handed
namespace Go.Proofs.Ytkbikihbomnghaa
set_option linter.unusedSimpArgs false
set_option linter.unusedVariables false
open Go.RowKit Go.ChangeShapes Go.WideShapes
theorem globW_none (w : World) : GlobW w := fun i n q => by simp [globL] at q
set_option maxRecDepth 100000 in
theorem fnExactHear_lifted (os : Os) (started : os.Started) (H : Type) (enc : TypeId × Value → H) :
    ReturnsInHanded {} Try.checked os 13 .any (Rows.fnExactHearSpec.pre6 enc Try.prog Try.f13 Rows.fnExactHearRow.domain false) (Rows.fnExactHearSpec.post enc Try.prog Try.f13 false true false false) := by
  refine returnsInHanded_of_change (C := Try.checked) (by kernel_rfl) started (by kernel_rfl) Try.func13
    (ChangeSpec.witness6 (enc := enc) (C := Try.checked) false ⟨#[], #[.slice none 0 0, .slice none 0 0, .int .i64 0], []⟩ 8 (by kernel_rfl) (by kernel_rfl) (by kernel_rfl) (by kernel_rfl)) ?_
  intro W base args ds gs before hval hW _ _
  refine law_post rfl (by kernel_rfl) Try.underlying4 (by kernel_rfl) (by kernel_rfl) (by intro ds hl; match ds, hl with | [d0, d1, d2], _ => exact ⟨rfl, rfl, rfl⟩) hW ?_
  obtain ⟨p, q, hA, _⟩ := hW
  have hA' : DataW.TrodAll enc Try.prog W 0 (fun _ => true) true Try.f13.params.toList args.toList ds p := hA
  have hval' : ∀ (j : Nat) t v, Try.f13.params[j]? = some t → args[j]? = some v → Value.okWide Try.prog W .any base t v := hval
  rw [Try.params13] at hA' hval'
  exact fnExactHear_args W base args ds p (globW_none W) hval' hA'
theorem fnExactHear_holds : Rows.FnExactHearSaid :=
  OpenClaim.holds_of_wide 13 Try.f13 rfl rfl rfl rfl rfl rfl rfl ⟨rfl, rfl, rfl, rfl, rfl⟩ rfl rfl rfl rfl rfl (by kernel_rfl) Try.func13 (by kernel_rfl)
    (of_decide_eq_true (by kernel_rfl)) (by unfold Func.isWrapper; rw [if_neg (of_decide_eq_false (by kernel_rfl))]; exact ⟨rfl, rfl⟩)
    (fun os started H enc _ => fnExactHear_lifted os started H enc)
#print axioms fnExactHear_holds
end Go.Proofs.Ytkbikihbomnghaa
