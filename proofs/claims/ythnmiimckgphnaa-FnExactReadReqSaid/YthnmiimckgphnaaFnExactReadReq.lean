/- FnExactReadReq: whatever the input, the call returns true and the argument reads afterwards as it read before. No condition. -/
import Derived.Test.YthnmiimckgphnaaReadReq
import Derived.Test.YthnmiimckgphnaaRead
import Derived.JoinedOf
import Derived.Handed
namespace Go.Proofs.Ythnmiimckgphnaa
open Go.RowKit Go.ChangeShapes Go.WideShapes
theorem fnExactReadReq_args {H : Type} {enc : TypeId × Value → H} (W : World) (base : Nat) (args : Array Value) (ds : List (DataW H)) (p : List MemPlace)
    (hval : ∀ (j : Nat) t v, #[9][j]? = some t → args[j]? = some v → Value.okWide Try.prog W .any base t v)
    (hA : DataW.TrodAll enc Try.prog W 0 (fun _ => true) true #[9].toList args.toList ds p) :
    Calls Try.prog 11 args W fun e W' => e = .returned (.bool true) ∧ Ext W W' := by
  obtain ⟨v0, d0, rfl, rfl, h0⟩ := trodAll_one hA
  obtain ⟨s, rfl, hs⟩ := read_string Try.underlying9 (hval 0 _ _ rfl rfl) h0
  exact fnExactReadReq_any s W hs

set_option maxRecDepth 100000 in
theorem fnExactReadReq_lifted (os : Os) (started : os.Started) (H : Type) (enc : TypeId × Value → H) :
    ReturnsInHanded {} Try.checked os 11 .any (Rows.fnExactReadReqSpec.pre6 enc Try.prog Try.f11 Rows.fnExactReadReqRow.domain false) (Rows.fnExactReadReqSpec.post enc Try.prog Try.f11 false true false false) := by
  refine returnsInHanded_of_change (C := Try.checked) (by kernel_rfl) started (by kernel_rfl) Try.func11
    (ChangeSpec.witness6 (enc := enc) (C := Try.checked) false ⟨#[], #[.string ⟨#[]⟩], []⟩ 8 (by kernel_rfl) (by kernel_rfl) (by kernel_rfl) (by kernel_rfl)) ?_
  intro W base args ds gs before hval hW _ _
  refine law_post rfl (by kernel_rfl) Try.underlying4 (by kernel_rfl) (by kernel_rfl) (by intro ds hl; match ds, hl with | [d0], _ => exact ⟨rfl, rfl, rfl⟩) hW ?_
  obtain ⟨p, q, hA, _⟩ := hW
  have hA' : DataW.TrodAll enc Try.prog W 0 (fun _ => true) true Try.f11.params.toList args.toList ds p := hA
  have hval' : ∀ (j : Nat) t v, Try.f11.params[j]? = some t → args[j]? = some v → Value.okWide Try.prog W .any base t v := hval
  rw [Try.params11] at hA' hval'
  exact fnExactReadReq_args W base args ds p hval' hA'
theorem fnExactReadReq_holds : Rows.FnExactReadReqSaid :=
  OpenClaim.holds_of_wide 11 Try.f11 rfl rfl rfl rfl rfl rfl rfl ⟨rfl, rfl, rfl, rfl, rfl⟩ rfl rfl rfl rfl rfl (by kernel_rfl) Try.func11 (by kernel_rfl)
    (of_decide_eq_true (by kernel_rfl)) (by unfold Func.isWrapper; rw [if_neg (of_decide_eq_false (by kernel_rfl))]; exact ⟨rfl, rfl⟩)
    (fun os started H enc _ => fnExactReadReq_lifted os started H enc)
#print axioms fnExactReadReq_holds
end Go.Proofs.Ythnmiimckgphnaa
