/- FnExactShowReq: whatever the input, the call returns true and every argument reads afterwards as it read before. No condition. -/
import Derived.Test.YthnmiimckgphnaaReq
import Derived.Test.YthnmiimckgphnaaRead
import Derived.JoinedOf
import Derived.Handed
namespace Go.Proofs.Ythnmiimckgphnaa
open Go.RowKit Go.ChangeShapes Go.WideShapes
theorem req_read {W : World} {n : Nat} {cs : Array Value} (h : All2 (CellN W n) [.int .i64, .int .i64, .int .i64] cs.toList) : ∃ k f m : Int, cs = #[.int .i64 k, .int .i64 f, .int .i64 m] := by
  obtain ⟨s⟩ := cs
  match s, h with
  | [_, _, _], ⟨k1, k2, k3, _⟩ =>
    obtain ⟨k, rfl, _⟩ := cell_int k1
    obtain ⟨f, rfl, _⟩ := cell_int k2
    obtain ⟨m, rfl, _⟩ := cell_int k3
    exact ⟨k, f, m, rfl⟩
theorem fnExactShowReq_args {H : Type} {enc : TypeId × Value → H} (W : World) (base : Nat) (args : Array Value) (ds : List (DataW H)) (p : List MemPlace)
    (hval : ∀ (j : Nat) t v, #[36][j]? = some t → args[j]? = some v → Value.okWide Try.prog W .any base t v)
    (hA : DataW.TrodAll enc Try.prog W 0 (fun _ => true) true #[36].toList args.toList ds p) :
    Calls Try.prog 6 args W fun e W' => e = .returned (.bool true) ∧ Ext W W' := by
  obtain ⟨v0, d0, rfl, rfl, h0⟩ := trodAll_one hA
  obtain ⟨cs, rfl, hc⟩ := read_struct Try.underlying36 (n := 3) (ss := [.int .i64, .int .i64, .int .i64]) (by kernel_rfl) (hval 0 _ _ rfl rfl) h0
  obtain ⟨k, f, m, rfl⟩ := req_read hc
  exact fnExactShowReq_any k f m W

set_option maxRecDepth 100000 in
theorem fnExactShowReq_lifted (os : Os) (started : os.Started) (H : Type) (enc : TypeId × Value → H) :
    ReturnsInHanded {} Try.checked os 6 .any (Rows.fnExactShowReqSpec.pre6 enc Try.prog Try.f6 Rows.fnExactShowReqRow.domain false) (Rows.fnExactShowReqSpec.post enc Try.prog Try.f6 false true false false) := by
  refine returnsInHanded_of_change (C := Try.checked) (by kernel_rfl) started (by kernel_rfl) Try.func6
    (ChangeSpec.witness6 (enc := enc) (C := Try.checked) false ⟨#[], #[.agg #[.int .i64 0, .int .i64 0, .int .i64 0]], []⟩ 8 (by kernel_rfl) (by kernel_rfl) (by kernel_rfl) (by kernel_rfl)) ?_
  intro W base args ds gs before hval hW _ _
  refine law_post rfl (by kernel_rfl) Try.underlying4 (by kernel_rfl) (by kernel_rfl) (by intro ds hl; match ds, hl with | [d0], _ => exact ⟨rfl, rfl, rfl⟩) hW ?_
  obtain ⟨p, q, hA, _⟩ := hW
  have hA' : DataW.TrodAll enc Try.prog W 0 (fun _ => true) true Try.f6.params.toList args.toList ds p := hA
  have hval' : ∀ (j : Nat) t v, Try.f6.params[j]? = some t → args[j]? = some v → Value.okWide Try.prog W .any base t v := hval
  rw [Try.params6] at hA' hval'
  exact fnExactShowReq_args W base args ds p hval' hA'
theorem fnExactShowReq_holds : Rows.FnExactShowReqSaid :=
  OpenClaim.holds_of_wide 6 Try.f6 rfl rfl rfl rfl rfl rfl rfl ⟨rfl, rfl, rfl, rfl, rfl⟩ rfl rfl rfl rfl rfl (by kernel_rfl) Try.func6 (by kernel_rfl)
    (of_decide_eq_true (by kernel_rfl)) (by unfold Func.isWrapper; rw [if_neg (of_decide_eq_false (by kernel_rfl))]; exact ⟨rfl, rfl⟩)
    (fun os started H enc _ => fnExactShowReq_lifted os started H enc)
#print axioms fnExactShowReq_holds
end Go.Proofs.Ythnmiimckgphnaa
