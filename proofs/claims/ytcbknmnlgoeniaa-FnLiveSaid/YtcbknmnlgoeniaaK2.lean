/- Several texts, one behind the other. -/
import Derived.Test.YtcbknmnlgoeniaaI1
import Derived.Test.YtcbknmnlgoeniaaK1
import Derived.OpenVars
import Derived.Lib.LaidTab
/- A law over a package-level table: its frame. -/
namespace Go.Proofs.Ytcbknmnlgoeniaa
set_option linter.unusedSimpArgs false
set_option linter.unusedVariables false
open Go.RowKit Go.ChangeShapes Go.WideShapes
section
variable {H : Type} {enc : TypeId × Value → H} {P : Program} {w : World}
theorem law_postV {fn : Func} {f : FuncId} {s : ChangeSpec} {tb : TypeId} {apart : Bool} (hv : varsRowed P s.vars = true) (hres : fn.resultTypes = #[tb]) (hb : P.underlying tb = some .bool) (hlaid : laidOutB P = true)
    (hread : fn.params.toList.all (fun t => P.readableRec t && decide (t < P.types.size)) = true)
    (hspec : ∀ (ds gs : List (DataW H)), ds.length = fn.params.toList.length → gs.length = s.vars.length → (s.fn H (ds ++ gs)).results = [.lit (.bool true)] ∧ (s.fn H (ds ++ gs)).args = ds ∧ (s.fn H (ds ++ gs)).vars = gs)
    {args : Array Value} {ds gs : List (DataW H)} {before : List MemPlace} (hgl : gs.length = s.vars.length) (hW : DataW.Whole enc P fn.params.toList s.vars apart w args.toList ds gs before)
    (h : Calls P f args w fun e W' => e = .returned (.bool true) ∧ Ext w W') :
    Calls P f args w fun e W' => ∃ v, e = .returned v ∧ s.post enc P fn apart true false false w args v W' := by
  refine h.mono fun e W' ⟨he, hx⟩ => ⟨_, he, ?_⟩
  have hW' := hW
  obtain ⟨p, q, hA, hV, rfl, hfz, hnd⟩ := hW
  obtain ⟨e1, e2, e3⟩ := hspec ds gs (trodAll_length _ _ _ _ hA) hgl
  refine ⟨ds, gs, _, [], p, q, hW', ?_, ?_, ?_, Below.frame hx _, fun h => by cases h⟩
  · rw [e1, hres]
    exact trodAll_mk1 (shut_bool hb _)
  · rw [e2]
    exact trodAll_below hlaid _ _ _ _ hread hA hx
  · rw [e3]
    exact Below.trodVars hlaid hx hv hV
theorem trodVars_length : ∀ {ns : List String} {gs : List (DataW H)} {sp : Nat → Bool} {ps : List MemPlace}, DataW.TrodVars enc P w sp ns gs ps → gs.length = ns.length
  | [], [], _, _, _ => rfl
  | [], _ :: _, _, _, h => h.elim
  | _ :: _, [], _, _, h => h.elim
  | _ :: ns, _ :: gs, _, _, h => by
    obtain ⟨g, t, cs, fuel, p, q, h1, h2, h3, h4, hs, e⟩ := h
    rw [List.length_cons, List.length_cons, trodVars_length hs]
end
end Go.Proofs.Ytcbknmnlgoeniaa
