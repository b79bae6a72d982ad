/- The pure machine: what follows, walked once for all ways that lead there. -/
import Derived.Test.YtcbknmnlgoeniaaK1
namespace Go.Proofs.Ytcbknmnlgoeniaa
set_option linter.unusedSimpArgs false
set_option linter.unusedVariables false
open Go.RowKit

/-! ### What follows, once for all ways that lead there -/
def Mk (p : Prop) : Prop := p
theorem Mk.of {p : Prop} (h : p) : Mk p := h
theorem mkRegion {P : Program} {N : Nat} {id : Nat} {ops : Array Oper} {b : Bool} {Q : Exit → St → Prop} {σ : St} (h : Mk (PWp P N (.region id ops b) Q σ)) : PWp P N (.region id ops b) Q σ := h
theorem PWp.cap {P : Program} {N : Nat} {c cb : Code} {Q Qb : Exit → St → Prop} {tm0 : List PV} {Hb : Hp} {α : Type} (car : α → List (Nat × PV)) (fgt : List Nat) (HH : α → Hp) (I : α → Prop)
    (main : (∀ x tm H, I x → FitsR N (patK (car x) fgt tm0) (HH x) ⟨tm, H⟩ → PWp P N c Q ⟨tm, H⟩) → PWp P N cb Qb ⟨tm0, Hb⟩)
    (t : ∀ x ρ, I x → PWp P N c Q ⟨instP ρ 0 (patK (car x) fgt tm0), HH x⟩) : PWp P N cb Qb ⟨tm0, Hb⟩ :=
  main fun x tm H hx f E a w hN r => by
    subst hN
    obtain ⟨ρ, r'⟩ := f.rel r
    exact t x ρ hx E a w rfl r'
end Go.Proofs.Ytcbknmnlgoeniaa
