/-
  DERIVED. GIVEN WITH THE SEED: THE CARDS: each row of YtgnenmnfhakhnaaDoorRows.lean that lists a variable, with what it lists TIED to the program's text (the seventh form; the later family's looks); each row that meets fmt, with fmt's text TOLD by the authors' own Lean function (tested against real Go, not proved from fmt's source: count such statements apart). THE CARD IS WHAT COUNTS. Prove the row's statement (the work); the ties are given (YtgnenmnfhakhnaaDoorTie.lean); close each card by the builder's one call (the guide's Derived/Test/ToyasCard.lean, 'card_holds'). Laid BY PROGRAM, IN A SANDBOX (cutbox-door.mjs). By AI agents, Wed Nov 11 2026. No macro, syntax, notation, axiom, sorry.
-/
import Derived.Test.YtgnenmnfhakhnaaDoorRows
import GoSem.ClaimSeven
namespace Go.Proofs.YtgnenmnfhakhnaaDoor
namespace Rows

/-- THE TIED CARD OF 'laws.FnExactSightings'. -/
def fnExactSightingsCard : Claim7 := { stood := { row := fnExactSightingsRow, standIns := [], harness := (true, "8ef38fda0921660c7ec25f9934c5aa88040d1a97277b11f281c8e706912ba657"), looks := false }, kinds := [], alts := [], laidByText := true, laidKinds := [.data], laidTests := true, laidLooks := .later }
def FnExactSightingsCardSaid : Prop := Claim7.holds Tryd.pinned (.plain (OpenSpec.ofChange fnExactSightingsSpec)) fnExactSightingsCard

/-- THE SECOND FORM's CARD OF 'laws.FnExactSightings'. -/
def fnExactSightingsUptoCard : Claim7 := { stood := { row := fnExactSightingsUptoRow, standIns := [], harness := (true, "8ef38fda0921660c7ec25f9934c5aa88040d1a97277b11f281c8e706912ba657"), looks := false }, kinds := [], alts := [], laidByText := true, laidKinds := [.data], laidTests := true, laidLooks := .later }
def FnExactSightingsUptoCardSaid : Prop := Claim7.holds Tryd.pinned (.plain (OpenSpec.upto fnExactSightingsSpec)) fnExactSightingsUptoCard
end Rows
end Go.Proofs.YtgnenmnfhakhnaaDoor
