/-
  DERIVED. GIVEN WITH THE SEED: THE CARDS: each row of YtgcelmnmalfpcaaDoorRows.lean that lists a variable, with what it lists TIED to the program's text (the seventh form; the later family's looks); each row that meets fmt, with fmt's text TOLD by the authors' own Lean function (tested against real Go, not proved from fmt's source: count such statements apart). THE CARD IS WHAT COUNTS. Prove the row's statement (the work); the ties are given (YtgcelmnmalfpcaaDoorTie.lean); close each card by the builder's one call (the guide's Derived/Test/ToyasCard.lean, 'card_holds'). Laid BY PROGRAM, IN A SANDBOX (cutbox-door.mjs). By AI agents, Wed Nov 11 2026. No macro, syntax, notation, axiom, sorry.
-/
import Derived.Test.YtgcelmnmalfpcaaDoorRows
import GoSem.ClaimSeven
namespace Go.Proofs.YtgcelmnmalfpcaaDoor
namespace Rows

/-- THE TIED CARD OF 'laws.FnExactSightings'. -/
def fnExactSightingsCard : Claim7 := { stood := { row := fnExactSightingsRow, standIns := [], harness := (true, "fbb5f914be1a82b2997c55728b8724e245ea931813edfdebcef55dd3f101c03d"), looks := false }, kinds := [], alts := [], laidByText := true, laidKinds := [.data], laidTests := true, laidLooks := .later }
def FnExactSightingsCardSaid : Prop := Claim7.holds Tryd.pinned (.plain (OpenSpec.ofChange fnExactSightingsSpec)) fnExactSightingsCard

/-- THE TIED CARD OF 'laws.FnExactLightOk'. -/
def fnExactLightOkCard : Claim7 := { stood := { row := fnExactLightOkRow, standIns := [], harness := (true, "fbb5f914be1a82b2997c55728b8724e245ea931813edfdebcef55dd3f101c03d"), looks := false }, kinds := [], alts := [], laidByText := true, laidKinds := [.data], laidTests := true, laidLooks := .later }
def FnExactLightOkCardSaid : Prop := Claim7.holds Tryd.pinned (.plain (OpenSpec.ofChange fnExactLightOkSpec)) fnExactLightOkCard

/-- THE TIED CARD OF 'laws.FnExactLightSeen'. -/
def fnExactLightSeenCard : Claim7 := { stood := { row := fnExactLightSeenRow, standIns := [], harness := (true, "fbb5f914be1a82b2997c55728b8724e245ea931813edfdebcef55dd3f101c03d"), looks := false }, kinds := [], alts := [], laidByText := true, laidKinds := [.data], laidTests := true, laidLooks := .later }
def FnExactLightSeenCardSaid : Prop := Claim7.holds Tryd.pinned (.plain (OpenSpec.ofChange fnExactLightSeenSpec)) fnExactLightSeenCard

/-- THE SECOND FORM's CARD OF 'laws.FnExactSightings'. -/
def fnExactSightingsUptoCard : Claim7 := { stood := { row := fnExactSightingsUptoRow, standIns := [], harness := (true, "fbb5f914be1a82b2997c55728b8724e245ea931813edfdebcef55dd3f101c03d"), looks := false }, kinds := [], alts := [], laidByText := true, laidKinds := [.data], laidTests := true, laidLooks := .later }
def FnExactSightingsUptoCardSaid : Prop := Claim7.holds Tryd.pinned (.plain (OpenSpec.upto fnExactSightingsSpec)) fnExactSightingsUptoCard

/-- THE SECOND FORM's CARD OF 'laws.FnExactLightOk'. -/
def fnExactLightOkUptoCard : Claim7 := { stood := { row := fnExactLightOkUptoRow, standIns := [], harness := (true, "fbb5f914be1a82b2997c55728b8724e245ea931813edfdebcef55dd3f101c03d"), looks := false }, kinds := [], alts := [], laidByText := true, laidKinds := [.data], laidTests := true, laidLooks := .later }
def FnExactLightOkUptoCardSaid : Prop := Claim7.holds Tryd.pinned (.plain (OpenSpec.upto fnExactLightOkSpec)) fnExactLightOkUptoCard

/-- THE SECOND FORM's CARD OF 'laws.FnExactLightSeen'. -/
def fnExactLightSeenUptoCard : Claim7 := { stood := { row := fnExactLightSeenUptoRow, standIns := [], harness := (true, "fbb5f914be1a82b2997c55728b8724e245ea931813edfdebcef55dd3f101c03d"), looks := false }, kinds := [], alts := [], laidByText := true, laidKinds := [.data], laidTests := true, laidLooks := .later }
def FnExactLightSeenUptoCardSaid : Prop := Claim7.holds Tryd.pinned (.plain (OpenSpec.upto fnExactLightSeenSpec)) fnExactLightSeenUptoCard
end Rows
end Go.Proofs.YtgcelmnmalfpcaaDoor
