/-
  DERIVED. GIVEN WITH THE SEED: THE CARDS: each row of YtmdjnohdkhepjaaDoorRows.lean that lists a variable, with what it lists TIED to the program's text (the seventh form; the later family's looks); each row that meets fmt, with fmt's text TOLD by the authors' own Lean function (tested against real Go, not proved from fmt's source: count such statements apart). THE CARD IS WHAT COUNTS. Prove the row's statement (the work); the ties are given (YtmdjnohdkhepjaaDoorTie.lean); close each card by the builder's one call (the guide's Derived/Test/ToyasCard.lean, 'card_holds'). Laid BY PROGRAM, IN A SANDBOX (cutbox-door.mjs). By AI agents, Wed Nov 11 2026. No macro, syntax, notation, axiom, sorry.
-/
import Derived.Test.YtmdjnohdkhepjaaDoorRows
import GoSem.ClaimSeven
namespace Go.Proofs.YtmdjnohdkhepjaaDoor
namespace Rows

/-- THE TIED CARD OF 'laws.FnHsig'. -/
def fnHsigCard : Claim7 := { stood := { row := fnHsigRow, standIns := [], harness := (true, "f12283149c1d9a5027c46a7d5f192d9a6b52ca902dca0789d00ab059215eeac4"), looks := false }, kinds := [], alts := [], laidByText := true, laidKinds := [.data], laidTests := true, laidLooks := .later }
def FnHsigCardSaid : Prop := Claim7.holds Tryd.pinned (.plain (OpenSpec.ofChange fnHsigSpec)) fnHsigCard

/-- THE TIED CARD OF 'laws.FnVals'. -/
def fnValsCard : Claim7 := { stood := { row := fnValsRow, standIns := [], harness := (true, "f12283149c1d9a5027c46a7d5f192d9a6b52ca902dca0789d00ab059215eeac4"), looks := false }, kinds := [], alts := [], laidByText := true, laidKinds := [.data], laidTests := true, laidLooks := .later }
def FnValsCardSaid : Prop := Claim7.holds Tryd.pinned (.plain (OpenSpec.ofChange fnValsSpec)) fnValsCard

/-- THE SECOND FORM's CARD OF 'laws.FnHsig'. -/
def fnHsigUptoCard : Claim7 := { stood := { row := fnHsigUptoRow, standIns := [], harness := (true, "f12283149c1d9a5027c46a7d5f192d9a6b52ca902dca0789d00ab059215eeac4"), looks := false }, kinds := [], alts := [], laidByText := true, laidKinds := [.data], laidTests := true, laidLooks := .later }
def FnHsigUptoCardSaid : Prop := Claim7.holds Tryd.pinned (.plain (OpenSpec.upto fnHsigSpec)) fnHsigUptoCard

/-- THE SECOND FORM's CARD OF 'laws.FnVals'. -/
def fnValsUptoCard : Claim7 := { stood := { row := fnValsUptoRow, standIns := [], harness := (true, "f12283149c1d9a5027c46a7d5f192d9a6b52ca902dca0789d00ab059215eeac4"), looks := false }, kinds := [], alts := [], laidByText := true, laidKinds := [.data], laidTests := true, laidLooks := .later }
def FnValsUptoCardSaid : Prop := Claim7.holds Tryd.pinned (.plain (OpenSpec.upto fnValsSpec)) fnValsUptoCard
end Rows
end Go.Proofs.YtmdjnohdkhepjaaDoor
