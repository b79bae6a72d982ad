/-
  DERIVED. GIVEN WITH THE SEED: THE CARDS: each row of YtolabdbojephpaaDoorRows.lean that lists a variable, with what it lists TIED to the program's text (the seventh form; the later family's looks); each row that meets fmt, with fmt's text TOLD by the authors' own Lean function (tested against real Go, not proved from fmt's source: count such statements apart). THE CARD IS WHAT COUNTS. Prove the row's statement (the work); the ties are given (YtolabdbojephpaaDoorTie.lean); close each card by the builder's one call (the guide's Derived/Test/ToyasCard.lean, 'card_holds'). Laid BY PROGRAM, IN A SANDBOX (cutbox-door.mjs). By AI agents, Wed Nov 11 2026. No macro, syntax, notation, axiom, sorry.
-/
import Derived.Test.YtolabdbojephpaaDoorRows
import GoSem.ClaimSeven
namespace Go.Proofs.YtolabdbojephpaaDoor
namespace Rows

/-- THE TIED CARD OF 'laws.FnVals'. -/
def fnValsCard : Claim7 := { stood := { row := fnValsRow, standIns := [], harness := (true, "3372c117a6c49aad05326e1bc3d9caefd24673862cbee7b39d7d1c38036fba94"), looks := false }, kinds := [], alts := [], laidByText := true, laidKinds := [.data], laidTests := true, laidLooks := .later }
def FnValsCardSaid : Prop := Claim7.holds Tryd.pinned (.plain (OpenSpec.ofChange fnValsSpec)) fnValsCard

/-- THE TIED CARD OF 'laws.FnSha'. -/
def fnShaCard : Claim7 := { stood := { row := fnShaRow, standIns := [], harness := (true, "3372c117a6c49aad05326e1bc3d9caefd24673862cbee7b39d7d1c38036fba94"), looks := false }, kinds := [], alts := [], laidByText := true, laidKinds := [.data], laidTests := true, laidLooks := .later }
def FnShaCardSaid : Prop := Claim7.holds Tryd.pinned (.plain (OpenSpec.ofChange fnShaSpec)) fnShaCard

/-- THE SECOND FORM's CARD OF 'laws.FnVals'. -/
def fnValsUptoCard : Claim7 := { stood := { row := fnValsUptoRow, standIns := [], harness := (true, "3372c117a6c49aad05326e1bc3d9caefd24673862cbee7b39d7d1c38036fba94"), looks := false }, kinds := [], alts := [], laidByText := true, laidKinds := [.data], laidTests := true, laidLooks := .later }
def FnValsUptoCardSaid : Prop := Claim7.holds Tryd.pinned (.plain (OpenSpec.upto fnValsSpec)) fnValsUptoCard

/-- THE SECOND FORM's CARD OF 'laws.FnSha'. -/
def fnShaUptoCard : Claim7 := { stood := { row := fnShaUptoRow, standIns := [], harness := (true, "3372c117a6c49aad05326e1bc3d9caefd24673862cbee7b39d7d1c38036fba94"), looks := false }, kinds := [], alts := [], laidByText := true, laidKinds := [.data], laidTests := true, laidLooks := .later }
def FnShaUptoCardSaid : Prop := Claim7.holds Tryd.pinned (.plain (OpenSpec.upto fnShaSpec)) fnShaUptoCard
end Rows
end Go.Proofs.YtolabdbojephpaaDoor
