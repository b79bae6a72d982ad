/-
  DERIVED. GIVEN WITH THE SEED: THE CARDS: each row of YtgcelmnmalfpcaaGreatDoorRows.lean that lists a variable, with what it lists TIED to the program's text (the seventh form; the later family's looks); each row that meets fmt, with fmt's text TOLD by the authors' own Lean function (tested against real Go, not proved from fmt's source: count such statements apart). THE CARD IS WHAT COUNTS. Prove the row's statement (the work); the ties are given (YtgcelmnmalfpcaaGreatDoorTie.lean); close each card by the builder's one call (the guide's Derived/Test/ToyasCard.lean, 'card_holds'). Laid BY PROGRAM, IN A SANDBOX (cutbox-door.mjs). By AI agents, Wed Nov 11 2026. No macro, syntax, notation, axiom, sorry.
-/
import Derived.Test.YtgcelmnmalfpcaaGreatDoorRows
import GoSem.ClaimSeven
namespace Go.Proofs.YtgcelmnmalfpcaaGreatDoor
namespace Rows

/-- THE TIED CARD OF 'laws.FnExactLightFall'. -/
def fnExactLightFallCard : Claim7 := { stood := { row := fnExactLightFallRow, standIns := [], harness := (true, "03762dd660d0ad82ce5a764aad40fe0a4deb30e90b0e0b493e3d1897a87efe8b"), looks := false }, kinds := [], alts := [], laidByText := true, laidKinds := [.data], laidTests := true, laidLooks := .later }
def FnExactLightFallCardSaid : Prop := Claim7.holds Tryz.pinned (.plain (OpenSpec.ofChange fnExactLightFallSpec)) fnExactLightFallCard

/-- THE TIED CARD OF 'laws.FnExactLightTick'. -/
def fnExactLightTickCard : Claim7 := { stood := { row := fnExactLightTickRow, standIns := [], harness := (true, "03762dd660d0ad82ce5a764aad40fe0a4deb30e90b0e0b493e3d1897a87efe8b"), looks := false }, kinds := [], alts := [], laidByText := true, laidKinds := [.data], laidTests := true, laidLooks := .later }
def FnExactLightTickCardSaid : Prop := Claim7.holds Tryz.pinned (.plain (OpenSpec.ofChange fnExactLightTickSpec)) fnExactLightTickCard

/-- THE TIED CARD OF 'laws.FnExactBlockOk'. -/
def fnExactBlockOkCard : Claim7 := { stood := { row := fnExactBlockOkRow, standIns := [], harness := (true, "03762dd660d0ad82ce5a764aad40fe0a4deb30e90b0e0b493e3d1897a87efe8b"), looks := false }, kinds := [], alts := [], laidByText := true, laidKinds := [.data], laidTests := true, laidLooks := .later }
def FnExactBlockOkCardSaid : Prop := Claim7.holds Tryz.pinned (.plain (OpenSpec.ofChange fnExactBlockOkSpec)) fnExactBlockOkCard

/-- THE TIED CARD OF 'laws.FnExactChainOk'. -/
def fnExactChainOkCard : Claim7 := { stood := { row := fnExactChainOkRow, standIns := [], harness := (true, "03762dd660d0ad82ce5a764aad40fe0a4deb30e90b0e0b493e3d1897a87efe8b"), looks := false }, kinds := [], alts := [], laidByText := true, laidKinds := [.data], laidTests := true, laidLooks := .later }
def FnExactChainOkCardSaid : Prop := Claim7.holds Tryz.pinned (.plain (OpenSpec.ofChange fnExactChainOkSpec)) fnExactChainOkCard

/-- THE TIED CARD OF 'laws.FnExactLightNew'. -/
def fnExactLightNewCard : Claim7 := { stood := { row := fnExactLightNewRow, standIns := [], harness := (true, "03762dd660d0ad82ce5a764aad40fe0a4deb30e90b0e0b493e3d1897a87efe8b"), looks := false }, kinds := [], alts := [], laidByText := true, laidKinds := [.data], laidTests := true, laidLooks := .later }
def FnExactLightNewCardSaid : Prop := Claim7.holds Tryz.pinned (.plain (OpenSpec.ofChange fnExactLightNewSpec)) fnExactLightNewCard

/-- THE TIED CARD OF 'laws.FnExactBehind'. -/
def fnExactBehindCard : Claim7 := { stood := { row := fnExactBehindRow, standIns := [], harness := (true, "03762dd660d0ad82ce5a764aad40fe0a4deb30e90b0e0b493e3d1897a87efe8b"), looks := false }, kinds := [], alts := [], laidByText := true, laidKinds := [.data], laidTests := true, laidLooks := .later }
def FnExactBehindCardSaid : Prop := Claim7.holds Tryz.pinned (.plain (OpenSpec.ofChange fnExactBehindSpec)) fnExactBehindCard

/-- THE TIED CARD OF 'laws.FnExactCaught'. -/
def fnExactCaughtCard : Claim7 := { stood := { row := fnExactCaughtRow, standIns := [], harness := (true, "03762dd660d0ad82ce5a764aad40fe0a4deb30e90b0e0b493e3d1897a87efe8b"), looks := false }, kinds := [], alts := [], laidByText := true, laidKinds := [.data], laidTests := true, laidLooks := .later }
def FnExactCaughtCardSaid : Prop := Claim7.holds Tryz.pinned (.plain (OpenSpec.ofChange fnExactCaughtSpec)) fnExactCaughtCard

/-- THE TIED CARD OF 'laws.FnExactLightFeed'. -/
def fnExactLightFeedCard : Claim7 := { stood := { row := fnExactLightFeedRow, standIns := [], harness := (true, "03762dd660d0ad82ce5a764aad40fe0a4deb30e90b0e0b493e3d1897a87efe8b"), looks := false }, kinds := [], alts := [], laidByText := true, laidKinds := [.data], laidTests := true, laidLooks := .later }
def FnExactLightFeedCardSaid : Prop := Claim7.holds Tryz.pinned (.plain (OpenSpec.ofChange fnExactLightFeedSpec)) fnExactLightFeedCard

/-- THE TIED CARD OF 'laws.FnExactSync'. -/
def fnExactSyncCard : Claim7 := { stood := { row := fnExactSyncRow, standIns := [], harness := (true, "03762dd660d0ad82ce5a764aad40fe0a4deb30e90b0e0b493e3d1897a87efe8b"), looks := false }, kinds := [], alts := [], laidByText := true, laidKinds := [.data], laidTests := true, laidLooks := .later }
def FnExactSyncCardSaid : Prop := Claim7.holds Tryz.pinned (.plain (OpenSpec.ofChange fnExactSyncSpec)) fnExactSyncCard

/-- THE SECOND FORM's CARD OF 'laws.FnExactLightFall'. -/
def fnExactLightFallUptoCard : Claim7 := { stood := { row := fnExactLightFallUptoRow, standIns := [], harness := (true, "03762dd660d0ad82ce5a764aad40fe0a4deb30e90b0e0b493e3d1897a87efe8b"), looks := false }, kinds := [], alts := [], laidByText := true, laidKinds := [.data], laidTests := true, laidLooks := .later }
def FnExactLightFallUptoCardSaid : Prop := Claim7.holds Tryz.pinned (.plain (OpenSpec.upto fnExactLightFallSpec)) fnExactLightFallUptoCard

/-- THE SECOND FORM's CARD OF 'laws.FnExactLightTick'. -/
def fnExactLightTickUptoCard : Claim7 := { stood := { row := fnExactLightTickUptoRow, standIns := [], harness := (true, "03762dd660d0ad82ce5a764aad40fe0a4deb30e90b0e0b493e3d1897a87efe8b"), looks := false }, kinds := [], alts := [], laidByText := true, laidKinds := [.data], laidTests := true, laidLooks := .later }
def FnExactLightTickUptoCardSaid : Prop := Claim7.holds Tryz.pinned (.plain (OpenSpec.upto fnExactLightTickSpec)) fnExactLightTickUptoCard

/-- THE SECOND FORM's CARD OF 'laws.FnExactBlockOk'. -/
def fnExactBlockOkUptoCard : Claim7 := { stood := { row := fnExactBlockOkUptoRow, standIns := [], harness := (true, "03762dd660d0ad82ce5a764aad40fe0a4deb30e90b0e0b493e3d1897a87efe8b"), looks := false }, kinds := [], alts := [], laidByText := true, laidKinds := [.data], laidTests := true, laidLooks := .later }
def FnExactBlockOkUptoCardSaid : Prop := Claim7.holds Tryz.pinned (.plain (OpenSpec.upto fnExactBlockOkSpec)) fnExactBlockOkUptoCard

/-- THE SECOND FORM's CARD OF 'laws.FnExactChainOk'. -/
def fnExactChainOkUptoCard : Claim7 := { stood := { row := fnExactChainOkUptoRow, standIns := [], harness := (true, "03762dd660d0ad82ce5a764aad40fe0a4deb30e90b0e0b493e3d1897a87efe8b"), looks := false }, kinds := [], alts := [], laidByText := true, laidKinds := [.data], laidTests := true, laidLooks := .later }
def FnExactChainOkUptoCardSaid : Prop := Claim7.holds Tryz.pinned (.plain (OpenSpec.upto fnExactChainOkSpec)) fnExactChainOkUptoCard

/-- THE SECOND FORM's CARD OF 'laws.FnExactLightNew'. -/
def fnExactLightNewUptoCard : Claim7 := { stood := { row := fnExactLightNewUptoRow, standIns := [], harness := (true, "03762dd660d0ad82ce5a764aad40fe0a4deb30e90b0e0b493e3d1897a87efe8b"), looks := false }, kinds := [], alts := [], laidByText := true, laidKinds := [.data], laidTests := true, laidLooks := .later }
def FnExactLightNewUptoCardSaid : Prop := Claim7.holds Tryz.pinned (.plain (OpenSpec.upto fnExactLightNewSpec)) fnExactLightNewUptoCard

/-- THE SECOND FORM's CARD OF 'laws.FnExactBehind'. -/
def fnExactBehindUptoCard : Claim7 := { stood := { row := fnExactBehindUptoRow, standIns := [], harness := (true, "03762dd660d0ad82ce5a764aad40fe0a4deb30e90b0e0b493e3d1897a87efe8b"), looks := false }, kinds := [], alts := [], laidByText := true, laidKinds := [.data], laidTests := true, laidLooks := .later }
def FnExactBehindUptoCardSaid : Prop := Claim7.holds Tryz.pinned (.plain (OpenSpec.upto fnExactBehindSpec)) fnExactBehindUptoCard

/-- THE SECOND FORM's CARD OF 'laws.FnExactCaught'. -/
def fnExactCaughtUptoCard : Claim7 := { stood := { row := fnExactCaughtUptoRow, standIns := [], harness := (true, "03762dd660d0ad82ce5a764aad40fe0a4deb30e90b0e0b493e3d1897a87efe8b"), looks := false }, kinds := [], alts := [], laidByText := true, laidKinds := [.data], laidTests := true, laidLooks := .later }
def FnExactCaughtUptoCardSaid : Prop := Claim7.holds Tryz.pinned (.plain (OpenSpec.upto fnExactCaughtSpec)) fnExactCaughtUptoCard

/-- THE SECOND FORM's CARD OF 'laws.FnExactLightFeed'. -/
def fnExactLightFeedUptoCard : Claim7 := { stood := { row := fnExactLightFeedUptoRow, standIns := [], harness := (true, "03762dd660d0ad82ce5a764aad40fe0a4deb30e90b0e0b493e3d1897a87efe8b"), looks := false }, kinds := [], alts := [], laidByText := true, laidKinds := [.data], laidTests := true, laidLooks := .later }
def FnExactLightFeedUptoCardSaid : Prop := Claim7.holds Tryz.pinned (.plain (OpenSpec.upto fnExactLightFeedSpec)) fnExactLightFeedUptoCard

/-- THE SECOND FORM's CARD OF 'laws.FnExactSync'. -/
def fnExactSyncUptoCard : Claim7 := { stood := { row := fnExactSyncUptoRow, standIns := [], harness := (true, "03762dd660d0ad82ce5a764aad40fe0a4deb30e90b0e0b493e3d1897a87efe8b"), looks := false }, kinds := [], alts := [], laidByText := true, laidKinds := [.data], laidTests := true, laidLooks := .later }
def FnExactSyncUptoCardSaid : Prop := Claim7.holds Tryz.pinned (.plain (OpenSpec.upto fnExactSyncSpec)) fnExactSyncUptoCard
end Rows
end Go.Proofs.YtgcelmnmalfpcaaGreatDoor
