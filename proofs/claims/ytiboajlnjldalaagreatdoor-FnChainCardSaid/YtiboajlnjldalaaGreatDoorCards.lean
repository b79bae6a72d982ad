/-
  DERIVED. GIVEN WITH THE SEED: THE CARDS: each row of YtiboajlnjldalaaGreatDoorRows.lean that lists a variable, with what it lists TIED to the program's text (the seventh form; the later family's looks); each row that meets fmt, with fmt's text TOLD by the authors' own Lean function (tested against real Go, not proved from fmt's source: count such statements apart). THE CARD IS WHAT COUNTS. Prove the row's statement (the work); the ties are given (YtiboajlnjldalaaGreatDoorTie.lean); close each card by the builder's one call (the guide's Derived/Test/ToyasCard.lean, 'card_holds'). Laid BY PROGRAM, IN A SANDBOX (cutbox-door.mjs). By AI agents, Wed Nov 11 2026. No macro, syntax, notation, axiom, sorry.
-/
import Derived.Test.YtiboajlnjldalaaGreatDoorRows
import GoSem.ClaimSeven
namespace Go.Proofs.YtiboajlnjldalaaGreatDoor
namespace Rows

/-- THE TIED CARD OF 'laws.FnChain'. -/
def fnChainCard : Claim7 := { stood := { row := fnChainRow, standIns := [], harness := (true, "340578ceeb9c46ab6f7043f310472ce152bd0b2b39e0d1b7f5008f81f9fe48bf"), looks := false }, kinds := [], alts := [], laidByText := true, laidKinds := [.data], laidTests := true, laidLooks := .later }
def FnChainCardSaid : Prop := Claim7.holds Tryz.pinned (.plain (OpenSpec.ofChange fnChainSpec)) fnChainCard

/-- THE TIED CARD OF 'laws.FnExactServeReq'. -/
def fnExactServeReqCard : Claim7 := { stood := { row := fnExactServeReqRow, standIns := [], harness := (true, "340578ceeb9c46ab6f7043f310472ce152bd0b2b39e0d1b7f5008f81f9fe48bf"), looks := false }, kinds := [], alts := [], laidByText := true, laidKinds := [.data], laidTests := true, laidLooks := .later }
def FnExactServeReqCardSaid : Prop := Claim7.holds Tryz.pinned (.plain (OpenSpec.ofChange fnExactServeReqSpec)) fnExactServeReqCard

/-- THE TIED CARD OF 'laws.FnServe'. -/
def fnServeCard : Claim7 := { stood := { row := fnServeRow, standIns := [], harness := (true, "340578ceeb9c46ab6f7043f310472ce152bd0b2b39e0d1b7f5008f81f9fe48bf"), looks := false }, kinds := [], alts := [], laidByText := true, laidKinds := [.data], laidTests := true, laidLooks := .later }
def FnServeCardSaid : Prop := Claim7.holds Tryz.pinned (.plain (OpenSpec.ofChange fnServeSpec)) fnServeCard

/-- THE TIED CARD OF 'laws.FnExactLightNew'. -/
def fnExactLightNewCard : Claim7 := { stood := { row := fnExactLightNewRow, standIns := [], harness := (true, "340578ceeb9c46ab6f7043f310472ce152bd0b2b39e0d1b7f5008f81f9fe48bf"), looks := false }, kinds := [], alts := [], laidByText := true, laidKinds := [.data], laidTests := true, laidLooks := .later }
def FnExactLightNewCardSaid : Prop := Claim7.holds Tryz.pinned (.plain (OpenSpec.ofChange fnExactLightNewSpec)) fnExactLightNewCard

/-- THE TIED CARD OF 'laws.FnExactLightFeed'. -/
def fnExactLightFeedCard : Claim7 := { stood := { row := fnExactLightFeedRow, standIns := [], harness := (true, "340578ceeb9c46ab6f7043f310472ce152bd0b2b39e0d1b7f5008f81f9fe48bf"), looks := false }, kinds := [], alts := [], laidByText := true, laidKinds := [.data], laidTests := true, laidLooks := .later }
def FnExactLightFeedCardSaid : Prop := Claim7.holds Tryz.pinned (.plain (OpenSpec.ofChange fnExactLightFeedSpec)) fnExactLightFeedCard

/-- THE TIED CARD OF 'laws.FnExactSync'. -/
def fnExactSyncCard : Claim7 := { stood := { row := fnExactSyncRow, standIns := [], harness := (true, "340578ceeb9c46ab6f7043f310472ce152bd0b2b39e0d1b7f5008f81f9fe48bf"), looks := false }, kinds := [], alts := [], laidByText := true, laidKinds := [.data], laidTests := true, laidLooks := .later }
def FnExactSyncCardSaid : Prop := Claim7.holds Tryz.pinned (.plain (OpenSpec.ofChange fnExactSyncSpec)) fnExactSyncCard

/-- THE TIED CARD OF 'laws.FnLight'. -/
def fnLightCard : Claim7 := { stood := { row := fnLightRow, standIns := [], harness := (true, "340578ceeb9c46ab6f7043f310472ce152bd0b2b39e0d1b7f5008f81f9fe48bf"), looks := false }, kinds := [], alts := [], laidByText := true, laidKinds := [.data], laidTests := true, laidLooks := .later }
def FnLightCardSaid : Prop := Claim7.holds Tryz.pinned (.plain (OpenSpec.ofChange fnLightSpec)) fnLightCard

/-- THE TIED CARD OF 'laws.FnReached'. -/
def fnReachedCard : Claim7 := { stood := { row := fnReachedRow, standIns := [], harness := (true, "340578ceeb9c46ab6f7043f310472ce152bd0b2b39e0d1b7f5008f81f9fe48bf"), looks := false }, kinds := [], alts := [], laidByText := true, laidKinds := [.data], laidTests := true, laidLooks := .later }
def FnReachedCardSaid : Prop := Claim7.holds Tryz.pinned (.plain (OpenSpec.ofChange fnReachedSpec)) fnReachedCard

/-- THE SECOND FORM's CARD OF 'laws.FnChain'. -/
def fnChainUptoCard : Claim7 := { stood := { row := fnChainUptoRow, standIns := [], harness := (true, "340578ceeb9c46ab6f7043f310472ce152bd0b2b39e0d1b7f5008f81f9fe48bf"), looks := false }, kinds := [], alts := [], laidByText := true, laidKinds := [.data], laidTests := true, laidLooks := .later }
def FnChainUptoCardSaid : Prop := Claim7.holds Tryz.pinned (.plain (OpenSpec.upto fnChainSpec)) fnChainUptoCard

/-- THE SECOND FORM's CARD OF 'laws.FnExactServeReq'. -/
def fnExactServeReqUptoCard : Claim7 := { stood := { row := fnExactServeReqUptoRow, standIns := [], harness := (true, "340578ceeb9c46ab6f7043f310472ce152bd0b2b39e0d1b7f5008f81f9fe48bf"), looks := false }, kinds := [], alts := [], laidByText := true, laidKinds := [.data], laidTests := true, laidLooks := .later }
def FnExactServeReqUptoCardSaid : Prop := Claim7.holds Tryz.pinned (.plain (OpenSpec.upto fnExactServeReqSpec)) fnExactServeReqUptoCard

/-- THE SECOND FORM's CARD OF 'laws.FnServe'. -/
def fnServeUptoCard : Claim7 := { stood := { row := fnServeUptoRow, standIns := [], harness := (true, "340578ceeb9c46ab6f7043f310472ce152bd0b2b39e0d1b7f5008f81f9fe48bf"), looks := false }, kinds := [], alts := [], laidByText := true, laidKinds := [.data], laidTests := true, laidLooks := .later }
def FnServeUptoCardSaid : Prop := Claim7.holds Tryz.pinned (.plain (OpenSpec.upto fnServeSpec)) fnServeUptoCard

/-- THE SECOND FORM's CARD OF 'laws.FnExactLightNew'. -/
def fnExactLightNewUptoCard : Claim7 := { stood := { row := fnExactLightNewUptoRow, standIns := [], harness := (true, "340578ceeb9c46ab6f7043f310472ce152bd0b2b39e0d1b7f5008f81f9fe48bf"), looks := false }, kinds := [], alts := [], laidByText := true, laidKinds := [.data], laidTests := true, laidLooks := .later }
def FnExactLightNewUptoCardSaid : Prop := Claim7.holds Tryz.pinned (.plain (OpenSpec.upto fnExactLightNewSpec)) fnExactLightNewUptoCard

/-- THE SECOND FORM's CARD OF 'laws.FnExactLightFeed'. -/
def fnExactLightFeedUptoCard : Claim7 := { stood := { row := fnExactLightFeedUptoRow, standIns := [], harness := (true, "340578ceeb9c46ab6f7043f310472ce152bd0b2b39e0d1b7f5008f81f9fe48bf"), looks := false }, kinds := [], alts := [], laidByText := true, laidKinds := [.data], laidTests := true, laidLooks := .later }
def FnExactLightFeedUptoCardSaid : Prop := Claim7.holds Tryz.pinned (.plain (OpenSpec.upto fnExactLightFeedSpec)) fnExactLightFeedUptoCard

/-- THE SECOND FORM's CARD OF 'laws.FnExactSync'. -/
def fnExactSyncUptoCard : Claim7 := { stood := { row := fnExactSyncUptoRow, standIns := [], harness := (true, "340578ceeb9c46ab6f7043f310472ce152bd0b2b39e0d1b7f5008f81f9fe48bf"), looks := false }, kinds := [], alts := [], laidByText := true, laidKinds := [.data], laidTests := true, laidLooks := .later }
def FnExactSyncUptoCardSaid : Prop := Claim7.holds Tryz.pinned (.plain (OpenSpec.upto fnExactSyncSpec)) fnExactSyncUptoCard

/-- THE SECOND FORM's CARD OF 'laws.FnLight'. -/
def fnLightUptoCard : Claim7 := { stood := { row := fnLightUptoRow, standIns := [], harness := (true, "340578ceeb9c46ab6f7043f310472ce152bd0b2b39e0d1b7f5008f81f9fe48bf"), looks := false }, kinds := [], alts := [], laidByText := true, laidKinds := [.data], laidTests := true, laidLooks := .later }
def FnLightUptoCardSaid : Prop := Claim7.holds Tryz.pinned (.plain (OpenSpec.upto fnLightSpec)) fnLightUptoCard

/-- THE SECOND FORM's CARD OF 'laws.FnReached'. -/
def fnReachedUptoCard : Claim7 := { stood := { row := fnReachedUptoRow, standIns := [], harness := (true, "340578ceeb9c46ab6f7043f310472ce152bd0b2b39e0d1b7f5008f81f9fe48bf"), looks := false }, kinds := [], alts := [], laidByText := true, laidKinds := [.data], laidTests := true, laidLooks := .later }
def FnReachedUptoCardSaid : Prop := Claim7.holds Tryz.pinned (.plain (OpenSpec.upto fnReachedSpec)) fnReachedUptoCard
end Rows
end Go.Proofs.YtiboajlnjldalaaGreatDoor
