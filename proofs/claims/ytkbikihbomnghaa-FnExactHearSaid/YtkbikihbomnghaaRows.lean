/-
  No cell of these rows narrows 'for every input' (looked for: loops, veiled, ifaces, maps, wideKeys, modest, calm, conditions, laid).
  DERIVED. THE GIVEN ROWS OF THIS SEAT. 11 by the template 'for every input the law returns true; each argument reads behind the call as it read before'; 0 by the template 'total and deterministic' (their statements: YtkbikihbomnghaaTotals.lean).
  GIVEN WITH THE SEED: the statements are not yours to turn. If you find one false, say at which input.
  Laid BY PROGRAM, IN A SANDBOX (cutbox-rows.mjs): the forced cells as the released guide's own fill.sh prints them over the translation ba9d4e1850dc6111… (all of the seat's roots in one cut). By AI agents, Wed Nov 11 2026. No macro, syntax, notation, axiom, sorry.
-/
import Derived.Test.YtkbikihbomnghaaChecked
import GoSem.Claim
import GoSem.ClaimJoined
import GoSem.ClaimMapViews
import Derived.JoinedTies
import Derived.KernelRfl
namespace Go.Proofs.Ytkbikihbomnghaa
/- THE CELL 'sum', in the pinned program and in every row, IS THE sha256 OF THE DUMP (.gsa) THAT YtkbikihbomnghaaProg.lean LOADS. Nothing in Lean hashes anything: it is a label: what it is worth is what the hold of that sum in a sandbox is worth. -/
noncomputable def Try.pinned : Pinned := { name := "ytkbikihbomnghaa", sum := "ba9d4e1850dc6111a4f2860b39b4ddcefd84c2c958dd29b45429aa08c5425853", checked := Try.checked }
namespace Rows
def none {H : Type} : Left H := { results := [], args := [] }

/-- 'laws.FnExactPeerAdd': WHATEVER THE INPUT: true; the input reads as it did. -/
def fnExactPeerAddSpec : ChangeSpec := { name := "fnExactPeerAdd", fn := fun _ => fun
  | [d1, d2, d3] => { results := [.lit (.bool true)], args := [d1, d2, d3] }
  | _ => none }
def fnExactPeerAddRow : OpenClaim := { program := "ytkbikihbomnghaa", sum := "ba9d4e1850dc6111a4f2860b39b4ddcefd84c2c958dd29b45429aa08c5425853", func := "loop.example/g00946/laws.FnExactPeerAdd", spec := "fnExactPeerAdd", unfollowed := true, recurses := true, apart := false }
def FnExactPeerAddSaid : Prop := fnExactPeerAddRow.holds Try.pinned (OpenSpec.ofChange fnExactPeerAddSpec)

/-- ITS FALSE NEIGHBOUR: 'it returns false'. Refute it at one input. -/
def fnExactPeerAddWrong : ChangeSpec := { name := "fnExactPeerAdd", fn := fun _ => fun
  | [d1, d2, d3] => { results := [.lit (.bool false)], args := [d1, d2, d3] }
  | _ => none }
def FnExactPeerAddWrongFalsely : Prop := fnExactPeerAddRow.holds Try.pinned (OpenSpec.ofChange fnExactPeerAddWrong)

/-- 'laws.FnSignedOnce': WHATEVER THE INPUT: true; the input reads as it did. -/
def fnSignedOnceSpec : ChangeSpec := { name := "fnSignedOnce", fn := fun _ => fun
  | [d] => { results := [.lit (.bool true)], args := [d] }
  | _ => none }
def fnSignedOnceRow : OpenClaim := { program := "ytkbikihbomnghaa", sum := "ba9d4e1850dc6111a4f2860b39b4ddcefd84c2c958dd29b45429aa08c5425853", func := "loop.example/g00946/laws.FnSignedOnce", spec := "fnSignedOnce", apart := false }
def FnSignedOnceSaid : Prop := fnSignedOnceRow.holds Try.pinned (OpenSpec.ofChange fnSignedOnceSpec)

/-- ITS FALSE NEIGHBOUR: 'it returns false'. Refute it at one input. -/
def fnSignedOnceWrong : ChangeSpec := { name := "fnSignedOnce", fn := fun _ => fun
  | [d] => { results := [.lit (.bool false)], args := [d] }
  | _ => none }
def FnSignedOnceWrongFalsely : Prop := fnSignedOnceRow.holds Try.pinned (OpenSpec.ofChange fnSignedOnceWrong)

/-- 'laws.FnExactBanned': WHATEVER THE INPUT: true; the input reads as it did. -/
def fnExactBannedSpec : ChangeSpec := { name := "fnExactBanned", fn := fun _ => fun
  | [d1, d2] => { results := [.lit (.bool true)], args := [d1, d2] }
  | _ => none }
def fnExactBannedRow : OpenClaim := { program := "ytkbikihbomnghaa", sum := "ba9d4e1850dc6111a4f2860b39b4ddcefd84c2c958dd29b45429aa08c5425853", func := "loop.example/g00946/laws.FnExactBanned", spec := "fnExactBanned", unfollowed := true, recurses := true, apart := false }
def FnExactBannedSaid : Prop := fnExactBannedRow.holds Try.pinned (OpenSpec.ofChange fnExactBannedSpec)

/-- ITS FALSE NEIGHBOUR: 'it returns false'. Refute it at one input. -/
def fnExactBannedWrong : ChangeSpec := { name := "fnExactBanned", fn := fun _ => fun
  | [d1, d2] => { results := [.lit (.bool false)], args := [d1, d2] }
  | _ => none }
def FnExactBannedWrongFalsely : Prop := fnExactBannedRow.holds Try.pinned (OpenSpec.ofChange fnExactBannedWrong)

/-- 'laws.FnPeers': WHATEVER THE INPUT: true; the input reads as it did. -/
def fnPeersSpec : ChangeSpec := { name := "fnPeers", fn := fun _ => fun
  | [d] => { results := [.lit (.bool true)], args := [d] }
  | _ => none }
def fnPeersRow : OpenClaim := { program := "ytkbikihbomnghaa", sum := "ba9d4e1850dc6111a4f2860b39b4ddcefd84c2c958dd29b45429aa08c5425853", func := "loop.example/g00946/laws.FnPeers", spec := "fnPeers", unfollowed := true, recurses := true, apart := false }
def FnPeersSaid : Prop := fnPeersRow.holds Try.pinned (OpenSpec.ofChange fnPeersSpec)

/-- ITS FALSE NEIGHBOUR: 'it returns false'. Refute it at one input. -/
def fnPeersWrong : ChangeSpec := { name := "fnPeers", fn := fun _ => fun
  | [d] => { results := [.lit (.bool false)], args := [d] }
  | _ => none }
def FnPeersWrongFalsely : Prop := fnPeersRow.holds Try.pinned (OpenSpec.ofChange fnPeersWrong)

/-- 'laws.FnWal': WHATEVER THE INPUT: true; the input reads as it did. -/
def fnWalSpec : ChangeSpec := { name := "fnWal", fn := fun _ => fun
  | [d] => { results := [.lit (.bool true)], args := [d] }
  | _ => none }
def fnWalRow : OpenClaim := { program := "ytkbikihbomnghaa", sum := "ba9d4e1850dc6111a4f2860b39b4ddcefd84c2c958dd29b45429aa08c5425853", func := "loop.example/g00946/laws.FnWal", spec := "fnWal", apart := false }
def FnWalSaid : Prop := fnWalRow.holds Try.pinned (OpenSpec.ofChange fnWalSpec)

/-- ITS FALSE NEIGHBOUR: 'it returns false'. Refute it at one input. -/
def fnWalWrong : ChangeSpec := { name := "fnWal", fn := fun _ => fun
  | [d] => { results := [.lit (.bool false)], args := [d] }
  | _ => none }
def FnWalWrongFalsely : Prop := fnWalRow.holds Try.pinned (OpenSpec.ofChange fnWalWrong)

/-- 'laws.FnLanes': WHATEVER THE INPUT: true; the input reads as it did. -/
def fnLanesSpec : ChangeSpec := { name := "fnLanes", fn := fun _ => fun
  | [d] => { results := [.lit (.bool true)], args := [d] }
  | _ => none }
def fnLanesRow : OpenClaim := { program := "ytkbikihbomnghaa", sum := "ba9d4e1850dc6111a4f2860b39b4ddcefd84c2c958dd29b45429aa08c5425853", func := "loop.example/g00946/laws.FnLanes", spec := "fnLanes", apart := false }
def FnLanesSaid : Prop := fnLanesRow.holds Try.pinned (OpenSpec.ofChange fnLanesSpec)

/-- ITS FALSE NEIGHBOUR: 'it returns false'. Refute it at one input. -/
def fnLanesWrong : ChangeSpec := { name := "fnLanes", fn := fun _ => fun
  | [d] => { results := [.lit (.bool false)], args := [d] }
  | _ => none }
def FnLanesWrongFalsely : Prop := fnLanesRow.holds Try.pinned (OpenSpec.ofChange fnLanesWrong)

/-- 'laws.FnExactLanesNext': WHATEVER THE INPUT: true; the input reads as it did. -/
def fnExactLanesNextSpec : ChangeSpec := { name := "fnExactLanesNext", fn := fun _ => fun
  | [d] => { results := [.lit (.bool true)], args := [d] }
  | _ => none }
def fnExactLanesNextRow : OpenClaim := { program := "ytkbikihbomnghaa", sum := "ba9d4e1850dc6111a4f2860b39b4ddcefd84c2c958dd29b45429aa08c5425853", func := "loop.example/g00946/laws.FnExactLanesNext", spec := "fnExactLanesNext", apart := false }
def FnExactLanesNextSaid : Prop := fnExactLanesNextRow.holds Try.pinned (OpenSpec.ofChange fnExactLanesNextSpec)

/-- ITS FALSE NEIGHBOUR: 'it returns false'. Refute it at one input. -/
def fnExactLanesNextWrong : ChangeSpec := { name := "fnExactLanesNext", fn := fun _ => fun
  | [d] => { results := [.lit (.bool false)], args := [d] }
  | _ => none }
def FnExactLanesNextWrongFalsely : Prop := fnExactLanesNextRow.holds Try.pinned (OpenSpec.ofChange fnExactLanesNextWrong)

/-- 'laws.FnExactLanesPut': WHATEVER THE INPUT: true; the input reads as it did. -/
def fnExactLanesPutSpec : ChangeSpec := { name := "fnExactLanesPut", fn := fun _ => fun
  | [d1, d2, d3] => { results := [.lit (.bool true)], args := [d1, d2, d3] }
  | _ => none }
def fnExactLanesPutRow : OpenClaim := { program := "ytkbikihbomnghaa", sum := "ba9d4e1850dc6111a4f2860b39b4ddcefd84c2c958dd29b45429aa08c5425853", func := "loop.example/g00946/laws.FnExactLanesPut", spec := "fnExactLanesPut", apart := false }
def FnExactLanesPutSaid : Prop := fnExactLanesPutRow.holds Try.pinned (OpenSpec.ofChange fnExactLanesPutSpec)

/-- ITS FALSE NEIGHBOUR: 'it returns false'. Refute it at one input. -/
def fnExactLanesPutWrong : ChangeSpec := { name := "fnExactLanesPut", fn := fun _ => fun
  | [d1, d2, d3] => { results := [.lit (.bool false)], args := [d1, d2, d3] }
  | _ => none }
def FnExactLanesPutWrongFalsely : Prop := fnExactLanesPutRow.holds Try.pinned (OpenSpec.ofChange fnExactLanesPutWrong)

/-- 'laws.FnExactLanesWait': WHATEVER THE INPUT: true; the input reads as it did. -/
def fnExactLanesWaitSpec : ChangeSpec := { name := "fnExactLanesWait", fn := fun _ => fun
  | [d1, d2] => { results := [.lit (.bool true)], args := [d1, d2] }
  | _ => none }
def fnExactLanesWaitRow : OpenClaim := { program := "ytkbikihbomnghaa", sum := "ba9d4e1850dc6111a4f2860b39b4ddcefd84c2c958dd29b45429aa08c5425853", func := "loop.example/g00946/laws.FnExactLanesWait", spec := "fnExactLanesWait", apart := false }
def FnExactLanesWaitSaid : Prop := fnExactLanesWaitRow.holds Try.pinned (OpenSpec.ofChange fnExactLanesWaitSpec)

/-- ITS FALSE NEIGHBOUR: 'it returns false'. Refute it at one input. -/
def fnExactLanesWaitWrong : ChangeSpec := { name := "fnExactLanesWait", fn := fun _ => fun
  | [d1, d2] => { results := [.lit (.bool false)], args := [d1, d2] }
  | _ => none }
def FnExactLanesWaitWrongFalsely : Prop := fnExactLanesWaitRow.holds Try.pinned (OpenSpec.ofChange fnExactLanesWaitWrong)

/-- 'laws.FnExactTell': WHATEVER THE INPUT: true; the input reads as it did. -/
def fnExactTellSpec : ChangeSpec := { name := "fnExactTell", fn := fun _ => fun
  | [d1, d2, d3, d4] => { results := [.lit (.bool true)], args := [d1, d2, d3, d4] }
  | _ => none }
def fnExactTellRow : OpenClaim := { program := "ytkbikihbomnghaa", sum := "ba9d4e1850dc6111a4f2860b39b4ddcefd84c2c958dd29b45429aa08c5425853", func := "loop.example/g00946/laws.FnExactTell", spec := "fnExactTell", unfollowed := true, recurses := true, apart := false }
def FnExactTellSaid : Prop := fnExactTellRow.holds Try.pinned (OpenSpec.ofChange fnExactTellSpec)

/-- ITS FALSE NEIGHBOUR: 'it returns false'. Refute it at one input. -/
def fnExactTellWrong : ChangeSpec := { name := "fnExactTell", fn := fun _ => fun
  | [d1, d2, d3, d4] => { results := [.lit (.bool false)], args := [d1, d2, d3, d4] }
  | _ => none }
def FnExactTellWrongFalsely : Prop := fnExactTellRow.holds Try.pinned (OpenSpec.ofChange fnExactTellWrong)

/-- 'laws.FnExactHear': WHATEVER THE INPUT: true; the input reads as it did. -/
def fnExactHearSpec : ChangeSpec := { name := "fnExactHear", fn := fun _ => fun
  | [d1, d2, d3] => { results := [.lit (.bool true)], args := [d1, d2, d3] }
  | _ => none }
def fnExactHearRow : OpenClaim := { program := "ytkbikihbomnghaa", sum := "ba9d4e1850dc6111a4f2860b39b4ddcefd84c2c958dd29b45429aa08c5425853", func := "loop.example/g00946/laws.FnExactHear", spec := "fnExactHear", unfollowed := true, recurses := true, apart := false }
def FnExactHearSaid : Prop := fnExactHearRow.holds Try.pinned (OpenSpec.ofChange fnExactHearSpec)

/-- ITS FALSE NEIGHBOUR: 'it returns false'. Refute it at one input. -/
def fnExactHearWrong : ChangeSpec := { name := "fnExactHear", fn := fun _ => fun
  | [d1, d2, d3] => { results := [.lit (.bool false)], args := [d1, d2, d3] }
  | _ => none }
def FnExactHearWrongFalsely : Prop := fnExactHearRow.holds Try.pinned (OpenSpec.ofChange fnExactHearWrong)

/- THE SECOND FORM. 'bulk': how many values and letters a reading holds, each counted each time it is reached (what is shared counts as often as it is met; a slice's spare places count too). A statement '..UptoSaid' is the law's where the arguments, and the package variables that the reading takes, are together of bulk at most 1048576: NARROWER than '..Said'. Prove '..Said' where nothing that the law and all that it calls make is longer than what came in: it says more and counts as full. Else prove '..UptoSaid'. A law counts once. -/
mutual
def uptoBulk {H : Type} : DataW H → Nat
  | .lit (.string bytes) => bytes.length + 1
  | .lit _ => 1
  | .nil => 1
  | .ptr d => uptoBulk d + 1
  | .slice elems spare => uptoBulkAll elems + uptoBulkAll spare + 1
  | .agg parts => uptoBulkAll parts + 1
  | .iface _ d => uptoBulk d + 1
  | .map entries => uptoBulkEntries entries + 1
  | .held _ => 1
def uptoBulkAll {H : Type} : List (DataW H) → Nat
  | [] => 0
  | d :: r => uptoBulk d + uptoBulkAll r
def uptoBulkEntries {H : Type} : List (Lit × DataW H) → Nat
  | [] => 0
  | x :: r => uptoBulkEntry x + uptoBulkEntries r
def uptoBulkEntry {H : Type} : Lit × DataW H → Nat
  | (.string bytes, d) => bytes.length + uptoBulk d + 1
  | (_, d) => uptoBulk d + 1
 end
def uptoSmall : (H : Type) → List (DataW H) → Bool := fun _ ds => decide (uptoBulkAll ds ≤ 1048576)
def OpenSpec.upto (s : _root_.Go.ChangeSpec) : _root_.Go.OpenSpec := { _root_.Go.OpenSpec.ofChange s with cond := some uptoSmall }

/-- 'laws.FnExactPeerAdd', WHERE WHAT IT READS IS OF BULK AT MOST 1048576: true; the input reads as it did. -/
def fnExactPeerAddUptoRow : OpenClaim := { program := "ytkbikihbomnghaa", sum := "ba9d4e1850dc6111a4f2860b39b4ddcefd84c2c958dd29b45429aa08c5425853", func := "loop.example/g00946/laws.FnExactPeerAdd", spec := "fnExactPeerAdd", unfollowed := true, recurses := true, apart := false, narrowed := true }
def FnExactPeerAddUptoSaid : Prop := fnExactPeerAddUptoRow.holds Try.pinned (OpenSpec.upto fnExactPeerAddSpec)

/-- 'laws.FnSignedOnce', WHERE WHAT IT READS IS OF BULK AT MOST 1048576: true; the input reads as it did. -/
def fnSignedOnceUptoRow : OpenClaim := { program := "ytkbikihbomnghaa", sum := "ba9d4e1850dc6111a4f2860b39b4ddcefd84c2c958dd29b45429aa08c5425853", func := "loop.example/g00946/laws.FnSignedOnce", spec := "fnSignedOnce", apart := false, narrowed := true }
def FnSignedOnceUptoSaid : Prop := fnSignedOnceUptoRow.holds Try.pinned (OpenSpec.upto fnSignedOnceSpec)

/-- 'laws.FnExactBanned', WHERE WHAT IT READS IS OF BULK AT MOST 1048576: true; the input reads as it did. -/
def fnExactBannedUptoRow : OpenClaim := { program := "ytkbikihbomnghaa", sum := "ba9d4e1850dc6111a4f2860b39b4ddcefd84c2c958dd29b45429aa08c5425853", func := "loop.example/g00946/laws.FnExactBanned", spec := "fnExactBanned", unfollowed := true, recurses := true, apart := false, narrowed := true }
def FnExactBannedUptoSaid : Prop := fnExactBannedUptoRow.holds Try.pinned (OpenSpec.upto fnExactBannedSpec)

/-- 'laws.FnPeers', WHERE WHAT IT READS IS OF BULK AT MOST 1048576: true; the input reads as it did. -/
def fnPeersUptoRow : OpenClaim := { program := "ytkbikihbomnghaa", sum := "ba9d4e1850dc6111a4f2860b39b4ddcefd84c2c958dd29b45429aa08c5425853", func := "loop.example/g00946/laws.FnPeers", spec := "fnPeers", unfollowed := true, recurses := true, apart := false, narrowed := true }
def FnPeersUptoSaid : Prop := fnPeersUptoRow.holds Try.pinned (OpenSpec.upto fnPeersSpec)

/-- 'laws.FnWal', WHERE WHAT IT READS IS OF BULK AT MOST 1048576: true; the input reads as it did. -/
def fnWalUptoRow : OpenClaim := { program := "ytkbikihbomnghaa", sum := "ba9d4e1850dc6111a4f2860b39b4ddcefd84c2c958dd29b45429aa08c5425853", func := "loop.example/g00946/laws.FnWal", spec := "fnWal", apart := false, narrowed := true }
def FnWalUptoSaid : Prop := fnWalUptoRow.holds Try.pinned (OpenSpec.upto fnWalSpec)

/-- 'laws.FnLanes', WHERE WHAT IT READS IS OF BULK AT MOST 1048576: true; the input reads as it did. -/
def fnLanesUptoRow : OpenClaim := { program := "ytkbikihbomnghaa", sum := "ba9d4e1850dc6111a4f2860b39b4ddcefd84c2c958dd29b45429aa08c5425853", func := "loop.example/g00946/laws.FnLanes", spec := "fnLanes", apart := false, narrowed := true }
def FnLanesUptoSaid : Prop := fnLanesUptoRow.holds Try.pinned (OpenSpec.upto fnLanesSpec)

/-- 'laws.FnExactLanesNext', WHERE WHAT IT READS IS OF BULK AT MOST 1048576: true; the input reads as it did. -/
def fnExactLanesNextUptoRow : OpenClaim := { program := "ytkbikihbomnghaa", sum := "ba9d4e1850dc6111a4f2860b39b4ddcefd84c2c958dd29b45429aa08c5425853", func := "loop.example/g00946/laws.FnExactLanesNext", spec := "fnExactLanesNext", apart := false, narrowed := true }
def FnExactLanesNextUptoSaid : Prop := fnExactLanesNextUptoRow.holds Try.pinned (OpenSpec.upto fnExactLanesNextSpec)

/-- 'laws.FnExactLanesPut', WHERE WHAT IT READS IS OF BULK AT MOST 1048576: true; the input reads as it did. -/
def fnExactLanesPutUptoRow : OpenClaim := { program := "ytkbikihbomnghaa", sum := "ba9d4e1850dc6111a4f2860b39b4ddcefd84c2c958dd29b45429aa08c5425853", func := "loop.example/g00946/laws.FnExactLanesPut", spec := "fnExactLanesPut", apart := false, narrowed := true }
def FnExactLanesPutUptoSaid : Prop := fnExactLanesPutUptoRow.holds Try.pinned (OpenSpec.upto fnExactLanesPutSpec)

/-- 'laws.FnExactLanesWait', WHERE WHAT IT READS IS OF BULK AT MOST 1048576: true; the input reads as it did. -/
def fnExactLanesWaitUptoRow : OpenClaim := { program := "ytkbikihbomnghaa", sum := "ba9d4e1850dc6111a4f2860b39b4ddcefd84c2c958dd29b45429aa08c5425853", func := "loop.example/g00946/laws.FnExactLanesWait", spec := "fnExactLanesWait", apart := false, narrowed := true }
def FnExactLanesWaitUptoSaid : Prop := fnExactLanesWaitUptoRow.holds Try.pinned (OpenSpec.upto fnExactLanesWaitSpec)

/-- 'laws.FnExactTell', WHERE WHAT IT READS IS OF BULK AT MOST 1048576: true; the input reads as it did. -/
def fnExactTellUptoRow : OpenClaim := { program := "ytkbikihbomnghaa", sum := "ba9d4e1850dc6111a4f2860b39b4ddcefd84c2c958dd29b45429aa08c5425853", func := "loop.example/g00946/laws.FnExactTell", spec := "fnExactTell", unfollowed := true, recurses := true, apart := false, narrowed := true }
def FnExactTellUptoSaid : Prop := fnExactTellUptoRow.holds Try.pinned (OpenSpec.upto fnExactTellSpec)

/-- 'laws.FnExactHear', WHERE WHAT IT READS IS OF BULK AT MOST 1048576: true; the input reads as it did. -/
def fnExactHearUptoRow : OpenClaim := { program := "ytkbikihbomnghaa", sum := "ba9d4e1850dc6111a4f2860b39b4ddcefd84c2c958dd29b45429aa08c5425853", func := "loop.example/g00946/laws.FnExactHear", spec := "fnExactHear", unfollowed := true, recurses := true, apart := false, narrowed := true }
def FnExactHearUptoSaid : Prop := fnExactHearUptoRow.holds Try.pinned (OpenSpec.upto fnExactHearSpec)

end Rows
end Go.Proofs.Ytkbikihbomnghaa
