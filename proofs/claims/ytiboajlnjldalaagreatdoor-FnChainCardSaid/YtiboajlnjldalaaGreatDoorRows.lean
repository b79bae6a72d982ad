/-
  NARROWER THAN 'FOR EVERY INPUT', by the rows' own cells (each row's printed sentence says how): FnChain: laid · FnExactServeReq: laid · FnServe: laid · FnExactLightNew: laid · FnExactLightFeed: laid · FnExactSync: laid · FnLight: laid · FnReached: laid.
  DERIVED. THE GIVEN ROWS OF THIS SEAT. 8 by the template 'for every input the law returns true; each argument reads behind the call as it read before'; 0 by the template 'total and deterministic' (their statements: YtiboajlnjldalaaGreatDoorTotals.lean).
  GIVEN WITH THE SEED: the statements are not yours to turn. If you find one false, say at which input.
  Laid BY PROGRAM, IN A SANDBOX (cutbox-rows.mjs): the forced cells as the released guide's own fill.sh prints them over the translation 107be6daec8914e6… (all of the seat's roots in one cut). By AI agents, Wed Nov 11 2026. No macro, syntax, notation, axiom, sorry.
-/
import Derived.Test.YtiboajlnjldalaaGreatDoorChecked
import GoSem.Claim
import GoSem.ClaimJoined
import GoSem.ClaimMapViews
import Derived.JoinedTies
import Derived.KernelRfl
namespace Go.Proofs.YtiboajlnjldalaaGreatDoor
/- THE CELL 'sum', in the pinned program and in every row, IS THE sha256 OF THE DUMP (.gsa) THAT YtiboajlnjldalaaGreatDoorProg.lean LOADS. Nothing in Lean hashes anything: it is a label: what it is worth is what the hold of that sum in a sandbox is worth. -/
noncomputable def Tryz.pinned : Pinned := { name := "ytiboajlnjldalaagreatdoor", sum := "107be6daec8914e619f6167ce0a32ddcfb1f9586c6219942fdde2c9666c3a3aa", checked := Tryz.checked }
namespace Rows
def none {H : Type} : Left H := { results := [], args := [] }

/- WHAT THE LISTED PACKAGE-LEVEL VARIABLES READ AS WHEN THE CALL BEGINS. Each datum BY PROGRAM (the guide's laid-datum.mjs) off the statement by which the dump's own 'gosem.cut.vars' lays the variable. In a bare row this is a premise. The card (YtiboajlnjldalaaGreatDoorCards.lean) ties it to the program's text. -/
def laid_loop_example_g00946_impl_shaWords {H : Type} : DataW H := .agg [.lit (.int .u32 1116352408), .lit (.int .u32 1899447441), .lit (.int .u32 3049323471), .lit (.int .u32 3921009573), .lit (.int .u32 961987163), .lit (.int .u32 1508970993), .lit (.int .u32 2453635748), .lit (.int .u32 2870763221), .lit (.int .u32 3624381080), .lit (.int .u32 310598401), .lit (.int .u32 607225278), .lit (.int .u32 1426881987), .lit (.int .u32 1925078388), .lit (.int .u32 2162078206), .lit (.int .u32 2614888103), .lit (.int .u32 3248222580), .lit (.int .u32 3835390401), .lit (.int .u32 4022224774), .lit (.int .u32 264347078), .lit (.int .u32 604807628), .lit (.int .u32 770255983), .lit (.int .u32 1249150122), .lit (.int .u32 1555081692), .lit (.int .u32 1996064986), .lit (.int .u32 2554220882), .lit (.int .u32 2821834349), .lit (.int .u32 2952996808), .lit (.int .u32 3210313671), .lit (.int .u32 3336571891), .lit (.int .u32 3584528711), .lit (.int .u32 113926993), .lit (.int .u32 338241895), .lit (.int .u32 666307205), .lit (.int .u32 773529912), .lit (.int .u32 1294757372), .lit (.int .u32 1396182291), .lit (.int .u32 1695183700), .lit (.int .u32 1986661051), .lit (.int .u32 2177026350), .lit (.int .u32 2456956037), .lit (.int .u32 2730485921), .lit (.int .u32 2820302411), .lit (.int .u32 3259730800), .lit (.int .u32 3345764771), .lit (.int .u32 3516065817), .lit (.int .u32 3600352804), .lit (.int .u32 4094571909), .lit (.int .u32 275423344), .lit (.int .u32 430227734), .lit (.int .u32 506948616), .lit (.int .u32 659060556), .lit (.int .u32 883997877), .lit (.int .u32 958139571), .lit (.int .u32 1322822218), .lit (.int .u32 1537002063), .lit (.int .u32 1747873779), .lit (.int .u32 1955562222), .lit (.int .u32 2024104815), .lit (.int .u32 2227730452), .lit (.int .u32 2361852424), .lit (.int .u32 2428436474), .lit (.int .u32 2756734187), .lit (.int .u32 3204031479), .lit (.int .u32 3329325298)]

/-- 'laws.FnChain': WHATEVER THE INPUT: true; the input reads as it did. -/
def fnChainSpec : ChangeSpec := { name := "fnChain", vars := ["loop.example/g00946/impl.shaWords"], fn := fun _ => fun
  | [d, g1] => { results := [.lit (.bool true)], args := [d], vars := [g1] }
  | _ => none }
def fnChainRow : OpenClaim := { program := "ytiboajlnjldalaagreatdoor", sum := "107be6daec8914e619f6167ce0a32ddcfb1f9586c6219942fdde2c9666c3a3aa", func := "loop.example/g00946/laws.FnChain", spec := "fnChain", unfollowed := true, recurses := true, named := ["loop.example/g00946/impl.shaWords"], apart := false, laid := [("loop.example/g00946/impl.shaWords", laid_loop_example_g00946_impl_shaWords)] }
def FnChainSaid : Prop := fnChainRow.holds Tryz.pinned (OpenSpec.ofChange fnChainSpec)

/-- ITS FALSE NEIGHBOUR: 'it returns false'. Refute it at one input. -/
def fnChainWrong : ChangeSpec := { name := "fnChain", vars := ["loop.example/g00946/impl.shaWords"], fn := fun _ => fun
  | [d, g1] => { results := [.lit (.bool false)], args := [d], vars := [g1] }
  | _ => none }
def FnChainWrongFalsely : Prop := fnChainRow.holds Tryz.pinned (OpenSpec.ofChange fnChainWrong)

/-- 'laws.FnExactServeReq': WHATEVER THE INPUT: true; the input reads as it did. -/
def fnExactServeReqSpec : ChangeSpec := { name := "fnExactServeReq", vars := ["loop.example/g00946/impl.shaWords"], fn := fun _ => fun
  | [d1, d2, g1] => { results := [.lit (.bool true)], args := [d1, d2], vars := [g1] }
  | _ => none }
def fnExactServeReqRow : OpenClaim := { program := "ytiboajlnjldalaagreatdoor", sum := "107be6daec8914e619f6167ce0a32ddcfb1f9586c6219942fdde2c9666c3a3aa", func := "loop.example/g00946/laws.FnExactServeReq", spec := "fnExactServeReq", unfollowed := true, recurses := true, named := ["loop.example/g00946/impl.shaWords"], apart := false, laid := [("loop.example/g00946/impl.shaWords", laid_loop_example_g00946_impl_shaWords)] }
def FnExactServeReqSaid : Prop := fnExactServeReqRow.holds Tryz.pinned (OpenSpec.ofChange fnExactServeReqSpec)

/-- ITS FALSE NEIGHBOUR: 'it returns false'. Refute it at one input. -/
def fnExactServeReqWrong : ChangeSpec := { name := "fnExactServeReq", vars := ["loop.example/g00946/impl.shaWords"], fn := fun _ => fun
  | [d1, d2, g1] => { results := [.lit (.bool false)], args := [d1, d2], vars := [g1] }
  | _ => none }
def FnExactServeReqWrongFalsely : Prop := fnExactServeReqRow.holds Tryz.pinned (OpenSpec.ofChange fnExactServeReqWrong)

/-- 'laws.FnServe': WHATEVER THE INPUT: true; the input reads as it did. -/
def fnServeSpec : ChangeSpec := { name := "fnServe", vars := ["loop.example/g00946/impl.shaWords"], fn := fun _ => fun
  | [d, g1] => { results := [.lit (.bool true)], args := [d], vars := [g1] }
  | _ => none }
def fnServeRow : OpenClaim := { program := "ytiboajlnjldalaagreatdoor", sum := "107be6daec8914e619f6167ce0a32ddcfb1f9586c6219942fdde2c9666c3a3aa", func := "loop.example/g00946/laws.FnServe", spec := "fnServe", unfollowed := true, recurses := true, named := ["loop.example/g00946/impl.shaWords"], apart := false, laid := [("loop.example/g00946/impl.shaWords", laid_loop_example_g00946_impl_shaWords)] }
def FnServeSaid : Prop := fnServeRow.holds Tryz.pinned (OpenSpec.ofChange fnServeSpec)

/-- ITS FALSE NEIGHBOUR: 'it returns false'. Refute it at one input. -/
def fnServeWrong : ChangeSpec := { name := "fnServe", vars := ["loop.example/g00946/impl.shaWords"], fn := fun _ => fun
  | [d, g1] => { results := [.lit (.bool false)], args := [d], vars := [g1] }
  | _ => none }
def FnServeWrongFalsely : Prop := fnServeRow.holds Tryz.pinned (OpenSpec.ofChange fnServeWrong)

/-- 'laws.FnExactLightNew': WHATEVER THE INPUT: true; the input reads as it did. -/
def fnExactLightNewSpec : ChangeSpec := { name := "fnExactLightNew", vars := ["loop.example/g00946/impl.shaWords"], fn := fun _ => fun
  | [d1, d2, d3, g1] => { results := [.lit (.bool true)], args := [d1, d2, d3], vars := [g1] }
  | _ => none }
def fnExactLightNewRow : OpenClaim := { program := "ytiboajlnjldalaagreatdoor", sum := "107be6daec8914e619f6167ce0a32ddcfb1f9586c6219942fdde2c9666c3a3aa", func := "loop.example/g00946/laws.FnExactLightNew", spec := "fnExactLightNew", unfollowed := true, recurses := true, named := ["loop.example/g00946/impl.shaWords"], apart := false, laid := [("loop.example/g00946/impl.shaWords", laid_loop_example_g00946_impl_shaWords)] }
def FnExactLightNewSaid : Prop := fnExactLightNewRow.holds Tryz.pinned (OpenSpec.ofChange fnExactLightNewSpec)

/-- ITS FALSE NEIGHBOUR: 'it returns false'. Refute it at one input. -/
def fnExactLightNewWrong : ChangeSpec := { name := "fnExactLightNew", vars := ["loop.example/g00946/impl.shaWords"], fn := fun _ => fun
  | [d1, d2, d3, g1] => { results := [.lit (.bool false)], args := [d1, d2, d3], vars := [g1] }
  | _ => none }
def FnExactLightNewWrongFalsely : Prop := fnExactLightNewRow.holds Tryz.pinned (OpenSpec.ofChange fnExactLightNewWrong)

/-- 'laws.FnExactLightFeed': WHATEVER THE INPUT: true; the input reads as it did. -/
def fnExactLightFeedSpec : ChangeSpec := { name := "fnExactLightFeed", vars := ["loop.example/g00946/impl.shaWords"], fn := fun _ => fun
  | [d1, d2, d3, g1] => { results := [.lit (.bool true)], args := [d1, d2, d3], vars := [g1] }
  | _ => none }
def fnExactLightFeedRow : OpenClaim := { program := "ytiboajlnjldalaagreatdoor", sum := "107be6daec8914e619f6167ce0a32ddcfb1f9586c6219942fdde2c9666c3a3aa", func := "loop.example/g00946/laws.FnExactLightFeed", spec := "fnExactLightFeed", unfollowed := true, recurses := true, named := ["loop.example/g00946/impl.shaWords"], apart := false, laid := [("loop.example/g00946/impl.shaWords", laid_loop_example_g00946_impl_shaWords)] }
def FnExactLightFeedSaid : Prop := fnExactLightFeedRow.holds Tryz.pinned (OpenSpec.ofChange fnExactLightFeedSpec)

/-- ITS FALSE NEIGHBOUR: 'it returns false'. Refute it at one input. -/
def fnExactLightFeedWrong : ChangeSpec := { name := "fnExactLightFeed", vars := ["loop.example/g00946/impl.shaWords"], fn := fun _ => fun
  | [d1, d2, d3, g1] => { results := [.lit (.bool false)], args := [d1, d2, d3], vars := [g1] }
  | _ => none }
def FnExactLightFeedWrongFalsely : Prop := fnExactLightFeedRow.holds Tryz.pinned (OpenSpec.ofChange fnExactLightFeedWrong)

/-- 'laws.FnExactSync': WHATEVER THE INPUT: true; the input reads as it did. -/
def fnExactSyncSpec : ChangeSpec := { name := "fnExactSync", vars := ["loop.example/g00946/impl.shaWords"], fn := fun _ => fun
  | [d1, d2, g1] => { results := [.lit (.bool true)], args := [d1, d2], vars := [g1] }
  | _ => none }
def fnExactSyncRow : OpenClaim := { program := "ytiboajlnjldalaagreatdoor", sum := "107be6daec8914e619f6167ce0a32ddcfb1f9586c6219942fdde2c9666c3a3aa", func := "loop.example/g00946/laws.FnExactSync", spec := "fnExactSync", unfollowed := true, recurses := true, named := ["loop.example/g00946/impl.shaWords"], apart := false, laid := [("loop.example/g00946/impl.shaWords", laid_loop_example_g00946_impl_shaWords)] }
def FnExactSyncSaid : Prop := fnExactSyncRow.holds Tryz.pinned (OpenSpec.ofChange fnExactSyncSpec)

/-- ITS FALSE NEIGHBOUR: 'it returns false'. Refute it at one input. -/
def fnExactSyncWrong : ChangeSpec := { name := "fnExactSync", vars := ["loop.example/g00946/impl.shaWords"], fn := fun _ => fun
  | [d1, d2, g1] => { results := [.lit (.bool false)], args := [d1, d2], vars := [g1] }
  | _ => none }
def FnExactSyncWrongFalsely : Prop := fnExactSyncRow.holds Tryz.pinned (OpenSpec.ofChange fnExactSyncWrong)

/-- 'laws.FnLight': WHATEVER THE INPUT: true; the input reads as it did. -/
def fnLightSpec : ChangeSpec := { name := "fnLight", vars := ["loop.example/g00946/impl.shaWords"], fn := fun _ => fun
  | [d, g1] => { results := [.lit (.bool true)], args := [d], vars := [g1] }
  | _ => none }
def fnLightRow : OpenClaim := { program := "ytiboajlnjldalaagreatdoor", sum := "107be6daec8914e619f6167ce0a32ddcfb1f9586c6219942fdde2c9666c3a3aa", func := "loop.example/g00946/laws.FnLight", spec := "fnLight", unfollowed := true, recurses := true, named := ["loop.example/g00946/impl.shaWords"], apart := false, laid := [("loop.example/g00946/impl.shaWords", laid_loop_example_g00946_impl_shaWords)] }
def FnLightSaid : Prop := fnLightRow.holds Tryz.pinned (OpenSpec.ofChange fnLightSpec)

/-- ITS FALSE NEIGHBOUR: 'it returns false'. Refute it at one input. -/
def fnLightWrong : ChangeSpec := { name := "fnLight", vars := ["loop.example/g00946/impl.shaWords"], fn := fun _ => fun
  | [d, g1] => { results := [.lit (.bool false)], args := [d], vars := [g1] }
  | _ => none }
def FnLightWrongFalsely : Prop := fnLightRow.holds Tryz.pinned (OpenSpec.ofChange fnLightWrong)

/-- 'laws.FnReached': WHATEVER THE INPUT: true; the input reads as it did. -/
def fnReachedSpec : ChangeSpec := { name := "fnReached", vars := ["loop.example/g00946/impl.shaWords"], fn := fun _ => fun
  | [d, g1] => { results := [.lit (.bool true)], args := [d], vars := [g1] }
  | _ => none }
def fnReachedRow : OpenClaim := { program := "ytiboajlnjldalaagreatdoor", sum := "107be6daec8914e619f6167ce0a32ddcfb1f9586c6219942fdde2c9666c3a3aa", func := "loop.example/g00946/laws.FnReached", spec := "fnReached", unfollowed := true, recurses := true, named := ["loop.example/g00946/impl.shaWords"], apart := false, laid := [("loop.example/g00946/impl.shaWords", laid_loop_example_g00946_impl_shaWords)] }
def FnReachedSaid : Prop := fnReachedRow.holds Tryz.pinned (OpenSpec.ofChange fnReachedSpec)

/-- ITS FALSE NEIGHBOUR: 'it returns false'. Refute it at one input. -/
def fnReachedWrong : ChangeSpec := { name := "fnReached", vars := ["loop.example/g00946/impl.shaWords"], fn := fun _ => fun
  | [d, g1] => { results := [.lit (.bool false)], args := [d], vars := [g1] }
  | _ => none }
def FnReachedWrongFalsely : Prop := fnReachedRow.holds Tryz.pinned (OpenSpec.ofChange fnReachedWrong)

/- THE SECOND FORM. 'bulk': how many values and letters a reading holds, each counted each time it is reached (what is shared counts as often as it is met; a slice's spare places count too). A statement '..UptoSaid' is the law's where the arguments, and the package variables that the reading takes, are together of bulk at most 1048576: NARROWER than '..Said'. Prove '..Said' where nothing that the law and all that it calls make is longer than what came in: it says more and counts as full. Else prove '..UptoSaid'. A law counts once. -/
mutual
def uptoBulk {H : Type} : DataW H → Nat
  | .lit (.string bytes) => bytes.length + 1
  | .lit _ => 1
  | .nil => 1
  | .ptr d => uptoBulk d + 1
  | .slice elems spare => uptoBulkAll elems + uptoBulkAll spare + 1
  | .agg parts => uptoBulkAll parts + 1
  | .iface _ d => uptoBulk d + 1
  | .map entries => uptoBulkEntries entries + 1
  | .held _ => 1
def uptoBulkAll {H : Type} : List (DataW H) → Nat
  | [] => 0
  | d :: r => uptoBulk d + uptoBulkAll r
def uptoBulkEntries {H : Type} : List (Lit × DataW H) → Nat
  | [] => 0
  | x :: r => uptoBulkEntry x + uptoBulkEntries r
def uptoBulkEntry {H : Type} : Lit × DataW H → Nat
  | (.string bytes, d) => bytes.length + uptoBulk d + 1
  | (_, d) => uptoBulk d + 1
 end
def uptoSmall : (H : Type) → List (DataW H) → Bool := fun _ ds => decide (uptoBulkAll ds ≤ 1048576)
def OpenSpec.upto (s : _root_.Go.ChangeSpec) : _root_.Go.OpenSpec := { _root_.Go.OpenSpec.ofChange s with cond := some uptoSmall }

/-- 'laws.FnChain', WHERE WHAT IT READS IS OF BULK AT MOST 1048576: true; the input reads as it did. -/
def fnChainUptoRow : OpenClaim := { program := "ytiboajlnjldalaagreatdoor", sum := "107be6daec8914e619f6167ce0a32ddcfb1f9586c6219942fdde2c9666c3a3aa", func := "loop.example/g00946/laws.FnChain", spec := "fnChain", unfollowed := true, recurses := true, named := ["loop.example/g00946/impl.shaWords"], apart := false, laid := [("loop.example/g00946/impl.shaWords", laid_loop_example_g00946_impl_shaWords)], narrowed := true }
def FnChainUptoSaid : Prop := fnChainUptoRow.holds Tryz.pinned (OpenSpec.upto fnChainSpec)

/-- 'laws.FnExactServeReq', WHERE WHAT IT READS IS OF BULK AT MOST 1048576: true; the input reads as it did. -/
def fnExactServeReqUptoRow : OpenClaim := { program := "ytiboajlnjldalaagreatdoor", sum := "107be6daec8914e619f6167ce0a32ddcfb1f9586c6219942fdde2c9666c3a3aa", func := "loop.example/g00946/laws.FnExactServeReq", spec := "fnExactServeReq", unfollowed := true, recurses := true, named := ["loop.example/g00946/impl.shaWords"], apart := false, laid := [("loop.example/g00946/impl.shaWords", laid_loop_example_g00946_impl_shaWords)], narrowed := true }
def FnExactServeReqUptoSaid : Prop := fnExactServeReqUptoRow.holds Tryz.pinned (OpenSpec.upto fnExactServeReqSpec)

/-- 'laws.FnServe', WHERE WHAT IT READS IS OF BULK AT MOST 1048576: true; the input reads as it did. -/
def fnServeUptoRow : OpenClaim := { program := "ytiboajlnjldalaagreatdoor", sum := "107be6daec8914e619f6167ce0a32ddcfb1f9586c6219942fdde2c9666c3a3aa", func := "loop.example/g00946/laws.FnServe", spec := "fnServe", unfollowed := true, recurses := true, named := ["loop.example/g00946/impl.shaWords"], apart := false, laid := [("loop.example/g00946/impl.shaWords", laid_loop_example_g00946_impl_shaWords)], narrowed := true }
def FnServeUptoSaid : Prop := fnServeUptoRow.holds Tryz.pinned (OpenSpec.upto fnServeSpec)

/-- 'laws.FnExactLightNew', WHERE WHAT IT READS IS OF BULK AT MOST 1048576: true; the input reads as it did. -/
def fnExactLightNewUptoRow : OpenClaim := { program := "ytiboajlnjldalaagreatdoor", sum := "107be6daec8914e619f6167ce0a32ddcfb1f9586c6219942fdde2c9666c3a3aa", func := "loop.example/g00946/laws.FnExactLightNew", spec := "fnExactLightNew", unfollowed := true, recurses := true, named := ["loop.example/g00946/impl.shaWords"], apart := false, laid := [("loop.example/g00946/impl.shaWords", laid_loop_example_g00946_impl_shaWords)], narrowed := true }
def FnExactLightNewUptoSaid : Prop := fnExactLightNewUptoRow.holds Tryz.pinned (OpenSpec.upto fnExactLightNewSpec)

/-- 'laws.FnExactLightFeed', WHERE WHAT IT READS IS OF BULK AT MOST 1048576: true; the input reads as it did. -/
def fnExactLightFeedUptoRow : OpenClaim := { program := "ytiboajlnjldalaagreatdoor", sum := "107be6daec8914e619f6167ce0a32ddcfb1f9586c6219942fdde2c9666c3a3aa", func := "loop.example/g00946/laws.FnExactLightFeed", spec := "fnExactLightFeed", unfollowed := true, recurses := true, named := ["loop.example/g00946/impl.shaWords"], apart := false, laid := [("loop.example/g00946/impl.shaWords", laid_loop_example_g00946_impl_shaWords)], narrowed := true }
def FnExactLightFeedUptoSaid : Prop := fnExactLightFeedUptoRow.holds Tryz.pinned (OpenSpec.upto fnExactLightFeedSpec)

/-- 'laws.FnExactSync', WHERE WHAT IT READS IS OF BULK AT MOST 1048576: true; the input reads as it did. -/
def fnExactSyncUptoRow : OpenClaim := { program := "ytiboajlnjldalaagreatdoor", sum := "107be6daec8914e619f6167ce0a32ddcfb1f9586c6219942fdde2c9666c3a3aa", func := "loop.example/g00946/laws.FnExactSync", spec := "fnExactSync", unfollowed := true, recurses := true, named := ["loop.example/g00946/impl.shaWords"], apart := false, laid := [("loop.example/g00946/impl.shaWords", laid_loop_example_g00946_impl_shaWords)], narrowed := true }
def FnExactSyncUptoSaid : Prop := fnExactSyncUptoRow.holds Tryz.pinned (OpenSpec.upto fnExactSyncSpec)

/-- 'laws.FnLight', WHERE WHAT IT READS IS OF BULK AT MOST 1048576: true; the input reads as it did. -/
def fnLightUptoRow : OpenClaim := { program := "ytiboajlnjldalaagreatdoor", sum := "107be6daec8914e619f6167ce0a32ddcfb1f9586c6219942fdde2c9666c3a3aa", func := "loop.example/g00946/laws.FnLight", spec := "fnLight", unfollowed := true, recurses := true, named := ["loop.example/g00946/impl.shaWords"], apart := false, laid := [("loop.example/g00946/impl.shaWords", laid_loop_example_g00946_impl_shaWords)], narrowed := true }
def FnLightUptoSaid : Prop := fnLightUptoRow.holds Tryz.pinned (OpenSpec.upto fnLightSpec)

/-- 'laws.FnReached', WHERE WHAT IT READS IS OF BULK AT MOST 1048576: true; the input reads as it did. -/
def fnReachedUptoRow : OpenClaim := { program := "ytiboajlnjldalaagreatdoor", sum := "107be6daec8914e619f6167ce0a32ddcfb1f9586c6219942fdde2c9666c3a3aa", func := "loop.example/g00946/laws.FnReached", spec := "fnReached", unfollowed := true, recurses := true, named := ["loop.example/g00946/impl.shaWords"], apart := false, laid := [("loop.example/g00946/impl.shaWords", laid_loop_example_g00946_impl_shaWords)], narrowed := true }
def FnReachedUptoSaid : Prop := fnReachedUptoRow.holds Tryz.pinned (OpenSpec.upto fnReachedSpec)

end Rows
end Go.Proofs.YtiboajlnjldalaaGreatDoor
