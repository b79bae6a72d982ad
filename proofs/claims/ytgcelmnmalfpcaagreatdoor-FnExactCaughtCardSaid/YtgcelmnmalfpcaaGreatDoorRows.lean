/-
  NARROWER THAN 'FOR EVERY INPUT', by the rows' own cells (each row's printed sentence says how): FnExactLightFall: laid · FnExactLightTick: laid · FnExactBlockOk: laid · FnExactChainOk: laid · FnExactLightNew: laid · FnExactBehind: laid · FnExactCaught: laid · FnExactLightFeed: laid · FnExactSync: laid.
  DERIVED. THE GIVEN ROWS OF THIS SEAT. 9 by the template 'for every input the law returns true; each argument reads behind the call as it read before'; 0 by the template 'total and deterministic' (their statements: YtgcelmnmalfpcaaGreatDoorTotals.lean).
  GIVEN WITH THE SEED: the statements are not yours to turn. If you find one false, say at which input.
  Laid BY PROGRAM, IN A SANDBOX (cutbox-rows.mjs): the forced cells as the released guide's own fill.sh prints them over the translation 94bf350a9b086a7a… (all of the seat's roots in one cut). By AI agents, Wed Nov 11 2026. No macro, syntax, notation, axiom, sorry.
-/
import Derived.Test.YtgcelmnmalfpcaaGreatDoorChecked
import GoSem.Claim
import GoSem.ClaimJoined
import GoSem.ClaimMapViews
import Derived.JoinedTies
import Derived.KernelRfl
namespace Go.Proofs.YtgcelmnmalfpcaaGreatDoor
/- THE CELL 'sum', in the pinned program and in every row, IS THE sha256 OF THE DUMP (.gsa) THAT YtgcelmnmalfpcaaGreatDoorProg.lean LOADS. Nothing in Lean hashes anything: it is a label: what it is worth is what the hold of that sum in a sandbox is worth. -/
noncomputable def Tryz.pinned : Pinned := { name := "ytgcelmnmalfpcaagreatdoor", sum := "94bf350a9b086a7a0740df95f24d6fadf8e344d2a4eb1dab483a4cc460cdfc96", checked := Tryz.checked }
namespace Rows
def none {H : Type} : Left H := { results := [], args := [] }

/- WHAT THE LISTED PACKAGE-LEVEL VARIABLES READ AS WHEN THE CALL BEGINS. Each datum BY PROGRAM (the guide's laid-datum.mjs) off the statement by which the dump's own 'gosem.cut.vars' lays the variable. In a bare row this is a premise. The card (YtgcelmnmalfpcaaGreatDoorCards.lean) ties it to the program's text. -/
def laid_loop_example_g00946_impl_shaWords {H : Type} : DataW H := .agg [.lit (.int .u32 1116352408), .lit (.int .u32 1899447441), .lit (.int .u32 3049323471), .lit (.int .u32 3921009573), .lit (.int .u32 961987163), .lit (.int .u32 1508970993), .lit (.int .u32 2453635748), .lit (.int .u32 2870763221), .lit (.int .u32 3624381080), .lit (.int .u32 310598401), .lit (.int .u32 607225278), .lit (.int .u32 1426881987), .lit (.int .u32 1925078388), .lit (.int .u32 2162078206), .lit (.int .u32 2614888103), .lit (.int .u32 3248222580), .lit (.int .u32 3835390401), .lit (.int .u32 4022224774), .lit (.int .u32 264347078), .lit (.int .u32 604807628), .lit (.int .u32 770255983), .lit (.int .u32 1249150122), .lit (.int .u32 1555081692), .lit (.int .u32 1996064986), .lit (.int .u32 2554220882), .lit (.int .u32 2821834349), .lit (.int .u32 2952996808), .lit (.int .u32 3210313671), .lit (.int .u32 3336571891), .lit (.int .u32 3584528711), .lit (.int .u32 113926993), .lit (.int .u32 338241895), .lit (.int .u32 666307205), .lit (.int .u32 773529912), .lit (.int .u32 1294757372), .lit (.int .u32 1396182291), .lit (.int .u32 1695183700), .lit (.int .u32 1986661051), .lit (.int .u32 2177026350), .lit (.int .u32 2456956037), .lit (.int .u32 2730485921), .lit (.int .u32 2820302411), .lit (.int .u32 3259730800), .lit (.int .u32 3345764771), .lit (.int .u32 3516065817), .lit (.int .u32 3600352804), .lit (.int .u32 4094571909), .lit (.int .u32 275423344), .lit (.int .u32 430227734), .lit (.int .u32 506948616), .lit (.int .u32 659060556), .lit (.int .u32 883997877), .lit (.int .u32 958139571), .lit (.int .u32 1322822218), .lit (.int .u32 1537002063), .lit (.int .u32 1747873779), .lit (.int .u32 1955562222), .lit (.int .u32 2024104815), .lit (.int .u32 2227730452), .lit (.int .u32 2361852424), .lit (.int .u32 2428436474), .lit (.int .u32 2756734187), .lit (.int .u32 3204031479), .lit (.int .u32 3329325298)]

/-- 'laws.FnExactLightFall': WHATEVER THE INPUT: true; the input reads as it did. -/
def fnExactLightFallSpec : ChangeSpec := { name := "fnExactLightFall", vars := ["loop.example/g00946/impl.shaWords"], fn := fun _ => fun
  | [d, g1] => { results := [.lit (.bool true)], args := [d], vars := [g1] }
  | _ => none }
def fnExactLightFallRow : OpenClaim := { program := "ytgcelmnmalfpcaagreatdoor", sum := "94bf350a9b086a7a0740df95f24d6fadf8e344d2a4eb1dab483a4cc460cdfc96", func := "loop.example/g00946/laws.FnExactLightFall", spec := "fnExactLightFall", unfollowed := true, recurses := true, named := ["loop.example/g00946/impl.shaWords"], apart := false, laid := [("loop.example/g00946/impl.shaWords", laid_loop_example_g00946_impl_shaWords)] }
def FnExactLightFallSaid : Prop := fnExactLightFallRow.holds Tryz.pinned (OpenSpec.ofChange fnExactLightFallSpec)

/-- ITS FALSE NEIGHBOUR: 'it returns false'. Refute it at one input. -/
def fnExactLightFallWrong : ChangeSpec := { name := "fnExactLightFall", vars := ["loop.example/g00946/impl.shaWords"], fn := fun _ => fun
  | [d, g1] => { results := [.lit (.bool false)], args := [d], vars := [g1] }
  | _ => none }
def FnExactLightFallWrongFalsely : Prop := fnExactLightFallRow.holds Tryz.pinned (OpenSpec.ofChange fnExactLightFallWrong)

/-- 'laws.FnExactLightTick': WHATEVER THE INPUT: true; the input reads as it did. -/
def fnExactLightTickSpec : ChangeSpec := { name := "fnExactLightTick", vars := ["loop.example/g00946/impl.shaWords"], fn := fun _ => fun
  | [d1, d2, g1] => { results := [.lit (.bool true)], args := [d1, d2], vars := [g1] }
  | _ => none }
def fnExactLightTickRow : OpenClaim := { program := "ytgcelmnmalfpcaagreatdoor", sum := "94bf350a9b086a7a0740df95f24d6fadf8e344d2a4eb1dab483a4cc460cdfc96", func := "loop.example/g00946/laws.FnExactLightTick", spec := "fnExactLightTick", unfollowed := true, recurses := true, named := ["loop.example/g00946/impl.shaWords"], apart := false, laid := [("loop.example/g00946/impl.shaWords", laid_loop_example_g00946_impl_shaWords)] }
def FnExactLightTickSaid : Prop := fnExactLightTickRow.holds Tryz.pinned (OpenSpec.ofChange fnExactLightTickSpec)

/-- ITS FALSE NEIGHBOUR: 'it returns false'. Refute it at one input. -/
def fnExactLightTickWrong : ChangeSpec := { name := "fnExactLightTick", vars := ["loop.example/g00946/impl.shaWords"], fn := fun _ => fun
  | [d1, d2, g1] => { results := [.lit (.bool false)], args := [d1, d2], vars := [g1] }
  | _ => none }
def FnExactLightTickWrongFalsely : Prop := fnExactLightTickRow.holds Tryz.pinned (OpenSpec.ofChange fnExactLightTickWrong)

/-- 'laws.FnExactBlockOk': WHATEVER THE INPUT: true; the input reads as it did. -/
def fnExactBlockOkSpec : ChangeSpec := { name := "fnExactBlockOk", vars := ["loop.example/g00946/impl.shaWords"], fn := fun _ => fun
  | [d, g1] => { results := [.lit (.bool true)], args := [d], vars := [g1] }
  | _ => none }
def fnExactBlockOkRow : OpenClaim := { program := "ytgcelmnmalfpcaagreatdoor", sum := "94bf350a9b086a7a0740df95f24d6fadf8e344d2a4eb1dab483a4cc460cdfc96", func := "loop.example/g00946/laws.FnExactBlockOk", spec := "fnExactBlockOk", unfollowed := true, recurses := true, named := ["loop.example/g00946/impl.shaWords"], apart := false, laid := [("loop.example/g00946/impl.shaWords", laid_loop_example_g00946_impl_shaWords)] }
def FnExactBlockOkSaid : Prop := fnExactBlockOkRow.holds Tryz.pinned (OpenSpec.ofChange fnExactBlockOkSpec)

/-- ITS FALSE NEIGHBOUR: 'it returns false'. Refute it at one input. -/
def fnExactBlockOkWrong : ChangeSpec := { name := "fnExactBlockOk", vars := ["loop.example/g00946/impl.shaWords"], fn := fun _ => fun
  | [d, g1] => { results := [.lit (.bool false)], args := [d], vars := [g1] }
  | _ => none }
def FnExactBlockOkWrongFalsely : Prop := fnExactBlockOkRow.holds Tryz.pinned (OpenSpec.ofChange fnExactBlockOkWrong)

/-- 'laws.FnExactChainOk': WHATEVER THE INPUT: true; the input reads as it did. -/
def fnExactChainOkSpec : ChangeSpec := { name := "fnExactChainOk", vars := ["loop.example/g00946/impl.shaWords"], fn := fun _ => fun
  | [d, g1] => { results := [.lit (.bool true)], args := [d], vars := [g1] }
  | _ => none }
def fnExactChainOkRow : OpenClaim := { program := "ytgcelmnmalfpcaagreatdoor", sum := "94bf350a9b086a7a0740df95f24d6fadf8e344d2a4eb1dab483a4cc460cdfc96", func := "loop.example/g00946/laws.FnExactChainOk", spec := "fnExactChainOk", unfollowed := true, recurses := true, named := ["loop.example/g00946/impl.shaWords"], apart := false, laid := [("loop.example/g00946/impl.shaWords", laid_loop_example_g00946_impl_shaWords)] }
def FnExactChainOkSaid : Prop := fnExactChainOkRow.holds Tryz.pinned (OpenSpec.ofChange fnExactChainOkSpec)

/-- ITS FALSE NEIGHBOUR: 'it returns false'. Refute it at one input. -/
def fnExactChainOkWrong : ChangeSpec := { name := "fnExactChainOk", vars := ["loop.example/g00946/impl.shaWords"], fn := fun _ => fun
  | [d, g1] => { results := [.lit (.bool false)], args := [d], vars := [g1] }
  | _ => none }
def FnExactChainOkWrongFalsely : Prop := fnExactChainOkRow.holds Tryz.pinned (OpenSpec.ofChange fnExactChainOkWrong)

/-- 'laws.FnExactLightNew': WHATEVER THE INPUT: true; the input reads as it did. -/
def fnExactLightNewSpec : ChangeSpec := { name := "fnExactLightNew", vars := ["loop.example/g00946/impl.shaWords"], fn := fun _ => fun
  | [d1, d2, d3, g1] => { results := [.lit (.bool true)], args := [d1, d2, d3], vars := [g1] }
  | _ => none }
def fnExactLightNewRow : OpenClaim := { program := "ytgcelmnmalfpcaagreatdoor", sum := "94bf350a9b086a7a0740df95f24d6fadf8e344d2a4eb1dab483a4cc460cdfc96", func := "loop.example/g00946/laws.FnExactLightNew", spec := "fnExactLightNew", unfollowed := true, recurses := true, named := ["loop.example/g00946/impl.shaWords"], apart := false, laid := [("loop.example/g00946/impl.shaWords", laid_loop_example_g00946_impl_shaWords)] }
def FnExactLightNewSaid : Prop := fnExactLightNewRow.holds Tryz.pinned (OpenSpec.ofChange fnExactLightNewSpec)

/-- ITS FALSE NEIGHBOUR: 'it returns false'. Refute it at one input. -/
def fnExactLightNewWrong : ChangeSpec := { name := "fnExactLightNew", vars := ["loop.example/g00946/impl.shaWords"], fn := fun _ => fun
  | [d1, d2, d3, g1] => { results := [.lit (.bool false)], args := [d1, d2, d3], vars := [g1] }
  | _ => none }
def FnExactLightNewWrongFalsely : Prop := fnExactLightNewRow.holds Tryz.pinned (OpenSpec.ofChange fnExactLightNewWrong)

/-- 'laws.FnExactBehind': WHATEVER THE INPUT: true; the input reads as it did. -/
def fnExactBehindSpec : ChangeSpec := { name := "fnExactBehind", vars := ["loop.example/g00946/impl.shaWords"], fn := fun _ => fun
  | [d1, d2, g1] => { results := [.lit (.bool true)], args := [d1, d2], vars := [g1] }
  | _ => none }
def fnExactBehindRow : OpenClaim := { program := "ytgcelmnmalfpcaagreatdoor", sum := "94bf350a9b086a7a0740df95f24d6fadf8e344d2a4eb1dab483a4cc460cdfc96", func := "loop.example/g00946/laws.FnExactBehind", spec := "fnExactBehind", unfollowed := true, recurses := true, named := ["loop.example/g00946/impl.shaWords"], apart := false, laid := [("loop.example/g00946/impl.shaWords", laid_loop_example_g00946_impl_shaWords)] }
def FnExactBehindSaid : Prop := fnExactBehindRow.holds Tryz.pinned (OpenSpec.ofChange fnExactBehindSpec)

/-- ITS FALSE NEIGHBOUR: 'it returns false'. Refute it at one input. -/
def fnExactBehindWrong : ChangeSpec := { name := "fnExactBehind", vars := ["loop.example/g00946/impl.shaWords"], fn := fun _ => fun
  | [d1, d2, g1] => { results := [.lit (.bool false)], args := [d1, d2], vars := [g1] }
  | _ => none }
def FnExactBehindWrongFalsely : Prop := fnExactBehindRow.holds Tryz.pinned (OpenSpec.ofChange fnExactBehindWrong)

/-- 'laws.FnExactCaught': WHATEVER THE INPUT: true; the input reads as it did. -/
def fnExactCaughtSpec : ChangeSpec := { name := "fnExactCaught", vars := ["loop.example/g00946/impl.shaWords"], fn := fun _ => fun
  | [d1, d2, g1] => { results := [.lit (.bool true)], args := [d1, d2], vars := [g1] }
  | _ => none }
def fnExactCaughtRow : OpenClaim := { program := "ytgcelmnmalfpcaagreatdoor", sum := "94bf350a9b086a7a0740df95f24d6fadf8e344d2a4eb1dab483a4cc460cdfc96", func := "loop.example/g00946/laws.FnExactCaught", spec := "fnExactCaught", unfollowed := true, recurses := true, named := ["loop.example/g00946/impl.shaWords"], apart := false, laid := [("loop.example/g00946/impl.shaWords", laid_loop_example_g00946_impl_shaWords)] }
def FnExactCaughtSaid : Prop := fnExactCaughtRow.holds Tryz.pinned (OpenSpec.ofChange fnExactCaughtSpec)

/-- ITS FALSE NEIGHBOUR: 'it returns false'. Refute it at one input. -/
def fnExactCaughtWrong : ChangeSpec := { name := "fnExactCaught", vars := ["loop.example/g00946/impl.shaWords"], fn := fun _ => fun
  | [d1, d2, g1] => { results := [.lit (.bool false)], args := [d1, d2], vars := [g1] }
  | _ => none }
def FnExactCaughtWrongFalsely : Prop := fnExactCaughtRow.holds Tryz.pinned (OpenSpec.ofChange fnExactCaughtWrong)

/-- 'laws.FnExactLightFeed': WHATEVER THE INPUT: true; the input reads as it did. -/
def fnExactLightFeedSpec : ChangeSpec := { name := "fnExactLightFeed", vars := ["loop.example/g00946/impl.shaWords"], fn := fun _ => fun
  | [d1, d2, d3, g1] => { results := [.lit (.bool true)], args := [d1, d2, d3], vars := [g1] }
  | _ => none }
def fnExactLightFeedRow : OpenClaim := { program := "ytgcelmnmalfpcaagreatdoor", sum := "94bf350a9b086a7a0740df95f24d6fadf8e344d2a4eb1dab483a4cc460cdfc96", func := "loop.example/g00946/laws.FnExactLightFeed", spec := "fnExactLightFeed", unfollowed := true, recurses := true, named := ["loop.example/g00946/impl.shaWords"], apart := false, laid := [("loop.example/g00946/impl.shaWords", laid_loop_example_g00946_impl_shaWords)] }
def FnExactLightFeedSaid : Prop := fnExactLightFeedRow.holds Tryz.pinned (OpenSpec.ofChange fnExactLightFeedSpec)

/-- ITS FALSE NEIGHBOUR: 'it returns false'. Refute it at one input. -/
def fnExactLightFeedWrong : ChangeSpec := { name := "fnExactLightFeed", vars := ["loop.example/g00946/impl.shaWords"], fn := fun _ => fun
  | [d1, d2, d3, g1] => { results := [.lit (.bool false)], args := [d1, d2, d3], vars := [g1] }
  | _ => none }
def FnExactLightFeedWrongFalsely : Prop := fnExactLightFeedRow.holds Tryz.pinned (OpenSpec.ofChange fnExactLightFeedWrong)

/-- 'laws.FnExactSync': WHATEVER THE INPUT: true; the input reads as it did. -/
def fnExactSyncSpec : ChangeSpec := { name := "fnExactSync", vars := ["loop.example/g00946/impl.shaWords"], fn := fun _ => fun
  | [d1, d2, g1] => { results := [.lit (.bool true)], args := [d1, d2], vars := [g1] }
  | _ => none }
def fnExactSyncRow : OpenClaim := { program := "ytgcelmnmalfpcaagreatdoor", sum := "94bf350a9b086a7a0740df95f24d6fadf8e344d2a4eb1dab483a4cc460cdfc96", func := "loop.example/g00946/laws.FnExactSync", spec := "fnExactSync", unfollowed := true, recurses := true, named := ["loop.example/g00946/impl.shaWords"], apart := false, laid := [("loop.example/g00946/impl.shaWords", laid_loop_example_g00946_impl_shaWords)] }
def FnExactSyncSaid : Prop := fnExactSyncRow.holds Tryz.pinned (OpenSpec.ofChange fnExactSyncSpec)

/-- ITS FALSE NEIGHBOUR: 'it returns false'. Refute it at one input. -/
def fnExactSyncWrong : ChangeSpec := { name := "fnExactSync", vars := ["loop.example/g00946/impl.shaWords"], fn := fun _ => fun
  | [d1, d2, g1] => { results := [.lit (.bool false)], args := [d1, d2], vars := [g1] }
  | _ => none }
def FnExactSyncWrongFalsely : Prop := fnExactSyncRow.holds Tryz.pinned (OpenSpec.ofChange fnExactSyncWrong)

/- THE SECOND FORM. 'bulk': how many values and letters a reading holds, each counted each time it is reached (what is shared counts as often as it is met; a slice's spare places count too). A statement '..UptoSaid' is the law's where the arguments, and the package variables that the reading takes, are together of bulk at most 1048576: NARROWER than '..Said'. Prove '..Said' where nothing that the law and all that it calls make is longer than what came in: it says more and counts as full. Else prove '..UptoSaid'. A law counts once. -/
mutual
def uptoBulk {H : Type} : DataW H → Nat
  | .lit (.string bytes) => bytes.length + 1
  | .lit _ => 1
  | .nil => 1
  | .ptr d => uptoBulk d + 1
  | .slice elems spare => uptoBulkAll elems + uptoBulkAll spare + 1
  | .agg parts => uptoBulkAll parts + 1
  | .iface _ d => uptoBulk d + 1
  | .map entries => uptoBulkEntries entries + 1
  | .held _ => 1
def uptoBulkAll {H : Type} : List (DataW H) → Nat
  | [] => 0
  | d :: r => uptoBulk d + uptoBulkAll r
def uptoBulkEntries {H : Type} : List (Lit × DataW H) → Nat
  | [] => 0
  | x :: r => uptoBulkEntry x + uptoBulkEntries r
def uptoBulkEntry {H : Type} : Lit × DataW H → Nat
  | (.string bytes, d) => bytes.length + uptoBulk d + 1
  | (_, d) => uptoBulk d + 1
 end
def uptoSmall : (H : Type) → List (DataW H) → Bool := fun _ ds => decide (uptoBulkAll ds ≤ 1048576)
def OpenSpec.upto (s : _root_.Go.ChangeSpec) : _root_.Go.OpenSpec := { _root_.Go.OpenSpec.ofChange s with cond := some uptoSmall }

/-- 'laws.FnExactLightFall', WHERE WHAT IT READS IS OF BULK AT MOST 1048576: true; the input reads as it did. -/
def fnExactLightFallUptoRow : OpenClaim := { program := "ytgcelmnmalfpcaagreatdoor", sum := "94bf350a9b086a7a0740df95f24d6fadf8e344d2a4eb1dab483a4cc460cdfc96", func := "loop.example/g00946/laws.FnExactLightFall", spec := "fnExactLightFall", unfollowed := true, recurses := true, named := ["loop.example/g00946/impl.shaWords"], apart := false, laid := [("loop.example/g00946/impl.shaWords", laid_loop_example_g00946_impl_shaWords)], narrowed := true }
def FnExactLightFallUptoSaid : Prop := fnExactLightFallUptoRow.holds Tryz.pinned (OpenSpec.upto fnExactLightFallSpec)

/-- 'laws.FnExactLightTick', WHERE WHAT IT READS IS OF BULK AT MOST 1048576: true; the input reads as it did. -/
def fnExactLightTickUptoRow : OpenClaim := { program := "ytgcelmnmalfpcaagreatdoor", sum := "94bf350a9b086a7a0740df95f24d6fadf8e344d2a4eb1dab483a4cc460cdfc96", func := "loop.example/g00946/laws.FnExactLightTick", spec := "fnExactLightTick", unfollowed := true, recurses := true, named := ["loop.example/g00946/impl.shaWords"], apart := false, laid := [("loop.example/g00946/impl.shaWords", laid_loop_example_g00946_impl_shaWords)], narrowed := true }
def FnExactLightTickUptoSaid : Prop := fnExactLightTickUptoRow.holds Tryz.pinned (OpenSpec.upto fnExactLightTickSpec)

/-- 'laws.FnExactBlockOk', WHERE WHAT IT READS IS OF BULK AT MOST 1048576: true; the input reads as it did. -/
def fnExactBlockOkUptoRow : OpenClaim := { program := "ytgcelmnmalfpcaagreatdoor", sum := "94bf350a9b086a7a0740df95f24d6fadf8e344d2a4eb1dab483a4cc460cdfc96", func := "loop.example/g00946/laws.FnExactBlockOk", spec := "fnExactBlockOk", unfollowed := true, recurses := true, named := ["loop.example/g00946/impl.shaWords"], apart := false, laid := [("loop.example/g00946/impl.shaWords", laid_loop_example_g00946_impl_shaWords)], narrowed := true }
def FnExactBlockOkUptoSaid : Prop := fnExactBlockOkUptoRow.holds Tryz.pinned (OpenSpec.upto fnExactBlockOkSpec)

/-- 'laws.FnExactChainOk', WHERE WHAT IT READS IS OF BULK AT MOST 1048576: true; the input reads as it did. -/
def fnExactChainOkUptoRow : OpenClaim := { program := "ytgcelmnmalfpcaagreatdoor", sum := "94bf350a9b086a7a0740df95f24d6fadf8e344d2a4eb1dab483a4cc460cdfc96", func := "loop.example/g00946/laws.FnExactChainOk", spec := "fnExactChainOk", unfollowed := true, recurses := true, named := ["loop.example/g00946/impl.shaWords"], apart := false, laid := [("loop.example/g00946/impl.shaWords", laid_loop_example_g00946_impl_shaWords)], narrowed := true }
def FnExactChainOkUptoSaid : Prop := fnExactChainOkUptoRow.holds Tryz.pinned (OpenSpec.upto fnExactChainOkSpec)

/-- 'laws.FnExactLightNew', WHERE WHAT IT READS IS OF BULK AT MOST 1048576: true; the input reads as it did. -/
def fnExactLightNewUptoRow : OpenClaim := { program := "ytgcelmnmalfpcaagreatdoor", sum := "94bf350a9b086a7a0740df95f24d6fadf8e344d2a4eb1dab483a4cc460cdfc96", func := "loop.example/g00946/laws.FnExactLightNew", spec := "fnExactLightNew", unfollowed := true, recurses := true, named := ["loop.example/g00946/impl.shaWords"], apart := false, laid := [("loop.example/g00946/impl.shaWords", laid_loop_example_g00946_impl_shaWords)], narrowed := true }
def FnExactLightNewUptoSaid : Prop := fnExactLightNewUptoRow.holds Tryz.pinned (OpenSpec.upto fnExactLightNewSpec)

/-- 'laws.FnExactBehind', WHERE WHAT IT READS IS OF BULK AT MOST 1048576: true; the input reads as it did. -/
def fnExactBehindUptoRow : OpenClaim := { program := "ytgcelmnmalfpcaagreatdoor", sum := "94bf350a9b086a7a0740df95f24d6fadf8e344d2a4eb1dab483a4cc460cdfc96", func := "loop.example/g00946/laws.FnExactBehind", spec := "fnExactBehind", unfollowed := true, recurses := true, named := ["loop.example/g00946/impl.shaWords"], apart := false, laid := [("loop.example/g00946/impl.shaWords", laid_loop_example_g00946_impl_shaWords)], narrowed := true }
def FnExactBehindUptoSaid : Prop := fnExactBehindUptoRow.holds Tryz.pinned (OpenSpec.upto fnExactBehindSpec)

/-- 'laws.FnExactCaught', WHERE WHAT IT READS IS OF BULK AT MOST 1048576: true; the input reads as it did. -/
def fnExactCaughtUptoRow : OpenClaim := { program := "ytgcelmnmalfpcaagreatdoor", sum := "94bf350a9b086a7a0740df95f24d6fadf8e344d2a4eb1dab483a4cc460cdfc96", func := "loop.example/g00946/laws.FnExactCaught", spec := "fnExactCaught", unfollowed := true, recurses := true, named := ["loop.example/g00946/impl.shaWords"], apart := false, laid := [("loop.example/g00946/impl.shaWords", laid_loop_example_g00946_impl_shaWords)], narrowed := true }
def FnExactCaughtUptoSaid : Prop := fnExactCaughtUptoRow.holds Tryz.pinned (OpenSpec.upto fnExactCaughtSpec)

/-- 'laws.FnExactLightFeed', WHERE WHAT IT READS IS OF BULK AT MOST 1048576: true; the input reads as it did. -/
def fnExactLightFeedUptoRow : OpenClaim := { program := "ytgcelmnmalfpcaagreatdoor", sum := "94bf350a9b086a7a0740df95f24d6fadf8e344d2a4eb1dab483a4cc460cdfc96", func := "loop.example/g00946/laws.FnExactLightFeed", spec := "fnExactLightFeed", unfollowed := true, recurses := true, named := ["loop.example/g00946/impl.shaWords"], apart := false, laid := [("loop.example/g00946/impl.shaWords", laid_loop_example_g00946_impl_shaWords)], narrowed := true }
def FnExactLightFeedUptoSaid : Prop := fnExactLightFeedUptoRow.holds Tryz.pinned (OpenSpec.upto fnExactLightFeedSpec)

/-- 'laws.FnExactSync', WHERE WHAT IT READS IS OF BULK AT MOST 1048576: true; the input reads as it did. -/
def fnExactSyncUptoRow : OpenClaim := { program := "ytgcelmnmalfpcaagreatdoor", sum := "94bf350a9b086a7a0740df95f24d6fadf8e344d2a4eb1dab483a4cc460cdfc96", func := "loop.example/g00946/laws.FnExactSync", spec := "fnExactSync", unfollowed := true, recurses := true, named := ["loop.example/g00946/impl.shaWords"], apart := false, laid := [("loop.example/g00946/impl.shaWords", laid_loop_example_g00946_impl_shaWords)], narrowed := true }
def FnExactSyncUptoSaid : Prop := fnExactSyncUptoRow.holds Tryz.pinned (OpenSpec.upto fnExactSyncSpec)

end Rows
end Go.Proofs.YtgcelmnmalfpcaaGreatDoor
