/-
  No cell of these rows narrows 'for every input' (looked for: loops, veiled, ifaces, maps, wideKeys, modest, calm, conditions, laid).
  DERIVED. THE GIVEN ROWS OF THIS SEAT. 11 by the template 'for every input the law returns true; each argument reads behind the call as it read before'; 0 by the template 'total and deterministic' (their statements: YthnmiimckgphnaaTotals.lean).
  GIVEN WITH THE SEED: the statements are not yours to turn. If you find one false, say at which input.
  Laid BY PROGRAM, IN A SANDBOX (cutbox-rows.mjs): the forced cells as the released guide's own fill.sh prints them over the translation 43ff4fb3da56cacd… (all of the seat's roots in one cut). By AI agents, Wed Nov 11 2026. No macro, syntax, notation, axiom, sorry.
-/
import Derived.Test.YthnmiimckgphnaaChecked
import GoSem.Claim
import GoSem.ClaimJoined
import GoSem.ClaimMapViews
import Derived.JoinedTies
import Derived.KernelRfl
namespace Go.Proofs.Ythnmiimckgphnaa
/- THE CELL 'sum', in the pinned program and in every row, IS THE sha256 OF THE DUMP (.gsa) THAT YthnmiimckgphnaaProg.lean LOADS. Nothing in Lean hashes anything: it is a label: what it is worth is what the hold of that sum in a sandbox is worth. -/
noncomputable def Try.pinned : Pinned := { name := "ythnmiimckgphnaa", sum := "43ff4fb3da56cacd5613bcde8f886fcc55e8d979687f23b3dce26d009b577b7e", checked := Try.checked }
namespace Rows
def none {H : Type} : Left H := { results := [], args := [] }

/-- 'laws.FnExactBucketOk': WHATEVER THE INPUT: true; the input reads as it did. -/
def fnExactBucketOkSpec : ChangeSpec := { name := "fnExactBucketOk", fn := fun _ => fun
  | [d] => { results := [.lit (.bool true)], args := [d] }
  | _ => none }
def fnExactBucketOkRow : OpenClaim := { program := "ythnmiimckgphnaa", sum := "43ff4fb3da56cacd5613bcde8f886fcc55e8d979687f23b3dce26d009b577b7e", func := "loop.example/g00946/laws.FnExactBucketOk", spec := "fnExactBucketOk", apart := false }
def FnExactBucketOkSaid : Prop := fnExactBucketOkRow.holds Try.pinned (OpenSpec.ofChange fnExactBucketOkSpec)

/-- ITS FALSE NEIGHBOUR: 'it returns false'. Refute it at one input. -/
def fnExactBucketOkWrong : ChangeSpec := { name := "fnExactBucketOk", fn := fun _ => fun
  | [d] => { results := [.lit (.bool false)], args := [d] }
  | _ => none }
def FnExactBucketOkWrongFalsely : Prop := fnExactBucketOkRow.holds Try.pinned (OpenSpec.ofChange fnExactBucketOkWrong)

/-- 'laws.FnExactBucketSee': WHATEVER THE INPUT: true; the input reads as it did. -/
def fnExactBucketSeeSpec : ChangeSpec := { name := "fnExactBucketSee", fn := fun _ => fun
  | [d1, d2] => { results := [.lit (.bool true)], args := [d1, d2] }
  | _ => none }
def fnExactBucketSeeRow : OpenClaim := { program := "ythnmiimckgphnaa", sum := "43ff4fb3da56cacd5613bcde8f886fcc55e8d979687f23b3dce26d009b577b7e", func := "loop.example/g00946/laws.FnExactBucketSee", spec := "fnExactBucketSee", apart := false }
def FnExactBucketSeeSaid : Prop := fnExactBucketSeeRow.holds Try.pinned (OpenSpec.ofChange fnExactBucketSeeSpec)

/-- ITS FALSE NEIGHBOUR: 'it returns false'. Refute it at one input. -/
def fnExactBucketSeeWrong : ChangeSpec := { name := "fnExactBucketSee", fn := fun _ => fun
  | [d1, d2] => { results := [.lit (.bool false)], args := [d1, d2] }
  | _ => none }
def FnExactBucketSeeWrongFalsely : Prop := fnExactBucketSeeRow.holds Try.pinned (OpenSpec.ofChange fnExactBucketSeeWrong)

/-- 'laws.FnBucket': WHATEVER THE INPUT: true; the input reads as it did. -/
def fnBucketSpec : ChangeSpec := { name := "fnBucket", fn := fun _ => fun
  | [d] => { results := [.lit (.bool true)], args := [d] }
  | _ => none }
def fnBucketRow : OpenClaim := { program := "ythnmiimckgphnaa", sum := "43ff4fb3da56cacd5613bcde8f886fcc55e8d979687f23b3dce26d009b577b7e", func := "loop.example/g00946/laws.FnBucket", spec := "fnBucket", apart := false }
def FnBucketSaid : Prop := fnBucketRow.holds Try.pinned (OpenSpec.ofChange fnBucketSpec)

/-- ITS FALSE NEIGHBOUR: 'it returns false'. Refute it at one input. -/
def fnBucketWrong : ChangeSpec := { name := "fnBucket", fn := fun _ => fun
  | [d] => { results := [.lit (.bool false)], args := [d] }
  | _ => none }
def FnBucketWrongFalsely : Prop := fnBucketRow.holds Try.pinned (OpenSpec.ofChange fnBucketWrong)

/-- 'laws.FnExactShowReq': WHATEVER THE INPUT: true; the input reads as it did. -/
def fnExactShowReqSpec : ChangeSpec := { name := "fnExactShowReq", fn := fun _ => fun
  | [d] => { results := [.lit (.bool true)], args := [d] }
  | _ => none }
def fnExactShowReqRow : OpenClaim := { program := "ythnmiimckgphnaa", sum := "43ff4fb3da56cacd5613bcde8f886fcc55e8d979687f23b3dce26d009b577b7e", func := "loop.example/g00946/laws.FnExactShowReq", spec := "fnExactShowReq", apart := false }
def FnExactShowReqSaid : Prop := fnExactShowReqRow.holds Try.pinned (OpenSpec.ofChange fnExactShowReqSpec)

/-- ITS FALSE NEIGHBOUR: 'it returns false'. Refute it at one input. -/
def fnExactShowReqWrong : ChangeSpec := { name := "fnExactShowReq", fn := fun _ => fun
  | [d] => { results := [.lit (.bool false)], args := [d] }
  | _ => none }
def FnExactShowReqWrongFalsely : Prop := fnExactShowReqRow.holds Try.pinned (OpenSpec.ofChange fnExactShowReqWrong)

/-- 'laws.FnExactAddrsOk': WHATEVER THE INPUT: true; the input reads as it did. -/
def fnExactAddrsOkSpec : ChangeSpec := { name := "fnExactAddrsOk", fn := fun _ => fun
  | [d] => { results := [.lit (.bool true)], args := [d] }
  | _ => none }
def fnExactAddrsOkRow : OpenClaim := { program := "ythnmiimckgphnaa", sum := "43ff4fb3da56cacd5613bcde8f886fcc55e8d979687f23b3dce26d009b577b7e", func := "loop.example/g00946/laws.FnExactAddrsOk", spec := "fnExactAddrsOk", apart := false }
def FnExactAddrsOkSaid : Prop := fnExactAddrsOkRow.holds Try.pinned (OpenSpec.ofChange fnExactAddrsOkSpec)

/-- ITS FALSE NEIGHBOUR: 'it returns false'. Refute it at one input. -/
def fnExactAddrsOkWrong : ChangeSpec := { name := "fnExactAddrsOk", fn := fun _ => fun
  | [d] => { results := [.lit (.bool false)], args := [d] }
  | _ => none }
def FnExactAddrsOkWrongFalsely : Prop := fnExactAddrsOkRow.holds Try.pinned (OpenSpec.ofChange fnExactAddrsOkWrong)

/-- 'laws.FnExactBucketTake': WHATEVER THE INPUT: true; the input reads as it did. -/
def fnExactBucketTakeSpec : ChangeSpec := { name := "fnExactBucketTake", fn := fun _ => fun
  | [d1, d2, d3] => { results := [.lit (.bool true)], args := [d1, d2, d3] }
  | _ => none }
def fnExactBucketTakeRow : OpenClaim := { program := "ythnmiimckgphnaa", sum := "43ff4fb3da56cacd5613bcde8f886fcc55e8d979687f23b3dce26d009b577b7e", func := "loop.example/g00946/laws.FnExactBucketTake", spec := "fnExactBucketTake", apart := false }
def FnExactBucketTakeSaid : Prop := fnExactBucketTakeRow.holds Try.pinned (OpenSpec.ofChange fnExactBucketTakeSpec)

/-- ITS FALSE NEIGHBOUR: 'it returns false'. Refute it at one input. -/
def fnExactBucketTakeWrong : ChangeSpec := { name := "fnExactBucketTake", fn := fun _ => fun
  | [d1, d2, d3] => { results := [.lit (.bool false)], args := [d1, d2, d3] }
  | _ => none }
def FnExactBucketTakeWrongFalsely : Prop := fnExactBucketTakeRow.holds Try.pinned (OpenSpec.ofChange fnExactBucketTakeWrong)

/-- 'laws.FnExactForget': WHATEVER THE INPUT: true; the input reads as it did. -/
def fnExactForgetSpec : ChangeSpec := { name := "fnExactForget", fn := fun _ => fun
  | [d1, d2, d3] => { results := [.lit (.bool true)], args := [d1, d2, d3] }
  | _ => none }
def fnExactForgetRow : OpenClaim := { program := "ythnmiimckgphnaa", sum := "43ff4fb3da56cacd5613bcde8f886fcc55e8d979687f23b3dce26d009b577b7e", func := "loop.example/g00946/laws.FnExactForget", spec := "fnExactForget", apart := false }
def FnExactForgetSaid : Prop := fnExactForgetRow.holds Try.pinned (OpenSpec.ofChange fnExactForgetSpec)

/-- ITS FALSE NEIGHBOUR: 'it returns false'. Refute it at one input. -/
def fnExactForgetWrong : ChangeSpec := { name := "fnExactForget", fn := fun _ => fun
  | [d1, d2, d3] => { results := [.lit (.bool false)], args := [d1, d2, d3] }
  | _ => none }
def FnExactForgetWrongFalsely : Prop := fnExactForgetRow.holds Try.pinned (OpenSpec.ofChange fnExactForgetWrong)

/-- 'laws.FnExactLanesOk': WHATEVER THE INPUT: true; the input reads as it did. -/
def fnExactLanesOkSpec : ChangeSpec := { name := "fnExactLanesOk", fn := fun _ => fun
  | [d] => { results := [.lit (.bool true)], args := [d] }
  | _ => none }
def fnExactLanesOkRow : OpenClaim := { program := "ythnmiimckgphnaa", sum := "43ff4fb3da56cacd5613bcde8f886fcc55e8d979687f23b3dce26d009b577b7e", func := "loop.example/g00946/laws.FnExactLanesOk", spec := "fnExactLanesOk", apart := false }
def FnExactLanesOkSaid : Prop := fnExactLanesOkRow.holds Try.pinned (OpenSpec.ofChange fnExactLanesOkSpec)

/-- ITS FALSE NEIGHBOUR: 'it returns false'. Refute it at one input. -/
def fnExactLanesOkWrong : ChangeSpec := { name := "fnExactLanesOk", fn := fun _ => fun
  | [d] => { results := [.lit (.bool false)], args := [d] }
  | _ => none }
def FnExactLanesOkWrongFalsely : Prop := fnExactLanesOkRow.holds Try.pinned (OpenSpec.ofChange fnExactLanesOkWrong)

/-- 'laws.FnExactReadReq': WHATEVER THE INPUT: true; the input reads as it did. -/
def fnExactReadReqSpec : ChangeSpec := { name := "fnExactReadReq", fn := fun _ => fun
  | [d] => { results := [.lit (.bool true)], args := [d] }
  | _ => none }
def fnExactReadReqRow : OpenClaim := { program := "ythnmiimckgphnaa", sum := "43ff4fb3da56cacd5613bcde8f886fcc55e8d979687f23b3dce26d009b577b7e", func := "loop.example/g00946/laws.FnExactReadReq", spec := "fnExactReadReq", apart := false }
def FnExactReadReqSaid : Prop := fnExactReadReqRow.holds Try.pinned (OpenSpec.ofChange fnExactReadReqSpec)

/-- ITS FALSE NEIGHBOUR: 'it returns false'. Refute it at one input. -/
def fnExactReadReqWrong : ChangeSpec := { name := "fnExactReadReq", fn := fun _ => fun
  | [d] => { results := [.lit (.bool false)], args := [d] }
  | _ => none }
def FnExactReadReqWrongFalsely : Prop := fnExactReadReqRow.holds Try.pinned (OpenSpec.ofChange fnExactReadReqWrong)

/-- 'laws.FnExactLanesWait': WHATEVER THE INPUT: true; the input reads as it did. -/
def fnExactLanesWaitSpec : ChangeSpec := { name := "fnExactLanesWait", fn := fun _ => fun
  | [d1, d2] => { results := [.lit (.bool true)], args := [d1, d2] }
  | _ => none }
def fnExactLanesWaitRow : OpenClaim := { program := "ythnmiimckgphnaa", sum := "43ff4fb3da56cacd5613bcde8f886fcc55e8d979687f23b3dce26d009b577b7e", func := "loop.example/g00946/laws.FnExactLanesWait", spec := "fnExactLanesWait", apart := false }
def FnExactLanesWaitSaid : Prop := fnExactLanesWaitRow.holds Try.pinned (OpenSpec.ofChange fnExactLanesWaitSpec)

/-- ITS FALSE NEIGHBOUR: 'it returns false'. Refute it at one input. -/
def fnExactLanesWaitWrong : ChangeSpec := { name := "fnExactLanesWait", fn := fun _ => fun
  | [d1, d2] => { results := [.lit (.bool false)], args := [d1, d2] }
  | _ => none }
def FnExactLanesWaitWrongFalsely : Prop := fnExactLanesWaitRow.holds Try.pinned (OpenSpec.ofChange fnExactLanesWaitWrong)

/-- 'laws.FnExactLanesPut': WHATEVER THE INPUT: true; the input reads as it did. -/
def fnExactLanesPutSpec : ChangeSpec := { name := "fnExactLanesPut", fn := fun _ => fun
  | [d1, d2, d3] => { results := [.lit (.bool true)], args := [d1, d2, d3] }
  | _ => none }
def fnExactLanesPutRow : OpenClaim := { program := "ythnmiimckgphnaa", sum := "43ff4fb3da56cacd5613bcde8f886fcc55e8d979687f23b3dce26d009b577b7e", func := "loop.example/g00946/laws.FnExactLanesPut", spec := "fnExactLanesPut", apart := false }
def FnExactLanesPutSaid : Prop := fnExactLanesPutRow.holds Try.pinned (OpenSpec.ofChange fnExactLanesPutSpec)

/-- ITS FALSE NEIGHBOUR: 'it returns false'. Refute it at one input. -/
def fnExactLanesPutWrong : ChangeSpec := { name := "fnExactLanesPut", fn := fun _ => fun
  | [d1, d2, d3] => { results := [.lit (.bool false)], args := [d1, d2, d3] }
  | _ => none }
def FnExactLanesPutWrongFalsely : Prop := fnExactLanesPutRow.holds Try.pinned (OpenSpec.ofChange fnExactLanesPutWrong)

/- THE SECOND FORM. 'bulk': how many values and letters a reading holds, each counted each time it is reached (what is shared counts as often as it is met; a slice's spare places count too). A statement '..UptoSaid' is the law's where the arguments, and the package variables that the reading takes, are together of bulk at most 1048576: NARROWER than '..Said'. Prove '..Said' where nothing that the law and all that it calls make is longer than what came in: it says more and counts as full. Else prove '..UptoSaid'. A law counts once. -/
mutual
def uptoBulk {H : Type} : DataW H → Nat
  | .lit (.string bytes) => bytes.length + 1
  | .lit _ => 1
  | .nil => 1
  | .ptr d => uptoBulk d + 1
  | .slice elems spare => uptoBulkAll elems + uptoBulkAll spare + 1
  | .agg parts => uptoBulkAll parts + 1
  | .iface _ d => uptoBulk d + 1
  | .map entries => uptoBulkEntries entries + 1
  | .held _ => 1
def uptoBulkAll {H : Type} : List (DataW H) → Nat
  | [] => 0
  | d :: r => uptoBulk d + uptoBulkAll r
def uptoBulkEntries {H : Type} : List (Lit × DataW H) → Nat
  | [] => 0
  | x :: r => uptoBulkEntry x + uptoBulkEntries r
def uptoBulkEntry {H : Type} : Lit × DataW H → Nat
  | (.string bytes, d) => bytes.length + uptoBulk d + 1
  | (_, d) => uptoBulk d + 1
 end
def uptoSmall : (H : Type) → List (DataW H) → Bool := fun _ ds => decide (uptoBulkAll ds ≤ 1048576)
def OpenSpec.upto (s : _root_.Go.ChangeSpec) : _root_.Go.OpenSpec := { _root_.Go.OpenSpec.ofChange s with cond := some uptoSmall }

/-- 'laws.FnExactBucketOk', WHERE WHAT IT READS IS OF BULK AT MOST 1048576: true; the input reads as it did. -/
def fnExactBucketOkUptoRow : OpenClaim := { program := "ythnmiimckgphnaa", sum := "43ff4fb3da56cacd5613bcde8f886fcc55e8d979687f23b3dce26d009b577b7e", func := "loop.example/g00946/laws.FnExactBucketOk", spec := "fnExactBucketOk", apart := false, narrowed := true }
def FnExactBucketOkUptoSaid : Prop := fnExactBucketOkUptoRow.holds Try.pinned (OpenSpec.upto fnExactBucketOkSpec)

/-- 'laws.FnExactBucketSee', WHERE WHAT IT READS IS OF BULK AT MOST 1048576: true; the input reads as it did. -/
def fnExactBucketSeeUptoRow : OpenClaim := { program := "ythnmiimckgphnaa", sum := "43ff4fb3da56cacd5613bcde8f886fcc55e8d979687f23b3dce26d009b577b7e", func := "loop.example/g00946/laws.FnExactBucketSee", spec := "fnExactBucketSee", apart := false, narrowed := true }
def FnExactBucketSeeUptoSaid : Prop := fnExactBucketSeeUptoRow.holds Try.pinned (OpenSpec.upto fnExactBucketSeeSpec)

/-- 'laws.FnBucket', WHERE WHAT IT READS IS OF BULK AT MOST 1048576: true; the input reads as it did. -/
def fnBucketUptoRow : OpenClaim := { program := "ythnmiimckgphnaa", sum := "43ff4fb3da56cacd5613bcde8f886fcc55e8d979687f23b3dce26d009b577b7e", func := "loop.example/g00946/laws.FnBucket", spec := "fnBucket", apart := false, narrowed := true }
def FnBucketUptoSaid : Prop := fnBucketUptoRow.holds Try.pinned (OpenSpec.upto fnBucketSpec)

/-- 'laws.FnExactShowReq', WHERE WHAT IT READS IS OF BULK AT MOST 1048576: true; the input reads as it did. -/
def fnExactShowReqUptoRow : OpenClaim := { program := "ythnmiimckgphnaa", sum := "43ff4fb3da56cacd5613bcde8f886fcc55e8d979687f23b3dce26d009b577b7e", func := "loop.example/g00946/laws.FnExactShowReq", spec := "fnExactShowReq", apart := false, narrowed := true }
def FnExactShowReqUptoSaid : Prop := fnExactShowReqUptoRow.holds Try.pinned (OpenSpec.upto fnExactShowReqSpec)

/-- 'laws.FnExactAddrsOk', WHERE WHAT IT READS IS OF BULK AT MOST 1048576: true; the input reads as it did. -/
def fnExactAddrsOkUptoRow : OpenClaim := { program := "ythnmiimckgphnaa", sum := "43ff4fb3da56cacd5613bcde8f886fcc55e8d979687f23b3dce26d009b577b7e", func := "loop.example/g00946/laws.FnExactAddrsOk", spec := "fnExactAddrsOk", apart := false, narrowed := true }
def FnExactAddrsOkUptoSaid : Prop := fnExactAddrsOkUptoRow.holds Try.pinned (OpenSpec.upto fnExactAddrsOkSpec)

/-- 'laws.FnExactBucketTake', WHERE WHAT IT READS IS OF BULK AT MOST 1048576: true; the input reads as it did. -/
def fnExactBucketTakeUptoRow : OpenClaim := { program := "ythnmiimckgphnaa", sum := "43ff4fb3da56cacd5613bcde8f886fcc55e8d979687f23b3dce26d009b577b7e", func := "loop.example/g00946/laws.FnExactBucketTake", spec := "fnExactBucketTake", apart := false, narrowed := true }
def FnExactBucketTakeUptoSaid : Prop := fnExactBucketTakeUptoRow.holds Try.pinned (OpenSpec.upto fnExactBucketTakeSpec)

/-- 'laws.FnExactForget', WHERE WHAT IT READS IS OF BULK AT MOST 1048576: true; the input reads as it did. -/
def fnExactForgetUptoRow : OpenClaim := { program := "ythnmiimckgphnaa", sum := "43ff4fb3da56cacd5613bcde8f886fcc55e8d979687f23b3dce26d009b577b7e", func := "loop.example/g00946/laws.FnExactForget", spec := "fnExactForget", apart := false, narrowed := true }
def FnExactForgetUptoSaid : Prop := fnExactForgetUptoRow.holds Try.pinned (OpenSpec.upto fnExactForgetSpec)

/-- 'laws.FnExactLanesOk', WHERE WHAT IT READS IS OF BULK AT MOST 1048576: true; the input reads as it did. -/
def fnExactLanesOkUptoRow : OpenClaim := { program := "ythnmiimckgphnaa", sum := "43ff4fb3da56cacd5613bcde8f886fcc55e8d979687f23b3dce26d009b577b7e", func := "loop.example/g00946/laws.FnExactLanesOk", spec := "fnExactLanesOk", apart := false, narrowed := true }
def FnExactLanesOkUptoSaid : Prop := fnExactLanesOkUptoRow.holds Try.pinned (OpenSpec.upto fnExactLanesOkSpec)

/-- 'laws.FnExactReadReq', WHERE WHAT IT READS IS OF BULK AT MOST 1048576: true; the input reads as it did. -/
def fnExactReadReqUptoRow : OpenClaim := { program := "ythnmiimckgphnaa", sum := "43ff4fb3da56cacd5613bcde8f886fcc55e8d979687f23b3dce26d009b577b7e", func := "loop.example/g00946/laws.FnExactReadReq", spec := "fnExactReadReq", apart := false, narrowed := true }
def FnExactReadReqUptoSaid : Prop := fnExactReadReqUptoRow.holds Try.pinned (OpenSpec.upto fnExactReadReqSpec)

/-- 'laws.FnExactLanesWait', WHERE WHAT IT READS IS OF BULK AT MOST 1048576: true; the input reads as it did. -/
def fnExactLanesWaitUptoRow : OpenClaim := { program := "ythnmiimckgphnaa", sum := "43ff4fb3da56cacd5613bcde8f886fcc55e8d979687f23b3dce26d009b577b7e", func := "loop.example/g00946/laws.FnExactLanesWait", spec := "fnExactLanesWait", apart := false, narrowed := true }
def FnExactLanesWaitUptoSaid : Prop := fnExactLanesWaitUptoRow.holds Try.pinned (OpenSpec.upto fnExactLanesWaitSpec)

/-- 'laws.FnExactLanesPut', WHERE WHAT IT READS IS OF BULK AT MOST 1048576: true; the input reads as it did. -/
def fnExactLanesPutUptoRow : OpenClaim := { program := "ythnmiimckgphnaa", sum := "43ff4fb3da56cacd5613bcde8f886fcc55e8d979687f23b3dce26d009b577b7e", func := "loop.example/g00946/laws.FnExactLanesPut", spec := "fnExactLanesPut", apart := false, narrowed := true }
def FnExactLanesPutUptoSaid : Prop := fnExactLanesPutUptoRow.holds Try.pinned (OpenSpec.upto fnExactLanesPutSpec)

end Rows
end Go.Proofs.Ythnmiimckgphnaa
