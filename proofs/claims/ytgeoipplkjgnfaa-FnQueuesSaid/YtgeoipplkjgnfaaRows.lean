/-
  No cell of these rows narrows 'for every input' (looked for: loops, veiled, ifaces, maps, wideKeys, modest, calm, conditions, laid).
  DERIVED. THE GIVEN ROWS OF THIS SEAT. 9 by the template 'for every input the law returns true; each argument reads behind the call as it read before'; 0 by the template 'total and deterministic' (their statements: YtgeoipplkjgnfaaTotals.lean).
  GIVEN WITH THE SEED: the statements are not yours to turn. If you find one false, say at which input.
  Laid BY PROGRAM, IN A SANDBOX (cutbox-rows.mjs): the forced cells as the released guide's own fill.sh prints them over the translation 55376dab1201f99d… (all of the seat's roots in one cut). By AI agents, Wed Nov 11 2026. No macro, syntax, notation, axiom, sorry.
-/
import Derived.Test.YtgeoipplkjgnfaaChecked
import GoSem.Claim
import GoSem.ClaimJoined
import GoSem.ClaimMapViews
import Derived.JoinedTies
import Derived.KernelRfl
namespace Go.Proofs.Ytgeoipplkjgnfaa
/- THE CELL 'sum', in the pinned program and in every row, IS THE sha256 OF THE DUMP (.gsa) THAT YtgeoipplkjgnfaaProg.lean LOADS. Nothing in Lean hashes anything: it is a label: what it is worth is what the hold of that sum in a sandbox is worth. -/
noncomputable def Try.pinned : Pinned := { name := "ytgeoipplkjgnfaa", sum := "55376dab1201f99dfa159c9e884096b1aca25ae89bc52097401837d973cf344f", checked := Try.checked }
namespace Rows
def none {H : Type} : Left H := { results := [], args := [] }

/-- 'laws.FnExactLastOf': WHATEVER THE INPUT: true; the input reads as it did. -/
def fnExactLastOfSpec : ChangeSpec := { name := "fnExactLastOf", fn := fun _ => fun
  | [d1, d2] => { results := [.lit (.bool true)], args := [d1, d2] }
  | _ => none }
def fnExactLastOfRow : OpenClaim := { program := "ytgeoipplkjgnfaa", sum := "55376dab1201f99dfa159c9e884096b1aca25ae89bc52097401837d973cf344f", func := "loop.example/g00290/laws.FnExactLastOf", spec := "fnExactLastOf", apart := false }
def FnExactLastOfSaid : Prop := fnExactLastOfRow.holds Try.pinned (OpenSpec.ofChange fnExactLastOfSpec)

/-- ITS FALSE NEIGHBOUR: 'it returns false'. Refute it at one input. -/
def fnExactLastOfWrong : ChangeSpec := { name := "fnExactLastOf", fn := fun _ => fun
  | [d1, d2] => { results := [.lit (.bool false)], args := [d1, d2] }
  | _ => none }
def FnExactLastOfWrongFalsely : Prop := fnExactLastOfRow.holds Try.pinned (OpenSpec.ofChange fnExactLastOfWrong)

/-- 'laws.FnExactSameOutcome': WHATEVER THE INPUT: true; the input reads as it did. -/
def fnExactSameOutcomeSpec : ChangeSpec := { name := "fnExactSameOutcome", fn := fun _ => fun
  | [d1, d2] => { results := [.lit (.bool true)], args := [d1, d2] }
  | _ => none }
def fnExactSameOutcomeRow : OpenClaim := { program := "ytgeoipplkjgnfaa", sum := "55376dab1201f99dfa159c9e884096b1aca25ae89bc52097401837d973cf344f", func := "loop.example/g00290/laws.FnExactSameOutcome", spec := "fnExactSameOutcome", apart := false }
def FnExactSameOutcomeSaid : Prop := fnExactSameOutcomeRow.holds Try.pinned (OpenSpec.ofChange fnExactSameOutcomeSpec)

/-- ITS FALSE NEIGHBOUR: 'it returns false'. Refute it at one input. -/
def fnExactSameOutcomeWrong : ChangeSpec := { name := "fnExactSameOutcome", fn := fun _ => fun
  | [d1, d2] => { results := [.lit (.bool false)], args := [d1, d2] }
  | _ => none }
def FnExactSameOutcomeWrongFalsely : Prop := fnExactSameOutcomeRow.holds Try.pinned (OpenSpec.ofChange fnExactSameOutcomeWrong)

/-- 'laws.FnQueues': WHATEVER THE INPUT: true; the input reads as it did. -/
def fnQueuesSpec : ChangeSpec := { name := "fnQueues", fn := fun _ => fun
  | [d] => { results := [.lit (.bool true)], args := [d] }
  | _ => none }
def fnQueuesRow : OpenClaim := { program := "ytgeoipplkjgnfaa", sum := "55376dab1201f99dfa159c9e884096b1aca25ae89bc52097401837d973cf344f", func := "loop.example/g00290/laws.FnQueues", spec := "fnQueues", apart := false }
def FnQueuesSaid : Prop := fnQueuesRow.holds Try.pinned (OpenSpec.ofChange fnQueuesSpec)

/-- ITS FALSE NEIGHBOUR: 'it returns false'. Refute it at one input. -/
def fnQueuesWrong : ChangeSpec := { name := "fnQueues", fn := fun _ => fun
  | [d] => { results := [.lit (.bool false)], args := [d] }
  | _ => none }
def FnQueuesWrongFalsely : Prop := fnQueuesRow.holds Try.pinned (OpenSpec.ofChange fnQueuesWrong)

/-- 'laws.FnGatesTold': WHATEVER THE INPUT: true; the input reads as it did. -/
def fnGatesToldSpec : ChangeSpec := { name := "fnGatesTold", fn := fun _ => fun
  | [d] => { results := [.lit (.bool true)], args := [d] }
  | _ => none }
def fnGatesToldRow : OpenClaim := { program := "ytgeoipplkjgnfaa", sum := "55376dab1201f99dfa159c9e884096b1aca25ae89bc52097401837d973cf344f", func := "loop.example/g00290/laws.FnGatesTold", spec := "fnGatesTold", apart := false }
def FnGatesToldSaid : Prop := fnGatesToldRow.holds Try.pinned (OpenSpec.ofChange fnGatesToldSpec)

/-- ITS FALSE NEIGHBOUR: 'it returns false'. Refute it at one input. -/
def fnGatesToldWrong : ChangeSpec := { name := "fnGatesTold", fn := fun _ => fun
  | [d] => { results := [.lit (.bool false)], args := [d] }
  | _ => none }
def FnGatesToldWrongFalsely : Prop := fnGatesToldRow.holds Try.pinned (OpenSpec.ofChange fnGatesToldWrong)

/-- 'laws.FnExactLockHeld': WHATEVER THE INPUT: true; the input reads as it did. -/
def fnExactLockHeldSpec : ChangeSpec := { name := "fnExactLockHeld", fn := fun _ => fun
  | [d] => { results := [.lit (.bool true)], args := [d] }
  | _ => none }
def fnExactLockHeldRow : OpenClaim := { program := "ytgeoipplkjgnfaa", sum := "55376dab1201f99dfa159c9e884096b1aca25ae89bc52097401837d973cf344f", func := "loop.example/g00290/laws.FnExactLockHeld", spec := "fnExactLockHeld", apart := false }
def FnExactLockHeldSaid : Prop := fnExactLockHeldRow.holds Try.pinned (OpenSpec.ofChange fnExactLockHeldSpec)

/-- ITS FALSE NEIGHBOUR: 'it returns false'. Refute it at one input. -/
def fnExactLockHeldWrong : ChangeSpec := { name := "fnExactLockHeld", fn := fun _ => fun
  | [d] => { results := [.lit (.bool false)], args := [d] }
  | _ => none }
def FnExactLockHeldWrongFalsely : Prop := fnExactLockHeldRow.holds Try.pinned (OpenSpec.ofChange fnExactLockHeldWrong)

/-- 'laws.FnExactMayTouch': WHATEVER THE INPUT: true; the input reads as it did. -/
def fnExactMayTouchSpec : ChangeSpec := { name := "fnExactMayTouch", fn := fun _ => fun
  | [d1, d2, d3, d4] => { results := [.lit (.bool true)], args := [d1, d2, d3, d4] }
  | _ => none }
def fnExactMayTouchRow : OpenClaim := { program := "ytgeoipplkjgnfaa", sum := "55376dab1201f99dfa159c9e884096b1aca25ae89bc52097401837d973cf344f", func := "loop.example/g00290/laws.FnExactMayTouch", spec := "fnExactMayTouch", apart := false }
def FnExactMayTouchSaid : Prop := fnExactMayTouchRow.holds Try.pinned (OpenSpec.ofChange fnExactMayTouchSpec)

/-- ITS FALSE NEIGHBOUR: 'it returns false'. Refute it at one input. -/
def fnExactMayTouchWrong : ChangeSpec := { name := "fnExactMayTouch", fn := fun _ => fun
  | [d1, d2, d3, d4] => { results := [.lit (.bool false)], args := [d1, d2, d3, d4] }
  | _ => none }
def FnExactMayTouchWrongFalsely : Prop := fnExactMayTouchRow.holds Try.pinned (OpenSpec.ofChange fnExactMayTouchWrong)

/-- 'laws.FnExactTouchRight': WHATEVER THE INPUT: true; the input reads as it did. -/
def fnExactTouchRightSpec : ChangeSpec := { name := "fnExactTouchRight", fn := fun _ => fun
  | [d1, d2, d3] => { results := [.lit (.bool true)], args := [d1, d2, d3] }
  | _ => none }
def fnExactTouchRightRow : OpenClaim := { program := "ytgeoipplkjgnfaa", sum := "55376dab1201f99dfa159c9e884096b1aca25ae89bc52097401837d973cf344f", func := "loop.example/g00290/laws.FnExactTouchRight", spec := "fnExactTouchRight", apart := false }
def FnExactTouchRightSaid : Prop := fnExactTouchRightRow.holds Try.pinned (OpenSpec.ofChange fnExactTouchRightSpec)

/-- ITS FALSE NEIGHBOUR: 'it returns false'. Refute it at one input. -/
def fnExactTouchRightWrong : ChangeSpec := { name := "fnExactTouchRight", fn := fun _ => fun
  | [d1, d2, d3] => { results := [.lit (.bool false)], args := [d1, d2, d3] }
  | _ => none }
def FnExactTouchRightWrongFalsely : Prop := fnExactTouchRightRow.holds Try.pinned (OpenSpec.ofChange fnExactTouchRightWrong)

/-- 'laws.FnExactGatesAgree': WHATEVER THE INPUT: true; the input reads as it did. -/
def fnExactGatesAgreeSpec : ChangeSpec := { name := "fnExactGatesAgree", fn := fun _ => fun
  | [d1, d2] => { results := [.lit (.bool true)], args := [d1, d2] }
  | _ => none }
def fnExactGatesAgreeRow : OpenClaim := { program := "ytgeoipplkjgnfaa", sum := "55376dab1201f99dfa159c9e884096b1aca25ae89bc52097401837d973cf344f", func := "loop.example/g00290/laws.FnExactGatesAgree", spec := "fnExactGatesAgree", unfollowed := true, recurses := true, apart := false }
def FnExactGatesAgreeSaid : Prop := fnExactGatesAgreeRow.holds Try.pinned (OpenSpec.ofChange fnExactGatesAgreeSpec)

/-- ITS FALSE NEIGHBOUR: 'it returns false'. Refute it at one input. -/
def fnExactGatesAgreeWrong : ChangeSpec := { name := "fnExactGatesAgree", fn := fun _ => fun
  | [d1, d2] => { results := [.lit (.bool false)], args := [d1, d2] }
  | _ => none }
def FnExactGatesAgreeWrongFalsely : Prop := fnExactGatesAgreeRow.holds Try.pinned (OpenSpec.ofChange fnExactGatesAgreeWrong)

/-- 'laws.FnExactVarsAgree': WHATEVER THE INPUT: true; the input reads as it did. -/
def fnExactVarsAgreeSpec : ChangeSpec := { name := "fnExactVarsAgree", fn := fun _ => fun
  | [d1, d2, d3] => { results := [.lit (.bool true)], args := [d1, d2, d3] }
  | _ => none }
def fnExactVarsAgreeRow : OpenClaim := { program := "ytgeoipplkjgnfaa", sum := "55376dab1201f99dfa159c9e884096b1aca25ae89bc52097401837d973cf344f", func := "loop.example/g00290/laws.FnExactVarsAgree", spec := "fnExactVarsAgree", apart := false }
def FnExactVarsAgreeSaid : Prop := fnExactVarsAgreeRow.holds Try.pinned (OpenSpec.ofChange fnExactVarsAgreeSpec)

/-- ITS FALSE NEIGHBOUR: 'it returns false'. Refute it at one input. -/
def fnExactVarsAgreeWrong : ChangeSpec := { name := "fnExactVarsAgree", fn := fun _ => fun
  | [d1, d2, d3] => { results := [.lit (.bool false)], args := [d1, d2, d3] }
  | _ => none }
def FnExactVarsAgreeWrongFalsely : Prop := fnExactVarsAgreeRow.holds Try.pinned (OpenSpec.ofChange fnExactVarsAgreeWrong)

/- THE SECOND FORM. 'bulk': how many values and letters a reading holds, each counted each time it is reached (what is shared counts as often as it is met; a slice's spare places count too). A statement '..UptoSaid' is the law's where the arguments, and the package variables that the reading takes, are together of bulk at most 1048576: NARROWER than '..Said'. Prove '..Said' where nothing that the law and all that it calls make is longer than what came in: it says more and counts as full. Else prove '..UptoSaid'. A law counts once. -/
mutual
def uptoBulk {H : Type} : DataW H → Nat
  | .lit (.string bytes) => bytes.length + 1
  | .lit _ => 1
  | .nil => 1
  | .ptr d => uptoBulk d + 1
  | .slice elems spare => uptoBulkAll elems + uptoBulkAll spare + 1
  | .agg parts => uptoBulkAll parts + 1
  | .iface _ d => uptoBulk d + 1
  | .map entries => uptoBulkEntries entries + 1
  | .held _ => 1
def uptoBulkAll {H : Type} : List (DataW H) → Nat
  | [] => 0
  | d :: r => uptoBulk d + uptoBulkAll r
def uptoBulkEntries {H : Type} : List (Lit × DataW H) → Nat
  | [] => 0
  | x :: r => uptoBulkEntry x + uptoBulkEntries r
def uptoBulkEntry {H : Type} : Lit × DataW H → Nat
  | (.string bytes, d) => bytes.length + uptoBulk d + 1
  | (_, d) => uptoBulk d + 1
 end
def uptoSmall : (H : Type) → List (DataW H) → Bool := fun _ ds => decide (uptoBulkAll ds ≤ 1048576)
def OpenSpec.upto (s : _root_.Go.ChangeSpec) : _root_.Go.OpenSpec := { _root_.Go.OpenSpec.ofChange s with cond := some uptoSmall }

/-- 'laws.FnExactLastOf', WHERE WHAT IT READS IS OF BULK AT MOST 1048576: true; the input reads as it did. -/
def fnExactLastOfUptoRow : OpenClaim := { program := "ytgeoipplkjgnfaa", sum := "55376dab1201f99dfa159c9e884096b1aca25ae89bc52097401837d973cf344f", func := "loop.example/g00290/laws.FnExactLastOf", spec := "fnExactLastOf", apart := false, narrowed := true }
def FnExactLastOfUptoSaid : Prop := fnExactLastOfUptoRow.holds Try.pinned (OpenSpec.upto fnExactLastOfSpec)

/-- 'laws.FnExactSameOutcome', WHERE WHAT IT READS IS OF BULK AT MOST 1048576: true; the input reads as it did. -/
def fnExactSameOutcomeUptoRow : OpenClaim := { program := "ytgeoipplkjgnfaa", sum := "55376dab1201f99dfa159c9e884096b1aca25ae89bc52097401837d973cf344f", func := "loop.example/g00290/laws.FnExactSameOutcome", spec := "fnExactSameOutcome", apart := false, narrowed := true }
def FnExactSameOutcomeUptoSaid : Prop := fnExactSameOutcomeUptoRow.holds Try.pinned (OpenSpec.upto fnExactSameOutcomeSpec)

/-- 'laws.FnQueues', WHERE WHAT IT READS IS OF BULK AT MOST 1048576: true; the input reads as it did. -/
def fnQueuesUptoRow : OpenClaim := { program := "ytgeoipplkjgnfaa", sum := "55376dab1201f99dfa159c9e884096b1aca25ae89bc52097401837d973cf344f", func := "loop.example/g00290/laws.FnQueues", spec := "fnQueues", apart := false, narrowed := true }
def FnQueuesUptoSaid : Prop := fnQueuesUptoRow.holds Try.pinned (OpenSpec.upto fnQueuesSpec)

/-- 'laws.FnGatesTold', WHERE WHAT IT READS IS OF BULK AT MOST 1048576: true; the input reads as it did. -/
def fnGatesToldUptoRow : OpenClaim := { program := "ytgeoipplkjgnfaa", sum := "55376dab1201f99dfa159c9e884096b1aca25ae89bc52097401837d973cf344f", func := "loop.example/g00290/laws.FnGatesTold", spec := "fnGatesTold", apart := false, narrowed := true }
def FnGatesToldUptoSaid : Prop := fnGatesToldUptoRow.holds Try.pinned (OpenSpec.upto fnGatesToldSpec)

/-- 'laws.FnExactLockHeld', WHERE WHAT IT READS IS OF BULK AT MOST 1048576: true; the input reads as it did. -/
def fnExactLockHeldUptoRow : OpenClaim := { program := "ytgeoipplkjgnfaa", sum := "55376dab1201f99dfa159c9e884096b1aca25ae89bc52097401837d973cf344f", func := "loop.example/g00290/laws.FnExactLockHeld", spec := "fnExactLockHeld", apart := false, narrowed := true }
def FnExactLockHeldUptoSaid : Prop := fnExactLockHeldUptoRow.holds Try.pinned (OpenSpec.upto fnExactLockHeldSpec)

/-- 'laws.FnExactMayTouch', WHERE WHAT IT READS IS OF BULK AT MOST 1048576: true; the input reads as it did. -/
def fnExactMayTouchUptoRow : OpenClaim := { program := "ytgeoipplkjgnfaa", sum := "55376dab1201f99dfa159c9e884096b1aca25ae89bc52097401837d973cf344f", func := "loop.example/g00290/laws.FnExactMayTouch", spec := "fnExactMayTouch", apart := false, narrowed := true }
def FnExactMayTouchUptoSaid : Prop := fnExactMayTouchUptoRow.holds Try.pinned (OpenSpec.upto fnExactMayTouchSpec)

/-- 'laws.FnExactTouchRight', WHERE WHAT IT READS IS OF BULK AT MOST 1048576: true; the input reads as it did. -/
def fnExactTouchRightUptoRow : OpenClaim := { program := "ytgeoipplkjgnfaa", sum := "55376dab1201f99dfa159c9e884096b1aca25ae89bc52097401837d973cf344f", func := "loop.example/g00290/laws.FnExactTouchRight", spec := "fnExactTouchRight", apart := false, narrowed := true }
def FnExactTouchRightUptoSaid : Prop := fnExactTouchRightUptoRow.holds Try.pinned (OpenSpec.upto fnExactTouchRightSpec)

/-- 'laws.FnExactGatesAgree', WHERE WHAT IT READS IS OF BULK AT MOST 1048576: true; the input reads as it did. -/
def fnExactGatesAgreeUptoRow : OpenClaim := { program := "ytgeoipplkjgnfaa", sum := "55376dab1201f99dfa159c9e884096b1aca25ae89bc52097401837d973cf344f", func := "loop.example/g00290/laws.FnExactGatesAgree", spec := "fnExactGatesAgree", unfollowed := true, recurses := true, apart := false, narrowed := true }
def FnExactGatesAgreeUptoSaid : Prop := fnExactGatesAgreeUptoRow.holds Try.pinned (OpenSpec.upto fnExactGatesAgreeSpec)

/-- 'laws.FnExactVarsAgree', WHERE WHAT IT READS IS OF BULK AT MOST 1048576: true; the input reads as it did. -/
def fnExactVarsAgreeUptoRow : OpenClaim := { program := "ytgeoipplkjgnfaa", sum := "55376dab1201f99dfa159c9e884096b1aca25ae89bc52097401837d973cf344f", func := "loop.example/g00290/laws.FnExactVarsAgree", spec := "fnExactVarsAgree", apart := false, narrowed := true }
def FnExactVarsAgreeUptoSaid : Prop := fnExactVarsAgreeUptoRow.holds Try.pinned (OpenSpec.upto fnExactVarsAgreeSpec)

end Rows
end Go.Proofs.Ytgeoipplkjgnfaa
