/-
  No cell of these rows narrows 'for every input' (looked for: loops, veiled, ifaces, maps, wideKeys, modest, calm, conditions, laid).
  DERIVED. THE GIVEN ROWS OF THIS SEAT. 12 by the template 'for every input the law returns true; each argument reads behind the call as it read before'; 0 by the template 'total and deterministic' (their statements: YtfkkbbkelehibaaTotals.lean).
  GIVEN WITH THE SEED: the statements are not yours to turn. If you find one false, say at which input.
  Laid BY PROGRAM, IN A SANDBOX (cutbox-rows.mjs): the forced cells as the released guide's own fill.sh prints them over the translation cb73c67d2569eb94… (all of the seat's roots in one cut). By AI agents, Wed Nov 11 2026. No macro, syntax, notation, axiom, sorry.
-/
import Derived.Test.YtfkkbbkelehibaaChecked
import GoSem.Claim
import GoSem.ClaimJoined
import GoSem.ClaimMapViews
import Derived.JoinedTies
import Derived.KernelRfl
namespace Go.Proofs.Ytfkkbbkelehibaa
/- THE CELL 'sum', in the pinned program and in every row, IS THE sha256 OF THE DUMP (.gsa) THAT YtfkkbbkelehibaaProg.lean LOADS. Nothing in Lean hashes anything: it is a label: what it is worth is what the hold of that sum in a sandbox is worth. -/
noncomputable def Try.pinned : Pinned := { name := "ytfkkbbkelehibaa", sum := "cb73c67d2569eb9400f694c642790e2a43145a9aa67da7b6dd129479a6e1ce06", checked := Try.checked }
namespace Rows
def none {H : Type} : Left H := { results := [], args := [] }

/-- 'laws.FnExactCanDouble': WHATEVER THE INPUT: true; the input reads as it did. -/
def fnExactCanDoubleSpec : ChangeSpec := { name := "fnExactCanDouble", fn := fun _ => fun
  | [d1, d2] => { results := [.lit (.bool true)], args := [d1, d2] }
  | _ => none }
def fnExactCanDoubleRow : OpenClaim := { program := "ytfkkbbkelehibaa", sum := "cb73c67d2569eb9400f694c642790e2a43145a9aa67da7b6dd129479a6e1ce06", func := "loop.example/g01333/laws.FnExactCanDouble", spec := "fnExactCanDouble", unfollowed := true, recurses := true, apart := false }
def FnExactCanDoubleSaid : Prop := fnExactCanDoubleRow.holds Try.pinned (OpenSpec.ofChange fnExactCanDoubleSpec)

/-- ITS FALSE NEIGHBOUR: 'it returns false'. Refute it at one input. -/
def fnExactCanDoubleWrong : ChangeSpec := { name := "fnExactCanDouble", fn := fun _ => fun
  | [d1, d2] => { results := [.lit (.bool false)], args := [d1, d2] }
  | _ => none }
def FnExactCanDoubleWrongFalsely : Prop := fnExactCanDoubleRow.holds Try.pinned (OpenSpec.ofChange fnExactCanDoubleWrong)

/-- 'laws.FnExactSpreadOf': WHATEVER THE INPUT: true; the input reads as it did. -/
def fnExactSpreadOfSpec : ChangeSpec := { name := "fnExactSpreadOf", fn := fun _ => fun
  | [d] => { results := [.lit (.bool true)], args := [d] }
  | _ => none }
def fnExactSpreadOfRow : OpenClaim := { program := "ytfkkbbkelehibaa", sum := "cb73c67d2569eb9400f694c642790e2a43145a9aa67da7b6dd129479a6e1ce06", func := "loop.example/g01333/laws.FnExactSpreadOf", spec := "fnExactSpreadOf", unfollowed := true, recurses := true, apart := false }
def FnExactSpreadOfSaid : Prop := fnExactSpreadOfRow.holds Try.pinned (OpenSpec.ofChange fnExactSpreadOfSpec)

/-- ITS FALSE NEIGHBOUR: 'it returns false'. Refute it at one input. -/
def fnExactSpreadOfWrong : ChangeSpec := { name := "fnExactSpreadOf", fn := fun _ => fun
  | [d] => { results := [.lit (.bool false)], args := [d] }
  | _ => none }
def FnExactSpreadOfWrongFalsely : Prop := fnExactSpreadOfRow.holds Try.pinned (OpenSpec.ofChange fnExactSpreadOfWrong)

/-- 'laws.FnExactLevelHeaps': WHATEVER THE INPUT: true; the input reads as it did. -/
def fnExactLevelHeapsSpec : ChangeSpec := { name := "fnExactLevelHeaps", fn := fun _ => fun
  | [d1, d2] => { results := [.lit (.bool true)], args := [d1, d2] }
  | _ => none }
def fnExactLevelHeapsRow : OpenClaim := { program := "ytfkkbbkelehibaa", sum := "cb73c67d2569eb9400f694c642790e2a43145a9aa67da7b6dd129479a6e1ce06", func := "loop.example/g01333/laws.FnExactLevelHeaps", spec := "fnExactLevelHeaps", apart := false }
def FnExactLevelHeapsSaid : Prop := fnExactLevelHeapsRow.holds Try.pinned (OpenSpec.ofChange fnExactLevelHeapsSpec)

/-- ITS FALSE NEIGHBOUR: 'it returns false'. Refute it at one input. -/
def fnExactLevelHeapsWrong : ChangeSpec := { name := "fnExactLevelHeaps", fn := fun _ => fun
  | [d1, d2] => { results := [.lit (.bool false)], args := [d1, d2] }
  | _ => none }
def FnExactLevelHeapsWrongFalsely : Prop := fnExactLevelHeapsRow.holds Try.pinned (OpenSpec.ofChange fnExactLevelHeapsWrong)

/-- 'laws.FnExactMirrorCircle': WHATEVER THE INPUT: true; the input reads as it did. -/
def fnExactMirrorCircleSpec : ChangeSpec := { name := "fnExactMirrorCircle", fn := fun _ => fun
  | [d] => { results := [.lit (.bool true)], args := [d] }
  | _ => none }
def fnExactMirrorCircleRow : OpenClaim := { program := "ytfkkbbkelehibaa", sum := "cb73c67d2569eb9400f694c642790e2a43145a9aa67da7b6dd129479a6e1ce06", func := "loop.example/g01333/laws.FnExactMirrorCircle", spec := "fnExactMirrorCircle", unfollowed := true, recurses := true, apart := false }
def FnExactMirrorCircleSaid : Prop := fnExactMirrorCircleRow.holds Try.pinned (OpenSpec.ofChange fnExactMirrorCircleSpec)

/-- ITS FALSE NEIGHBOUR: 'it returns false'. Refute it at one input. -/
def fnExactMirrorCircleWrong : ChangeSpec := { name := "fnExactMirrorCircle", fn := fun _ => fun
  | [d] => { results := [.lit (.bool false)], args := [d] }
  | _ => none }
def FnExactMirrorCircleWrongFalsely : Prop := fnExactMirrorCircleRow.holds Try.pinned (OpenSpec.ofChange fnExactMirrorCircleWrong)

/-- 'laws.FnExactCandyStep': WHATEVER THE INPUT: true; the input reads as it did. -/
def fnExactCandyStepSpec : ChangeSpec := { name := "fnExactCandyStep", fn := fun _ => fun
  | [d] => { results := [.lit (.bool true)], args := [d] }
  | _ => none }
def fnExactCandyStepRow : OpenClaim := { program := "ytfkkbbkelehibaa", sum := "cb73c67d2569eb9400f694c642790e2a43145a9aa67da7b6dd129479a6e1ce06", func := "loop.example/g01333/laws.FnExactCandyStep", spec := "fnExactCandyStep", unfollowed := true, recurses := true, apart := false }
def FnExactCandyStepSaid : Prop := fnExactCandyStepRow.holds Try.pinned (OpenSpec.ofChange fnExactCandyStepSpec)

/-- ITS FALSE NEIGHBOUR: 'it returns false'. Refute it at one input. -/
def fnExactCandyStepWrong : ChangeSpec := { name := "fnExactCandyStep", fn := fun _ => fun
  | [d] => { results := [.lit (.bool false)], args := [d] }
  | _ => none }
def FnExactCandyStepWrongFalsely : Prop := fnExactCandyStepRow.holds Try.pinned (OpenSpec.ofChange fnExactCandyStepWrong)

/-- 'laws.FnExactStonesToMove': WHATEVER THE INPUT: true; the input reads as it did. -/
def fnExactStonesToMoveSpec : ChangeSpec := { name := "fnExactStonesToMove", fn := fun _ => fun
  | [d] => { results := [.lit (.bool true)], args := [d] }
  | _ => none }
def fnExactStonesToMoveRow : OpenClaim := { program := "ytfkkbbkelehibaa", sum := "cb73c67d2569eb9400f694c642790e2a43145a9aa67da7b6dd129479a6e1ce06", func := "loop.example/g01333/laws.FnExactStonesToMove", spec := "fnExactStonesToMove", unfollowed := true, recurses := true, apart := false }
def FnExactStonesToMoveSaid : Prop := fnExactStonesToMoveRow.holds Try.pinned (OpenSpec.ofChange fnExactStonesToMoveSpec)

/-- ITS FALSE NEIGHBOUR: 'it returns false'. Refute it at one input. -/
def fnExactStonesToMoveWrong : ChangeSpec := { name := "fnExactStonesToMove", fn := fun _ => fun
  | [d] => { results := [.lit (.bool false)], args := [d] }
  | _ => none }
def FnExactStonesToMoveWrongFalsely : Prop := fnExactStonesToMoveRow.holds Try.pinned (OpenSpec.ofChange fnExactStonesToMoveWrong)

/-- 'laws.FnExactMakeMove': WHATEVER THE INPUT: true; the input reads as it did. -/
def fnExactMakeMoveSpec : ChangeSpec := { name := "fnExactMakeMove", fn := fun _ => fun
  | [d1, d2] => { results := [.lit (.bool true)], args := [d1, d2] }
  | _ => none }
def fnExactMakeMoveRow : OpenClaim := { program := "ytfkkbbkelehibaa", sum := "cb73c67d2569eb9400f694c642790e2a43145a9aa67da7b6dd129479a6e1ce06", func := "loop.example/g01333/laws.FnExactMakeMove", spec := "fnExactMakeMove", unfollowed := true, recurses := true, apart := false }
def FnExactMakeMoveSaid : Prop := fnExactMakeMoveRow.holds Try.pinned (OpenSpec.ofChange fnExactMakeMoveSpec)

/-- ITS FALSE NEIGHBOUR: 'it returns false'. Refute it at one input. -/
def fnExactMakeMoveWrong : ChangeSpec := { name := "fnExactMakeMove", fn := fun _ => fun
  | [d1, d2] => { results := [.lit (.bool false)], args := [d1, d2] }
  | _ => none }
def FnExactMakeMoveWrongFalsely : Prop := fnExactMakeMoveRow.holds Try.pinned (OpenSpec.ofChange fnExactMakeMoveWrong)

/-- 'laws.FnExactFewestMoves': WHATEVER THE INPUT: true; the input reads as it did. -/
def fnExactFewestMovesSpec : ChangeSpec := { name := "fnExactFewestMoves", fn := fun _ => fun
  | [d] => { results := [.lit (.bool true)], args := [d] }
  | _ => none }
def fnExactFewestMovesRow : OpenClaim := { program := "ytfkkbbkelehibaa", sum := "cb73c67d2569eb9400f694c642790e2a43145a9aa67da7b6dd129479a6e1ce06", func := "loop.example/g01333/laws.FnExactFewestMoves", spec := "fnExactFewestMoves", unfollowed := true, recurses := true, apart := false }
def FnExactFewestMovesSaid : Prop := fnExactFewestMovesRow.holds Try.pinned (OpenSpec.ofChange fnExactFewestMovesSpec)

/-- ITS FALSE NEIGHBOUR: 'it returns false'. Refute it at one input. -/
def fnExactFewestMovesWrong : ChangeSpec := { name := "fnExactFewestMoves", fn := fun _ => fun
  | [d] => { results := [.lit (.bool false)], args := [d] }
  | _ => none }
def FnExactFewestMovesWrongFalsely : Prop := fnExactFewestMovesRow.holds Try.pinned (OpenSpec.ofChange fnExactFewestMovesWrong)

/-- 'laws.FnExactLineFlows': WHATEVER THE INPUT: true; the input reads as it did. -/
def fnExactLineFlowsSpec : ChangeSpec := { name := "fnExactLineFlows", fn := fun _ => fun
  | [d] => { results := [.lit (.bool true)], args := [d] }
  | _ => none }
def fnExactLineFlowsRow : OpenClaim := { program := "ytfkkbbkelehibaa", sum := "cb73c67d2569eb9400f694c642790e2a43145a9aa67da7b6dd129479a6e1ce06", func := "loop.example/g01333/laws.FnExactLineFlows", spec := "fnExactLineFlows", unfollowed := true, recurses := true, apart := false }
def FnExactLineFlowsSaid : Prop := fnExactLineFlowsRow.holds Try.pinned (OpenSpec.ofChange fnExactLineFlowsSpec)

/-- ITS FALSE NEIGHBOUR: 'it returns false'. Refute it at one input. -/
def fnExactLineFlowsWrong : ChangeSpec := { name := "fnExactLineFlows", fn := fun _ => fun
  | [d] => { results := [.lit (.bool false)], args := [d] }
  | _ => none }
def FnExactLineFlowsWrongFalsely : Prop := fnExactLineFlowsRow.holds Try.pinned (OpenSpec.ofChange fnExactLineFlowsWrong)

/-- 'laws.FnExactMostCarried': WHATEVER THE INPUT: true; the input reads as it did. -/
def fnExactMostCarriedSpec : ChangeSpec := { name := "fnExactMostCarried", fn := fun _ => fun
  | [d] => { results := [.lit (.bool true)], args := [d] }
  | _ => none }
def fnExactMostCarriedRow : OpenClaim := { program := "ytfkkbbkelehibaa", sum := "cb73c67d2569eb9400f694c642790e2a43145a9aa67da7b6dd129479a6e1ce06", func := "loop.example/g01333/laws.FnExactMostCarried", spec := "fnExactMostCarried", unfollowed := true, recurses := true, apart := false }
def FnExactMostCarriedSaid : Prop := fnExactMostCarriedRow.holds Try.pinned (OpenSpec.ofChange fnExactMostCarriedSpec)

/-- ITS FALSE NEIGHBOUR: 'it returns false'. Refute it at one input. -/
def fnExactMostCarriedWrong : ChangeSpec := { name := "fnExactMostCarried", fn := fun _ => fun
  | [d] => { results := [.lit (.bool false)], args := [d] }
  | _ => none }
def FnExactMostCarriedWrongFalsely : Prop := fnExactMostCarriedRow.holds Try.pinned (OpenSpec.ofChange fnExactMostCarriedWrong)

/-- 'laws.FnExactDoubleHeap': WHATEVER THE INPUT: true; the input reads as it did. -/
def fnExactDoubleHeapSpec : ChangeSpec := { name := "fnExactDoubleHeap", fn := fun _ => fun
  | [d1, d2] => { results := [.lit (.bool true)], args := [d1, d2] }
  | _ => none }
def fnExactDoubleHeapRow : OpenClaim := { program := "ytfkkbbkelehibaa", sum := "cb73c67d2569eb9400f694c642790e2a43145a9aa67da7b6dd129479a6e1ce06", func := "loop.example/g01333/laws.FnExactDoubleHeap", spec := "fnExactDoubleHeap", unfollowed := true, recurses := true, apart := false }
def FnExactDoubleHeapSaid : Prop := fnExactDoubleHeapRow.holds Try.pinned (OpenSpec.ofChange fnExactDoubleHeapSpec)

/-- ITS FALSE NEIGHBOUR: 'it returns false'. Refute it at one input. -/
def fnExactDoubleHeapWrong : ChangeSpec := { name := "fnExactDoubleHeap", fn := fun _ => fun
  | [d1, d2] => { results := [.lit (.bool false)], args := [d1, d2] }
  | _ => none }
def FnExactDoubleHeapWrongFalsely : Prop := fnExactDoubleHeapRow.holds Try.pinned (OpenSpec.ofChange fnExactDoubleHeapWrong)

/-- 'laws.FnExactLineDistance': WHATEVER THE INPUT: true; the input reads as it did. -/
def fnExactLineDistanceSpec : ChangeSpec := { name := "fnExactLineDistance", fn := fun _ => fun
  | [d] => { results := [.lit (.bool true)], args := [d] }
  | _ => none }
def fnExactLineDistanceRow : OpenClaim := { program := "ytfkkbbkelehibaa", sum := "cb73c67d2569eb9400f694c642790e2a43145a9aa67da7b6dd129479a6e1ce06", func := "loop.example/g01333/laws.FnExactLineDistance", spec := "fnExactLineDistance", unfollowed := true, recurses := true, apart := false }
def FnExactLineDistanceSaid : Prop := fnExactLineDistanceRow.holds Try.pinned (OpenSpec.ofChange fnExactLineDistanceSpec)

/-- ITS FALSE NEIGHBOUR: 'it returns false'. Refute it at one input. -/
def fnExactLineDistanceWrong : ChangeSpec := { name := "fnExactLineDistance", fn := fun _ => fun
  | [d] => { results := [.lit (.bool false)], args := [d] }
  | _ => none }
def FnExactLineDistanceWrongFalsely : Prop := fnExactLineDistanceRow.holds Try.pinned (OpenSpec.ofChange fnExactLineDistanceWrong)

/- THE SECOND FORM. 'bulk': how many values and letters a reading holds, each counted each time it is reached (what is shared counts as often as it is met; a slice's spare places count too). A statement '..UptoSaid' is the law's where the arguments, and the package variables that the reading takes, are together of bulk at most 1048576: NARROWER than '..Said'. Prove '..Said' where nothing that the law and all that it calls make is longer than what came in: it says more and counts as full. Else prove '..UptoSaid'. A law counts once. -/
mutual
def uptoBulk {H : Type} : DataW H → Nat
  | .lit (.string bytes) => bytes.length + 1
  | .lit _ => 1
  | .nil => 1
  | .ptr d => uptoBulk d + 1
  | .slice elems spare => uptoBulkAll elems + uptoBulkAll spare + 1
  | .agg parts => uptoBulkAll parts + 1
  | .iface _ d => uptoBulk d + 1
  | .map entries => uptoBulkEntries entries + 1
  | .held _ => 1
def uptoBulkAll {H : Type} : List (DataW H) → Nat
  | [] => 0
  | d :: r => uptoBulk d + uptoBulkAll r
def uptoBulkEntries {H : Type} : List (Lit × DataW H) → Nat
  | [] => 0
  | x :: r => uptoBulkEntry x + uptoBulkEntries r
def uptoBulkEntry {H : Type} : Lit × DataW H → Nat
  | (.string bytes, d) => bytes.length + uptoBulk d + 1
  | (_, d) => uptoBulk d + 1
 end
def uptoSmall : (H : Type) → List (DataW H) → Bool := fun _ ds => decide (uptoBulkAll ds ≤ 1048576)
def OpenSpec.upto (s : _root_.Go.ChangeSpec) : _root_.Go.OpenSpec := { _root_.Go.OpenSpec.ofChange s with cond := some uptoSmall }

/-- 'laws.FnExactCanDouble', WHERE WHAT IT READS IS OF BULK AT MOST 1048576: true; the input reads as it did. -/
def fnExactCanDoubleUptoRow : OpenClaim := { program := "ytfkkbbkelehibaa", sum := "cb73c67d2569eb9400f694c642790e2a43145a9aa67da7b6dd129479a6e1ce06", func := "loop.example/g01333/laws.FnExactCanDouble", spec := "fnExactCanDouble", unfollowed := true, recurses := true, apart := false, narrowed := true }
def FnExactCanDoubleUptoSaid : Prop := fnExactCanDoubleUptoRow.holds Try.pinned (OpenSpec.upto fnExactCanDoubleSpec)

/-- 'laws.FnExactSpreadOf', WHERE WHAT IT READS IS OF BULK AT MOST 1048576: true; the input reads as it did. -/
def fnExactSpreadOfUptoRow : OpenClaim := { program := "ytfkkbbkelehibaa", sum := "cb73c67d2569eb9400f694c642790e2a43145a9aa67da7b6dd129479a6e1ce06", func := "loop.example/g01333/laws.FnExactSpreadOf", spec := "fnExactSpreadOf", unfollowed := true, recurses := true, apart := false, narrowed := true }
def FnExactSpreadOfUptoSaid : Prop := fnExactSpreadOfUptoRow.holds Try.pinned (OpenSpec.upto fnExactSpreadOfSpec)

/-- 'laws.FnExactLevelHeaps', WHERE WHAT IT READS IS OF BULK AT MOST 1048576: true; the input reads as it did. -/
def fnExactLevelHeapsUptoRow : OpenClaim := { program := "ytfkkbbkelehibaa", sum := "cb73c67d2569eb9400f694c642790e2a43145a9aa67da7b6dd129479a6e1ce06", func := "loop.example/g01333/laws.FnExactLevelHeaps", spec := "fnExactLevelHeaps", apart := false, narrowed := true }
def FnExactLevelHeapsUptoSaid : Prop := fnExactLevelHeapsUptoRow.holds Try.pinned (OpenSpec.upto fnExactLevelHeapsSpec)

/-- 'laws.FnExactMirrorCircle', WHERE WHAT IT READS IS OF BULK AT MOST 1048576: true; the input reads as it did. -/
def fnExactMirrorCircleUptoRow : OpenClaim := { program := "ytfkkbbkelehibaa", sum := "cb73c67d2569eb9400f694c642790e2a43145a9aa67da7b6dd129479a6e1ce06", func := "loop.example/g01333/laws.FnExactMirrorCircle", spec := "fnExactMirrorCircle", unfollowed := true, recurses := true, apart := false, narrowed := true }
def FnExactMirrorCircleUptoSaid : Prop := fnExactMirrorCircleUptoRow.holds Try.pinned (OpenSpec.upto fnExactMirrorCircleSpec)

/-- 'laws.FnExactCandyStep', WHERE WHAT IT READS IS OF BULK AT MOST 1048576: true; the input reads as it did. -/
def fnExactCandyStepUptoRow : OpenClaim := { program := "ytfkkbbkelehibaa", sum := "cb73c67d2569eb9400f694c642790e2a43145a9aa67da7b6dd129479a6e1ce06", func := "loop.example/g01333/laws.FnExactCandyStep", spec := "fnExactCandyStep", unfollowed := true, recurses := true, apart := false, narrowed := true }
def FnExactCandyStepUptoSaid : Prop := fnExactCandyStepUptoRow.holds Try.pinned (OpenSpec.upto fnExactCandyStepSpec)

/-- 'laws.FnExactStonesToMove', WHERE WHAT IT READS IS OF BULK AT MOST 1048576: true; the input reads as it did. -/
def fnExactStonesToMoveUptoRow : OpenClaim := { program := "ytfkkbbkelehibaa", sum := "cb73c67d2569eb9400f694c642790e2a43145a9aa67da7b6dd129479a6e1ce06", func := "loop.example/g01333/laws.FnExactStonesToMove", spec := "fnExactStonesToMove", unfollowed := true, recurses := true, apart := false, narrowed := true }
def FnExactStonesToMoveUptoSaid : Prop := fnExactStonesToMoveUptoRow.holds Try.pinned (OpenSpec.upto fnExactStonesToMoveSpec)

/-- 'laws.FnExactMakeMove', WHERE WHAT IT READS IS OF BULK AT MOST 1048576: true; the input reads as it did. -/
def fnExactMakeMoveUptoRow : OpenClaim := { program := "ytfkkbbkelehibaa", sum := "cb73c67d2569eb9400f694c642790e2a43145a9aa67da7b6dd129479a6e1ce06", func := "loop.example/g01333/laws.FnExactMakeMove", spec := "fnExactMakeMove", unfollowed := true, recurses := true, apart := false, narrowed := true }
def FnExactMakeMoveUptoSaid : Prop := fnExactMakeMoveUptoRow.holds Try.pinned (OpenSpec.upto fnExactMakeMoveSpec)

/-- 'laws.FnExactFewestMoves', WHERE WHAT IT READS IS OF BULK AT MOST 1048576: true; the input reads as it did. -/
def fnExactFewestMovesUptoRow : OpenClaim := { program := "ytfkkbbkelehibaa", sum := "cb73c67d2569eb9400f694c642790e2a43145a9aa67da7b6dd129479a6e1ce06", func := "loop.example/g01333/laws.FnExactFewestMoves", spec := "fnExactFewestMoves", unfollowed := true, recurses := true, apart := false, narrowed := true }
def FnExactFewestMovesUptoSaid : Prop := fnExactFewestMovesUptoRow.holds Try.pinned (OpenSpec.upto fnExactFewestMovesSpec)

/-- 'laws.FnExactLineFlows', WHERE WHAT IT READS IS OF BULK AT MOST 1048576: true; the input reads as it did. -/
def fnExactLineFlowsUptoRow : OpenClaim := { program := "ytfkkbbkelehibaa", sum := "cb73c67d2569eb9400f694c642790e2a43145a9aa67da7b6dd129479a6e1ce06", func := "loop.example/g01333/laws.FnExactLineFlows", spec := "fnExactLineFlows", unfollowed := true, recurses := true, apart := false, narrowed := true }
def FnExactLineFlowsUptoSaid : Prop := fnExactLineFlowsUptoRow.holds Try.pinned (OpenSpec.upto fnExactLineFlowsSpec)

/-- 'laws.FnExactMostCarried', WHERE WHAT IT READS IS OF BULK AT MOST 1048576: true; the input reads as it did. -/
def fnExactMostCarriedUptoRow : OpenClaim := { program := "ytfkkbbkelehibaa", sum := "cb73c67d2569eb9400f694c642790e2a43145a9aa67da7b6dd129479a6e1ce06", func := "loop.example/g01333/laws.FnExactMostCarried", spec := "fnExactMostCarried", unfollowed := true, recurses := true, apart := false, narrowed := true }
def FnExactMostCarriedUptoSaid : Prop := fnExactMostCarriedUptoRow.holds Try.pinned (OpenSpec.upto fnExactMostCarriedSpec)

/-- 'laws.FnExactDoubleHeap', WHERE WHAT IT READS IS OF BULK AT MOST 1048576: true; the input reads as it did. -/
def fnExactDoubleHeapUptoRow : OpenClaim := { program := "ytfkkbbkelehibaa", sum := "cb73c67d2569eb9400f694c642790e2a43145a9aa67da7b6dd129479a6e1ce06", func := "loop.example/g01333/laws.FnExactDoubleHeap", spec := "fnExactDoubleHeap", unfollowed := true, recurses := true, apart := false, narrowed := true }
def FnExactDoubleHeapUptoSaid : Prop := fnExactDoubleHeapUptoRow.holds Try.pinned (OpenSpec.upto fnExactDoubleHeapSpec)

/-- 'laws.FnExactLineDistance', WHERE WHAT IT READS IS OF BULK AT MOST 1048576: true; the input reads as it did. -/
def fnExactLineDistanceUptoRow : OpenClaim := { program := "ytfkkbbkelehibaa", sum := "cb73c67d2569eb9400f694c642790e2a43145a9aa67da7b6dd129479a6e1ce06", func := "loop.example/g01333/laws.FnExactLineDistance", spec := "fnExactLineDistance", unfollowed := true, recurses := true, apart := false, narrowed := true }
def FnExactLineDistanceUptoSaid : Prop := fnExactLineDistanceUptoRow.holds Try.pinned (OpenSpec.upto fnExactLineDistanceSpec)

end Rows
end Go.Proofs.Ytfkkbbkelehibaa
