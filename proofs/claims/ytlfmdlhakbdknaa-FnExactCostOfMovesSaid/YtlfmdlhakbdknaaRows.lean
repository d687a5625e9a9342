/-
  No cell of these rows narrows 'for every input' (looked for: loops, veiled, ifaces, maps, wideKeys, modest, calm, conditions, laid).
  DERIVED. THE GIVEN ROWS OF THIS SEAT. 12 by the template 'for every input the law returns true; each argument reads behind the call as it read before'; 0 by the template 'total and deterministic' (their statements: YtlfmdlhakbdknaaTotals.lean).
  GIVEN WITH THE SEED: the statements are not yours to turn. If you find one false, say at which input.
  Laid BY PROGRAM, IN A SANDBOX (cutbox-rows.mjs): the forced cells as the released guide's own fill.sh prints them over the translation b5aa8fd5a8d168c6… (all of the seat's roots in one cut). By AI agents, Wed Nov 11 2026. No macro, syntax, notation, axiom, sorry.
-/
import Derived.Test.YtlfmdlhakbdknaaChecked
import GoSem.Claim
import GoSem.ClaimJoined
import GoSem.ClaimMapViews
import Derived.JoinedTies
import Derived.KernelRfl
namespace Go.Proofs.Ytlfmdlhakbdknaa
/- THE CELL 'sum', in the pinned program and in every row, IS THE sha256 OF THE DUMP (.gsa) THAT YtlfmdlhakbdknaaProg.lean LOADS. Nothing in Lean hashes anything: it is a label: what it is worth is what the hold of that sum in a sandbox is worth. -/
noncomputable def Try.pinned : Pinned := { name := "ytlfmdlhakbdknaa", sum := "b5aa8fd5a8d168c6c9c458fa3e94ecf1c7e7bafa37f49385b9e16c7937323726", checked := Try.checked }
namespace Rows
def none {H : Type} : Left H := { results := [], args := [] }

/-- 'laws.FnExactConstants': WHATEVER THE INPUT: true; the input reads as it did. -/
def fnExactConstantsSpec : ChangeSpec := { name := "fnExactConstants", fn := fun _ => fun
  | [] => { results := [.lit (.bool true)], args := [] }
  | _ => none }
def fnExactConstantsRow : OpenClaim := { program := "ytlfmdlhakbdknaa", sum := "b5aa8fd5a8d168c6c9c458fa3e94ecf1c7e7bafa37f49385b9e16c7937323726", func := "loop.example/g01333/laws.FnExactConstants", spec := "fnExactConstants", apart := false }
def FnExactConstantsSaid : Prop := fnExactConstantsRow.holds Try.pinned (OpenSpec.ofChange fnExactConstantsSpec)

/-- ITS FALSE NEIGHBOUR: 'it returns false'. Refute it at one input. -/
def fnExactConstantsWrong : ChangeSpec := { name := "fnExactConstants", fn := fun _ => fun
  | [] => { results := [.lit (.bool false)], args := [] }
  | _ => none }
def FnExactConstantsWrongFalsely : Prop := fnExactConstantsRow.holds Try.pinned (OpenSpec.ofChange fnExactConstantsWrong)

/-- 'laws.FnExactPairStep': WHATEVER THE INPUT: true; the input reads as it did. -/
def fnExactPairStepSpec : ChangeSpec := { name := "fnExactPairStep", fn := fun _ => fun
  | [d1, d2] => { results := [.lit (.bool true)], args := [d1, d2] }
  | _ => none }
def fnExactPairStepRow : OpenClaim := { program := "ytlfmdlhakbdknaa", sum := "b5aa8fd5a8d168c6c9c458fa3e94ecf1c7e7bafa37f49385b9e16c7937323726", func := "loop.example/g01333/laws.FnExactPairStep", spec := "fnExactPairStep", apart := false }
def FnExactPairStepSaid : Prop := fnExactPairStepRow.holds Try.pinned (OpenSpec.ofChange fnExactPairStepSpec)

/-- ITS FALSE NEIGHBOUR: 'it returns false'. Refute it at one input. -/
def fnExactPairStepWrong : ChangeSpec := { name := "fnExactPairStep", fn := fun _ => fun
  | [d1, d2] => { results := [.lit (.bool false)], args := [d1, d2] }
  | _ => none }
def FnExactPairStepWrongFalsely : Prop := fnExactPairStepRow.holds Try.pinned (OpenSpec.ofChange fnExactPairStepWrong)

/-- 'laws.FnExactPairAfter': WHATEVER THE INPUT: true; the input reads as it did. -/
def fnExactPairAfterSpec : ChangeSpec := { name := "fnExactPairAfter", fn := fun _ => fun
  | [d1, d2, d3] => { results := [.lit (.bool true)], args := [d1, d2, d3] }
  | _ => none }
def fnExactPairAfterRow : OpenClaim := { program := "ytlfmdlhakbdknaa", sum := "b5aa8fd5a8d168c6c9c458fa3e94ecf1c7e7bafa37f49385b9e16c7937323726", func := "loop.example/g01333/laws.FnExactPairAfter", spec := "fnExactPairAfter", apart := false }
def FnExactPairAfterSaid : Prop := fnExactPairAfterRow.holds Try.pinned (OpenSpec.ofChange fnExactPairAfterSpec)

/-- ITS FALSE NEIGHBOUR: 'it returns false'. Refute it at one input. -/
def fnExactPairAfterWrong : ChangeSpec := { name := "fnExactPairAfter", fn := fun _ => fun
  | [d1, d2, d3] => { results := [.lit (.bool false)], args := [d1, d2, d3] }
  | _ => none }
def FnExactPairAfterWrongFalsely : Prop := fnExactPairAfterRow.holds Try.pinned (OpenSpec.ofChange fnExactPairAfterWrong)

/-- 'laws.FnExactAreCandies': WHATEVER THE INPUT: true; the input reads as it did. -/
def fnExactAreCandiesSpec : ChangeSpec := { name := "fnExactAreCandies", fn := fun _ => fun
  | [d] => { results := [.lit (.bool true)], args := [d] }
  | _ => none }
def fnExactAreCandiesRow : OpenClaim := { program := "ytlfmdlhakbdknaa", sum := "b5aa8fd5a8d168c6c9c458fa3e94ecf1c7e7bafa37f49385b9e16c7937323726", func := "loop.example/g01333/laws.FnExactAreCandies", spec := "fnExactAreCandies", unfollowed := true, recurses := true, apart := false }
def FnExactAreCandiesSaid : Prop := fnExactAreCandiesRow.holds Try.pinned (OpenSpec.ofChange fnExactAreCandiesSpec)

/-- ITS FALSE NEIGHBOUR: 'it returns false'. Refute it at one input. -/
def fnExactAreCandiesWrong : ChangeSpec := { name := "fnExactAreCandies", fn := fun _ => fun
  | [d] => { results := [.lit (.bool false)], args := [d] }
  | _ => none }
def FnExactAreCandiesWrongFalsely : Prop := fnExactAreCandiesRow.holds Try.pinned (OpenSpec.ofChange fnExactAreCandiesWrong)

/-- 'laws.FnExactAreHeaps': WHATEVER THE INPUT: true; the input reads as it did. -/
def fnExactAreHeapsSpec : ChangeSpec := { name := "fnExactAreHeaps", fn := fun _ => fun
  | [d] => { results := [.lit (.bool true)], args := [d] }
  | _ => none }
def fnExactAreHeapsRow : OpenClaim := { program := "ytlfmdlhakbdknaa", sum := "b5aa8fd5a8d168c6c9c458fa3e94ecf1c7e7bafa37f49385b9e16c7937323726", func := "loop.example/g01333/laws.FnExactAreHeaps", spec := "fnExactAreHeaps", unfollowed := true, recurses := true, apart := false }
def FnExactAreHeapsSaid : Prop := fnExactAreHeapsRow.holds Try.pinned (OpenSpec.ofChange fnExactAreHeapsSpec)

/-- ITS FALSE NEIGHBOUR: 'it returns false'. Refute it at one input. -/
def fnExactAreHeapsWrong : ChangeSpec := { name := "fnExactAreHeaps", fn := fun _ => fun
  | [d] => { results := [.lit (.bool false)], args := [d] }
  | _ => none }
def FnExactAreHeapsWrongFalsely : Prop := fnExactAreHeapsRow.holds Try.pinned (OpenSpec.ofChange fnExactAreHeapsWrong)

/-- 'laws.FnExactAreFewHeaps': WHATEVER THE INPUT: true; the input reads as it did. -/
def fnExactAreFewHeapsSpec : ChangeSpec := { name := "fnExactAreFewHeaps", fn := fun _ => fun
  | [d] => { results := [.lit (.bool true)], args := [d] }
  | _ => none }
def fnExactAreFewHeapsRow : OpenClaim := { program := "ytlfmdlhakbdknaa", sum := "b5aa8fd5a8d168c6c9c458fa3e94ecf1c7e7bafa37f49385b9e16c7937323726", func := "loop.example/g01333/laws.FnExactAreFewHeaps", spec := "fnExactAreFewHeaps", unfollowed := true, recurses := true, apart := false }
def FnExactAreFewHeapsSaid : Prop := fnExactAreFewHeapsRow.holds Try.pinned (OpenSpec.ofChange fnExactAreFewHeapsSpec)

/-- ITS FALSE NEIGHBOUR: 'it returns false'. Refute it at one input. -/
def fnExactAreFewHeapsWrong : ChangeSpec := { name := "fnExactAreFewHeaps", fn := fun _ => fun
  | [d] => { results := [.lit (.bool false)], args := [d] }
  | _ => none }
def FnExactAreFewHeapsWrongFalsely : Prop := fnExactAreFewHeapsRow.holds Try.pinned (OpenSpec.ofChange fnExactAreFewHeapsWrong)

/-- 'laws.FnExactEqualShare': WHATEVER THE INPUT: true; the input reads as it did. -/
def fnExactEqualShareSpec : ChangeSpec := { name := "fnExactEqualShare", fn := fun _ => fun
  | [d] => { results := [.lit (.bool true)], args := [d] }
  | _ => none }
def fnExactEqualShareRow : OpenClaim := { program := "ytlfmdlhakbdknaa", sum := "b5aa8fd5a8d168c6c9c458fa3e94ecf1c7e7bafa37f49385b9e16c7937323726", func := "loop.example/g01333/laws.FnExactEqualShare", spec := "fnExactEqualShare", unfollowed := true, recurses := true, apart := false }
def FnExactEqualShareSaid : Prop := fnExactEqualShareRow.holds Try.pinned (OpenSpec.ofChange fnExactEqualShareSpec)

/-- ITS FALSE NEIGHBOUR: 'it returns false'. Refute it at one input. -/
def fnExactEqualShareWrong : ChangeSpec := { name := "fnExactEqualShare", fn := fun _ => fun
  | [d] => { results := [.lit (.bool false)], args := [d] }
  | _ => none }
def FnExactEqualShareWrongFalsely : Prop := fnExactEqualShareRow.holds Try.pinned (OpenSpec.ofChange fnExactEqualShareWrong)

/-- 'laws.FnExactStonesOf': WHATEVER THE INPUT: true; the input reads as it did. -/
def fnExactStonesOfSpec : ChangeSpec := { name := "fnExactStonesOf", fn := fun _ => fun
  | [d] => { results := [.lit (.bool true)], args := [d] }
  | _ => none }
def fnExactStonesOfRow : OpenClaim := { program := "ytlfmdlhakbdknaa", sum := "b5aa8fd5a8d168c6c9c458fa3e94ecf1c7e7bafa37f49385b9e16c7937323726", func := "loop.example/g01333/laws.FnExactStonesOf", spec := "fnExactStonesOf", unfollowed := true, recurses := true, apart := false }
def FnExactStonesOfSaid : Prop := fnExactStonesOfRow.holds Try.pinned (OpenSpec.ofChange fnExactStonesOfSpec)

/-- ITS FALSE NEIGHBOUR: 'it returns false'. Refute it at one input. -/
def fnExactStonesOfWrong : ChangeSpec := { name := "fnExactStonesOf", fn := fun _ => fun
  | [d] => { results := [.lit (.bool false)], args := [d] }
  | _ => none }
def FnExactStonesOfWrongFalsely : Prop := fnExactStonesOfRow.holds Try.pinned (OpenSpec.ofChange fnExactStonesOfWrong)

/-- 'laws.FnExactCanBeEqual': WHATEVER THE INPUT: true; the input reads as it did. -/
def fnExactCanBeEqualSpec : ChangeSpec := { name := "fnExactCanBeEqual", fn := fun _ => fun
  | [d] => { results := [.lit (.bool true)], args := [d] }
  | _ => none }
def fnExactCanBeEqualRow : OpenClaim := { program := "ytlfmdlhakbdknaa", sum := "b5aa8fd5a8d168c6c9c458fa3e94ecf1c7e7bafa37f49385b9e16c7937323726", func := "loop.example/g01333/laws.FnExactCanBeEqual", spec := "fnExactCanBeEqual", unfollowed := true, recurses := true, apart := false }
def FnExactCanBeEqualSaid : Prop := fnExactCanBeEqualRow.holds Try.pinned (OpenSpec.ofChange fnExactCanBeEqualSpec)

/-- ITS FALSE NEIGHBOUR: 'it returns false'. Refute it at one input. -/
def fnExactCanBeEqualWrong : ChangeSpec := { name := "fnExactCanBeEqual", fn := fun _ => fun
  | [d] => { results := [.lit (.bool false)], args := [d] }
  | _ => none }
def FnExactCanBeEqualWrongFalsely : Prop := fnExactCanBeEqualRow.holds Try.pinned (OpenSpec.ofChange fnExactCanBeEqualWrong)

/-- 'laws.FnExactCostOfMoves': WHATEVER THE INPUT: true; the input reads as it did. -/
def fnExactCostOfMovesSpec : ChangeSpec := { name := "fnExactCostOfMoves", fn := fun _ => fun
  | [d] => { results := [.lit (.bool true)], args := [d] }
  | _ => none }
def fnExactCostOfMovesRow : OpenClaim := { program := "ytlfmdlhakbdknaa", sum := "b5aa8fd5a8d168c6c9c458fa3e94ecf1c7e7bafa37f49385b9e16c7937323726", func := "loop.example/g01333/laws.FnExactCostOfMoves", spec := "fnExactCostOfMoves", apart := false }
def FnExactCostOfMovesSaid : Prop := fnExactCostOfMovesRow.holds Try.pinned (OpenSpec.ofChange fnExactCostOfMovesSpec)

/-- ITS FALSE NEIGHBOUR: 'it returns false'. Refute it at one input. -/
def fnExactCostOfMovesWrong : ChangeSpec := { name := "fnExactCostOfMoves", fn := fun _ => fun
  | [d] => { results := [.lit (.bool false)], args := [d] }
  | _ => none }
def FnExactCostOfMovesWrongFalsely : Prop := fnExactCostOfMovesRow.holds Try.pinned (OpenSpec.ofChange fnExactCostOfMovesWrong)

/-- 'laws.FnExactTurnCircle': WHATEVER THE INPUT: true; the input reads as it did. -/
def fnExactTurnCircleSpec : ChangeSpec := { name := "fnExactTurnCircle", fn := fun _ => fun
  | [d1, d2] => { results := [.lit (.bool true)], args := [d1, d2] }
  | _ => none }
def fnExactTurnCircleRow : OpenClaim := { program := "ytlfmdlhakbdknaa", sum := "b5aa8fd5a8d168c6c9c458fa3e94ecf1c7e7bafa37f49385b9e16c7937323726", func := "loop.example/g01333/laws.FnExactTurnCircle", spec := "fnExactTurnCircle", unfollowed := true, recurses := true, apart := false }
def FnExactTurnCircleSaid : Prop := fnExactTurnCircleRow.holds Try.pinned (OpenSpec.ofChange fnExactTurnCircleSpec)

/-- ITS FALSE NEIGHBOUR: 'it returns false'. Refute it at one input. -/
def fnExactTurnCircleWrong : ChangeSpec := { name := "fnExactTurnCircle", fn := fun _ => fun
  | [d1, d2] => { results := [.lit (.bool false)], args := [d1, d2] }
  | _ => none }
def FnExactTurnCircleWrongFalsely : Prop := fnExactTurnCircleRow.holds Try.pinned (OpenSpec.ofChange fnExactTurnCircleWrong)

/-- 'laws.FnExactMadeEven': WHATEVER THE INPUT: true; the input reads as it did. -/
def fnExactMadeEvenSpec : ChangeSpec := { name := "fnExactMadeEven", fn := fun _ => fun
  | [d] => { results := [.lit (.bool true)], args := [d] }
  | _ => none }
def fnExactMadeEvenRow : OpenClaim := { program := "ytlfmdlhakbdknaa", sum := "b5aa8fd5a8d168c6c9c458fa3e94ecf1c7e7bafa37f49385b9e16c7937323726", func := "loop.example/g01333/laws.FnExactMadeEven", spec := "fnExactMadeEven", unfollowed := true, recurses := true, apart := false }
def FnExactMadeEvenSaid : Prop := fnExactMadeEvenRow.holds Try.pinned (OpenSpec.ofChange fnExactMadeEvenSpec)

/-- ITS FALSE NEIGHBOUR: 'it returns false'. Refute it at one input. -/
def fnExactMadeEvenWrong : ChangeSpec := { name := "fnExactMadeEven", fn := fun _ => fun
  | [d] => { results := [.lit (.bool false)], args := [d] }
  | _ => none }
def FnExactMadeEvenWrongFalsely : Prop := fnExactMadeEvenRow.holds Try.pinned (OpenSpec.ofChange fnExactMadeEvenWrong)

/- THE SECOND FORM. 'bulk': how many values and letters a reading holds, each counted each time it is reached (what is shared counts as often as it is met; a slice's spare places count too). A statement '..UptoSaid' is the law's where the arguments, and the package variables that the reading takes, are together of bulk at most 1048576: NARROWER than '..Said'. Prove '..Said' where nothing that the law and all that it calls make is longer than what came in: it says more and counts as full. Else prove '..UptoSaid'. A law counts once. -/
mutual
def uptoBulk {H : Type} : DataW H → Nat
  | .lit (.string bytes) => bytes.length + 1
  | .lit _ => 1
  | .nil => 1
  | .ptr d => uptoBulk d + 1
  | .slice elems spare => uptoBulkAll elems + uptoBulkAll spare + 1
  | .agg parts => uptoBulkAll parts + 1
  | .iface _ d => uptoBulk d + 1
  | .map entries => uptoBulkEntries entries + 1
  | .held _ => 1
def uptoBulkAll {H : Type} : List (DataW H) → Nat
  | [] => 0
  | d :: r => uptoBulk d + uptoBulkAll r
def uptoBulkEntries {H : Type} : List (Lit × DataW H) → Nat
  | [] => 0
  | x :: r => uptoBulkEntry x + uptoBulkEntries r
def uptoBulkEntry {H : Type} : Lit × DataW H → Nat
  | (.string bytes, d) => bytes.length + uptoBulk d + 1
  | (_, d) => uptoBulk d + 1
 end
def uptoSmall : (H : Type) → List (DataW H) → Bool := fun _ ds => decide (uptoBulkAll ds ≤ 1048576)
def OpenSpec.upto (s : _root_.Go.ChangeSpec) : _root_.Go.OpenSpec := { _root_.Go.OpenSpec.ofChange s with cond := some uptoSmall }

/-- 'laws.FnExactConstants', WHERE WHAT IT READS IS OF BULK AT MOST 1048576: true; the input reads as it did. -/
def fnExactConstantsUptoRow : OpenClaim := { program := "ytlfmdlhakbdknaa", sum := "b5aa8fd5a8d168c6c9c458fa3e94ecf1c7e7bafa37f49385b9e16c7937323726", func := "loop.example/g01333/laws.FnExactConstants", spec := "fnExactConstants", apart := false, narrowed := true }
def FnExactConstantsUptoSaid : Prop := fnExactConstantsUptoRow.holds Try.pinned (OpenSpec.upto fnExactConstantsSpec)

/-- 'laws.FnExactPairStep', WHERE WHAT IT READS IS OF BULK AT MOST 1048576: true; the input reads as it did. -/
def fnExactPairStepUptoRow : OpenClaim := { program := "ytlfmdlhakbdknaa", sum := "b5aa8fd5a8d168c6c9c458fa3e94ecf1c7e7bafa37f49385b9e16c7937323726", func := "loop.example/g01333/laws.FnExactPairStep", spec := "fnExactPairStep", apart := false, narrowed := true }
def FnExactPairStepUptoSaid : Prop := fnExactPairStepUptoRow.holds Try.pinned (OpenSpec.upto fnExactPairStepSpec)

/-- 'laws.FnExactPairAfter', WHERE WHAT IT READS IS OF BULK AT MOST 1048576: true; the input reads as it did. -/
def fnExactPairAfterUptoRow : OpenClaim := { program := "ytlfmdlhakbdknaa", sum := "b5aa8fd5a8d168c6c9c458fa3e94ecf1c7e7bafa37f49385b9e16c7937323726", func := "loop.example/g01333/laws.FnExactPairAfter", spec := "fnExactPairAfter", apart := false, narrowed := true }
def FnExactPairAfterUptoSaid : Prop := fnExactPairAfterUptoRow.holds Try.pinned (OpenSpec.upto fnExactPairAfterSpec)

/-- 'laws.FnExactAreCandies', WHERE WHAT IT READS IS OF BULK AT MOST 1048576: true; the input reads as it did. -/
def fnExactAreCandiesUptoRow : OpenClaim := { program := "ytlfmdlhakbdknaa", sum := "b5aa8fd5a8d168c6c9c458fa3e94ecf1c7e7bafa37f49385b9e16c7937323726", func := "loop.example/g01333/laws.FnExactAreCandies", spec := "fnExactAreCandies", unfollowed := true, recurses := true, apart := false, narrowed := true }
def FnExactAreCandiesUptoSaid : Prop := fnExactAreCandiesUptoRow.holds Try.pinned (OpenSpec.upto fnExactAreCandiesSpec)

/-- 'laws.FnExactAreHeaps', WHERE WHAT IT READS IS OF BULK AT MOST 1048576: true; the input reads as it did. -/
def fnExactAreHeapsUptoRow : OpenClaim := { program := "ytlfmdlhakbdknaa", sum := "b5aa8fd5a8d168c6c9c458fa3e94ecf1c7e7bafa37f49385b9e16c7937323726", func := "loop.example/g01333/laws.FnExactAreHeaps", spec := "fnExactAreHeaps", unfollowed := true, recurses := true, apart := false, narrowed := true }
def FnExactAreHeapsUptoSaid : Prop := fnExactAreHeapsUptoRow.holds Try.pinned (OpenSpec.upto fnExactAreHeapsSpec)

/-- 'laws.FnExactAreFewHeaps', WHERE WHAT IT READS IS OF BULK AT MOST 1048576: true; the input reads as it did. -/
def fnExactAreFewHeapsUptoRow : OpenClaim := { program := "ytlfmdlhakbdknaa", sum := "b5aa8fd5a8d168c6c9c458fa3e94ecf1c7e7bafa37f49385b9e16c7937323726", func := "loop.example/g01333/laws.FnExactAreFewHeaps", spec := "fnExactAreFewHeaps", unfollowed := true, recurses := true, apart := false, narrowed := true }
def FnExactAreFewHeapsUptoSaid : Prop := fnExactAreFewHeapsUptoRow.holds Try.pinned (OpenSpec.upto fnExactAreFewHeapsSpec)

/-- 'laws.FnExactEqualShare', WHERE WHAT IT READS IS OF BULK AT MOST 1048576: true; the input reads as it did. -/
def fnExactEqualShareUptoRow : OpenClaim := { program := "ytlfmdlhakbdknaa", sum := "b5aa8fd5a8d168c6c9c458fa3e94ecf1c7e7bafa37f49385b9e16c7937323726", func := "loop.example/g01333/laws.FnExactEqualShare", spec := "fnExactEqualShare", unfollowed := true, recurses := true, apart := false, narrowed := true }
def FnExactEqualShareUptoSaid : Prop := fnExactEqualShareUptoRow.holds Try.pinned (OpenSpec.upto fnExactEqualShareSpec)

/-- 'laws.FnExactStonesOf', WHERE WHAT IT READS IS OF BULK AT MOST 1048576: true; the input reads as it did. -/
def fnExactStonesOfUptoRow : OpenClaim := { program := "ytlfmdlhakbdknaa", sum := "b5aa8fd5a8d168c6c9c458fa3e94ecf1c7e7bafa37f49385b9e16c7937323726", func := "loop.example/g01333/laws.FnExactStonesOf", spec := "fnExactStonesOf", unfollowed := true, recurses := true, apart := false, narrowed := true }
def FnExactStonesOfUptoSaid : Prop := fnExactStonesOfUptoRow.holds Try.pinned (OpenSpec.upto fnExactStonesOfSpec)

/-- 'laws.FnExactCanBeEqual', WHERE WHAT IT READS IS OF BULK AT MOST 1048576: true; the input reads as it did. -/
def fnExactCanBeEqualUptoRow : OpenClaim := { program := "ytlfmdlhakbdknaa", sum := "b5aa8fd5a8d168c6c9c458fa3e94ecf1c7e7bafa37f49385b9e16c7937323726", func := "loop.example/g01333/laws.FnExactCanBeEqual", spec := "fnExactCanBeEqual", unfollowed := true, recurses := true, apart := false, narrowed := true }
def FnExactCanBeEqualUptoSaid : Prop := fnExactCanBeEqualUptoRow.holds Try.pinned (OpenSpec.upto fnExactCanBeEqualSpec)

/-- 'laws.FnExactCostOfMoves', WHERE WHAT IT READS IS OF BULK AT MOST 1048576: true; the input reads as it did. -/
def fnExactCostOfMovesUptoRow : OpenClaim := { program := "ytlfmdlhakbdknaa", sum := "b5aa8fd5a8d168c6c9c458fa3e94ecf1c7e7bafa37f49385b9e16c7937323726", func := "loop.example/g01333/laws.FnExactCostOfMoves", spec := "fnExactCostOfMoves", apart := false, narrowed := true }
def FnExactCostOfMovesUptoSaid : Prop := fnExactCostOfMovesUptoRow.holds Try.pinned (OpenSpec.upto fnExactCostOfMovesSpec)

/-- 'laws.FnExactTurnCircle', WHERE WHAT IT READS IS OF BULK AT MOST 1048576: true; the input reads as it did. -/
def fnExactTurnCircleUptoRow : OpenClaim := { program := "ytlfmdlhakbdknaa", sum := "b5aa8fd5a8d168c6c9c458fa3e94ecf1c7e7bafa37f49385b9e16c7937323726", func := "loop.example/g01333/laws.FnExactTurnCircle", spec := "fnExactTurnCircle", unfollowed := true, recurses := true, apart := false, narrowed := true }
def FnExactTurnCircleUptoSaid : Prop := fnExactTurnCircleUptoRow.holds Try.pinned (OpenSpec.upto fnExactTurnCircleSpec)

/-- 'laws.FnExactMadeEven', WHERE WHAT IT READS IS OF BULK AT MOST 1048576: true; the input reads as it did. -/
def fnExactMadeEvenUptoRow : OpenClaim := { program := "ytlfmdlhakbdknaa", sum := "b5aa8fd5a8d168c6c9c458fa3e94ecf1c7e7bafa37f49385b9e16c7937323726", func := "loop.example/g01333/laws.FnExactMadeEven", spec := "fnExactMadeEven", unfollowed := true, recurses := true, apart := false, narrowed := true }
def FnExactMadeEvenUptoSaid : Prop := fnExactMadeEvenUptoRow.holds Try.pinned (OpenSpec.upto fnExactMadeEvenSpec)

end Rows
end Go.Proofs.Ytlfmdlhakbdknaa
