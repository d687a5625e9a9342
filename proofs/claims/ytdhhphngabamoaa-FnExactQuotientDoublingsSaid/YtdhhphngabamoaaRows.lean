/-
  No cell of these rows narrows 'for every input' (looked for: loops, veiled, ifaces, maps, wideKeys, modest, calm, conditions, laid).
  DERIVED. THE GIVEN ROWS OF THIS SEAT. 12 by the template 'for every input the law returns true; each argument reads behind the call as it read before'; 0 by the template 'total and deterministic' (their statements: YtdhhphngabamoaaTotals.lean).
  GIVEN WITH THE SEED: the statements are not yours to turn. If you find one false, say at which input.
  Laid BY PROGRAM, IN A SANDBOX (cutbox-rows.mjs): the forced cells as the released guide's own fill.sh prints them over the translation cc88db51f30749e8… (all of the seat's roots in one cut). By AI agents, Wed Nov 11 2026. No macro, syntax, notation, axiom, sorry.
-/
import Derived.Test.YtdhhphngabamoaaChecked
import GoSem.Claim
import GoSem.ClaimJoined
import GoSem.ClaimMapViews
import Derived.JoinedTies
import Derived.KernelRfl
namespace Go.Proofs.Ytdhhphngabamoaa
/- THE CELL 'sum', in the pinned program and in every row, IS THE sha256 OF THE DUMP (.gsa) THAT YtdhhphngabamoaaProg.lean LOADS. Nothing in Lean hashes anything: it is a label: what it is worth is what the hold of that sum in a sandbox is worth. -/
noncomputable def Try.pinned : Pinned := { name := "ytdhhphngabamoaa", sum := "cc88db51f30749e892fe1a1e10d89048998b70e203ee887fc94df53f12084567", checked := Try.checked }
namespace Rows
def none {H : Type} : Left H := { results := [], args := [] }

/-- 'laws.FnExactPairLead': WHATEVER THE INPUT: true; the input reads as it did. -/
def fnExactPairLeadSpec : ChangeSpec := { name := "fnExactPairLead", fn := fun _ => fun
  | [d1, d2] => { results := [.lit (.bool true)], args := [d1, d2] }
  | _ => none }
def fnExactPairLeadRow : OpenClaim := { program := "ytdhhphngabamoaa", sum := "cc88db51f30749e892fe1a1e10d89048998b70e203ee887fc94df53f12084567", func := "loop.example/g01333/laws.FnExactPairLead", spec := "fnExactPairLead", apart := false }
def FnExactPairLeadSaid : Prop := fnExactPairLeadRow.holds Try.pinned (OpenSpec.ofChange fnExactPairLeadSpec)

/-- ITS FALSE NEIGHBOUR: 'it returns false'. Refute it at one input. -/
def fnExactPairLeadWrong : ChangeSpec := { name := "fnExactPairLead", fn := fun _ => fun
  | [d1, d2] => { results := [.lit (.bool false)], args := [d1, d2] }
  | _ => none }
def FnExactPairLeadWrongFalsely : Prop := fnExactPairLeadRow.holds Try.pinned (OpenSpec.ofChange fnExactPairLeadWrong)

/-- 'laws.FnExactPairPeriod': WHATEVER THE INPUT: true; the input reads as it did. -/
def fnExactPairPeriodSpec : ChangeSpec := { name := "fnExactPairPeriod", fn := fun _ => fun
  | [d1, d2] => { results := [.lit (.bool true)], args := [d1, d2] }
  | _ => none }
def fnExactPairPeriodRow : OpenClaim := { program := "ytdhhphngabamoaa", sum := "cc88db51f30749e892fe1a1e10d89048998b70e203ee887fc94df53f12084567", func := "loop.example/g01333/laws.FnExactPairPeriod", spec := "fnExactPairPeriod", apart := false }
def FnExactPairPeriodSaid : Prop := fnExactPairPeriodRow.holds Try.pinned (OpenSpec.ofChange fnExactPairPeriodSpec)

/-- ITS FALSE NEIGHBOUR: 'it returns false'. Refute it at one input. -/
def fnExactPairPeriodWrong : ChangeSpec := { name := "fnExactPairPeriod", fn := fun _ => fun
  | [d1, d2] => { results := [.lit (.bool false)], args := [d1, d2] }
  | _ => none }
def FnExactPairPeriodWrongFalsely : Prop := fnExactPairPeriodRow.holds Try.pinned (OpenSpec.ofChange fnExactPairPeriodWrong)

/-- 'laws.FnExactDoesPairEmpty': WHATEVER THE INPUT: true; the input reads as it did. -/
def fnExactDoesPairEmptySpec : ChangeSpec := { name := "fnExactDoesPairEmpty", fn := fun _ => fun
  | [d1, d2] => { results := [.lit (.bool true)], args := [d1, d2] }
  | _ => none }
def fnExactDoesPairEmptyRow : OpenClaim := { program := "ytdhhphngabamoaa", sum := "cc88db51f30749e892fe1a1e10d89048998b70e203ee887fc94df53f12084567", func := "loop.example/g01333/laws.FnExactDoesPairEmpty", spec := "fnExactDoesPairEmpty", apart := false }
def FnExactDoesPairEmptySaid : Prop := fnExactDoesPairEmptyRow.holds Try.pinned (OpenSpec.ofChange fnExactDoesPairEmptySpec)

/-- ITS FALSE NEIGHBOUR: 'it returns false'. Refute it at one input. -/
def fnExactDoesPairEmptyWrong : ChangeSpec := { name := "fnExactDoesPairEmpty", fn := fun _ => fun
  | [d1, d2] => { results := [.lit (.bool false)], args := [d1, d2] }
  | _ => none }
def FnExactDoesPairEmptyWrongFalsely : Prop := fnExactDoesPairEmptyRow.holds Try.pinned (OpenSpec.ofChange fnExactDoesPairEmptyWrong)

/-- 'laws.FnExactPairStepsToEmpty': WHATEVER THE INPUT: true; the input reads as it did. -/
def fnExactPairStepsToEmptySpec : ChangeSpec := { name := "fnExactPairStepsToEmpty", fn := fun _ => fun
  | [d1, d2] => { results := [.lit (.bool true)], args := [d1, d2] }
  | _ => none }
def fnExactPairStepsToEmptyRow : OpenClaim := { program := "ytdhhphngabamoaa", sum := "cc88db51f30749e892fe1a1e10d89048998b70e203ee887fc94df53f12084567", func := "loop.example/g01333/laws.FnExactPairStepsToEmpty", spec := "fnExactPairStepsToEmpty", apart := false }
def FnExactPairStepsToEmptySaid : Prop := fnExactPairStepsToEmptyRow.holds Try.pinned (OpenSpec.ofChange fnExactPairStepsToEmptySpec)

/-- ITS FALSE NEIGHBOUR: 'it returns false'. Refute it at one input. -/
def fnExactPairStepsToEmptyWrong : ChangeSpec := { name := "fnExactPairStepsToEmpty", fn := fun _ => fun
  | [d1, d2] => { results := [.lit (.bool false)], args := [d1, d2] }
  | _ => none }
def FnExactPairStepsToEmptyWrongFalsely : Prop := fnExactPairStepsToEmptyRow.holds Try.pinned (OpenSpec.ofChange fnExactPairStepsToEmptyWrong)

/-- 'laws.FnExactDoublingsOf': WHATEVER THE INPUT: true; the input reads as it did. -/
def fnExactDoublingsOfSpec : ChangeSpec := { name := "fnExactDoublingsOf", fn := fun _ => fun
  | [d] => { results := [.lit (.bool true)], args := [d] }
  | _ => none }
def fnExactDoublingsOfRow : OpenClaim := { program := "ytdhhphngabamoaa", sum := "cc88db51f30749e892fe1a1e10d89048998b70e203ee887fc94df53f12084567", func := "loop.example/g01333/laws.FnExactDoublingsOf", spec := "fnExactDoublingsOf", unfollowed := true, recurses := true, apart := false }
def FnExactDoublingsOfSaid : Prop := fnExactDoublingsOfRow.holds Try.pinned (OpenSpec.ofChange fnExactDoublingsOfSpec)

/-- ITS FALSE NEIGHBOUR: 'it returns false'. Refute it at one input. -/
def fnExactDoublingsOfWrong : ChangeSpec := { name := "fnExactDoublingsOf", fn := fun _ => fun
  | [d] => { results := [.lit (.bool false)], args := [d] }
  | _ => none }
def FnExactDoublingsOfWrongFalsely : Prop := fnExactDoublingsOfRow.holds Try.pinned (OpenSpec.ofChange fnExactDoublingsOfWrong)

/-- 'laws.FnExactPlayMoves': WHATEVER THE INPUT: true; the input reads as it did. -/
def fnExactPlayMovesSpec : ChangeSpec := { name := "fnExactPlayMoves", fn := fun _ => fun
  | [d1, d2] => { results := [.lit (.bool true)], args := [d1, d2] }
  | _ => none }
def fnExactPlayMovesRow : OpenClaim := { program := "ytdhhphngabamoaa", sum := "cc88db51f30749e892fe1a1e10d89048998b70e203ee887fc94df53f12084567", func := "loop.example/g01333/laws.FnExactPlayMoves", spec := "fnExactPlayMoves", unfollowed := true, recurses := true, apart := false }
def FnExactPlayMovesSaid : Prop := fnExactPlayMovesRow.holds Try.pinned (OpenSpec.ofChange fnExactPlayMovesSpec)

/-- ITS FALSE NEIGHBOUR: 'it returns false'. Refute it at one input. -/
def fnExactPlayMovesWrong : ChangeSpec := { name := "fnExactPlayMoves", fn := fun _ => fun
  | [d1, d2] => { results := [.lit (.bool false)], args := [d1, d2] }
  | _ => none }
def FnExactPlayMovesWrongFalsely : Prop := fnExactPlayMovesRow.holds Try.pinned (OpenSpec.ofChange fnExactPlayMovesWrong)

/-- 'laws.FnEverySharing': WHATEVER THE INPUT: true; the input reads as it did. -/
def fnEverySharingSpec : ChangeSpec := { name := "fnEverySharing", fn := fun _ => fun
  | [d] => { results := [.lit (.bool true)], args := [d] }
  | _ => none }
def fnEverySharingRow : OpenClaim := { program := "ytdhhphngabamoaa", sum := "cc88db51f30749e892fe1a1e10d89048998b70e203ee887fc94df53f12084567", func := "loop.example/g01333/laws.FnEverySharing", spec := "fnEverySharing", unfollowed := true, recurses := true, apart := false }
def FnEverySharingSaid : Prop := fnEverySharingRow.holds Try.pinned (OpenSpec.ofChange fnEverySharingSpec)

/-- ITS FALSE NEIGHBOUR: 'it returns false'. Refute it at one input. -/
def fnEverySharingWrong : ChangeSpec := { name := "fnEverySharing", fn := fun _ => fun
  | [d] => { results := [.lit (.bool false)], args := [d] }
  | _ => none }
def FnEverySharingWrongFalsely : Prop := fnEverySharingRow.holds Try.pinned (OpenSpec.ofChange fnEverySharingWrong)

/-- 'laws.FnExactSharingMoves': WHATEVER THE INPUT: true; the input reads as it did. -/
def fnExactSharingMovesSpec : ChangeSpec := { name := "fnExactSharingMoves", fn := fun _ => fun
  | [d] => { results := [.lit (.bool true)], args := [d] }
  | _ => none }
def fnExactSharingMovesRow : OpenClaim := { program := "ytdhhphngabamoaa", sum := "cc88db51f30749e892fe1a1e10d89048998b70e203ee887fc94df53f12084567", func := "loop.example/g01333/laws.FnExactSharingMoves", spec := "fnExactSharingMoves", unfollowed := true, recurses := true, apart := false }
def FnExactSharingMovesSaid : Prop := fnExactSharingMovesRow.holds Try.pinned (OpenSpec.ofChange fnExactSharingMovesSpec)

/-- ITS FALSE NEIGHBOUR: 'it returns false'. Refute it at one input. -/
def fnExactSharingMovesWrong : ChangeSpec := { name := "fnExactSharingMoves", fn := fun _ => fun
  | [d] => { results := [.lit (.bool false)], args := [d] }
  | _ => none }
def FnExactSharingMovesWrongFalsely : Prop := fnExactSharingMovesRow.holds Try.pinned (OpenSpec.ofChange fnExactSharingMovesWrong)

/-- 'laws.FnExactPlayDoublings': WHATEVER THE INPUT: true; the input reads as it did. -/
def fnExactPlayDoublingsSpec : ChangeSpec := { name := "fnExactPlayDoublings", fn := fun _ => fun
  | [d1, d2] => { results := [.lit (.bool true)], args := [d1, d2] }
  | _ => none }
def fnExactPlayDoublingsRow : OpenClaim := { program := "ytdhhphngabamoaa", sum := "cc88db51f30749e892fe1a1e10d89048998b70e203ee887fc94df53f12084567", func := "loop.example/g01333/laws.FnExactPlayDoublings", spec := "fnExactPlayDoublings", unfollowed := true, recurses := true, apart := false }
def FnExactPlayDoublingsSaid : Prop := fnExactPlayDoublingsRow.holds Try.pinned (OpenSpec.ofChange fnExactPlayDoublingsSpec)

/-- ITS FALSE NEIGHBOUR: 'it returns false'. Refute it at one input. -/
def fnExactPlayDoublingsWrong : ChangeSpec := { name := "fnExactPlayDoublings", fn := fun _ => fun
  | [d1, d2] => { results := [.lit (.bool false)], args := [d1, d2] }
  | _ => none }
def FnExactPlayDoublingsWrongFalsely : Prop := fnExactPlayDoublingsRow.holds Try.pinned (OpenSpec.ofChange fnExactPlayDoublingsWrong)

/-- 'laws.FnExactQuotientDoublings': WHATEVER THE INPUT: true; the input reads as it did. -/
def fnExactQuotientDoublingsSpec : ChangeSpec := { name := "fnExactQuotientDoublings", fn := fun _ => fun
  | [d] => { results := [.lit (.bool true)], args := [d] }
  | _ => none }
def fnExactQuotientDoublingsRow : OpenClaim := { program := "ytdhhphngabamoaa", sum := "cc88db51f30749e892fe1a1e10d89048998b70e203ee887fc94df53f12084567", func := "loop.example/g01333/laws.FnExactQuotientDoublings", spec := "fnExactQuotientDoublings", unfollowed := true, recurses := true, apart := false }
def FnExactQuotientDoublingsSaid : Prop := fnExactQuotientDoublingsRow.holds Try.pinned (OpenSpec.ofChange fnExactQuotientDoublingsSpec)

/-- ITS FALSE NEIGHBOUR: 'it returns false'. Refute it at one input. -/
def fnExactQuotientDoublingsWrong : ChangeSpec := { name := "fnExactQuotientDoublings", fn := fun _ => fun
  | [d] => { results := [.lit (.bool false)], args := [d] }
  | _ => none }
def FnExactQuotientDoublingsWrongFalsely : Prop := fnExactQuotientDoublingsRow.holds Try.pinned (OpenSpec.ofChange fnExactQuotientDoublingsWrong)

/-- 'laws.FnExactHeapsBefore': WHATEVER THE INPUT: true; the input reads as it did. -/
def fnExactHeapsBeforeSpec : ChangeSpec := { name := "fnExactHeapsBefore", fn := fun _ => fun
  | [d] => { results := [.lit (.bool true)], args := [d] }
  | _ => none }
def fnExactHeapsBeforeRow : OpenClaim := { program := "ytdhhphngabamoaa", sum := "cc88db51f30749e892fe1a1e10d89048998b70e203ee887fc94df53f12084567", func := "loop.example/g01333/laws.FnExactHeapsBefore", spec := "fnExactHeapsBefore", unfollowed := true, recurses := true, apart := false }
def FnExactHeapsBeforeSaid : Prop := fnExactHeapsBeforeRow.holds Try.pinned (OpenSpec.ofChange fnExactHeapsBeforeSpec)

/-- ITS FALSE NEIGHBOUR: 'it returns false'. Refute it at one input. -/
def fnExactHeapsBeforeWrong : ChangeSpec := { name := "fnExactHeapsBefore", fn := fun _ => fun
  | [d] => { results := [.lit (.bool false)], args := [d] }
  | _ => none }
def FnExactHeapsBeforeWrongFalsely : Prop := fnExactHeapsBeforeRow.holds Try.pinned (OpenSpec.ofChange fnExactHeapsBeforeWrong)

/-- 'laws.FnExactRingDistance': WHATEVER THE INPUT: true; the input reads as it did. -/
def fnExactRingDistanceSpec : ChangeSpec := { name := "fnExactRingDistance", fn := fun _ => fun
  | [d] => { results := [.lit (.bool true)], args := [d] }
  | _ => none }
def fnExactRingDistanceRow : OpenClaim := { program := "ytdhhphngabamoaa", sum := "cc88db51f30749e892fe1a1e10d89048998b70e203ee887fc94df53f12084567", func := "loop.example/g01333/laws.FnExactRingDistance", spec := "fnExactRingDistance", unfollowed := true, recurses := true, apart := false }
def FnExactRingDistanceSaid : Prop := fnExactRingDistanceRow.holds Try.pinned (OpenSpec.ofChange fnExactRingDistanceSpec)

/-- ITS FALSE NEIGHBOUR: 'it returns false'. Refute it at one input. -/
def fnExactRingDistanceWrong : ChangeSpec := { name := "fnExactRingDistance", fn := fun _ => fun
  | [d] => { results := [.lit (.bool false)], args := [d] }
  | _ => none }
def FnExactRingDistanceWrongFalsely : Prop := fnExactRingDistanceRow.holds Try.pinned (OpenSpec.ofChange fnExactRingDistanceWrong)

/- THE SECOND FORM. 'bulk': how many values and letters a reading holds, each counted each time it is reached (what is shared counts as often as it is met; a slice's spare places count too). A statement '..UptoSaid' is the law's where the arguments, and the package variables that the reading takes, are together of bulk at most 1048576: NARROWER than '..Said'. Prove '..Said' where nothing that the law and all that it calls make is longer than what came in: it says more and counts as full. Else prove '..UptoSaid'. A law counts once. -/
mutual
def uptoBulk {H : Type} : DataW H → Nat
  | .lit (.string bytes) => bytes.length + 1
  | .lit _ => 1
  | .nil => 1
  | .ptr d => uptoBulk d + 1
  | .slice elems spare => uptoBulkAll elems + uptoBulkAll spare + 1
  | .agg parts => uptoBulkAll parts + 1
  | .iface _ d => uptoBulk d + 1
  | .map entries => uptoBulkEntries entries + 1
  | .held _ => 1
def uptoBulkAll {H : Type} : List (DataW H) → Nat
  | [] => 0
  | d :: r => uptoBulk d + uptoBulkAll r
def uptoBulkEntries {H : Type} : List (Lit × DataW H) → Nat
  | [] => 0
  | x :: r => uptoBulkEntry x + uptoBulkEntries r
def uptoBulkEntry {H : Type} : Lit × DataW H → Nat
  | (.string bytes, d) => bytes.length + uptoBulk d + 1
  | (_, d) => uptoBulk d + 1
 end
def uptoSmall : (H : Type) → List (DataW H) → Bool := fun _ ds => decide (uptoBulkAll ds ≤ 1048576)
def OpenSpec.upto (s : _root_.Go.ChangeSpec) : _root_.Go.OpenSpec := { _root_.Go.OpenSpec.ofChange s with cond := some uptoSmall }

/-- 'laws.FnExactPairLead', WHERE WHAT IT READS IS OF BULK AT MOST 1048576: true; the input reads as it did. -/
def fnExactPairLeadUptoRow : OpenClaim := { program := "ytdhhphngabamoaa", sum := "cc88db51f30749e892fe1a1e10d89048998b70e203ee887fc94df53f12084567", func := "loop.example/g01333/laws.FnExactPairLead", spec := "fnExactPairLead", apart := false, narrowed := true }
def FnExactPairLeadUptoSaid : Prop := fnExactPairLeadUptoRow.holds Try.pinned (OpenSpec.upto fnExactPairLeadSpec)

/-- 'laws.FnExactPairPeriod', WHERE WHAT IT READS IS OF BULK AT MOST 1048576: true; the input reads as it did. -/
def fnExactPairPeriodUptoRow : OpenClaim := { program := "ytdhhphngabamoaa", sum := "cc88db51f30749e892fe1a1e10d89048998b70e203ee887fc94df53f12084567", func := "loop.example/g01333/laws.FnExactPairPeriod", spec := "fnExactPairPeriod", apart := false, narrowed := true }
def FnExactPairPeriodUptoSaid : Prop := fnExactPairPeriodUptoRow.holds Try.pinned (OpenSpec.upto fnExactPairPeriodSpec)

/-- 'laws.FnExactDoesPairEmpty', WHERE WHAT IT READS IS OF BULK AT MOST 1048576: true; the input reads as it did. -/
def fnExactDoesPairEmptyUptoRow : OpenClaim := { program := "ytdhhphngabamoaa", sum := "cc88db51f30749e892fe1a1e10d89048998b70e203ee887fc94df53f12084567", func := "loop.example/g01333/laws.FnExactDoesPairEmpty", spec := "fnExactDoesPairEmpty", apart := false, narrowed := true }
def FnExactDoesPairEmptyUptoSaid : Prop := fnExactDoesPairEmptyUptoRow.holds Try.pinned (OpenSpec.upto fnExactDoesPairEmptySpec)

/-- 'laws.FnExactPairStepsToEmpty', WHERE WHAT IT READS IS OF BULK AT MOST 1048576: true; the input reads as it did. -/
def fnExactPairStepsToEmptyUptoRow : OpenClaim := { program := "ytdhhphngabamoaa", sum := "cc88db51f30749e892fe1a1e10d89048998b70e203ee887fc94df53f12084567", func := "loop.example/g01333/laws.FnExactPairStepsToEmpty", spec := "fnExactPairStepsToEmpty", apart := false, narrowed := true }
def FnExactPairStepsToEmptyUptoSaid : Prop := fnExactPairStepsToEmptyUptoRow.holds Try.pinned (OpenSpec.upto fnExactPairStepsToEmptySpec)

/-- 'laws.FnExactDoublingsOf', WHERE WHAT IT READS IS OF BULK AT MOST 1048576: true; the input reads as it did. -/
def fnExactDoublingsOfUptoRow : OpenClaim := { program := "ytdhhphngabamoaa", sum := "cc88db51f30749e892fe1a1e10d89048998b70e203ee887fc94df53f12084567", func := "loop.example/g01333/laws.FnExactDoublingsOf", spec := "fnExactDoublingsOf", unfollowed := true, recurses := true, apart := false, narrowed := true }
def FnExactDoublingsOfUptoSaid : Prop := fnExactDoublingsOfUptoRow.holds Try.pinned (OpenSpec.upto fnExactDoublingsOfSpec)

/-- 'laws.FnExactPlayMoves', WHERE WHAT IT READS IS OF BULK AT MOST 1048576: true; the input reads as it did. -/
def fnExactPlayMovesUptoRow : OpenClaim := { program := "ytdhhphngabamoaa", sum := "cc88db51f30749e892fe1a1e10d89048998b70e203ee887fc94df53f12084567", func := "loop.example/g01333/laws.FnExactPlayMoves", spec := "fnExactPlayMoves", unfollowed := true, recurses := true, apart := false, narrowed := true }
def FnExactPlayMovesUptoSaid : Prop := fnExactPlayMovesUptoRow.holds Try.pinned (OpenSpec.upto fnExactPlayMovesSpec)

/-- 'laws.FnEverySharing', WHERE WHAT IT READS IS OF BULK AT MOST 1048576: true; the input reads as it did. -/
def fnEverySharingUptoRow : OpenClaim := { program := "ytdhhphngabamoaa", sum := "cc88db51f30749e892fe1a1e10d89048998b70e203ee887fc94df53f12084567", func := "loop.example/g01333/laws.FnEverySharing", spec := "fnEverySharing", unfollowed := true, recurses := true, apart := false, narrowed := true }
def FnEverySharingUptoSaid : Prop := fnEverySharingUptoRow.holds Try.pinned (OpenSpec.upto fnEverySharingSpec)

/-- 'laws.FnExactSharingMoves', WHERE WHAT IT READS IS OF BULK AT MOST 1048576: true; the input reads as it did. -/
def fnExactSharingMovesUptoRow : OpenClaim := { program := "ytdhhphngabamoaa", sum := "cc88db51f30749e892fe1a1e10d89048998b70e203ee887fc94df53f12084567", func := "loop.example/g01333/laws.FnExactSharingMoves", spec := "fnExactSharingMoves", unfollowed := true, recurses := true, apart := false, narrowed := true }
def FnExactSharingMovesUptoSaid : Prop := fnExactSharingMovesUptoRow.holds Try.pinned (OpenSpec.upto fnExactSharingMovesSpec)

/-- 'laws.FnExactPlayDoublings', WHERE WHAT IT READS IS OF BULK AT MOST 1048576: true; the input reads as it did. -/
def fnExactPlayDoublingsUptoRow : OpenClaim := { program := "ytdhhphngabamoaa", sum := "cc88db51f30749e892fe1a1e10d89048998b70e203ee887fc94df53f12084567", func := "loop.example/g01333/laws.FnExactPlayDoublings", spec := "fnExactPlayDoublings", unfollowed := true, recurses := true, apart := false, narrowed := true }
def FnExactPlayDoublingsUptoSaid : Prop := fnExactPlayDoublingsUptoRow.holds Try.pinned (OpenSpec.upto fnExactPlayDoublingsSpec)

/-- 'laws.FnExactQuotientDoublings', WHERE WHAT IT READS IS OF BULK AT MOST 1048576: true; the input reads as it did. -/
def fnExactQuotientDoublingsUptoRow : OpenClaim := { program := "ytdhhphngabamoaa", sum := "cc88db51f30749e892fe1a1e10d89048998b70e203ee887fc94df53f12084567", func := "loop.example/g01333/laws.FnExactQuotientDoublings", spec := "fnExactQuotientDoublings", unfollowed := true, recurses := true, apart := false, narrowed := true }
def FnExactQuotientDoublingsUptoSaid : Prop := fnExactQuotientDoublingsUptoRow.holds Try.pinned (OpenSpec.upto fnExactQuotientDoublingsSpec)

/-- 'laws.FnExactHeapsBefore', WHERE WHAT IT READS IS OF BULK AT MOST 1048576: true; the input reads as it did. -/
def fnExactHeapsBeforeUptoRow : OpenClaim := { program := "ytdhhphngabamoaa", sum := "cc88db51f30749e892fe1a1e10d89048998b70e203ee887fc94df53f12084567", func := "loop.example/g01333/laws.FnExactHeapsBefore", spec := "fnExactHeapsBefore", unfollowed := true, recurses := true, apart := false, narrowed := true }
def FnExactHeapsBeforeUptoSaid : Prop := fnExactHeapsBeforeUptoRow.holds Try.pinned (OpenSpec.upto fnExactHeapsBeforeSpec)

/-- 'laws.FnExactRingDistance', WHERE WHAT IT READS IS OF BULK AT MOST 1048576: true; the input reads as it did. -/
def fnExactRingDistanceUptoRow : OpenClaim := { program := "ytdhhphngabamoaa", sum := "cc88db51f30749e892fe1a1e10d89048998b70e203ee887fc94df53f12084567", func := "loop.example/g01333/laws.FnExactRingDistance", spec := "fnExactRingDistance", unfollowed := true, recurses := true, apart := false, narrowed := true }
def FnExactRingDistanceUptoSaid : Prop := fnExactRingDistanceUptoRow.holds Try.pinned (OpenSpec.upto fnExactRingDistanceSpec)

end Rows
end Go.Proofs.Ytdhhphngabamoaa
