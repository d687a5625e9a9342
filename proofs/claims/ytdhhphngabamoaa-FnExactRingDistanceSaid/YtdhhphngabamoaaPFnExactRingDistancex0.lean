-- Written by hprint.py (a program of this session's) over the kit's print.py. Lean checks it.
import Derived.Test.YtdhhphngabamoaaProg
import Derived.Below
import Derived.Deep.Draws
import Derived.Deep.AppendLies
import Derived.Maps.AppendAt
import Derived.OwnWalk
import Derived.Laws.BytesArg
import Derived.Laws.MakeOwn
import Derived.Laws.OwnMore
import Derived.Deep.OwnRows
import Derived.Tactics
import Derived.Lib.ConvBytes
import Derived.Laws.Slices
import Derived.WalkKit
import Derived.KernelRfl
import Derived.RowKit3
import Derived.Deep.LoopGhost
import Derived.Deep.QuietTactic
import Derived.BigQuiet
import Derived.WideLaws
import Derived.Deep.DeepCutAuto
import Derived.Deep.CutBlock
import Derived.Deep.RegionHeld3
import Derived.Laws.Rows
import Derived.Lib.AppendStr
import Derived.ArgAppend
import Derived.Laws.IdiomCopy
import Derived.OrdersHeld
import Derived.Laws.BitsLemmas
import Derived.RowKit
import Derived.RangeFuncBox
import Derived.RangeFuncLeaves
import Derived.RangeFuncWrites
import Derived.Shelf.Abstract
import Derived.OwnWalkIn
import Derived.TacticsInMore
import Derived.LoopNIn
import Derived.LoopIn
import Derived.Maps.AppendAt
import Derived.Lib.SliceRun
import Derived.Shelf.Abstract
import Derived.Laws.CopyOwn
import Derived.Deep.RegionLaw
import Derived.Maps.OwnSet
import Derived.Maps.OwnOps
import Derived.Maps.Views
import Derived.Test.YtdhhphngabamoaaWWords
import Derived.Test.YtdhhphngabamoaaWLast
import Derived.Test.YtdhhphngabamoaaWTab
import Derived.Test.YtdhhphngabamoaaWFour
import Derived.Test.YtdhhphngabamoaaWQPut
import Derived.Test.YtdhhphngabamoaaWApart
import Derived.Test.YtdhhphngabamoaaWArr
import Derived.Test.YtdhhphngabamoaaWZeros
import Derived.Test.YtdhhphngabamoaaWFoot
import Derived.Test.YtdhhphngabamoaaWKept
import Derived.Test.YtdhhphngabamoaaWShare
import Derived.Test.YtdhhphngabamoaaWN
import Derived.Test.YtdhhphngabamoaaWFootNe
import Derived.Test.YtdhhphngabamoaaWAt
import Derived.Test.YtdhhphngabamoaaWEqStruct
import Derived.Test.YtdhhphngabamoaaWRepsOne
import Derived.Test.YtdhhphngabamoaaWInv
import Derived.Test.YtdhhphngabamoaaWInvWords
import Derived.Test.YtdhhphngabamoaaWGuard
import Derived.Test.YtdhhphngabamoaaWNEv
import Derived.Test.YtdhhphngabamoaaWMore
namespace Go.Proofs.Ytdhhphngabamoaa.PFnExactRingDistance
open Go.RowKit Go.Proofs.YtdhhphngabamoaaW.PrintWords Go.Proofs.YtdhhphngabamoaaW.PrintLast Go.Proofs.YtdhhphngabamoaaW.PrintMore
attribute [local go_sem] max2_int min2_int max_two min_two max_three min_three max_four min_four   -- for this text's walks alone
set_option linter.unusedVariables false
set_option linter.unusedSimpArgs false



def errW : Option Int → Value
  | none => .nilIface
  | some c => .iface 0 (.int .i64 c)
theorem errW_none : errW none = .nilIface := rfl
theorem errW_some (c : Int) : errW (some c) = .iface 0 (.int .i64 c) := rfl

theorem info3 : (Try.prog.info? 3).map (fun i => (i.zero, i.size, i.bytes)) = some (some (.int .i64 0), 1, 8) := by kernel_rfl
-- the values' own types

end Go.Proofs.Ytdhhphngabamoaa.PFnExactRingDistance
