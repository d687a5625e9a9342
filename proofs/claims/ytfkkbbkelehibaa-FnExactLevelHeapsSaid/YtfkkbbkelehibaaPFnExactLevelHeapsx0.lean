-- Written by hprint.py (a program of this session's) over the kit's print.py. Lean checks it.
import Derived.Test.YtfkkbbkelehibaaProg
import Derived.Below
import Derived.Deep.Draws
import Derived.Deep.AppendLies
import Derived.Maps.AppendAt
import Derived.OwnWalk
import Derived.Laws.BytesArg
import Derived.Laws.MakeOwn
import Derived.Laws.OwnMore
import Derived.Deep.OwnRows
import Derived.Tactics
import Derived.Lib.ConvBytes
import Derived.Laws.Slices
import Derived.WalkKit
import Derived.KernelRfl
import Derived.RowKit3
import Derived.Deep.LoopGhost
import Derived.Deep.QuietTactic
import Derived.BigQuiet
import Derived.WideLaws
import Derived.Deep.DeepCutAuto
import Derived.Deep.CutBlock
import Derived.Deep.RegionHeld3
import Derived.Laws.Rows
import Derived.Lib.AppendStr
import Derived.ArgAppend
import Derived.Laws.IdiomCopy
import Derived.OrdersHeld
import Derived.Laws.BitsLemmas
import Derived.RowKit
import Derived.Lib.SliceRun
import Derived.Shelf.Abstract
import Derived.Laws.CopyOwn
import Derived.Deep.RegionLaw
import Derived.Test.YtfkkbbkelehibaaWWords
import Derived.Test.YtfkkbbkelehibaaWLast
import Derived.Test.YtfkkbbkelehibaaWTab
import Derived.Test.YtfkkbbkelehibaaWFour
import Derived.Test.YtfkkbbkelehibaaWQPut
import Derived.Test.YtfkkbbkelehibaaWApart
import Derived.Test.YtfkkbbkelehibaaWArr
import Derived.Test.YtfkkbbkelehibaaWZeros
import Derived.Test.YtfkkbbkelehibaaWFoot
import Derived.Test.YtfkkbbkelehibaaWKept
import Derived.Test.YtfkkbbkelehibaaWShare
import Derived.Test.YtfkkbbkelehibaaWN
import Derived.Test.YtfkkbbkelehibaaWFootNe
import Derived.Test.YtfkkbbkelehibaaWAt
import Derived.Test.YtfkkbbkelehibaaWEqStruct
import Derived.Test.YtfkkbbkelehibaaWRepsOne
import Derived.Test.YtfkkbbkelehibaaWInv
import Derived.Test.YtfkkbbkelehibaaWInvWords
import Derived.Test.YtfkkbbkelehibaaWGuard
import Derived.Test.YtfkkbbkelehibaaWNEv
import Derived.Test.YtfkkbbkelehibaaWMore
namespace Go.Proofs.Ytfkkbbkelehibaa.PFnExactLevelHeaps
open Go.RowKit Go.Proofs.YtfkkbbkelehibaaW.PrintWords Go.Proofs.YtfkkbbkelehibaaW.PrintLast Go.Proofs.YtfkkbbkelehibaaW.PrintMore
attribute [local go_sem] max2_int min2_int max_two min_two max_three min_three max_four min_four   -- for this text's walks alone
set_option linter.unusedVariables false
set_option linter.unusedSimpArgs false



def errW : Option Int → Value
  | none => .nilIface
  | some c => .iface 0 (.int .i64 c)
theorem errW_none : errW none = .nilIface := rfl
theorem errW_some (c : Int) : errW (some c) = .iface 0 (.int .i64 c) := rfl

theorem info3 : (Try.prog.info? 3).map (fun i => (i.zero, i.size, i.bytes)) = some (some (.int .i64 0), 1, 8) := by kernel_rfl
-- the values' own types

end Go.Proofs.Ytfkkbbkelehibaa.PFnExactLevelHeaps
