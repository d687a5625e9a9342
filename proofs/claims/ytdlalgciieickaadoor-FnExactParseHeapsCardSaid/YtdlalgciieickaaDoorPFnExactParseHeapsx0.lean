-- Written by hprint.py (a program of this session's) over the kit's print.py. Lean checks it.
import Derived.Test.YtdlalgciieickaaDoorProg
import Derived.Below
import Derived.Deep.Draws
import Derived.Deep.AppendLies
import Derived.Maps.AppendAt
import Derived.OwnWalk
import Derived.Laws.BytesArg
import Derived.Laws.MakeOwn
import Derived.Laws.OwnMore
import Derived.Deep.OwnRows
import Derived.Tactics
import Derived.Lib.ConvBytes
import Derived.Laws.Slices
import Derived.WalkKit
import Derived.KernelRfl
import Derived.RowKit3
import Derived.Deep.LoopGhost
import Derived.Deep.QuietTactic
import Derived.BigQuiet
import Derived.WideLaws
import Derived.Deep.DeepCutAuto
import Derived.Deep.CutBlock
import Derived.Deep.RegionHeld3
import Derived.Laws.Rows
import Derived.Lib.AppendStr
import Derived.ArgAppend
import Derived.Laws.IdiomCopy
import Derived.OrdersHeld
import Derived.Laws.BitsLemmas
import Derived.RowKit
import Derived.Test.YtdlalgciieickaaDoorShelfQ
import Derived.Lib.LaidTab
import Derived.Lib.SmallJoins
import Derived.Sort.Grow
import Derived.Lib.ItoaNum
import Derived.Lib.SplitLaws
import Derived.Shelf.Vars
import Derived.Lib.SliceRun
import Derived.Shelf.Abstract
import Derived.Laws.CopyOwn
import Derived.Deep.RegionLaw
import Derived.Deep.QuietTactic
import Derived.BigQuiet
import Derived.Maps.OwnSet
import Derived.Maps.OwnOps
import Derived.Maps.Views
import Derived.Test.YtdlalgciieickaaDoorWWords
import Derived.Test.YtdlalgciieickaaDoorWLast
import Derived.Test.YtdlalgciieickaaDoorWTab
import Derived.Test.YtdlalgciieickaaDoorWFour
import Derived.Test.YtdlalgciieickaaDoorWQPut
import Derived.Test.YtdlalgciieickaaDoorWApart
import Derived.Test.YtdlalgciieickaaDoorWArr
import Derived.Test.YtdlalgciieickaaDoorWZeros
import Derived.Test.YtdlalgciieickaaDoorWFoot
import Derived.Test.YtdlalgciieickaaDoorWKept
import Derived.Test.YtdlalgciieickaaDoorWShare
import Derived.Test.YtdlalgciieickaaDoorWN
import Derived.Test.YtdlalgciieickaaDoorWFootNe
import Derived.Test.YtdlalgciieickaaDoorWAt
import Derived.Test.YtdlalgciieickaaDoorWEqStruct
import Derived.Test.YtdlalgciieickaaDoorWRepsOne
import Derived.Test.YtdlalgciieickaaDoorWInv
import Derived.Test.YtdlalgciieickaaDoorWInvWords
import Derived.Test.YtdlalgciieickaaDoorWGuard
import Derived.Test.YtdlalgciieickaaDoorWNEv
import Derived.Test.YtdlalgciieickaaDoorWMore
namespace Go.Proofs.YtdlalgciieickaaDoor.PFnExactParseHeaps
open Go.RowKit Go.Proofs.YtdlalgciieickaaDoorW.PrintWords Go.Proofs.YtdlalgciieickaaDoorW.PrintLast Go.Proofs.YtdlalgciieickaaDoorW.PrintMore
attribute [local go_sem] max2_int min2_int max_two min_two max_three min_three max_four min_four   -- for this text's walks alone
set_option linter.unusedVariables false
set_option linter.unusedSimpArgs false



def errW : Option Int → Value
  | none => .nilIface
  | some c => .iface 0 (.int .i64 c)
theorem errW_none : errW none = .nilIface := rfl
theorem errW_some (c : Int) : errW (some c) = .iface 0 (.int .i64 c) := rfl

theorem info3 : (Tryd.prog.info? 3).map (fun i => (i.zero, i.size, i.bytes)) = some (some (.int .i64 0), 1, 8) := by kernel_rfl
theorem info9 : (Tryd.prog.info? 9).map (fun i => (i.zero, i.size, i.bytes)) = some (some (.string ⟨#[]⟩), 1, 16) := by kernel_rfl
-- the values' own types

end Go.Proofs.YtdlalgciieickaaDoor.PFnExactParseHeaps
