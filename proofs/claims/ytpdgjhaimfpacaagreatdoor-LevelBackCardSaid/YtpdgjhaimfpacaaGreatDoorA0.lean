-- By drive.py (this session's program), out of the translation. Lean checks it.
import Derived.Test.YtpdgjhaimfpacaaGreatDoorProg
import Derived.Below
import Derived.Deep.Draws
import Derived.Deep.AppendLies
import Derived.Maps.AppendAt
import Derived.OwnWalk
import Derived.Laws.BytesArg
import Derived.Laws.MakeOwn
import Derived.Laws.OwnMore
import Derived.Deep.OwnRows
import Derived.Tactics
import Derived.Lib.ConvBytes
import Derived.Laws.Slices
import Derived.WalkKit
import Derived.KernelRfl
import Derived.RowKit3
import Derived.Deep.LoopGhost
import Derived.Deep.QuietTactic
import Derived.BigQuiet
import Derived.WideLaws
import Derived.Deep.DeepCutAuto
import Derived.Deep.CutBlock
import Derived.Deep.RegionHeld3
import Derived.Laws.Rows
import Derived.Lib.AppendStr
import Derived.ArgAppend
import Derived.Laws.IdiomCopy
import Derived.OrdersHeld
import Derived.Laws.BitsLemmas
import Derived.RowKit
import Derived.Test.YtpdgjhaimfpacaaGreatDoorX0
import Derived.Test.YtpdgjhaimfpacaaGreatDoorWWords
import Derived.Test.YtpdgjhaimfpacaaGreatDoorWLast
import Derived.Test.YtpdgjhaimfpacaaGreatDoorWTab
import Derived.Test.YtpdgjhaimfpacaaGreatDoorWApart
import Derived.Test.YtpdgjhaimfpacaaGreatDoorWFoot
import Derived.Test.YtpdgjhaimfpacaaGreatDoorWKept
import Derived.Test.YtpdgjhaimfpacaaGreatDoorWShare
import Derived.Test.YtpdgjhaimfpacaaGreatDoorWN
import Derived.Laws.StructEq
import Derived.Test.YtpdgjhaimfpacaaGreatDoorWRepsOne
import Derived.Test.YtpdgjhaimfpacaaGreatDoorWInv
import Derived.Test.YtpdgjhaimfpacaaGreatDoorWGuard
import Derived.Test.YtpdgjhaimfpacaaGreatDoorWMore
import Derived.Test.YtpdgjhaimfpacaaGreatDoorGR
namespace Go.Proofs.YtpdgjhaimfpacaaGreatDoor.M
open Go.Proofs.YtpdgjhaimfpacaaGreatDoor.MB Go.Proofs.YtpdgjhaimfpacaaGreatDoor
open Go.RowKit Go.Proofs.YtpdgjhaimfpacaaGreatDoorW.PrintWords Go.Proofs.YtpdgjhaimfpacaaGreatDoorW.PrintLast Go.Proofs.YtpdgjhaimfpacaaGreatDoorW.PrintMore
attribute [local go_sem] max2_int min2_int max_two min_two max_three min_three max_four min_four   -- for this text's walks alone
set_option linter.unusedVariables false
set_option linter.unusedSimpArgs false
attribute [local go_sem] add64_run sub64_run



def errW : Option Int → Value
  | none => .nilIface
  | some c => .iface 0 (.int .i64 c)
theorem errW_none : errW none = .nilIface := rfl
theorem errW_some (c : Int) : errW (some c) = .iface 0 (.int .i64 c) := rfl

theorem info3 : (Tryz.prog.info? 3).map (fun i => (i.zero, i.size, i.bytes)) = some (some (.int .i64 0), 1, 8) := by kernel_rfl
theorem info5 : (Tryz.prog.info? 5).map (fun i => (i.zero, i.size, i.bytes)) = some (some (.int .u8 0), 1, 1) := by kernel_rfl
theorem info9 : (Tryz.prog.info? 9).map (fun i => (i.zero, i.size, i.bytes)) = some (some (.string ⟨#[]⟩), 1, 16) := by kernel_rfl
theorem info119 : (Tryz.prog.info? 119).map (fun i => (i.zero, i.size, i.bytes)) = some (some (.int .u64 0), 1, 8) := by kernel_rfl
-- the values' own types

end Go.Proofs.YtpdgjhaimfpacaaGreatDoor.M
