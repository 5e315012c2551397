-- Written by wip/xprint.py: the kit's print with functions proved by hand in their places. Not trusted: Lean checks it.
import Derived.Test.YtloboklomhlkhaaGreatDoorProg
import Derived.Below
import Derived.Deep.Draws
import Derived.Deep.AppendLies
import Derived.Maps.AppendAt
import Derived.OwnWalk
import Derived.Laws.BytesArg
import Derived.Laws.MakeOwn
import Derived.Laws.OwnMore
import Derived.Deep.OwnRows
import Derived.Tactics
import Derived.Lib.ConvBytes
import Derived.Laws.Slices
import Derived.WalkKit
import Derived.KernelRfl
import Derived.RowKit3
import Derived.Deep.LoopGhost
import Derived.Deep.QuietTactic
import Derived.BigQuiet
import Derived.WideLaws
import Derived.Deep.DeepCutAuto
import Derived.Deep.CutBlock
import Derived.Deep.RegionHeld3
import Derived.Laws.Rows
import Derived.Lib.AppendStr
import Derived.ArgAppend
import Derived.Laws.IdiomCopy
import Derived.OrdersHeld
import Derived.Laws.BitsLemmas
import Derived.RowKit
import Derived.Shelf.Strings.SlTrimAscii
import Derived.Test.YtloboklomhlkhaaGreatDoorShelf
import Derived.Lib.IndexBytes
import Derived.Shelf.Strings.SplitCore
import Derived.Lib.SplitLaws
import Derived.Test.YtloboklomhlkhaaGreatDoorKR
import Derived.Test.YtloboklomhlkhaaGreatDoorWWords
import Derived.Test.YtloboklomhlkhaaGreatDoorWLast
import Derived.Test.YtloboklomhlkhaaGreatDoorWTab
import Derived.Test.YtloboklomhlkhaaGreatDoorWFour
import Derived.Test.YtloboklomhlkhaaGreatDoorWQPut
import Derived.Test.YtloboklomhlkhaaGreatDoorWApart
import Derived.Test.YtloboklomhlkhaaGreatDoorWArr
import Derived.Test.YtloboklomhlkhaaGreatDoorWZeros
import Derived.Test.YtloboklomhlkhaaGreatDoorWFoot
import Derived.Test.YtloboklomhlkhaaGreatDoorWKept
import Derived.Test.YtloboklomhlkhaaGreatDoorWShare
import Derived.Test.YtloboklomhlkhaaGreatDoorWN
import Derived.Test.YtloboklomhlkhaaGreatDoorWFootNe
import Derived.Test.YtloboklomhlkhaaGreatDoorWAt
import Derived.Test.YtloboklomhlkhaaGreatDoorWEqStruct
import Derived.Test.YtloboklomhlkhaaGreatDoorWRepsOne
import Derived.Test.YtloboklomhlkhaaGreatDoorWInv
import Derived.Test.YtloboklomhlkhaaGreatDoorWInvWords
import Derived.Test.YtloboklomhlkhaaGreatDoorWGuard
import Derived.Test.YtloboklomhlkhaaGreatDoorWNEv
import Derived.Test.YtloboklomhlkhaaGreatDoorWMore
namespace Go.Proofs.YtloboklomhlkhaaGreatDoor.D
open Go.RowKit Go.Proofs.YtloboklomhlkhaaGreatDoorW.PrintWords Go.Proofs.YtloboklomhlkhaaGreatDoorW.PrintLast Go.Proofs.YtloboklomhlkhaaGreatDoorW.PrintMore
attribute [local go_sem] max2_int min2_int max_two min_two max_three min_three max_four min_four   -- for this text's walks alone
set_option linter.unusedVariables false
set_option linter.unusedSimpArgs false



def errW : Option Int → Value
  | none => .nilIface
  | some c => .iface 0 (.int .i64 c)
theorem errW_none : errW none = .nilIface := rfl
theorem errW_some (c : Int) : errW (some c) = .iface 0 (.int .i64 c) := rfl

theorem info9 : (Tryz.prog.info? 9).map (fun i => (i.zero, i.size, i.bytes)) = some (some (.string ⟨#[]⟩), 1, 16) := by kernel_rfl
-- the values' own types

end Go.Proofs.YtloboklomhlkhaaGreatDoor.D
