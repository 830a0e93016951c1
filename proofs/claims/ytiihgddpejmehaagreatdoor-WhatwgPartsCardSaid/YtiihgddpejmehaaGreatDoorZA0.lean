/- My own print (tools/mp.py) of functions of this seat: each function as a plain Lean function, and the proof that the code does what that function says. -/
import Derived.Test.YtiihgddpejmehaaGreatDoorProg
import Derived.Below
import Derived.Deep.Draws
import Derived.Deep.AppendLies
import Derived.Maps.AppendAt
import Derived.OwnWalk
import Derived.Laws.BytesArg
import Derived.Laws.MakeOwn
import Derived.Laws.OwnMore
import Derived.Deep.OwnRows
import Derived.Tactics
import Derived.Lib.ConvBytes
import Derived.Laws.Slices
import Derived.WalkKit
import Derived.KernelRfl
import Derived.RowKit3
import Derived.Deep.LoopGhost
import Derived.Deep.QuietTactic
import Derived.BigQuiet
import Derived.WideLaws
import Derived.Deep.DeepCutAuto
import Derived.Deep.CutBlock
import Derived.Deep.RegionHeld3
import Derived.Laws.Rows
import Derived.Lib.AppendStr
import Derived.ArgAppend
import Derived.Laws.IdiomCopy
import Derived.OrdersHeld
import Derived.Laws.BitsLemmas
import Derived.RowKit
import Derived.Test.YtiihgddpejmehaaGreatDoorBase
import Derived.Test.YtiihgddpejmehaaGreatDoorRunes
import Derived.Lib.Bytealg
import Derived.Lib.Walk
import Derived.Lib.Strings
import Derived.Lib.Slices
import Derived.Lib.SlBytesConst
import Derived.Lib.ConvBytes
import Derived.Deep.RegionWith
import Derived.Tactics2
import Derived.Defers
import Derived.Laws.Pointers
import Derived.Laws.LoneSync
import Derived.RegionTactic
import Derived.RegionCalls
import Derived.ChangeAlike
import Derived.LoopN
import Derived.Deep.WholeRow
import Derived.Lib.LazyBuf
import Derived.Shelf.Strings.SlTrimAscii
import Derived.Shelf.Strings.MapAny
import Derived.Shelf.Unicode.DecodeSlow
import Derived.Test.YtiihgddpejmehaaGreatDoorWWords
import Derived.Test.YtiihgddpejmehaaGreatDoorWLast
import Derived.Test.YtiihgddpejmehaaGreatDoorWTab
import Derived.Test.YtiihgddpejmehaaGreatDoorWFour
import Derived.Test.YtiihgddpejmehaaGreatDoorWQPut
import Derived.Test.YtiihgddpejmehaaGreatDoorWApart
import Derived.Test.YtiihgddpejmehaaGreatDoorWArr
import Derived.Test.YtiihgddpejmehaaGreatDoorWZeros
import Derived.Test.YtiihgddpejmehaaGreatDoorWFoot
import Derived.Test.YtiihgddpejmehaaGreatDoorWKept
import Derived.Test.YtiihgddpejmehaaGreatDoorWShare
import Derived.Test.YtiihgddpejmehaaGreatDoorWN
import Derived.Test.YtiihgddpejmehaaGreatDoorWFootNe
import Derived.Test.YtiihgddpejmehaaGreatDoorWAt
import Derived.Test.YtiihgddpejmehaaGreatDoorWEqStruct
import Derived.Test.YtiihgddpejmehaaGreatDoorWRepsOne
import Derived.Test.YtiihgddpejmehaaGreatDoorWInv
import Derived.Test.YtiihgddpejmehaaGreatDoorWInvWords
import Derived.Test.YtiihgddpejmehaaGreatDoorWGuard
import Derived.Test.YtiihgddpejmehaaGreatDoorWNEv
import Derived.Test.YtiihgddpejmehaaGreatDoorWMore
namespace Go.Proofs.YtiihgddpejmehaaGreatDoor.ZA
open Go.RowKit Go.Proofs.YtiihgddpejmehaaGreatDoorW.PrintWords Go.Proofs.YtiihgddpejmehaaGreatDoorW.PrintLast Go.Proofs.YtiihgddpejmehaaGreatDoorW.PrintMore
attribute [local go_sem] max2_int min2_int max_two min_two max_three min_three max_four min_four   -- for this text's walks alone
set_option linter.unusedVariables false
set_option linter.unusedSimpArgs false



def errW : Option Int → Value
  | none => .nilIface
  | some c => .iface 0 (.int .i64 c)
theorem errW_none : errW none = .nilIface := rfl
theorem errW_some (c : Int) : errW (some c) = .iface 0 (.int .i64 c) := rfl

theorem info5 : (Tryz.prog.info? 5).map (fun i => (i.zero, i.size, i.bytes)) = some (some (.int .u8 0), 1, 1) := by kernel_rfl
-- the values' own types

end Go.Proofs.YtiihgddpejmehaaGreatDoor.ZA
