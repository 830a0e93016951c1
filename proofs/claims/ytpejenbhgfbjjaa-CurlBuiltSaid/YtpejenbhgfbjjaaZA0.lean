/- My own print (tools/mp.py) of functions of this seat: each function as a plain Lean function, and the proof that the code does what that function says. -/
import Derived.Test.YtpejenbhgfbjjaaProg
import Derived.Below
import Derived.Deep.Draws
import Derived.Deep.AppendLies
import Derived.Maps.AppendAt
import Derived.OwnWalk
import Derived.Laws.BytesArg
import Derived.Laws.MakeOwn
import Derived.Laws.OwnMore
import Derived.Deep.OwnRows
import Derived.Tactics
import Derived.Lib.ConvBytes
import Derived.Laws.Slices
import Derived.WalkKit
import Derived.KernelRfl
import Derived.RowKit3
import Derived.Deep.LoopGhost
import Derived.Deep.QuietTactic
import Derived.BigQuiet
import Derived.WideLaws
import Derived.Deep.DeepCutAuto
import Derived.Deep.CutBlock
import Derived.Deep.RegionHeld3
import Derived.Laws.Rows
import Derived.Lib.AppendStr
import Derived.ArgAppend
import Derived.Laws.IdiomCopy
import Derived.OrdersHeld
import Derived.Laws.BitsLemmas
import Derived.RowKit
import Derived.Test.YtpejenbhgfbjjaaBase
import Derived.Test.YtpejenbhgfbjjaaRunes
import Derived.Lib.Bytealg
import Derived.Lib.Walk
import Derived.Lib.Strings
import Derived.Lib.Slices
import Derived.Lib.SlBytesConst
import Derived.Test.YtpejenbhgfbjjaaWWords
import Derived.Test.YtpejenbhgfbjjaaWLast
import Derived.Test.YtpejenbhgfbjjaaWTab
import Derived.Test.YtpejenbhgfbjjaaWFour
import Derived.Test.YtpejenbhgfbjjaaWQPut
import Derived.Test.YtpejenbhgfbjjaaWApart
import Derived.Test.YtpejenbhgfbjjaaWArr
import Derived.Test.YtpejenbhgfbjjaaWZeros
import Derived.Test.YtpejenbhgfbjjaaWFoot
import Derived.Test.YtpejenbhgfbjjaaWKept
import Derived.Test.YtpejenbhgfbjjaaWShare
import Derived.Test.YtpejenbhgfbjjaaWN
import Derived.Test.YtpejenbhgfbjjaaWFootNe
import Derived.Test.YtpejenbhgfbjjaaWAt
import Derived.Test.YtpejenbhgfbjjaaWEqStruct
import Derived.Test.YtpejenbhgfbjjaaWRepsOne
import Derived.Test.YtpejenbhgfbjjaaWInv
import Derived.Test.YtpejenbhgfbjjaaWInvWords
import Derived.Test.YtpejenbhgfbjjaaWGuard
import Derived.Test.YtpejenbhgfbjjaaWNEv
import Derived.Test.YtpejenbhgfbjjaaWMore
namespace Go.Proofs.Ytpejenbhgfbjjaa.ZA
open Go.RowKit Go.Proofs.YtpejenbhgfbjjaaW.PrintWords Go.Proofs.YtpejenbhgfbjjaaW.PrintLast Go.Proofs.YtpejenbhgfbjjaaW.PrintMore
attribute [local go_sem] max2_int min2_int max_two min_two max_three min_three max_four min_four   -- for this text's walks alone
set_option linter.unusedVariables false
set_option linter.unusedSimpArgs false



def errW : Option Int → Value
  | none => .nilIface
  | some c => .iface 0 (.int .i64 c)
theorem errW_none : errW none = .nilIface := rfl
theorem errW_some (c : Int) : errW (some c) = .iface 0 (.int .i64 c) := rfl

theorem info5 : (Try.prog.info? 5).map (fun i => (i.zero, i.size, i.bytes)) = some (some (.int .u8 0), 1, 1) := by kernel_rfl
-- the values' own types

end Go.Proofs.Ytpejenbhgfbjjaa.ZA
