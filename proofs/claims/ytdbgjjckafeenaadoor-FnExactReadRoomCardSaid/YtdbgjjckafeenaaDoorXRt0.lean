-- Written by xprint.py (wip/xprint.py) out of the translation; Lean checks it.
import Derived.Test.YtdbgjjckafeenaaDoorProg
import Derived.Below
import Derived.Deep.Draws
import Derived.Deep.AppendLies
import Derived.Maps.AppendAt
import Derived.OwnWalk
import Derived.Laws.BytesArg
import Derived.Laws.MakeOwn
import Derived.Laws.OwnMore
import Derived.Deep.OwnRows
import Derived.Tactics
import Derived.Lib.ConvBytes
import Derived.Laws.Slices
import Derived.WalkKit
import Derived.KernelRfl
import Derived.RowKit3
import Derived.Deep.LoopGhost
import Derived.Deep.QuietTactic
import Derived.BigQuiet
import Derived.WideLaws
import Derived.Deep.DeepCutAuto
import Derived.Deep.CutBlock
import Derived.Deep.RegionHeld3
import Derived.Laws.Rows
import Derived.Lib.AppendStr
import Derived.ArgAppend
import Derived.Laws.IdiomCopy
import Derived.OrdersHeld
import Derived.Laws.BitsLemmas
import Derived.RowKit
import Derived.Test.YtdbgjjckafeenaaDoorWWords
import Derived.Test.YtdbgjjckafeenaaDoorWLast
import Derived.Test.YtdbgjjckafeenaaDoorWTab
import Derived.Test.YtdbgjjckafeenaaDoorWFour
import Derived.Test.YtdbgjjckafeenaaDoorWQPut
import Derived.Test.YtdbgjjckafeenaaDoorWApart
import Derived.Test.YtdbgjjckafeenaaDoorWArr
import Derived.Test.YtdbgjjckafeenaaDoorWZeros
import Derived.Test.YtdbgjjckafeenaaDoorWFoot
import Derived.Test.YtdbgjjckafeenaaDoorWKept
import Derived.Test.YtdbgjjckafeenaaDoorWShare
import Derived.Test.YtdbgjjckafeenaaDoorWN
import Derived.Test.YtdbgjjckafeenaaDoorWFootNe
import Derived.Test.YtdbgjjckafeenaaDoorWAt
import Derived.Test.YtdbgjjckafeenaaDoorWEqStruct
import Derived.Test.YtdbgjjckafeenaaDoorWRepsOne
import Derived.Test.YtdbgjjckafeenaaDoorWInv
import Derived.Test.YtdbgjjckafeenaaDoorWInvWords
import Derived.Test.YtdbgjjckafeenaaDoorWGuard
import Derived.Test.YtdbgjjckafeenaaDoorWNEv
import Derived.Test.YtdbgjjckafeenaaDoorWMore
namespace Go.Proofs.YtdbgjjckafeenaaDoor.XRt
open Go.RowKit Go.Proofs.YtdbgjjckafeenaaDoorW.PrintWords Go.Proofs.YtdbgjjckafeenaaDoorW.PrintLast Go.Proofs.YtdbgjjckafeenaaDoorW.PrintMore
attribute [local go_sem] max2_int min2_int max_two min_two max_three min_three max_four min_four   -- for this text's walks alone
set_option linter.unusedVariables false
set_option linter.unusedSimpArgs false



def errW : Option Int → Value
  | none => .nilIface
  | some c => .iface 0 (.int .i64 c)
theorem errW_none : errW none = .nilIface := rfl
theorem errW_some (c : Int) : errW (some c) = .iface 0 (.int .i64 c) := rfl

theorem info5 : (Tryd.prog.info? 5).map (fun i => (i.zero, i.size, i.bytes)) = some (some (.int .u8 0), 1, 1) := by kernel_rfl
-- the values' own types

end Go.Proofs.YtdbgjjckafeenaaDoor.XRt
