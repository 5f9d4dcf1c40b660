/- Of each Go function named below: a Lean function with the same answers, and the proof that a call comes to exactly these. Written by a program of this session. -/
import Derived.Test.YtaogcafknbfkmaaDoorProg
import Derived.Below
import Derived.Deep.Draws
import Derived.Deep.AppendLies
import Derived.Maps.AppendAt
import Derived.OwnWalk
import Derived.Laws.BytesArg
import Derived.Laws.MakeOwn
import Derived.Laws.OwnMore
import Derived.Deep.OwnRows
import Derived.Tactics
import Derived.Lib.ConvBytes
import Derived.Laws.Slices
import Derived.WalkKit
import Derived.KernelRfl
import Derived.RowKit3
import Derived.Deep.LoopGhost
import Derived.Deep.QuietTactic
import Derived.BigQuiet
import Derived.WideLaws
import Derived.Deep.DeepCutAuto
import Derived.Deep.CutBlock
import Derived.Deep.RegionHeld3
import Derived.Laws.Rows
import Derived.Lib.AppendStr
import Derived.ArgAppend
import Derived.Laws.IdiomCopy
import Derived.OrdersHeld
import Derived.Laws.BitsLemmas
import Derived.RowKit
import Derived.Test.YtaogcafknbfkmaaDoorShelf
import Derived.Test.YtaogcafknbfkmaaDoorLaid
import Derived.Test.YtaogcafknbfkmaaDoorWWords
import Derived.Test.YtaogcafknbfkmaaDoorWLast
import Derived.Test.YtaogcafknbfkmaaDoorWTab
import Derived.Test.YtaogcafknbfkmaaDoorWFour
import Derived.Test.YtaogcafknbfkmaaDoorWQPut
import Derived.Test.YtaogcafknbfkmaaDoorWApart
import Derived.Test.YtaogcafknbfkmaaDoorWArr
import Derived.Test.YtaogcafknbfkmaaDoorWZeros
import Derived.Test.YtaogcafknbfkmaaDoorWFoot
import Derived.Test.YtaogcafknbfkmaaDoorWKept
import Derived.Test.YtaogcafknbfkmaaDoorWShare
import Derived.Test.YtaogcafknbfkmaaDoorWN
import Derived.Test.YtaogcafknbfkmaaDoorWFootNe
import Derived.Test.YtaogcafknbfkmaaDoorWAt
import Derived.Test.YtaogcafknbfkmaaDoorWEqStruct
import Derived.Test.YtaogcafknbfkmaaDoorWRepsOne
import Derived.Test.YtaogcafknbfkmaaDoorWInv
import Derived.Test.YtaogcafknbfkmaaDoorWInvWords
import Derived.Test.YtaogcafknbfkmaaDoorWGuard
import Derived.Test.YtaogcafknbfkmaaDoorWNEv
import Derived.Test.YtaogcafknbfkmaaDoorWMore
namespace Go.Proofs.YtaogcafknbfkmaaDoor.Pr
open Go.RowKit Go.Proofs.YtaogcafknbfkmaaDoorW.PrintWords Go.Proofs.YtaogcafknbfkmaaDoorW.PrintLast Go.Proofs.YtaogcafknbfkmaaDoorW.PrintMore
attribute [local go_sem] max2_int min2_int max_two min_two max_three min_three max_four min_four   -- for this text's walks alone
set_option linter.unusedVariables false
set_option linter.unusedSimpArgs false



def errW : Option Int → Value
  | none => .nilIface
  | some c => .iface 0 (.int .i64 c)
theorem errW_none : errW none = .nilIface := rfl
theorem errW_some (c : Int) : errW (some c) = .iface 0 (.int .i64 c) := rfl

theorem info5 : (Tryd.prog.info? 5).map (fun i => (i.zero, i.size, i.bytes)) = some (some (.int .u8 0), 1, 1) := by kernel_rfl
-- the values' own types

end Go.Proofs.YtaogcafknbfkmaaDoor.Pr
