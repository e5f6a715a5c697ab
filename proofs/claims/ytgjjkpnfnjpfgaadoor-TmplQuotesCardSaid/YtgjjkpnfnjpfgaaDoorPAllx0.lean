-- Laid by print.py over several laws of the seat at once (wip/tools/printmany.sh): one namespace for all
import Derived.Test.YtgjjkpnfnjpfgaaDoorProg
import Derived.Below
import Derived.Deep.Draws
import Derived.Deep.AppendLies
import Derived.Maps.AppendAt
import Derived.OwnWalk
import Derived.Laws.BytesArg
import Derived.Laws.MakeOwn
import Derived.Laws.OwnMore
import Derived.Deep.OwnRows
import Derived.Tactics
import Derived.Lib.ConvBytes
import Derived.Laws.Slices
import Derived.WalkKit
import Derived.KernelRfl
import Derived.RowKit3
import Derived.Deep.LoopGhost
import Derived.Deep.QuietTactic
import Derived.BigQuiet
import Derived.WideLaws
import Derived.Deep.DeepCutAuto
import Derived.Deep.CutBlock
import Derived.Deep.RegionHeld3
import Derived.Laws.Rows
import Derived.Lib.AppendStr
import Derived.ArgAppend
import Derived.Laws.IdiomCopy
import Derived.OrdersHeld
import Derived.Laws.BitsLemmas
import Derived.RowKit
import Derived.Test.YtgjjkpnfnjpfgaaDoorWWords
import Derived.Test.YtgjjkpnfnjpfgaaDoorWLast
import Derived.Test.YtgjjkpnfnjpfgaaDoorWTab
import Derived.Test.YtgjjkpnfnjpfgaaDoorWFour
import Derived.Test.YtgjjkpnfnjpfgaaDoorWQPut
import Derived.Test.YtgjjkpnfnjpfgaaDoorWApart
import Derived.Test.YtgjjkpnfnjpfgaaDoorWArr
import Derived.Test.YtgjjkpnfnjpfgaaDoorWZeros
import Derived.Test.YtgjjkpnfnjpfgaaDoorWFoot
import Derived.Test.YtgjjkpnfnjpfgaaDoorWKept
import Derived.Test.YtgjjkpnfnjpfgaaDoorWShare
import Derived.Test.YtgjjkpnfnjpfgaaDoorWN
import Derived.Test.YtgjjkpnfnjpfgaaDoorWFootNe
import Derived.Test.YtgjjkpnfnjpfgaaDoorWAt
import Derived.Test.YtgjjkpnfnjpfgaaDoorWEqStruct
import Derived.Test.YtgjjkpnfnjpfgaaDoorWRepsOne
import Derived.Test.YtgjjkpnfnjpfgaaDoorWInv
import Derived.Test.YtgjjkpnfnjpfgaaDoorWInvWords
import Derived.Test.YtgjjkpnfnjpfgaaDoorWGuard
import Derived.Test.YtgjjkpnfnjpfgaaDoorWNEv
import Derived.Test.YtgjjkpnfnjpfgaaDoorWMore
namespace Go.Proofs.YtgjjkpnfnjpfgaaDoor.PAll
open Go.RowKit Go.Proofs.YtgjjkpnfnjpfgaaDoorW.PrintWords Go.Proofs.YtgjjkpnfnjpfgaaDoorW.PrintLast Go.Proofs.YtgjjkpnfnjpfgaaDoorW.PrintMore
attribute [local go_sem] max2_int min2_int max_two min_two max_three min_three max_four min_four   -- for this text's walks alone
set_option linter.unusedVariables false
set_option linter.unusedSimpArgs false



def errW : Option Int → Value
  | none => .nilIface
  | some c => .iface 0 (.int .i64 c)
theorem errW_none : errW none = .nilIface := rfl
theorem errW_some (c : Int) : errW (some c) = .iface 0 (.int .i64 c) := rfl

-- the values' own types

end Go.Proofs.YtgjjkpnfnjpfgaaDoor.PAll
