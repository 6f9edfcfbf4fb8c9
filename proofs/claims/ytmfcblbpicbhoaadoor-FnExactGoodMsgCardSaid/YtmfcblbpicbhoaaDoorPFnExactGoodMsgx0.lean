-- Written by a program of this session (wip/mk.py) over the kit's print. Not trusted: Lean checks it.
import Derived.Test.YtmfcblbpicbhoaaDoorProg
import Derived.Below
import Derived.Deep.Draws
import Derived.Deep.AppendLies
import Derived.Maps.AppendAt
import Derived.OwnWalk
import Derived.Laws.BytesArg
import Derived.Laws.MakeOwn
import Derived.Laws.OwnMore
import Derived.Deep.OwnRows
import Derived.Tactics
import Derived.Lib.ConvBytes
import Derived.Laws.Slices
import Derived.WalkKit
import Derived.KernelRfl
import Derived.RowKit3
import Derived.Deep.LoopGhost
import Derived.Deep.QuietTactic
import Derived.BigQuiet
import Derived.WideLaws
import Derived.Deep.DeepCutAuto
import Derived.Deep.CutBlock
import Derived.Deep.RegionHeld3
import Derived.Laws.Rows
import Derived.Lib.AppendStr
import Derived.ArgAppend
import Derived.Laws.IdiomCopy
import Derived.OrdersHeld
import Derived.Laws.BitsLemmas
import Derived.RowKit
import Derived.Test.YtmfcblbpicbhoaaDoorMap
import Derived.Test.YtmfcblbpicbhoaaDoorTrim
import Derived.Test.YtmfcblbpicbhoaaDoorWWords
import Derived.Test.YtmfcblbpicbhoaaDoorWLast
import Derived.Test.YtmfcblbpicbhoaaDoorWTab
import Derived.Test.YtmfcblbpicbhoaaDoorWFour
import Derived.Test.YtmfcblbpicbhoaaDoorWQPut
import Derived.Test.YtmfcblbpicbhoaaDoorWApart
import Derived.Test.YtmfcblbpicbhoaaDoorWArr
import Derived.Test.YtmfcblbpicbhoaaDoorWZeros
import Derived.Test.YtmfcblbpicbhoaaDoorWFoot
import Derived.Test.YtmfcblbpicbhoaaDoorWKept
import Derived.Test.YtmfcblbpicbhoaaDoorWShare
import Derived.Test.YtmfcblbpicbhoaaDoorWN
import Derived.Test.YtmfcblbpicbhoaaDoorWFootNe
import Derived.Test.YtmfcblbpicbhoaaDoorWAt
import Derived.Test.YtmfcblbpicbhoaaDoorWEqStruct
import Derived.Test.YtmfcblbpicbhoaaDoorWRepsOne
import Derived.Test.YtmfcblbpicbhoaaDoorWInv
import Derived.Test.YtmfcblbpicbhoaaDoorWInvWords
import Derived.Test.YtmfcblbpicbhoaaDoorWGuard
import Derived.Test.YtmfcblbpicbhoaaDoorWNEv
import Derived.Test.YtmfcblbpicbhoaaDoorWMore
namespace Go.Proofs.YtmfcblbpicbhoaaDoor.PFnExactGoodMsg
open Go.RowKit Go.Proofs.YtmfcblbpicbhoaaDoorW.PrintWords Go.Proofs.YtmfcblbpicbhoaaDoorW.PrintLast Go.Proofs.YtmfcblbpicbhoaaDoorW.PrintMore
attribute [local go_sem] max2_int min2_int max_two min_two max_three min_three max_four min_four   -- for this text's walks alone
open Go.Proofs.YtmfcblbpicbhoaaDoor.MapW
set_option linter.unusedVariables false
set_option linter.unusedSimpArgs false



def errW : Option Int → Value
  | none => .nilIface
  | some c => .iface 0 (.int .i64 c)
theorem errW_none : errW none = .nilIface := rfl
theorem errW_some (c : Int) : errW (some c) = .iface 0 (.int .i64 c) := rfl

-- the values' own types

end Go.Proofs.YtmfcblbpicbhoaaDoor.PFnExactGoodMsg
