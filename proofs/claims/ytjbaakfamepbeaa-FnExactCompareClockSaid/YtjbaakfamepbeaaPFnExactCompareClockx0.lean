-- Written by a program of this session (wip/mk.py) over the kit's print. Not trusted: Lean checks it.
import Derived.Test.YtjbaakfamepbeaaProg
import Derived.Below
import Derived.Deep.Draws
import Derived.Deep.AppendLies
import Derived.Maps.AppendAt
import Derived.OwnWalk
import Derived.Laws.BytesArg
import Derived.Laws.MakeOwn
import Derived.Laws.OwnMore
import Derived.Deep.OwnRows
import Derived.Tactics
import Derived.Lib.ConvBytes
import Derived.Laws.Slices
import Derived.WalkKit
import Derived.KernelRfl
import Derived.RowKit3
import Derived.Deep.LoopGhost
import Derived.Deep.QuietTactic
import Derived.BigQuiet
import Derived.WideLaws
import Derived.Deep.DeepCutAuto
import Derived.Deep.CutBlock
import Derived.Deep.RegionHeld3
import Derived.Laws.Rows
import Derived.Lib.AppendStr
import Derived.ArgAppend
import Derived.Laws.IdiomCopy
import Derived.OrdersHeld
import Derived.Laws.BitsLemmas
import Derived.RowKit
import Derived.Test.YtjbaakfamepbeaaWWords
import Derived.Test.YtjbaakfamepbeaaWLast
import Derived.Test.YtjbaakfamepbeaaWTab
import Derived.Test.YtjbaakfamepbeaaWFour
import Derived.Test.YtjbaakfamepbeaaWQPut
import Derived.Test.YtjbaakfamepbeaaWApart
import Derived.Test.YtjbaakfamepbeaaWArr
import Derived.Test.YtjbaakfamepbeaaWZeros
import Derived.Test.YtjbaakfamepbeaaWFoot
import Derived.Test.YtjbaakfamepbeaaWKept
import Derived.Test.YtjbaakfamepbeaaWShare
import Derived.Test.YtjbaakfamepbeaaWN
import Derived.Test.YtjbaakfamepbeaaWFootNe
import Derived.Test.YtjbaakfamepbeaaWAt
import Derived.Test.YtjbaakfamepbeaaWEqStruct
import Derived.Test.YtjbaakfamepbeaaWRepsOne
import Derived.Test.YtjbaakfamepbeaaWInv
import Derived.Test.YtjbaakfamepbeaaWInvWords
import Derived.Test.YtjbaakfamepbeaaWGuard
import Derived.Test.YtjbaakfamepbeaaWNEv
import Derived.Test.YtjbaakfamepbeaaWMore
namespace Go.Proofs.Ytjbaakfamepbeaa.PFnExactCompareClock
open Go.RowKit Go.Proofs.YtjbaakfamepbeaaW.PrintWords Go.Proofs.YtjbaakfamepbeaaW.PrintLast Go.Proofs.YtjbaakfamepbeaaW.PrintMore
attribute [local go_sem] max2_int min2_int max_two min_two max_three min_three max_four min_four   -- for this text's walks alone
set_option linter.unusedVariables false
set_option linter.unusedSimpArgs false



def errW : Option Int → Value
  | none => .nilIface
  | some c => .iface 0 (.int .i64 c)
theorem errW_none : errW none = .nilIface := rfl
theorem errW_some (c : Int) : errW (some c) = .iface 0 (.int .i64 c) := rfl

theorem info3 : (Try.prog.info? 3).map (fun i => (i.zero, i.size, i.bytes)) = some (some (.int .i64 0), 1, 8) := by kernel_rfl
-- the values' own types

end Go.Proofs.Ytjbaakfamepbeaa.PFnExactCompareClock
