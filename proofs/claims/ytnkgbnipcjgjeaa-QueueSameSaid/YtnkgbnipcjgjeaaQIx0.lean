-- Written by a program of this session (wip/tools/qprint.sh) out of the translation; Lean checks it.
import Derived.Test.YtnkgbnipcjgjeaaProg
import Derived.Below
import Derived.Deep.Draws
import Derived.Deep.AppendLies
import Derived.Maps.AppendAt
import Derived.OwnWalk
import Derived.Laws.BytesArg
import Derived.Laws.MakeOwn
import Derived.Laws.OwnMore
import Derived.Deep.OwnRows
import Derived.Tactics
import Derived.Lib.ConvBytes
import Derived.Laws.Slices
import Derived.WalkKit
import Derived.KernelRfl
import Derived.RowKit3
import Derived.Deep.LoopGhost
import Derived.Deep.QuietTactic
import Derived.BigQuiet
import Derived.WideLaws
import Derived.Deep.DeepCutAuto
import Derived.Deep.CutBlock
import Derived.Deep.RegionHeld3
import Derived.Laws.Rows
import Derived.Lib.AppendStr
import Derived.ArgAppend
import Derived.Laws.IdiomCopy
import Derived.OrdersHeld
import Derived.Laws.BitsLemmas
import Derived.RowKit
import Derived.Test.YtnkgbnipcjgjeaaWWords
import Derived.Test.YtnkgbnipcjgjeaaWLast
import Derived.Test.YtnkgbnipcjgjeaaWTab
import Derived.Test.YtnkgbnipcjgjeaaWFour
import Derived.Test.YtnkgbnipcjgjeaaWQPut
import Derived.Test.YtnkgbnipcjgjeaaWApart
import Derived.Test.YtnkgbnipcjgjeaaWArr
import Derived.Test.YtnkgbnipcjgjeaaWZeros
import Derived.Test.YtnkgbnipcjgjeaaWFoot
import Derived.Test.YtnkgbnipcjgjeaaWKept
import Derived.Test.YtnkgbnipcjgjeaaWShare
import Derived.Test.YtnkgbnipcjgjeaaWN
import Derived.Test.YtnkgbnipcjgjeaaWFootNe
import Derived.Test.YtnkgbnipcjgjeaaWAt
import Derived.Test.YtnkgbnipcjgjeaaWEqStruct
import Derived.Test.YtnkgbnipcjgjeaaWRepsOne
import Derived.Test.YtnkgbnipcjgjeaaWInv
import Derived.Test.YtnkgbnipcjgjeaaWInvWords
import Derived.Test.YtnkgbnipcjgjeaaWGuard
import Derived.Test.YtnkgbnipcjgjeaaWNEv
import Derived.Test.YtnkgbnipcjgjeaaWMore
namespace Go.Proofs.Ytnkgbnipcjgjeaa.QI
open Go.RowKit Go.Proofs.YtnkgbnipcjgjeaaW.PrintWords Go.Proofs.YtnkgbnipcjgjeaaW.PrintLast Go.Proofs.YtnkgbnipcjgjeaaW.PrintMore
attribute [local go_sem] max2_int min2_int max_two min_two max_three min_three max_four min_four   -- for this text's walks alone
set_option linter.unusedVariables false
set_option linter.unusedSimpArgs false



def errW : Option Int → Value
  | none => .nilIface
  | some c => .iface 0 (.int .i64 c)
theorem errW_none : errW none = .nilIface := rfl
theorem errW_some (c : Int) : errW (some c) = .iface 0 (.int .i64 c) := rfl

-- the values' own types

end Go.Proofs.Ytnkgbnipcjgjeaa.QI
