-- Written by a program of this session (wip/tools/qprint.sh) out of the translation; Lean checks it.
import Derived.Test.YthcabffoaaknaaaProg
import Derived.Below
import Derived.Deep.Draws
import Derived.Deep.AppendLies
import Derived.Maps.AppendAt
import Derived.OwnWalk
import Derived.Laws.BytesArg
import Derived.Laws.MakeOwn
import Derived.Laws.OwnMore
import Derived.Deep.OwnRows
import Derived.Tactics
import Derived.Lib.ConvBytes
import Derived.Laws.Slices
import Derived.WalkKit
import Derived.KernelRfl
import Derived.RowKit3
import Derived.Deep.LoopGhost
import Derived.Deep.QuietTactic
import Derived.BigQuiet
import Derived.WideLaws
import Derived.Deep.DeepCutAuto
import Derived.Deep.CutBlock
import Derived.Deep.RegionHeld3
import Derived.Laws.Rows
import Derived.Lib.AppendStr
import Derived.ArgAppend
import Derived.Laws.IdiomCopy
import Derived.OrdersHeld
import Derived.Laws.BitsLemmas
import Derived.RowKit
import Derived.Test.YthcabffoaaknaaaGiven7
import Derived.Test.YthcabffoaaknaaaWWords
import Derived.Test.YthcabffoaaknaaaWLast
import Derived.Test.YthcabffoaaknaaaWTab
import Derived.Test.YthcabffoaaknaaaWFour
import Derived.Test.YthcabffoaaknaaaWQPut
import Derived.Test.YthcabffoaaknaaaWApart
import Derived.Test.YthcabffoaaknaaaWArr
import Derived.Test.YthcabffoaaknaaaWZeros
import Derived.Test.YthcabffoaaknaaaWFoot
import Derived.Test.YthcabffoaaknaaaWKept
import Derived.Test.YthcabffoaaknaaaWShare
import Derived.Test.YthcabffoaaknaaaWN
import Derived.Test.YthcabffoaaknaaaWFootNe
import Derived.Test.YthcabffoaaknaaaWAt
import Derived.Test.YthcabffoaaknaaaWEqStruct
import Derived.Test.YthcabffoaaknaaaWRepsOne
import Derived.Test.YthcabffoaaknaaaWInv
import Derived.Test.YthcabffoaaknaaaWInvWords
import Derived.Test.YthcabffoaaknaaaWGuard
import Derived.Test.YthcabffoaaknaaaWNEv
import Derived.Test.YthcabffoaaknaaaWMore
namespace Go.Proofs.Ythcabffoaaknaaa.QW
open Go.RowKit Go.Proofs.YthcabffoaaknaaaW.PrintWords Go.Proofs.YthcabffoaaknaaaW.PrintLast Go.Proofs.YthcabffoaaknaaaW.PrintMore
attribute [local go_sem] max2_int min2_int max_two min_two max_three min_three max_four min_four   -- for this text's walks alone
set_option linter.unusedVariables false
set_option linter.unusedSimpArgs false



def errW : Option Int → Value
  | none => .nilIface
  | some c => .iface 0 (.int .i64 c)
theorem errW_none : errW none = .nilIface := rfl
theorem errW_some (c : Int) : errW (some c) = .iface 0 (.int .i64 c) := rfl

theorem info3 : (Try.prog.info? 3).map (fun i => (i.zero, i.size, i.bytes)) = some (some (.int .i64 0), 1, 8) := by kernel_rfl
-- the values' own types

end Go.Proofs.Ythcabffoaaknaaa.QW
