-- Written by a program of this session (wip/tools/qprint.sh) out of the translation; Lean checks it.
import Derived.Test.YtkcpohplgdndkaaProg
import Derived.Below
import Derived.Deep.Draws
import Derived.Deep.AppendLies
import Derived.Maps.AppendAt
import Derived.OwnWalk
import Derived.Laws.BytesArg
import Derived.Laws.MakeOwn
import Derived.Laws.OwnMore
import Derived.Deep.OwnRows
import Derived.Tactics
import Derived.Lib.ConvBytes
import Derived.Laws.Slices
import Derived.WalkKit
import Derived.KernelRfl
import Derived.RowKit3
import Derived.Deep.LoopGhost
import Derived.Deep.QuietTactic
import Derived.BigQuiet
import Derived.WideLaws
import Derived.Deep.DeepCutAuto
import Derived.Deep.CutBlock
import Derived.Deep.RegionHeld3
import Derived.Laws.Rows
import Derived.Lib.AppendStr
import Derived.ArgAppend
import Derived.Laws.IdiomCopy
import Derived.OrdersHeld
import Derived.Laws.BitsLemmas
import Derived.RowKit
import Derived.Test.YtkcpohplgdndkaaGiven0
import Derived.Test.YtkcpohplgdndkaaWWords
import Derived.Test.YtkcpohplgdndkaaWLast
import Derived.Test.YtkcpohplgdndkaaWTab
import Derived.Test.YtkcpohplgdndkaaWFour
import Derived.Test.YtkcpohplgdndkaaWQPut
import Derived.Test.YtkcpohplgdndkaaWApart
import Derived.Test.YtkcpohplgdndkaaWArr
import Derived.Test.YtkcpohplgdndkaaWZeros
import Derived.Test.YtkcpohplgdndkaaWFoot
import Derived.Test.YtkcpohplgdndkaaWKept
import Derived.Test.YtkcpohplgdndkaaWShare
import Derived.Test.YtkcpohplgdndkaaWN
import Derived.Test.YtkcpohplgdndkaaWFootNe
import Derived.Test.YtkcpohplgdndkaaWAt
import Derived.Test.YtkcpohplgdndkaaWEqStruct
import Derived.Test.YtkcpohplgdndkaaWRepsOne
import Derived.Test.YtkcpohplgdndkaaWInv
import Derived.Test.YtkcpohplgdndkaaWInvWords
import Derived.Test.YtkcpohplgdndkaaWGuard
import Derived.Test.YtkcpohplgdndkaaWNEv
import Derived.Test.YtkcpohplgdndkaaWMore
namespace Go.Proofs.Ytkcpohplgdndkaa.QB
open Go.RowKit Go.Proofs.YtkcpohplgdndkaaW.PrintWords Go.Proofs.YtkcpohplgdndkaaW.PrintLast Go.Proofs.YtkcpohplgdndkaaW.PrintMore
attribute [local go_sem] max2_int min2_int max_two min_two max_three min_three max_four min_four   -- for this text's walks alone
set_option linter.unusedVariables false
set_option linter.unusedSimpArgs false



def errW : Option Int → Value
  | none => .nilIface
  | some c => .iface 0 (.int .i64 c)
theorem errW_none : errW none = .nilIface := rfl
theorem errW_some (c : Int) : errW (some c) = .iface 0 (.int .i64 c) := rfl

theorem info3 : (Try.prog.info? 3).map (fun i => (i.zero, i.size, i.bytes)) = some (some (.int .i64 0), 1, 8) := by kernel_rfl
-- the values' own types

end Go.Proofs.Ytkcpohplgdndkaa.QB
