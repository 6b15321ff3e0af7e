import Derived.Test.YtkcpohplgdndkaaWalkBoundGrows
import Derived.Test.YtkcpohplgdndkaaOpen
import Derived.OpenShut
namespace Go.Proofs.Ytkcpohplgdndkaa
open Go.RowKit Go.Proofs.YtkcpohplgdndkaaW.PrintWords
set_option linter.unusedVariables false
theorem boundGrows_walk (w : World) (x0 : ((Int × Int × Int × Int × Int × Int × Int) × Int × Int × Int × Int × Int)) (hw0 : (((Lit.int .i64 x0.1.1).wf = true ∧ (Lit.int .i64 x0.1.2.1).wf = true ∧ (Lit.int .i64 x0.1.2.2.1).wf = true ∧ (Lit.int .i64 x0.1.2.2.2.1).wf = true ∧ (Lit.int .i64 x0.1.2.2.2.2.1).wf = true ∧ (Lit.int .i64 x0.1.2.2.2.2.2.1).wf = true ∧ (Lit.int .i64 x0.1.2.2.2.2.2.2).wf = true) ∧ (Lit.int .i64 x0.2.1).wf = true ∧ (Lit.int .i64 x0.2.2.1).wf = true ∧ (Lit.int .i64 x0.2.2.2.1).wf = true ∧ (Lit.int .i64 x0.2.2.2.2.1).wf = true ∧ (Lit.int .i64 x0.2.2.2.2.2).wf = true)) (x1 : Int) (hw1 : (Lit.int .u16 x1).wf = true) :
    Calls Try.prog 15 #[.agg #[.int .i64 x0.1.1, .int .i64 x0.1.2.1, .int .i64 x0.1.2.2.1, .int .i64 x0.1.2.2.2.1, .int .i64 x0.1.2.2.2.2.1, .int .i64 x0.1.2.2.2.2.2.1, .int .i64 x0.1.2.2.2.2.2.2, .int .i64 x0.2.1, .int .i64 x0.2.2.1, .int .i64 x0.2.2.2.1, .int .i64 x0.2.2.2.2.1, .int .i64 x0.2.2.2.2.2], .int .u16 x1] w fun e w' => e = .returned (.bool true) ∧ Below w.heap.size w w' := by
  obtain ⟨⟨pl, bl, pg, cs, ck, rg, pt⟩, sec, spr, thr, b, buf⟩ := x0
  have hm := bounds_u16 hw1
  clear hw0 hw1
  by_cases h : Valid pl bl pg cs ck rg pt sec spr thr b buf
  · obtain ⟨b', hb⟩ : ∃ b', b' = b + x1 := ⟨_, rfl⟩
    by_cases h' : Valid pl bl pg cs ck rg pt sec spr thr b' buf
    · exact bg_ok hm.1 hm.2 h h' (Lib.hid hb) w
    · exact bg_half hm.1 hm.2 h h' (Lib.hid hb) w
  · exact bg_no hm.1 hm.2 h w
end Go.Proofs.Ytkcpohplgdndkaa
