import Derived.Test.YtkcpohplgdndkaaWalkBoundTells
import Derived.Test.YtkcpohplgdndkaaOpen
namespace Go.Proofs.Ytkcpohplgdndkaa
open Go.RowKit Go.Proofs.YtkcpohplgdndkaaW.PrintWords
set_option linter.unusedVariables false
theorem boundTells_walk (w : World) (x0 : ((Int × Int × Int × Int × Int × Int × Int) × Int × Int × Int × Int × Int)) (hw0 : (((Lit.int .i64 x0.1.1).wf = true ∧ (Lit.int .i64 x0.1.2.1).wf = true ∧ (Lit.int .i64 x0.1.2.2.1).wf = true ∧ (Lit.int .i64 x0.1.2.2.2.1).wf = true ∧ (Lit.int .i64 x0.1.2.2.2.2.1).wf = true ∧ (Lit.int .i64 x0.1.2.2.2.2.2.1).wf = true ∧ (Lit.int .i64 x0.1.2.2.2.2.2.2).wf = true) ∧ (Lit.int .i64 x0.2.1).wf = true ∧ (Lit.int .i64 x0.2.2.1).wf = true ∧ (Lit.int .i64 x0.2.2.2.1).wf = true ∧ (Lit.int .i64 x0.2.2.2.2.1).wf = true ∧ (Lit.int .i64 x0.2.2.2.2.2).wf = true)) (x1 : Int) (hw1 : (Lit.int .i64 x1).wf = true) (x2 : Int) (hw2 : (Lit.int .i64 x2).wf = true) :
    Calls Try.prog 14 #[.agg #[.int .i64 x0.1.1, .int .i64 x0.1.2.1, .int .i64 x0.1.2.2.1, .int .i64 x0.1.2.2.2.1, .int .i64 x0.1.2.2.2.2.1, .int .i64 x0.1.2.2.2.2.2.1, .int .i64 x0.1.2.2.2.2.2.2, .int .i64 x0.2.1, .int .i64 x0.2.2.1, .int .i64 x0.2.2.2.1, .int .i64 x0.2.2.2.2.1, .int .i64 x0.2.2.2.2.2], .int .i64 x1, .int .i64 x2] w fun e w' => e = .returned (.bool true) ∧ Below w.heap.size w w' := by
  obtain ⟨⟨pl, bl, pg, cs, ck, rg, pt⟩, sec, spr, thr, b, buf⟩ := x0
  clear hw0 hw1 hw2
  by_cases h : Valid pl bl pg cs ck rg pt sec spr thr b buf
  · exact bt_ok h w
  · exact bt_no h w
end Go.Proofs.Ytkcpohplgdndkaa
