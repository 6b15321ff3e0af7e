import Derived.Test.YtkcpohplgdndkaaGeom0
namespace Go.Proofs.Ytkcpohplgdndkaa
open Go.RowKit
def geom_Check.f (a0 a1 a2 a3 a4 a5 a6 : Int) : Option Int := some (if Right a0 a1 a2 a3 a4 a5 a6 then 0 else 2)
theorem geom_Check.calls (a0_0 a0_1 a0_2 a0_3 a0_4 a0_5 a0_6 : Int) (r : Int) (w : World) (h : geom_Check.f a0_0 a0_1 a0_2 a0_3 a0_4 a0_5 a0_6 = some r) :
    Calls Try.prog 18 #[.agg #[.int .i64 a0_0, .int .i64 a0_1, .int .i64 a0_2, .int .i64 a0_3, .int .i64 a0_4, .int .i64 a0_5, .int .i64 a0_6]] w fun e w' => e = .returned (.int .i64 r) ∧ Below w.heap.size w w' := by
  refine (check_any a0_0 a0_1 a0_2 a0_3 a0_4 a0_5 a0_6 w).mono fun e w' hh => ⟨?_, hh.2⟩
  rw [hh.1]
  obtain rfl := Option.some.inj h
  by_cases c : Right a0_0 a0_1 a0_2 a0_3 a0_4 a0_5 a0_6
  · rw [chk_ok c, if_pos c]
  · rw [chk_no c, if_neg c]
end Go.Proofs.Ytkcpohplgdndkaa
