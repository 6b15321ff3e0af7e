import Derived.Test.YtnkgbnipcjgjeaaDR
namespace Go.Proofs.Ytnkgbnipcjgjeaa
open Go.RowKit Go.Shelf Go.Sort Go.Lib Go.Proofs.YtnkgbnipcjgjeaaW.PrintWords Go.Proofs.YtnkgbnipcjgjeaaW.PrintLast Go.Proofs.YtnkgbnipcjgjeaaW.PrintMore
set_option linter.unusedVariables false
theorem durablePlays_walk (w : World) (x0 : Int) (hw0 : (Lit.int .i64 x0).wf = true) (x1 : Int) (hw1 : (Lit.int .i64 x1).wf = true) (x2 : (List (Int × Int × (List Int)))) {A2_0 : Option Addr} {c2_0 : Nat} (l2_0 : x2.length ≤ c2_0) (g2_0 : Kd.C (Kd.pair (Kd.int .i64) (Kd.pair (Kd.int .i64) (Kd.slice 5 (Kd.int .u8)))) w A2_0 x2.length x2) (hw2 : (∀ z0 ∈ x2, ((Lit.int .i64 z0.1).wf = true ∧ (Lit.int .i64 z0.2.1).wf = true ∧ (∀ z1 ∈ z0.2.2, (Lit.int .u8 z1).wf = true)))) :
    Calls Try.prog 11 #[.int .i64 x0, .int .i64 x1, .slice A2_0 x2.length c2_0] w fun e w' => e = .returned (.bool true) ∧ Below w.heap.size w w' := by
  by_cases h : x0 < 1 ∨ 65536 < x0 ∨ x1 < 1 ∨ 8192 < x1
  · exact dplays_bad x0 x1 _ w h
  · obtain ⟨n, rfl⟩ := Int.eq_ofNat_of_zero_le (show 0 ≤ x0 by omega)
    obtain ⟨sz, rfl⟩ := Int.eq_ofNat_of_zero_le (show 0 ≤ x1 by omega)
    by_cases hm : 50 < n ∨ 50 < sz ∨ 60 < x2.length
    · exact dplays_much n sz x2.length A2_0 c2_0 w (by omega) (by omega) (by omega) (by omega) hm
    · exact dplays_main w n sz (by omega) (by omega) (by omega) (by omega) x2 (by omega) g2_0 hw2
end Go.Proofs.Ytnkgbnipcjgjeaa
