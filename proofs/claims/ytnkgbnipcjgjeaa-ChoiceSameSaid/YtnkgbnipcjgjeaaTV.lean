import Derived.Test.YtnkgbnipcjgjeaaTU
namespace Go.Proofs.Ytnkgbnipcjgjeaa
open Go.RowKit Go.Shelf Go.Sort Go.Lib Go.Proofs.YtnkgbnipcjgjeaaW.PrintWords Go.Proofs.YtnkgbnipcjgjeaaW.PrintLast Go.Proofs.YtnkgbnipcjgjeaaW.PrintMore
set_option linter.unusedVariables false
theorem choiceSame_walk (w : World) (x0 : ((List Int) × (List Int) × (List (Int × Int × Int)) × Int × (List Int) × (List Int))) {A0_0 : Option Addr} {c0_0 : Nat} (l0_0 : x0.1.length ≤ c0_0) (g0_0 : Kd.C (Kd.int .i64) w A0_0 x0.1.length x0.1) {A0_1 : Option Addr} {c0_1 : Nat} (l0_1 : x0.2.1.length ≤ c0_1) (g0_1 : Kd.C (Kd.int .i64) w A0_1 x0.2.1.length x0.2.1) {A0_2 : Option Addr} {c0_2 : Nat} (l0_2 : x0.2.2.1.length ≤ c0_2) (g0_2 : Kd.C (Kd.pair (Kd.int .i64) (Kd.pair (Kd.int .i64) (Kd.int .i64))) w A0_2 x0.2.2.1.length x0.2.2.1) {A0_4 : Option Addr} {c0_4 : Nat} (l0_4 : x0.2.2.2.2.1.length ≤ c0_4) (g0_4 : Kd.C (Kd.int .u8) w A0_4 x0.2.2.2.2.1.length x0.2.2.2.2.1) {A0_5 : Option Addr} {c0_5 : Nat} (l0_5 : x0.2.2.2.2.2.length ≤ c0_5) (g0_5 : Kd.C (Kd.int .i64) w A0_5 x0.2.2.2.2.2.length x0.2.2.2.2.2) (hw0 : ((∀ z0 ∈ x0.1, (Lit.int .i64 z0).wf = true) ∧ (∀ z0 ∈ x0.2.1, (Lit.int .i64 z0).wf = true) ∧ (∀ z0 ∈ x0.2.2.1, ((Lit.int .i64 z0.1).wf = true ∧ (Lit.int .i64 z0.2.1).wf = true ∧ (Lit.int .i64 z0.2.2).wf = true)) ∧ (Lit.int .i64 x0.2.2.2.1).wf = true ∧ (∀ z0 ∈ x0.2.2.2.2.1, (Lit.int .u8 z0).wf = true) ∧ (∀ z0 ∈ x0.2.2.2.2.2, (Lit.int .i64 z0).wf = true))) (x1 : Int) (hw1 : (Lit.int .u8 x1).wf = true) :
    Calls Try.prog 9 #[.agg #[.slice A0_0 x0.1.length c0_0, .slice A0_1 x0.2.1.length c0_1, .slice A0_2 x0.2.2.1.length c0_2, .int .i64 x0.2.2.2.1, .slice A0_4 x0.2.2.2.2.1.length c0_4, .slice A0_5 x0.2.2.2.2.2.length c0_5], .int .u8 x1] w fun e w' => e = .returned (.bool true) ∧ Below w.heap.size w w' := by
  obtain ⟨busy, fails, turns, cut, torn, marked⟩ := x0
  have hb : 0 ≤ x1 ∧ x1 < 256 := by
    simp [Lit.wf, IntKind.min, IntKind.max, IntKind.signed, IntKind.bits] at hw1
    omega
  obtain ⟨n, rfl⟩ := Int.eq_ofNat_of_zero_le hb.1
  exact choiceSame_main ⟨busy, fails, turns, cut, torn, marked⟩ ⟨A0_0, busy.length, c0_0, A0_1, fails.length, c0_1, A0_2, turns.length, c0_2, cut, A0_4, torn.length, c0_4, A0_5, marked.length, c0_5⟩ n (by omega) w ⟨rfl, rfl, rfl, rfl, rfl, rfl, g0_0, g0_1, g0_2, g0_4, g0_5, l0_0, l0_1, l0_4⟩
end Go.Proofs.Ytnkgbnipcjgjeaa
