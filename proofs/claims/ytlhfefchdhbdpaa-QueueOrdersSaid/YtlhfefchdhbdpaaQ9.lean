import Derived.Test.YtlhfefchdhbdpaaPureQ2
namespace Go.Proofs.Ytlhfefchdhbdpaa
open Go.RowKit Go.Proofs.Ytlhfefchdhbdpaa.QW Go.Proofs.YtlhfefchdhbdpaaW.PrintWords Go.Proofs.YtlhfefchdhbdpaaW.PrintLast Go.Proofs.YtlhfefchdhbdpaaW.PrintMore
set_option linter.unusedVariables false
theorem queueOrders_walk (w : World) (x0 : (List S36)) {A0_0 : Option Addr} {c0_0 : Nat} (l0_0 : x0.length ≤ c0_0) (g0_0 : Kd.C k36 w A0_0 x0.length x0) (hw0 : (∀ z0 ∈ x0, ((Lit.int .i64 z0.f0).wf = true ∧ (Lit.int .i64 z0.f1).wf = true ∧ (∀ z1 ∈ z0.f2, (Lit.int .u8 z1).wf = true)))) :
    Calls Try.prog 3 #[.slice A0_0 x0.length c0_0] w fun e w' => e = .returned (.bool true) ∧ Below w.heap.size w w' := by
  obtain ⟨k, hk⟩ := queueOrders_pure x0 g0_0.2.1
  exact incunablelaw47_QueueOrders.calls k A0_0 c0_0 x0 true w g0_0 l0_0 hk
end Go.Proofs.Ytlhfefchdhbdpaa
