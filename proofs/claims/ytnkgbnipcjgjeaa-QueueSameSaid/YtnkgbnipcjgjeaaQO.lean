import Derived.Test.YtnkgbnipcjgjeaaQN
namespace Go.Proofs.Ytnkgbnipcjgjeaa.Qu
open Go.RowKit Go.Proofs.Ytnkgbnipcjgjeaa.QW Go.Proofs.Ytnkgbnipcjgjeaa.Mo Go.Proofs.YtnkgbnipcjgjeaaW.PrintWords Go.Proofs.YtnkgbnipcjgjeaaW.PrintLast Go.Proofs.YtnkgbnipcjgjeaaW.PrintMore
/-- For every input QueueSame returns true. -/
theorem queueSame_walk (w : World) (x0 : List S116) {A0 : Option Addr} {c0 : Nat} (l0 : x0.length ≤ c0) (g0 : Kd.C k116 w A0 x0.length x0) (hw : ∀ z0 ∈ x0, ((Lit.int .i64 z0.f0).wf = true ∧ (Lit.int .i64 z0.f1).wf = true ∧ (∀ z1 ∈ z0.f2, (Lit.int .u8 z1).wf = true))) :
    Calls Try.prog 13 #[.slice A0 x0.length c0] w fun e w' => e = .returned (.bool true) ∧ Below w.heap.size w w' := by
  cases hf : fewV x0 x0 with
  | false => exact qsame_much w x0 l0 g0 hf
  | true =>
    cases ha : anyWrong x0 with
    | true => exact qsame_bad w x0 l0 g0 hf ha
    | false => exact qsame_main w x0 l0 g0 hw hf ha
end Go.Proofs.Ytnkgbnipcjgjeaa.Qu
