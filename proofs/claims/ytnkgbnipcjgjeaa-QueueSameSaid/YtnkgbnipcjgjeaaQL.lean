import Derived.Test.YtnkgbnipcjgjeaaQS
import Derived.Test.YtnkgbnipcjgjeaaAwk0
import Derived.Test.YtnkgbnipcjgjeaaSeg2
namespace Go.Proofs.Ytnkgbnipcjgjeaa.Qu
open Go.RowKit Go.Proofs.Ytnkgbnipcjgjeaa.QW Go.Proofs.Ytnkgbnipcjgjeaa.Mo Go.Proofs.YtnkgbnipcjgjeaaW.PrintWords Go.Proofs.YtnkgbnipcjgjeaaW.PrintLast Go.Proofs.YtnkgbnipcjgjeaaW.PrintMore
set_option linter.unusedVariables false
theorem segOk : SegOk := fun A0 c0 fr en l0 w h1 h2 h3 h4 h5 => seg_ok A0 c0 fr en l0 w h1 h2 h3 h4 h5
theorem few_call (A0 : Option Addr) (c0 : Nat) (l : List S116) (w : World) (hr : Kd.C k116 w A0 l.length l) (hc : l.length ≤ c0) :
    Calls Try.prog 64 #[.slice A0 l.length c0] w fun e w' => e = .returned (.bool (fewV l l)) ∧ Below w.heap.size w w' := by
  have hl : l.length ≤ 9223372036854775807 := by have := hr.2.1; omega
  obtain ⟨k, hk⟩ := few_f l hl
  exact incunablelaw47_few.calls k A0 c0 l _ w hr hc (hk k (Nat.le_refl _))
theorem cov_call (A0 : Option Addr) (c0 : Nat) (l : List S116) (w : World) (hr : Kd.C k116 w A0 l.length l) (hc : l.length ≤ c0) (hl : l.length ≤ 1000) :
    Calls Try.prog 67 #[.slice A0 l.length c0] w fun e w' => ∃ v, e = .returned v ∧ Kd.R (Kd.int .i64) 3 w' w.heap.size (fun _ => True) v (covL l l.length 0) ∧ Below w.heap.size w w' := by
  obtain ⟨k, hk⟩ := qcov_f l hl
  exact queue_Covered.calls k A0 c0 l _ w hr hc (hk k (Nat.le_refl _))
theorem rcov_call (A0 : Option Addr) (c0 : Nat) (l : List S116) (w : World) (hr : Kd.C k116 w A0 l.length l) (hc : l.length ≤ c0) (hl : l.length ≤ 1000) (a : Nat) (ha : a < l.length) :
    Calls Try.prog 72 #[.slice A0 l.length c0, .int .i64 (a : Int)] w fun e w' => e = .returned (.bool (covA l a)) ∧ Below w.heap.size w w' := by
  obtain ⟨k, hk⟩ := rcov_f l hl a ha
  exact incunableref47_Covered.calls k A0 c0 l (a : Int) _ w hr hc (hk k (Nat.le_refl _))
theorem few_40 {l : List S116} (h : fewV l l = true) : l.length ≤ 40 := by
  unfold fewV at h
  split at h
  · cases h
  · exact of_decide_eq_true h
def ordI (l : List S116) : List Int := (ordK l).map fun j : Nat => (j : Int)
theorem betL_ord (l : List S116) : betL l l.length 0 0 [] = ordI l := betL_cast l l.length 0 0 []
end Go.Proofs.Ytnkgbnipcjgjeaa.Qu
