import Derived.Test.YtnkgbnipcjgjeaaCov
namespace Go.Proofs.Ytnkgbnipcjgjeaa.Qu
open Go.RowKit Go.Proofs.Ytnkgbnipcjgjeaa.QW Go.Proofs.YtnkgbnipcjgjeaaW.PrintWords Go.Proofs.YtnkgbnipcjgjeaaW.PrintLast Go.Proofs.YtnkgbnipcjgjeaaW.PrintMore
set_option linter.unusedVariables false
/-- Place a comes ahead of place b. -/
def ltP (l0 : List S116) (a b : Nat) : Prop := (l0.getD a z116).f1 < (l0.getD b z116).f1 ∨ ((l0.getD a z116).f1 = (l0.getD b z116).f1 ∧ a < b)
instance (l0 : List S116) (a b : Nat) : Decidable (ltP l0 a b) := by unfold ltP; infer_instance
def keepS (l : List S116) (i e : Nat) : Bool := !covV (l.getD i z116).f0 (l.getD i z116).f1 ((l.take e).drop (i + 1))
def segN (l : List S116) (e : Nat) : Nat → Nat → List Int
  | 0, _ => []
  | d + 1, i => (if keepS l i e then [(i : Int)] else []) ++ segN l e d (i + 1)
/-- The places of a segment that are not covered. -/
def segK (l : List S116) (e : Nat) : Nat → Nat → List Nat
  | 0, _ => []
  | d + 1, i => (if keepS l i e then [i] else []) ++ segK l e d (i + 1)
theorem segN_eq (l : List S116) (e : Nat) : ∀ d i, segN l e d i = (segK l e d i).map fun j : Nat => (j : Int)
  | 0, _ => rfl
  | d + 1, i => by
    unfold segN segK
    rw [segN_eq l e d (i + 1), List.map_append]
    cases keepS l i e <;> rfl
theorem segK_lt (l : List S116) (e : Nat) : ∀ d i, ∀ j ∈ segK l e d i, i ≤ j ∧ j < i + d
  | 0, _ => by intro j hj; simp [segK] at hj
  | d + 1, i => by
    intro j hj
    unfold segK at hj
    rcases List.mem_append.1 hj with h | h
    · cases hk : keepS l i e
      · rw [hk] at h; simp at h
      · rw [hk] at h; simp at h; omega
    · have := segK_lt l e d (i + 1) j h; omega
def leP (l : List S116) (x y : Nat) : Bool := !(decide (ltP l y x))
/-- A segment's places, in order. -/
def segR (l : List S116) (fr en : Nat) : List Nat := (segK l en (en - fr) fr).mergeSort (leP l)
end Go.Proofs.Ytnkgbnipcjgjeaa.Qu
