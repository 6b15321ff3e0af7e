import Derived.Test.YthcabffoaaknaaaPureW1
namespace Go.Proofs.Ythcabffoaaknaaa
open Go.RowKit Go.Proofs.Ythcabffoaaknaaa.QW Go.Proofs.YthcabffoaaknaaaW.PrintWords Go.Proofs.YthcabffoaaknaaaW.PrintLast Go.Proofs.YthcabffoaaknaaaW.PrintMore
set_option linter.unusedVariables false
theorem prod_bd {n x : Int} (n0 : 0 ≤ n) (n1 : n ≤ 1000) (x0 : 0 ≤ x) (x1 : x ≤ 2147483648) : 0 ≤ n * x ∧ n * x ≤ 2147483648000 :=
  ⟨Int.mul_nonneg n0 x0, by have := Int.mul_le_mul n1 x1 x0 (by omega); omega⟩
theorem sq_bd {d : Int} (c : ¬ absI d ≥ 2147483648) : 0 ≤ d * d ∧ d * d ≤ 4611686018427387904 := by
  have hsq : absI d * absI d = d * d := by unfold absI; split; exact Int.neg_mul_neg d d; rfl
  have h3 : 0 ≤ absI d := by unfold absI; split <;> omega
  have h4 : absI d ≤ 2147483648 := by omega
  have := Int.mul_le_mul h4 h4 h3 (by omega)
  rw [hsq] at this
  exact ⟨by rw [← hsq]; exact Int.mul_nonneg h3 h3, by omega⟩
theorem wsq_ev (l : List Int) (hok : okN l) (hl : l.length ≤ 1000) (S : Int) (s0 : 0 ≤ S) (s1 : S ≤ 2147483648000) : ∀ (d i : Nat) (out : Int), i + d = l.length → 0 ≤ out → out ≤ 4611686018427387904 → EvL (fun k => wear_Squares.l0 k l S out l (l.length : Int) (i : Int)) (sqL l.length S out (l.drop i)) := by
  intro d
  induction d with
  | zero =>
    intro i out hd a0 a1
    rw [List.drop_eq_nil_of_le (by omega)]
    refine EvL.step (h := fun _ => some (out, 0)) (fun k => ?_) EvL.const
    simp only [wear_Squares.l0]
    rw [if_neg (by omega)]
  | succ d ih =>
    intro i out hd a0 a1
    have hi : i < l.length := by omega
    have hb := okN_getD hok i hi
    rw [drop_getD l i hi]
    have hP := prod_bd (n := (l.length : Int)) (x := l.getD i 0) (by omega) (by omega) hb.1 hb.2
    obtain ⟨x, hx⟩ : ∃ x, x = l.getD i 0 := ⟨_, rfl⟩
    rw [← hx] at hP hb ⊢
    obtain ⟨p, hp⟩ : ∃ p, p = (l.length : Int) * x := ⟨_, rfl⟩
    have hu : ∀ k, wear_Squares.l0 (k + 1) l S out l (l.length : Int) (i : Int) = (if absI (p - S) ≥ 2147483648 then some (0, false) else some ((p - S) * (p - S), true)).bind fun bt140 => (if bt140.2 = true then (if bt140.1 ≥ (wrap64 (4611686018427387904 - out)) then (some (0, 3)) else (wear_Squares.l0 k l S (wrap64 (out + bt140.1)) l (l.length : Int) ((i + 1 : Nat) : Int))) else (some (0, 3))) := fun k => by
      simp only [wear_Squares.l0]
      rw [if_pos (by omega), if_pos (by omega), if_pos (by omega), rd_nat, ← hx, w_succ i (by omega), IntWalk.wrap64_in ((l.length : Int) * x) (by omega), ← hp, IntWalk.wrap64_in (p - S) (by omega), square_f _ (by omega) (by omega)]
    unfold sqL
    rw [← hp]
    by_cases c : absI (p - S) ≥ 2147483648
    · rw [if_pos c]
      refine EvL.step (h := fun _ => some (0, 3)) (fun k => ?_) EvL.const
      rw [hu, if_pos c]
      rfl
    · rw [if_neg c]
      have hq := sq_bd c
      obtain ⟨q, hqq⟩ : ∃ q, q = (p - S) * (p - S) := ⟨_, rfl⟩
      rw [← hqq] at hq hu ⊢
      by_cases c2 : q ≥ 4611686018427387904 - out
      · rw [if_pos c2]
        refine EvL.step (h := fun _ => some (0, 3)) (fun k => ?_) EvL.const
        rw [hu, if_neg c, Option.bind_some, if_pos rfl, if_pos (by rw [IntWalk.wrap64_in _ (by omega)]; exact c2)]
      · rw [if_neg c2]
        refine EvL.step (h := fun k => wear_Squares.l0 k l S (out + q) l (l.length : Int) ((i + 1 : Nat) : Int)) (fun k => ?_) (ih (i + 1) (out + q) (by omega) (by omega) (by omega))
        rw [hu, if_neg c, Option.bind_some, if_pos rfl, if_neg (by rw [IntWalk.wrap64_in _ (by omega)]; exact c2), IntWalk.wrap64_in _ (by omega)]
theorem rsq_ev (l : List Int) (hok : okN l) (hl : l.length ≤ 1000) (S : Int) (hS : S = sumI l) : ∀ (d i : Nat) (out : Int), i + d = l.length → 0 ≤ out → out ≤ 4611686018427387904 → EvL (fun k => incunableref38_Squares.l0 k l out (i : Int)) (sqL l.length S out (l.drop i)) := by
  have hsb := sumI_bd l hok
  rw [← hS] at hsb
  have hsum := rsum_f l hok hl
  rw [← hS] at hsum
  intro d
  induction d with
  | zero =>
    intro i out hd a0 a1
    rw [List.drop_eq_nil_of_le (by omega)]
    refine EvL.step (h := fun _ => some (out, 0)) (fun k => ?_) EvL.const
    simp only [incunableref38_Squares.l0]
    rw [if_neg (by omega)]
  | succ d ih =>
    intro i out hd a0 a1
    have hi : i < l.length := by omega
    have hb := okN_getD hok i hi
    rw [drop_getD l i hi]
    have hP := prod_bd (n := (l.length : Int)) (x := l.getD i 0) (by omega) (by omega) hb.1 hb.2
    obtain ⟨x, hx⟩ : ∃ x, x = l.getD i 0 := ⟨_, rfl⟩
    rw [← hx] at hP hb ⊢
    obtain ⟨p, hp⟩ : ∃ p, p = (l.length : Int) * x := ⟨_, rfl⟩
    rw [← hp] at hP
    refine EvL.step (fun k => by
      simp only [incunableref38_Squares.l0]
      rw [if_pos (by omega), if_pos (by omega)]) ?_
    refine EvL.bind hsum ?_
    rw [rd_nat, ← hx, ← hp, w_succ i (by omega), IntWalk.wrap64_in p (by omega), IntWalk.wrap64_in (p - S) (by omega), IntWalk.wrap64_in (-(p - S)) (by omega), IntWalk.wrap64_in (4611686018427387904 - out) (by omega)]
    unfold sqL
    rw [← hp]
    by_cases c : p - S < 0
    · have ha : absI (p - S) = -(p - S) := by unfold absI; rw [if_pos c]
      rw [ha]
      simp only [if_pos c]
      by_cases c1 : -(p - S) ≥ 2147483648
      · simp only [if_pos c1]; exact EvL.const
      · have hq := sq_bd (d := p - S) (by rw [ha]; exact c1)
        rw [show -(p - S) * -(p - S) = (p - S) * (p - S) from Int.neg_mul_neg _ _]
        obtain ⟨q, hqq⟩ : ∃ q, q = (p - S) * (p - S) := ⟨_, rfl⟩
        rw [← hqq] at hq ⊢
        simp only [if_neg c1]
        rw [IntWalk.wrap64_in q (by omega)]
        by_cases c2 : q ≥ 4611686018427387904 - out
        · simp only [if_pos c2]; exact EvL.const
        · simp only [if_neg c2]
          rw [IntWalk.wrap64_in (out + q) (by omega)]
          exact ih (i + 1) (out + q) (by omega) (by omega) (by omega)
    · have ha : absI (p - S) = p - S := by unfold absI; rw [if_neg c]
      rw [ha]
      simp only [if_neg c]
      by_cases c1 : p - S ≥ 2147483648
      · simp only [if_pos c1]; exact EvL.const
      · have hq := sq_bd (d := p - S) (by rw [ha]; exact c1)
        obtain ⟨q, hqq⟩ : ∃ q, q = (p - S) * (p - S) := ⟨_, rfl⟩
        rw [← hqq] at hq ⊢
        simp only [if_neg c1]
        rw [IntWalk.wrap64_in q (by omega)]
        by_cases c2 : q ≥ 4611686018427387904 - out
        · simp only [if_pos c2]; exact EvL.const
        · simp only [if_neg c2]
          rw [IntWalk.wrap64_in (out + q) (by omega)]
          exact ih (i + 1) (out + q) (by omega) (by omega) (by omega)
theorem may_some {l : List Int} (hl : l.length ≤ 1000) : wear_may.f l = some (mayV l) := by unfold wear_may.f; rw [if_pos hl]
theorem wsq_f (l : List Int) (hl : l.length ≤ 1000) (hm : mayV l = 0) : EvL (fun k => wear_Squares.f k l) (sqL l.length (sumI l) 0 l) := by
  obtain ⟨hok, hp⟩ := mayV_ok hm
  have hsb := sumI_bd l hok
  unfold wear_Squares.f
  rw [may_some hl, hm]
  simp only [Option.bind_some, if_true]
  refine EvL.bind (total_f l hok hl) ?_
  have := wsq_ev l hok hl (sumI l) hsb.1 (by omega) l.length 0 0 (by omega) (by omega) (by omega)
  rw [List.drop_zero] at this
  exact this
theorem wsq_no (l : List Int) (hl : l.length ≤ 1000) (hm : mayV l ≠ 0) : EvL (fun k => wear_Squares.f k l) (0, mayV l) := by
  unfold wear_Squares.f
  rw [may_some hl]
  refine ⟨0, fun k _ => ?_⟩
  show (if mayV l = 0 then _ else some (0, mayV l)) = _
  rw [if_neg hm]
theorem rsq_f (l : List Int) (hok : okN l) (hl : l.length ≤ 1000) : EvL (fun k => incunableref38_Squares.f k l) (sqL l.length (sumI l) 0 l) := by
  have := rsq_ev l hok hl (sumI l) rfl l.length 0 0 (by omega) (by omega) (by omega)
  rw [List.drop_zero] at this
  exact this
/-! ranks -/
theorem rankF_perm (l : List Int) (m : Nat) : (rankF l m).Perm (List.finRange (m + 1)) := List.mergeSort_perm _ _
theorem rankF_rises (l : List Int) (m : Nat) : (rankF l m).Pairwise fun x y => ¬ ltP l y.val x.val := by
  have h := List.pairwise_mergeSort (le := fun x y : Fin (m + 1) => !(Go.Proofs.ltOf (cfF l m) y x)) (by
      intro a b c h1 h2
      rw [ltF, Bool.not_eq_true'] at h1 h2 ⊢
      have a1 := of_decide_eq_false h1
      have a2 := of_decide_eq_false h2
      exact decide_eq_false (by unfold ltP at *; omega)) (by
      intro a b
      rw [ltF, ltF]
      by_cases c : ltP l b.val a.val
      · have c' : ¬ ltP l a.val b.val := by unfold ltP at *; omega
        simp [c']
      · simp [c]) (List.finRange (m + 1))
  refine h.imp ?_
  intro a b hab
  rw [ltF, Bool.not_eq_true'] at hab
  exact of_decide_eq_false hab
theorem fin_map (l : List Int) : ∀ m, l.length = m → (List.finRange m).map (fun i : Fin m => l.getD i.val 0) = l := by
  intro m hm
  apply List.ext_getElem
  · simp [hm]
  · intro i h1 h2
    simp [List.getElem?_eq_getElem h2]
theorem rank_sorted (l : List Int) (m : Nat) (hm : l.length = m + 1) : (rankF l m).map (fun i => l.getD i.val 0) = sortL l := by
  refine List.Perm.eq_of_pairwise (le := fun a b : Int => a ≤ b) (fun a b _ _ h1 h2 => by omega) ?_ (sortL_rises l) ?_
  · rw [List.pairwise_map]
    refine (rankF_rises l m).imp ?_
    intro a b h
    unfold ltP at h
    omega
  · refine ((rankF_perm l m).map _).trans ?_
    rw [fin_map l (m + 1) hm]
    exact (sortL_perm l).symm
theorem rank_len (l : List Int) (m : Nat) : (rankF l m).length = m + 1 := by rw [(rankF_perm l m).length_eq, List.length_finRange]
theorem sort_len (l : List Int) : (sortL l).length = l.length := (sortL_perm l).length_eq
end Go.Proofs.Ythcabffoaaknaaa
