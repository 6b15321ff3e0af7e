import Derived.Test.YtnkgbnipcjgjeaaFP0
namespace Go.Proofs.Ytnkgbnipcjgjeaa
open Go.RowKit Go.Shelf Go.Sort Go.Lib Go.Proofs.YtnkgbnipcjgjeaaW.PrintWords Go.Proofs.YtnkgbnipcjgjeaaW.PrintLast Go.Proofs.YtnkgbnipcjgjeaaW.PrintMore
set_option linter.unusedVariables false
def gP (l : List (Int × Int)) (i : Nat) : Int × Int := l.getD i (0, 0)
/-- Does a come strictly ahead of b? -/
def ltE (a b : Int × Int) : Bool := decide (a.2 < b.2 ∨ a.2 = b.2 ∧ a.1 < b.1)
/-- The reference's search for the next one: from i on, the best so far. -/
def minGo (l : List (Int × Int)) : Nat → Nat → Int → Int
  | 0, _, best => best
  | d + 1, i, best => if best < 0 ∨ ltE (gP l i) (gP l best.toNat) = true then minGo l d (i + 1) i else minGo l d (i + 1) best
def minI (l : List (Int × Int)) : Int := minGo l l.length 0 (-1)
theorem leQ_of_not_ltE {a b : Int × Int} (h : ltE b a = false) : leQ a b = true := by
  unfold ltE leQ at *
  simp only [decide_eq_false_iff_not, decide_eq_true_eq] at *
  omega
theorem leQ_of_ltE {a b : Int × Int} (h : ltE a b = true) : leQ a b = true := by
  unfold ltE leQ at *
  simp only [decide_eq_true_eq] at *
  omega
theorem leQ_refl (a : Int × Int) : leQ a a = true := by unfold leQ; simp
theorem minGo_ok (l : List (Int × Int)) : ∀ (d i : Nat) (best : Int), i + d = l.length → (best = -1 ∧ i = 0 ∨ 0 ≤ best ∧ best < i ∧ ∀ j, j < i → leQ (gP l best.toNat) (gP l j) = true) →
    (minGo l d i best = -1 ∧ l.length = 0 ∨ 0 ≤ minGo l d i best ∧ minGo l d i best < l.length ∧ ∀ j, j < l.length → leQ (gP l (minGo l d i best).toNat) (gP l j) = true)
  | 0, i, best, hd, h => by
    unfold minGo
    obtain rfl : i = l.length := by omega
    rcases h with ⟨h1, h2⟩ | h
    · exact .inl ⟨h1, h2⟩
    · exact .inr h
  | d + 1, i, best, hd, h => by
    unfold minGo
    split
    · rename_i hc
      refine minGo_ok l d (i + 1) i (by omega) (.inr ⟨by omega, by omega, fun j hj => ?_⟩)
      rw [Int.toNat_natCast]
      by_cases e : j = i
      · rw [e]; exact leQ_refl _
      · rcases h with ⟨h1, h2⟩ | ⟨h1, h2, h3⟩
        · omega
        · rcases hc with hc | hc
          · omega
          · exact leQ_trans _ _ _ (leQ_of_ltE hc) (h3 j (by omega))
    · rename_i hc
      rw [not_or] at hc
      refine minGo_ok l d (i + 1) best (by omega) (.inr ?_)
      rcases h with ⟨h1, h2⟩ | ⟨h1, h2, h3⟩
      · omega
      · refine ⟨h1, by omega, fun j hj => ?_⟩
        by_cases e : j = i
        · rw [e]; exact leQ_of_not_ltE (by simpa using hc.2)
        · exact h3 j (by omega)
theorem erase_perm {α : Type} (l : List α) {j : Nat} (hj : j < l.length) : (l[j] :: l.eraseIdx j).Perm l := by
  rw [List.eraseIdx_eq_take_drop_succ]
  refine (List.perm_middle (l₁ := l.take j) (l₂ := l.drop (j + 1))).symm.trans ?_
  rw [← List.drop_eq_getElem_cons hj, List.take_append_drop]
theorem minI_nil {l : List (Int × Int)} (h : l = []) : minI l = -1 := by subst h; rfl
theorem minI_ok {l : List (Int × Int)} (h : l ≠ []) : ∃ j : Nat, minI l = j ∧ j < l.length ∧ sortP l = gP l j :: sortP (l.eraseIdx j) := by
  have hl : 0 < l.length := List.length_pos_iff.2 h
  rcases minGo_ok l l.length 0 (-1) (by omega) (.inl ⟨rfl, rfl⟩) with ⟨_, h2⟩ | ⟨h1, h2, h3⟩
  · omega
  · have hj : (minI l).toNat < l.length := by unfold minI; omega
    refine ⟨(minI l).toNat, by unfold minI; omega, hj, ?_⟩
    have hg : gP l (minI l).toNat = l[(minI l).toNat] := by unfold gP; rw [List.getD_eq_getElem?_getD, List.getElem?_eq_getElem hj]; rfl
    have hp : (gP l (minI l).toNat :: l.eraseIdx (minI l).toNat).Perm l := by
      rw [hg]
      exact erase_perm l hj
    refine sorted_eq (sortP_sorted l) (List.pairwise_cons.2 ⟨fun p hp' => ?_, sortP_sorted _⟩) ?_
    · have hm : p ∈ l := (List.eraseIdx_sublist _ _).subset ((sortP_perm _).mem_iff.1 hp')
      obtain ⟨i, hi, rfl⟩ := List.getElem_of_mem hm
      have := h3 i hi
      have e : gP l i = l[i] := by unfold gP; rw [List.getD_eq_getElem?_getD, List.getElem?_eq_getElem hi]; rfl
      rw [e] at this
      exact this
    · exact (sortP_perm l).trans (hp.symm.trans ((sortP_perm _).symm.cons _))
theorem listP_nil : listP [] = [] := by unfold listP sortP; rw [List.mergeSort_nil]; rfl
/-- The reference's list: the next one, again and again. -/
def selP : Nat → List (Int × Int) → List Int
  | 0, _ => []
  | d + 1, l => if minI l < 0 then [] else (gP l (minI l).toNat).1 :: selP d (l.eraseIdx (minI l).toNat)
theorem selP_ok : ∀ d (l : List (Int × Int)), l.length ≤ d → selP d l = listP l
  | 0, l, h => by
    obtain rfl : l = [] := List.eq_nil_of_length_eq_zero (by omega)
    rw [listP_nil]; rfl
  | d + 1, l, h => by
    unfold selP
    by_cases hl : l = []
    · rw [minI_nil hl, if_pos (by decide), hl, listP_nil]
    · obtain ⟨j, h1, h2, h3⟩ := minI_ok hl
      rw [h1, if_neg (by omega), Int.toNat_natCast, selP_ok d _ (by rw [List.length_eraseIdx, if_pos h2]; omega)]
      unfold listP
      rw [h3]; rfl
end Go.Proofs.Ytnkgbnipcjgjeaa
