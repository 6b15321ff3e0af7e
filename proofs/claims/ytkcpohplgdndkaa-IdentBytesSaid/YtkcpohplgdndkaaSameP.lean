import Derived.Test.YtkcpohplgdndkaaQGx1
namespace Go.Proofs.Ytkcpohplgdndkaa.QG
open Go.RowKit Go.Proofs.YtkcpohplgdndkaaW.PrintWords Go.Proofs.YtkcpohplgdndkaaW.PrintLast
theorem w64 (x : Int) (h0 : -9223372036854775808 ≤ x) (h1 : x ≤ 9223372036854775807) : wrap64 x = x := by
  unfold wrap64; omega
theorem w64_succ (i n : Nat) (h : i < n) (hn : n ≤ 140737488351232) : wrap64 ((i : Int) + 1) = ((i + 1 : Nat) : Int) := by
  rw [w64 _ (by omega) (by omega)]; rfl
theorem rd_nat (xs : List Int) (i : Nat) (h : i < xs.length) : rd xs (i : Int) = xs[i] := by
  simp [rd, List.getD_eq_getElem?_getD, List.getElem?_eq_getElem h]
theorem same_l0 (xs ys : List Int) (hl : xs.length = ys.length) (hm : xs.length ≤ 140737488351232) (d : Nat) : ∀ (k : Nat) (i : Nat), i ≤ xs.length → xs.length - i = d → d < k →
    incunableref01_Same.l0 k xs ys i = some (decide (xs.drop i = ys.drop i)) := by
  induction d with
  | zero =>
    intro k i h0 hd hk
    obtain ⟨k, rfl⟩ : ∃ m, k = m + 1 := ⟨k - 1, by omega⟩
    simp only [incunableref01_Same.l0]
    rw [if_neg (by omega), List.drop_of_length_le (by omega), List.drop_of_length_le (by omega)]
    simp
  | succ d ih =>
    intro k i h0 hd hk
    obtain ⟨k, rfl⟩ : ∃ m, k = m + 1 := ⟨k - 1, by omega⟩
    simp only [incunableref01_Same.l0]
    have hx : i < xs.length := by omega
    have hy : i < ys.length := by omega
    rw [if_pos (by omega), if_pos (by omega), if_pos (by omega)]
    rw [rd_nat xs i hx, rd_nat ys i hy, List.drop_eq_getElem_cons hx, List.drop_eq_getElem_cons hy]
    by_cases c : xs[i] = ys[i]
    · rw [if_pos c, w64_succ i _ hx hm, ih k (i + 1) (by omega) (by omega) (by omega), c]
      simp only [List.cons.injEq, true_and]
    · rw [if_neg c]
      simp only [List.cons.injEq, c, false_and, decide_false]
theorem same_eq (xs ys : List Int) (hm : xs.length ≤ 140737488351232) (k : Nat) (hk : xs.length < k) : incunableref01_Same.f k xs ys = some (decide (xs = ys)) := by
  unfold incunableref01_Same.f
  by_cases c : xs.length = ys.length
  · rw [if_pos (by omega)]
    have := same_l0 xs ys c hm xs.length k 0 (by omega) (by omega) hk
    simpa using this
  · rw [if_neg (by omega)]
    have : xs ≠ ys := fun h => c (by rw [h])
    simp [this]
end Go.Proofs.Ytkcpohplgdndkaa.QG
