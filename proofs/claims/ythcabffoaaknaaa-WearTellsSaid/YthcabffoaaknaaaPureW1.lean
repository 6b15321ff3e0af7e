import Derived.Test.YthcabffoaaknaaaPureW0
namespace Go.Proofs.Ythcabffoaaknaaa
open Go.RowKit Go.Proofs.Ythcabffoaaknaaa.QW Go.Proofs.YthcabffoaaknaaaW.PrintWords Go.Proofs.YthcabffoaaknaaaW.PrintLast Go.Proofs.YthcabffoaaknaaaW.PrintMore
set_option linter.unusedVariables false
theorem ins_len (a : Int) : ∀ l, (ins a l).length = l.length + 1
  | [] => rfl
  | x :: xs => by
    unfold ins
    split
    · rfl
    · rw [List.length_cons, ins_len a xs, List.length_cons]
theorem ins_perm (a : Int) : ∀ l, (ins a l).Perm (a :: l)
  | [] => List.Perm.refl _
  | x :: xs => by
    unfold ins
    split
    · exact List.Perm.refl _
    · exact ((ins_perm a xs).cons x).trans (List.Perm.swap a x xs)
theorem ins_rises (a : Int) : ∀ l : List Int, l.Pairwise (· ≤ ·) → (ins a l).Pairwise (· ≤ ·)
  | [], _ => List.pairwise_singleton _ _
  | x :: xs, h => by
    unfold ins
    have h' := List.pairwise_cons.1 h
    split
    · rename_i c
      refine List.pairwise_cons.2 ⟨fun y hy => ?_, h⟩
      rcases List.mem_cons.1 hy with rfl | hy
      · omega
      · have := h'.1 y hy; omega
    · rename_i c
      refine List.pairwise_cons.2 ⟨fun y hy => ?_, ins_rises a xs h'.2⟩
      rcases List.mem_cons.1 ((ins_perm a xs).mem_iff.1 hy) with rfl | hy
      · omega
      · exact h'.1 y hy
def foldIns : List Int → List Int → List Int
  | out, [] => out
  | out, x :: xs => foldIns (ins x out) xs
theorem foldIns_perm : ∀ (l out : List Int), (foldIns out l).Perm (out ++ l)
  | [], out => by simp [foldIns]
  | x :: xs, out => by
    unfold foldIns
    refine (foldIns_perm xs (ins x out)).trans ?_
    exact ((ins_perm x out).append_right xs).trans (by simpa using (List.perm_middle (a := x) (l₁ := out) (l₂ := xs)).symm)
theorem foldIns_rises : ∀ (l out : List Int), out.Pairwise (· ≤ ·) → (foldIns out l).Pairwise (· ≤ ·)
  | [], out, h => h
  | x :: xs, out, h => foldIns_rises xs (ins x out) (ins_rises x out h)
section
variable {l out : List Int} {i : Nat} {R : List Int}
theorem l1_true (hi : i < l.length) (hl : l.length ≤ 1000) (ho : out.length ≤ 1000) : ∀ (d j : Nat) (next : List Int), j + d = out.length → next.length ≤ j + 1 → EvL (fun k => incunableref38_Sorted.l0 k l (next ++ out.drop j) ((i + 1 : Nat) : Int)) R → EvL (fun k => incunableref38_Sorted.l1 k l out (i : Int) next true (j : Int)) R := by
  intro d
  induction d with
  | zero =>
    intro j next hd hn H
    rw [List.drop_eq_nil_of_le (by omega), List.append_nil] at H
    refine EvL.step (fun k => ?_) H
    simp only [incunableref38_Sorted.l1]
    rw [if_neg (by omega), if_pos trivial, w_succ i (by omega)]
  | succ d ih =>
    intro j next hd hn H
    have hj : j < out.length := by omega
    refine EvL.step (h := fun k => incunableref38_Sorted.l1 k l out (i : Int) (next ++ [out.getD j 0]) true ((j + 1 : Nat) : Int)) (fun k => ?_) ?_
    · simp only [incunableref38_Sorted.l1]
      rw [if_pos (by omega), if_pos trivial, if_pos (by omega), if_pos (by omega), rd_nat, w_succ j (by omega)]
    · refine ih (j + 1) _ (by omega) (by simp; omega) ?_
      rw [drop_getD out j hj] at H
      rw [List.append_assoc]
      exact H
theorem l1_false (hi : i < l.length) (hl : l.length ≤ 1000) (ho : out.length ≤ 1000) : ∀ (d j : Nat) (next : List Int), j + d = out.length → next.length ≤ j → EvL (fun k => incunableref38_Sorted.l0 k l (next ++ ins (l.getD i 0) (out.drop j)) ((i + 1 : Nat) : Int)) R → EvL (fun k => incunableref38_Sorted.l1 k l out (i : Int) next false (j : Int)) R := by
  intro d
  induction d with
  | zero =>
    intro j next hd hn H
    rw [List.drop_eq_nil_of_le (by omega)] at H
    refine EvL.step (fun k => ?_) H
    simp only [incunableref38_Sorted.l1]
    rw [if_neg (by omega), if_neg (by decide), if_pos (by omega), if_pos (by omega), if_pos (by omega), w_succ i (by omega), rd_nat]
    rfl
  | succ d ih =>
    intro j next hd hn H
    have hj : j < out.length := by omega
    rw [drop_getD out j hj] at H
    unfold ins at H
    by_cases c : l.getD i 0 < out.getD j 0
    · rw [if_pos c] at H
      refine EvL.step (h := fun k => incunableref38_Sorted.l1 k l out (i : Int) (next ++ [l.getD i 0] ++ [out.getD j 0]) true ((j + 1 : Nat) : Int)) (fun k => ?_) ?_
      · simp only [incunableref38_Sorted.l1]
        rw [if_pos (by omega), if_neg (by decide), if_pos (by omega), if_pos (by omega), if_pos (by omega), rd_nat, rd_nat, if_pos c, if_pos (by omega), Option.bind_some, if_pos (by simp; omega), w_succ j (by omega)]
      · refine l1_true hi hl ho d (j + 1) _ (by omega) (by simp; omega) ?_
        rw [List.append_assoc, List.append_assoc]
        exact H
    · rw [if_neg c] at H
      refine EvL.step (h := fun k => incunableref38_Sorted.l1 k l out (i : Int) (next ++ [out.getD j 0]) false ((j + 1 : Nat) : Int)) (fun k => ?_) ?_
      · simp only [incunableref38_Sorted.l1]
        rw [if_pos (by omega), if_neg (by decide), if_pos (by omega), if_pos (by omega), if_pos (by omega), rd_nat, rd_nat, if_neg c, if_pos (by omega), w_succ j (by omega)]
      · refine ih (j + 1) _ (by omega) (by simp; omega) ?_
        rw [List.append_assoc]
        exact H
end
theorem sorted_ev (l : List Int) (hl : l.length ≤ 1000) : ∀ (d i : Nat) (out : List Int), i + d = l.length → out.length ≤ i → EvL (fun k => incunableref38_Sorted.l0 k l out (i : Int)) (foldIns out (l.drop i)) := by
  intro d
  induction d with
  | zero =>
    intro i out hd ho
    refine EvL.step (h := fun _ => some out) (fun k => ?_) ?_
    · simp only [incunableref38_Sorted.l0]
      rw [if_neg (by omega)]
    · rw [List.drop_eq_nil_of_le (by omega)]
      exact EvL.const
  | succ d ih =>
    intro i out hd ho
    have hi : i < l.length := by omega
    refine EvL.step (h := fun k => incunableref38_Sorted.l1 k l out (i : Int) [] false 0) (fun k => ?_) ?_
    · simp only [incunableref38_Sorted.l0]
      rw [if_pos (by omega)]
    · refine l1_false hi hl (by omega) out.length 0 [] (by omega) (by simp) ?_
      rw [List.nil_append, List.drop_zero, drop_getD l i hi]
      exact ih (i + 1) _ (by omega) (by rw [ins_len]; omega)
def sortL (l : List Int) : List Int := foldIns [] l
theorem sorted_f (l : List Int) (hl : l.length ≤ 1000) : EvL (fun k => incunableref38_Sorted.f k l) (sortL l) := by
  have := sorted_ev l hl l.length 0 [] (by omega) (by simp)
  rw [List.drop_zero] at this
  exact this
theorem sortL_perm (l : List Int) : (sortL l).Perm l := foldIns_perm l []
theorem sortL_rises (l : List Int) : (sortL l).Pairwise (· ≤ ·) := foldIns_rises l [] List.Pairwise.nil
def absI (d : Int) : Int := if d < 0 then -d else d
def sqL (n S : Int) : Int → List Int → Int × Int
  | out, [] => (out, 0)
  | out, x :: xs => if absI (n * x - S) ≥ 2147483648 then (0, 3) else if (n * x - S) * (n * x - S) ≥ 4611686018427387904 - out then (0, 3) else sqL n S (out + (n * x - S) * (n * x - S)) xs
theorem square_f (d : Int) (h1 : -4611686018427387904 ≤ d) (h2 : d ≤ 4611686018427387904) : wear_square.f d = if absI d ≥ 2147483648 then some (0, false) else some (d * d, true) := by
  have hm : mx d (wrap64 (-d)) = absI d := by
    rw [IntWalk.wrap64_in _ (by omega)]
    unfold mx absI
    split <;> split <;> omega
  unfold wear_square.f
  rw [hm]
  by_cases c : absI d ≥ 2147483648
  · rw [if_pos c, if_pos c]
  · rw [if_neg c, if_neg c]
    have hd : -2147483648 < d ∧ d < 2147483648 := by unfold absI at c; split at c <;> omega
    have hsq : absI d * absI d = d * d := by unfold absI; split; exact Int.neg_mul_neg d d; rfl
    have hb : 0 ≤ d * d ∧ d * d ≤ 4611686018427387904 := by
      have h3 : 0 ≤ absI d := by unfold absI; split <;> omega
      have h4 : absI d ≤ 2147483648 := by omega
      have := Int.mul_le_mul h4 h4 h3 (by omega)
      rw [hsq] at this
      refine ⟨by rw [← hsq]; exact Int.mul_nonneg h3 h3, by omega⟩
    rw [hsq, IntWalk.wrap64_in _ (by omega)]
end Go.Proofs.Ythcabffoaaknaaa
