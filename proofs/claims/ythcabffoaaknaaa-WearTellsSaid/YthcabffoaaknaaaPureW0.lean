import Derived.Test.YthcabffoaaknaaaQWx2
namespace Go.Proofs.Ythcabffoaaknaaa
open Go.RowKit Go.Proofs.Ythcabffoaaknaaa.QW Go.Proofs.YthcabffoaaknaaaW.PrintWords Go.Proofs.YthcabffoaaknaaaW.PrintLast Go.Proofs.YthcabffoaaknaaaW.PrintMore
set_option linter.unusedVariables false
/-- With enough rounds. -/
def EvL {α : Type} (g : Nat → Option α) (r : α) : Prop := ∃ k0, ∀ k, k0 ≤ k → g k = some r
theorem EvL.step {α : Type} {g h : Nat → Option α} {r : α} (e : ∀ k, g (k + 1) = h k) (H : EvL h r) : EvL g r := by
  obtain ⟨k0, h0⟩ := H
  refine ⟨k0 + 1, fun k hk => ?_⟩
  obtain ⟨m, rfl⟩ : ∃ m, k = m + 1 := ⟨k - 1, by omega⟩
  rw [e]; exact h0 m (by omega)
theorem EvL.const {α : Type} {r : α} : EvL (fun _ => some r) r := ⟨0, fun _ _ => rfl⟩
theorem EvL.bind {α β : Type} {g : Nat → Option α} {h : Nat → α → Option β} {a : α} {r : β} (G : EvL g a) (H : EvL (fun k => h k a) r) : EvL (fun k => (g k).bind (h k)) r := by
  obtain ⟨k1, h1⟩ := G
  obtain ⟨k2, h2⟩ := H
  refine ⟨max k1 k2, fun k hk => ?_⟩
  show (g k).bind (h k) = some r
  rw [h1 k (by omega), Option.bind_some]
  exact h2 k (by omega)
def sumI : List Int → Int
  | [] => 0
  | x :: xs => x + sumI xs
theorem sumI_bd : ∀ l : List Int, okN l → 0 ≤ sumI l ∧ sumI l ≤ l.length * 2147483648
  | [], _ => by simp [sumI]
  | x :: xs, h => by
    have h1 := sumI_bd xs (fun y hy => h y (List.mem_cons_of_mem _ hy))
    have h2 := h x (List.mem_cons_self ..)
    simp only [sumI, List.length_cons]
    omega
theorem rd_nat (l : List Int) (i : Nat) : rd l (i : Int) = l.getD i 0 := rfl
theorem drop_getD (l : List Int) (i : Nat) (h : i < l.length) : l.drop i = l.getD i 0 :: l.drop (i + 1) := by
  rw [List.drop_eq_getElem_cons h, List.getD_eq_getElem?_getD, List.getElem?_eq_getElem h]; rfl
theorem okN_drop {l : List Int} (h : okN l) (i : Nat) : okN (l.drop i) := fun x hx => h x (List.mem_of_mem_drop hx)
theorem okN_getD {l : List Int} (h : okN l) (i : Nat) (hi : i < l.length) : 0 ≤ l.getD i 0 ∧ l.getD i 0 ≤ 2147483648 := by
  rw [List.getD_eq_getElem?_getD, List.getElem?_eq_getElem hi]
  exact h _ (List.getElem_mem hi)
theorem w_succ (i : Nat) (h : i ≤ 100000) : wrap64 ((i : Int) + 1) = ((i + 1 : Nat) : Int) := by rw [IntWalk.wrap64_in _ (by omega)]; omega
theorem total_ev (l : List Int) (hok : okN l) (hl : l.length ≤ 1000) : ∀ (d i : Nat) (acc : Int), i + d = l.length → 0 ≤ acc → acc ≤ i * 2147483648 → EvL (fun k => wear_total.l0 k acc l (l.length : Int) (i : Int)) (acc + sumI (l.drop i)) := by
  intro d
  induction d with
  | zero =>
    intro i acc hd a0 a1
    refine EvL.step (h := fun _ => some acc) (fun k => ?_) ?_
    · simp only [wear_total.l0]
      rw [if_neg (by omega)]
    · rw [List.drop_eq_nil_of_le (by omega)]
      simp only [sumI, Int.add_zero]
      exact EvL.const
  | succ d ih =>
    intro i acc hd a0 a1
    have hi : i < l.length := by omega
    have hb := okN_getD hok i hi
    refine EvL.step (h := fun k => wear_total.l0 k (acc + l.getD i 0) l (l.length : Int) ((i + 1 : Nat) : Int)) (fun k => ?_) ?_
    · simp only [wear_total.l0]
      rw [if_pos (by omega), if_pos (by omega), if_pos (by omega), rd_nat, w_succ i (by omega), IntWalk.wrap64_in _ (by omega)]
    · have := ih (i + 1) (acc + l.getD i 0) (by omega) (by omega) (by omega)
      rw [drop_getD l i hi, sumI, ← Int.add_assoc]
      exact this
theorem total_f (l : List Int) (hok : okN l) (hl : l.length ≤ 1000) : EvL (fun k => wear_total.f k l) (sumI l) := by
  have := total_ev l hok hl l.length 0 0 (by omega) (by omega) (by omega)
  rw [List.drop_zero, Int.zero_add] at this
  exact this
theorem rsum_ev (l : List Int) (hok : okN l) (hl : l.length ≤ 1000) : ∀ (d i : Nat) (acc : Int), i + d = l.length → 0 ≤ acc → acc ≤ i * 2147483648 → EvL (fun k => incunableref38_Sum.l0 k l acc (i : Int)) (acc + sumI (l.drop i)) := by
  intro d
  induction d with
  | zero =>
    intro i acc hd a0 a1
    refine EvL.step (h := fun _ => some acc) (fun k => ?_) ?_
    · simp only [incunableref38_Sum.l0]
      rw [if_neg (by omega)]
    · rw [List.drop_eq_nil_of_le (by omega)]
      simp only [sumI, Int.add_zero]
      exact EvL.const
  | succ d ih =>
    intro i acc hd a0 a1
    have hi : i < l.length := by omega
    have hb := okN_getD hok i hi
    refine EvL.step (h := fun k => incunableref38_Sum.l0 k l (acc + l.getD i 0) ((i + 1 : Nat) : Int)) (fun k => ?_) ?_
    · simp only [incunableref38_Sum.l0]
      rw [if_pos (by omega), if_pos (by omega), rd_nat, w_succ i (by omega), IntWalk.wrap64_in _ (by omega)]
    · have := ih (i + 1) (acc + l.getD i 0) (by omega) (by omega) (by omega)
      rw [drop_getD l i hi, sumI, ← Int.add_assoc]
      exact this
theorem rsum_f (l : List Int) (hok : okN l) (hl : l.length ≤ 1000) : EvL (fun k => incunableref38_Sum.f k l) (sumI l) := by
  have := rsum_ev l hok hl l.length 0 0 (by omega) (by omega) (by omega)
  rw [List.drop_zero, Int.zero_add] at this
  exact this
def mayT (l t : List Int) : Int := if t.any badN then 2 else if l = [] then 33 else 0
theorem may_ev (l : List Int) (hl : l.length ≤ 1000) : ∀ (d i : Nat), i + d = l.length → EvL (fun k => incunableref38_May.l0 k l (i : Int)) (mayT l (l.drop i)) := by
  intro d
  induction d with
  | zero =>
    intro i hd
    refine EvL.step (h := fun _ => some (mayT l (l.drop i))) (fun k => ?_) EvL.const
    simp only [incunableref38_May.l0]
    rw [if_neg (by omega), List.drop_eq_nil_of_le (by omega)]
    unfold mayT
    cases l with
    | nil => rfl
    | cons x xs => rw [if_neg (by simp; omega)]; rfl
  | succ d ih =>
    intro i hd
    have hi : i < l.length := by omega
    have hdr := drop_getD l i hi
    have hu : ∀ k, incunableref38_May.l0 (k + 1) l (i : Int) = if l.getD i 0 < 0 then some 2 else if l.getD i 0 > 2147483648 then some 2 else incunableref38_May.l0 k l ((i + 1 : Nat) : Int) := fun k => by
      simp only [incunableref38_May.l0]
      rw [if_pos (by omega), if_neg (by omega), if_pos (by omega), rd_nat, w_succ i (by omega)]
    by_cases hb : badN (l.getD i 0) = true
    · refine EvL.step (h := fun _ => some (mayT l (l.drop i))) (fun k => ?_) EvL.const
      rw [hu]
      have hm : mayT l (l.drop i) = 2 := by unfold mayT; rw [hdr, List.any_cons, hb]; rfl
      rw [hm]
      unfold badN at hb
      simp only [Bool.or_eq_true, decide_eq_true_eq] at hb
      by_cases c : l.getD i 0 < 0
      · rw [if_pos c]
      · rw [if_neg c, if_pos (by omega)]
    · refine EvL.step (h := fun k => incunableref38_May.l0 k l ((i + 1 : Nat) : Int)) (fun k => ?_) ?_
      · rw [hu]
        unfold badN at hb
        simp only [Bool.or_eq_true, decide_eq_true_eq, not_or] at hb
        rw [if_neg hb.1, if_neg (by omega)]
      · have := ih (i + 1) (by omega)
        have he : mayT l (l.drop i) = mayT l (l.drop (i + 1)) := by
          unfold mayT
          rw [hdr, List.any_cons]
          simp only [Bool.not_eq_true] at hb
          rw [hb, Bool.false_or]
        rw [he]
        exact this
theorem may_f (l : List Int) (hl : l.length ≤ 1000) : EvL (fun k => incunableref38_May.f k l) (mayV l) := by
  have := may_ev l hl l.length 0 (by omega)
  rw [List.drop_zero] at this
  exact this
theorem mayV_ok {l : List Int} (h : mayV l = 0) : okN l ∧ 0 < l.length := by
  unfold mayV at h
  split at h
  · simp at h
  · rename_i ha
    split at h
    · simp at h
    · rename_i hn
      refine ⟨fun x hx => ?_, List.length_pos_iff.2 hn⟩
      have : badN x = false := by
        cases hb : badN x with
        | false => rfl
        | true => exact absurd (List.any_eq_true.2 ⟨x, hx, hb⟩) ha
      unfold badN at this
      simp only [Bool.or_eq_false_iff, decide_eq_false_iff_not] at this
      omega
def ins (a : Int) : List Int → List Int
  | [] => [a]
  | x :: xs => if a < x then a :: x :: xs else x :: ins a xs
end Go.Proofs.Ythcabffoaaknaaa
