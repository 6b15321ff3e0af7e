import Derived.Test.YtlhfefchdhbdpaaQWx4
namespace Go.Proofs.Ytlhfefchdhbdpaa
open Go.RowKit Go.Proofs.Ytlhfefchdhbdpaa.QW Go.Proofs.YtlhfefchdhbdpaaW.PrintWords Go.Proofs.YtlhfefchdhbdpaaW.PrintLast Go.Proofs.YtlhfefchdhbdpaaW.PrintMore
set_option linter.unusedVariables false
/-- With enough rounds. -/
def EvL {α : Type} (g : Nat → Option α) (r : α) : Prop := ∃ k0, ∀ k, k0 ≤ k → g k = some r
theorem EvL.step {α : Type} {g h : Nat → Option α} {r : α} (e : ∀ k, g (k + 1) = h k) (H : EvL h r) : EvL g r := by
  obtain ⟨k0, h0⟩ := H
  refine ⟨k0 + 1, fun k hk => ?_⟩
  obtain ⟨m, rfl⟩ : ∃ m, k = m + 1 := ⟨k - 1, by omega⟩
  rw [e]; exact h0 m (by omega)
theorem EvL.const {α : Type} {r : α} : EvL (fun _ => some r) r := ⟨0, fun _ _ => rfl⟩
theorem EvL.bind {α β : Type} {g : Nat → Option α} {h : Nat → α → Option β} {a : α} {r : β} (G : EvL g a) (H : EvL (fun k => h k a) r) : EvL (fun k => (g k).bind (h k)) r := by
  obtain ⟨k1, h1⟩ := G
  obtain ⟨k2, h2⟩ := H
  refine ⟨max k1 k2, fun k hk => ?_⟩
  show (g k).bind (h k) = some r
  rw [h1 k (by omega), Option.bind_some]
  exact h2 k (by omega)
theorem rd36 (l : List S36) (i : Nat) : rd_T36 l (i : Int) = l.getD i z36 := rfl
theorem dropG (l : List S36) (i : Nat) (h : i < l.length) : l.drop i = l.getD i z36 :: l.drop (i + 1) := by
  rw [List.drop_eq_getElem_cons h, List.getD_eq_getElem?_getD, List.getElem?_eq_getElem h]; rfl
theorem w_succ (i : Nat) (h : i ≤ 9223372036854775806) : wrap64 ((i : Int) + 1) = ((i + 1 : Nat) : Int) := by rw [IntWalk.wrap64_in _ (by omega)]; omega
def fewV (l t : List S36) : Bool := if t.any (fun x => decide (100 < x.f2.length)) then false else decide (l.length ≤ 40)
theorem few_ev (l : List S36) (hl : l.length ≤ 9223372036854775807) : ∀ (d i : Nat), i + d = l.length → EvL (fun k => incunablelaw47_few.l0 k l l (l.length : Int) (i : Int)) (fewV l (l.drop i)) := by
  intro d
  induction d with
  | zero =>
    intro i hd
    refine EvL.step (h := fun _ => some (fewV l (l.drop i))) (fun k => ?_) EvL.const
    simp only [incunablelaw47_few.l0]
    rw [if_neg (by omega), List.drop_eq_nil_of_le (by omega)]
    unfold fewV
    simp only [List.any_nil, Bool.false_eq_true, if_false, Option.some.injEq, decide_eq_decide]
    omega
  | succ d ih =>
    intro i hd
    have hi : i < l.length := by omega
    by_cases hx : 100 < (l.getD i z36).f2.length
    · refine EvL.step (h := fun _ => some (fewV l (l.drop i))) (fun k => ?_) EvL.const
      simp only [incunablelaw47_few.l0]
      rw [if_pos (by omega), if_pos (by omega), if_pos (by omega), rd36, if_pos (by omega)]
      unfold fewV
      rw [dropG l i hi, List.any_cons, decide_eq_true hx]
      rfl
    · refine EvL.step (h := fun k => incunablelaw47_few.l0 k l l (l.length : Int) ((i + 1 : Nat) : Int)) (fun k => ?_) ?_
      · simp only [incunablelaw47_few.l0]
        rw [if_pos (by omega), if_pos (by omega), if_pos (by omega), rd36, if_neg (by omega), w_succ i (by omega)]
      · have := ih (i + 1) (by omega)
        unfold fewV at this ⊢
        rw [dropG l i hi, List.any_cons, decide_eq_false hx, Bool.false_or]
        exact this
theorem few_f (l : List S36) (hl : l.length ≤ 9223372036854775807) : EvL (fun k => incunablelaw47_few.f k l) (fewV l l) := few_ev l hl l.length 0 (by omega)
theorem rright_f (a b : Int) (l : List Int) : EvL (fun k => incunableref34_Right.f k a b l) (rightV a b l.length) := by
  refine EvL.step (h := fun _ => some (rightV a b l.length)) (fun k => ?_) EvL.const
  unfold incunableref34_Right.f rightV
  simp only [incunableref34_Right.j0]
  generalize l.length = n
  by_cases h1 : a = 1
  · subst h1
    by_cases hb : b < 0 <;> by_cases hb2 : b > 2147483648 <;> by_cases hn : (1 : Int) ≤ (n : Int) <;> by_cases hn2 : (n : Int) ≤ 8192 <;> simp [hb, hb2, hn, hn2] <;> omega
  · by_cases h2 : a = 2
    · subst h2
      by_cases hb : b < 0 <;> by_cases hb2 : b > 2147483648 <;> by_cases hn : n = 0 <;> simp [hb, hb2, hn] <;> omega
    · by_cases h3 : a = 3
      · subst h3
        by_cases hb : b < 0 <;> by_cases hb2 : b > 2147483648 <;> by_cases hn : n = 0 <;> simp [hb, hb2, hn] <;> omega
      · by_cases h4 : a = 4
        · subst h4
          by_cases hb : b < 0 <;> by_cases hb2 : b > 2147483648 <;> by_cases hn : n = 0 <;> by_cases hb0 : b = 0 <;> simp [hb, hb2, hn, hb0] <;> omega
        · have : a < 1 ∨ a > 4 := by omega
          rcases this with h | h
          · simp [h1, h2, h3, h4, h]
          · have h' : ¬ a < 1 := by omega
            simp [h1, h2, h3, h4, h, h']
theorem rchanges (a b : Int) (l : List Int) : incunableref47_changes.f a b l = some (chg a) := by
  unfold incunableref47_changes.f chg
  by_cases h : a = 1
  · rw [if_pos h]; simp [h]
  · rw [if_neg h]; simp [h]
theorem cov_ev (l : List S36) (hl : l.length ≤ 1000) (a : Nat) (ha : a < l.length) : ∀ (d i : Nat), i + d = l.length → EvL (fun k => incunableref47_Covered.l0 k l (a : Int) (i : Int)) (goV (l.getD a z36).f1 (l.drop i)) := by
  intro d
  induction d with
  | zero =>
    intro i hd
    refine EvL.step (h := fun k => incunableref47_Covered.j1 k l (a : Int) (i : Int) false) (fun k => ?_) (EvL.step (h := fun _ => some false) (fun k => ?_) ?_)
    · simp only [incunableref47_Covered.l0]
      rw [if_neg (by omega)]
    · simp only [incunableref47_Covered.j1]
      rw [if_neg (by decide)]
    · rw [List.drop_eq_nil_of_le (by omega)]
      exact EvL.const
  | succ d ih =>
    intro i hd
    have hi : i < l.length := by omega
    have hg := goV_step (l.getD a z36).f1 l i hi
    refine EvL.step (h := fun k => incunableref47_Covered.j1 k l (a : Int) (i : Int) ((l.getD i z36).f0 != 4)) (fun k => ?_) ?_
    · simp only [incunableref47_Covered.l0]
      rw [if_pos (by omega), if_pos (by omega), rd36]
    by_cases h4 : (l.getD i z36).f0 = 4
    · refine EvL.step (h := fun _ => some false) (fun k => ?_) ?_
      · simp only [incunableref47_Covered.j1]
        rw [if_neg (by rw [h4]; decide)]
      · rw [hg, if_pos h4]; exact EvL.const
    · have hb : ((l.getD i z36).f0 != 4) = true := by simpa using h4
      by_cases hs : (l.getD i z36).f1 = (l.getD a z36).f1
      · refine EvL.step (h := fun _ => some (chg (l.getD i z36).f0)) (fun k => ?_) ?_
        · simp only [incunableref47_Covered.j1]
          rw [if_pos hb, if_pos (by omega), if_pos (by omega), if_pos (by omega), if_pos (by omega), rd36, rd36, if_pos hs, rchanges]; rfl
        · rw [hg, if_neg h4, if_pos hs]; exact EvL.const
      · refine EvL.step (h := fun k => incunableref47_Covered.l0 k l (a : Int) ((i + 1 : Nat) : Int)) (fun k => ?_) ?_
        · simp only [incunableref47_Covered.j1]
          rw [if_pos hb, if_pos (by omega), if_pos (by omega), if_pos (by omega), if_pos (by omega), rd36, rd36, if_neg hs, w_succ i (by omega)]
        · rw [hg, if_neg h4, if_neg hs]; exact ih (i + 1) (by omega)
/-- Is the op at a covered? -/
def covA (l : List S36) (a : Nat) : Bool := covV (l.getD a z36).f0 (l.getD a z36).f1 (l.drop (a + 1))
theorem rcov_f (l : List S36) (hl : l.length ≤ 1000) (a : Nat) (ha : a < l.length) : EvL (fun k => incunableref47_Covered.f k l (a : Int)) (covA l a) := by
  unfold covA covV
  cases hc : chg (l.getD a z36).f0 with
  | true =>
    rw [if_pos rfl]
    obtain ⟨k0, h0⟩ := cov_ev l hl a ha (l.length - (a + 1)) (a + 1) (by omega)
    refine ⟨k0, fun k hk => ?_⟩
    show incunableref47_Covered.f k l (a : Int) = _
    unfold incunableref47_Covered.f
    rw [if_pos (by omega), if_pos (by omega), rd36, rchanges, hc, Option.bind_some, if_pos rfl, w_succ a (by omega)]
    exact h0 k hk
  | false =>
    rw [if_neg (by decide)]
    refine ⟨0, fun k hk => ?_⟩
    show incunableref47_Covered.f k l (a : Int) = _
    unfold incunableref47_Covered.f
    rw [if_pos (by omega), if_pos (by omega), rd36, rchanges, hc, Option.bind_some, if_neg (by decide)]
/-- How many flushes stand among the first i ops. -/
def segC (l : List S36) : Nat → Nat
  | 0 => 0
  | i + 1 => segC l i + if (l.getD i z36).f0 = 4 then 1 else 0
theorem segC_le (l : List S36) : ∀ i, segC l i ≤ i
  | 0 => Nat.le_refl _
  | i + 1 => by have := segC_le l i; unfold segC; split <;> omega
theorem seg_ev (l : List S36) (hl : l.length ≤ 1000) (a : Nat) (ha : a < l.length) : ∀ (d i : Nat), i + d = a → EvL (fun k => incunableref47_Segment.l0 k l (a : Int) (segC l i : Int) (i : Int)) (segC l a : Int) := by
  intro d
  induction d with
  | zero =>
    intro i hd
    obtain rfl : i = a := by omega
    refine EvL.step (h := fun _ => some (segC l i : Int)) (fun k => ?_) EvL.const
    simp only [incunableref47_Segment.l0]
    rw [if_neg (by omega)]
  | succ d ih =>
    intro i hd
    have hs := segC_le l i
    refine EvL.step (h := fun k => incunableref47_Segment.l0 k l (a : Int) (segC l (i + 1) : Int) ((i + 1 : Nat) : Int)) (fun k => ?_) (ih (i + 1) (by omega))
    simp only [incunableref47_Segment.l0]
    rw [if_pos (by omega), if_pos (by omega), if_pos (by omega), rd36, w_succ i (by omega), w_succ (segC l i) (by omega)]
    by_cases h4 : (l.getD i z36).f0 = 4
    · rw [if_pos h4]; simp only [segC]; rw [if_pos h4]
    · rw [if_neg h4]; simp only [segC]; rw [if_neg h4]; rfl
theorem rseg_f (l : List S36) (hl : l.length ≤ 1000) (a : Nat) (ha : a < l.length) : EvL (fun k => incunableref47_Segment.f k l (a : Int)) (segC l a : Int) := seg_ev l hl a ha a 0 (by omega)
/-- Does the op at a come ahead of the one at b? -/
def bef (l : List S36) (a b : Nat) : Prop := segC l a < segC l b ∨ (segC l a = segC l b ∧ (((l.getD a z36).f0 = 4 ∨ (l.getD b z36).f0 = 4) ∧ a < b ∨ ¬ ((l.getD a z36).f0 = 4 ∨ (l.getD b z36).f0 = 4) ∧ ((l.getD a z36).f1 < (l.getD b z36).f1 ∨ (l.getD a z36).f1 = (l.getD b z36).f1 ∧ a < b)))
instance (l : List S36) (a b : Nat) : Decidable (bef l a b) := by unfold bef; infer_instance
theorem rbef_f (l : List S36) (hl : l.length ≤ 1000) (a b : Nat) (ha : a < l.length) (hb : b < l.length) : EvL (fun k => incunableref47_Before.f k l (a : Int) (b : Int)) (decide (bef l a b)) := by
  obtain ⟨k1, h1⟩ := rseg_f l hl a ha
  obtain ⟨k2, h2⟩ := rseg_f l hl b hb
  refine ⟨max k1 k2 + 1, fun k hk => ?_⟩
  show incunableref47_Before.f k l (a : Int) (b : Int) = _
  unfold incunableref47_Before.f
  rw [show incunableref47_Segment.f k l (a : Int) = _ from h1 k (by omega), show incunableref47_Segment.f k l (b : Int) = _ from h2 k (by omega), Option.bind_some, Option.bind_some]
  obtain ⟨m, rfl⟩ : ∃ m, k = m + 1 := ⟨k - 1, by omega⟩
  simp only [incunableref47_Before.j0, rd36]
  have e1 : (0 : Int) ≤ (a : Int) := by omega
  have e2 : (a : Int) < (l.length : Int) := by omega
  have e3 : (0 : Int) ≤ (b : Int) := by omega
  have e4 : (b : Int) < (l.length : Int) := by omega
  simp only [e1, e2, e3, e4, if_true]
  have fin : ∀ (p : Prop) [Decidable p], (p ↔ bef l a b) → some (decide p) = some (decide (bef l a b)) := fun p _ hp => congrArg some (decide_eq_decide.2 hp)
  by_cases hs : segC l a = segC l b
  · rw [if_pos (by omega)]
    by_cases ha4 : (l.getD a z36).f0 = 4
    · rw [if_pos ha4]
      refine fin _ ?_
      unfold bef; omega
    · rw [if_neg ha4]
      by_cases hb4 : (l.getD b z36).f0 = 4
      · rw [if_pos (beq_iff_eq.2 hb4)]
        refine fin _ ?_
        unfold bef; omega
      · rw [if_neg (show ¬ (((l.getD b z36).f0 == 4) = true) from fun h => hb4 (beq_iff_eq.1 h))]
        show (if (l.getD a z36).f1 = (l.getD b z36).f1 then some (decide ((a : Int) < (b : Int))) else some (decide ((l.getD a z36).f1 < (l.getD b z36).f1))) = some (decide (bef l a b))
        by_cases hf : (l.getD a z36).f1 = (l.getD b z36).f1
        · rw [if_pos hf]
          refine fin _ ?_
          unfold bef; omega
        · rw [if_neg hf]
          refine fin _ ?_
          unfold bef; omega
  · rw [if_neg (by omega)]
    refine fin _ ?_
    unfold bef; omega
end Go.Proofs.Ytlhfefchdhbdpaa
