import Derived.Test.YtnkgbnipcjgjeaaQWx2
import Derived.Test.YtnkgbnipcjgjeaaBet1
import Derived.Test.YtnkgbnipcjgjeaaBs
namespace Go.Proofs.Ytnkgbnipcjgjeaa.Qu
open Go.RowKit Go.Proofs.Ytnkgbnipcjgjeaa.QW Go.Proofs.YtnkgbnipcjgjeaaW.PrintWords Go.Proofs.YtnkgbnipcjgjeaaW.PrintLast Go.Proofs.YtnkgbnipcjgjeaaW.PrintMore
set_option linter.unusedVariables false
theorem rd116 (l : List S116) (i : Nat) : rd_T116 l (i : Int) = l.getD i z116 := rfl
theorem dropG (l : List S116) (i : Nat) (h : i < l.length) : l.drop i = l.getD i z116 :: l.drop (i + 1) := by
  rw [List.drop_eq_getElem_cons h, List.getD_eq_getElem?_getD, List.getElem?_eq_getElem h]; rfl
def fewV (l t : List S116) : Bool := if t.any (fun x => decide (100 < x.f2.length)) then false else decide (l.length ≤ 40)
theorem few_ev (l : List S116) (hl : l.length ≤ 9223372036854775807) : ∀ (d i : Nat), i + d = l.length → EvL (fun k => incunablelaw47_few.l0 k l l (l.length : Int) (i : Int)) (fewV l (l.drop i)) := by
  intro d
  induction d with
  | zero =>
    intro i hd
    refine EvL.step (h := fun _ => some (fewV l (l.drop i))) (fun k => ?_) EvL.const
    simp only [incunablelaw47_few.l0]
    rw [if_neg (by omega), List.drop_eq_nil_of_le (by omega)]
    unfold fewV
    simp only [List.any_nil, Bool.false_eq_true, if_false, Option.some.injEq, decide_eq_decide]
    omega
  | succ d ih =>
    intro i hd
    have hi : i < l.length := by omega
    by_cases hx : 100 < (l.getD i z116).f2.length
    · refine EvL.step (h := fun _ => some (fewV l (l.drop i))) (fun k => ?_) EvL.const
      simp only [incunablelaw47_few.l0]
      rw [if_pos (by omega), if_pos (by omega), if_pos (by omega), rd116, if_pos (by omega)]
      unfold fewV
      rw [dropG l i hi, List.any_cons, decide_eq_true hx]
      rfl
    · refine EvL.step (h := fun k => incunablelaw47_few.l0 k l l (l.length : Int) ((i + 1 : Nat) : Int)) (fun k => ?_) ?_
      · simp only [incunablelaw47_few.l0]
        rw [if_pos (by omega), if_pos (by omega), if_pos (by omega), rd116, if_neg (by omega), w_succ i (by omega)]
      · have := ih (i + 1) (by omega)
        unfold fewV at this ⊢
        rw [dropG l i hi, List.any_cons, decide_eq_false hx, Bool.false_or]
        exact this
theorem few_f (l : List S116) (hl : l.length ≤ 9223372036854775807) : EvL (fun k => incunablelaw47_few.f k l) (fewV l l) := few_ev l hl l.length 0 (by omega)
theorem rchanges (a b : Int) (l : List Int) : incunableref47_changes.f a b l = some (chg a) := by
  unfold incunableref47_changes.f chg
  by_cases h : a = 1
  · rw [if_pos h]; simp [h]
  · rw [if_neg h]; simp [h]
theorem cov_ev (l : List S116) (hl : l.length ≤ 1000) (a : Nat) (ha : a < l.length) : ∀ (d i : Nat), i + d = l.length → EvL (fun k => incunableref47_Covered.l0 k l (a : Int) (i : Int)) (goV (l.getD a z116).f1 (l.drop i)) := by
  intro d
  induction d with
  | zero =>
    intro i hd
    refine EvL.step (h := fun k => incunableref47_Covered.j1 k l (a : Int) (i : Int) false) (fun k => ?_) (EvL.step (h := fun _ => some false) (fun k => ?_) ?_)
    · simp only [incunableref47_Covered.l0]
      rw [if_neg (by omega)]
    · simp only [incunableref47_Covered.j1]
      rw [if_neg (by decide)]
    · rw [List.drop_eq_nil_of_le (by omega)]
      exact EvL.const
  | succ d ih =>
    intro i hd
    have hi : i < l.length := by omega
    have hg := goV_step (l.getD a z116).f1 l i hi
    refine EvL.step (h := fun k => incunableref47_Covered.j1 k l (a : Int) (i : Int) ((l.getD i z116).f0 != 4)) (fun k => ?_) ?_
    · simp only [incunableref47_Covered.l0]
      rw [if_pos (by omega), if_pos (by omega), rd116]
    by_cases h4 : (l.getD i z116).f0 = 4
    · refine EvL.step (h := fun _ => some false) (fun k => ?_) ?_
      · simp only [incunableref47_Covered.j1]
        rw [if_neg (by rw [h4]; decide)]
      · rw [hg, if_pos h4]; exact EvL.const
    · have hb : ((l.getD i z116).f0 != 4) = true := by simpa using h4
      by_cases hs : (l.getD i z116).f1 = (l.getD a z116).f1
      · refine EvL.step (h := fun _ => some (chg (l.getD i z116).f0)) (fun k => ?_) ?_
        · simp only [incunableref47_Covered.j1]
          rw [if_pos hb, if_pos (by omega), if_pos (by omega), if_pos (by omega), if_pos (by omega), rd116, rd116, if_pos hs, rchanges]; rfl
        · rw [hg, if_neg h4, if_pos hs]; exact EvL.const
      · refine EvL.step (h := fun k => incunableref47_Covered.l0 k l (a : Int) ((i + 1 : Nat) : Int)) (fun k => ?_) ?_
        · simp only [incunableref47_Covered.j1]
          rw [if_pos hb, if_pos (by omega), if_pos (by omega), if_pos (by omega), if_pos (by omega), rd116, rd116, if_neg hs, w_succ i (by omega)]
        · rw [hg, if_neg h4, if_neg hs]; exact ih (i + 1) (by omega)
/-- Is the op at a covered? -/
def covA (l : List S116) (a : Nat) : Bool := covV (l.getD a z116).f0 (l.getD a z116).f1 (l.drop (a + 1))
theorem rcov_f (l : List S116) (hl : l.length ≤ 1000) (a : Nat) (ha : a < l.length) : EvL (fun k => incunableref47_Covered.f k l (a : Int)) (covA l a) := by
  unfold covA covV
  cases hc : chg (l.getD a z116).f0 with
  | true =>
    rw [if_pos rfl]
    obtain ⟨k0, h0⟩ := cov_ev l hl a ha (l.length - (a + 1)) (a + 1) (by omega)
    refine ⟨k0, fun k hk => ?_⟩
    show incunableref47_Covered.f k l (a : Int) = _
    unfold incunableref47_Covered.f
    rw [if_pos (by omega), if_pos (by omega), rd116, rchanges, hc, Option.bind_some, if_pos rfl, w_succ a (by omega)]
    exact h0 k hk
  | false =>
    rw [if_neg (by decide)]
    refine ⟨0, fun k hk => ?_⟩
    show incunableref47_Covered.f k l (a : Int) = _
    unfold incunableref47_Covered.f
    rw [if_pos (by omega), if_pos (by omega), rd116, rchanges, hc, Option.bind_some, if_neg (by decide)]
/-- How many flushes stand among the first i ops. -/
def segC (l : List S116) : Nat → Nat
  | 0 => 0
  | i + 1 => segC l i + if (l.getD i z116).f0 = 4 then 1 else 0
theorem segC_le (l : List S116) : ∀ i, segC l i ≤ i
  | 0 => Nat.le_refl _
  | i + 1 => by have := segC_le l i; unfold segC; split <;> omega
/-- Does the op at a come ahead of the one at b? -/
def bef (l : List S116) (a b : Nat) : Prop := segC l a < segC l b ∨ (segC l a = segC l b ∧ (((l.getD a z116).f0 = 4 ∨ (l.getD b z116).f0 = 4) ∧ a < b ∨ ¬ ((l.getD a z116).f0 = 4 ∨ (l.getD b z116).f0 = 4) ∧ ((l.getD a z116).f1 < (l.getD b z116).f1 ∨ (l.getD a z116).f1 = (l.getD b z116).f1 ∧ a < b)))
instance (l0 : List S116) (a b : Nat) : Decidable (bef l0 a b) := by unfold bef; infer_instance
theorem segC_mono (l : List S116) (a : Nat) : ∀ d, segC l a ≤ segC l (a + d)
  | 0 => Nat.le_refl _
  | d + 1 => by
    have h := segC_mono l a d
    show segC l a ≤ segC l (a + d) + _
    omega
theorem segC_flush (l : List S116) {a b : Nat} (h4 : (l.getD a z116).f0 = 4) (h : a < b) : segC l a < segC l b := by
  obtain ⟨d, rfl⟩ : ∃ d, b = a + 1 + d := ⟨b - (a + 1), by omega⟩
  have h1 := segC_mono l (a + 1) d
  have h2 : segC l (a + 1) = segC l a + 1 := by show segC l a + _ = _; rw [if_pos h4]
  omega
theorem segC_same (l : List S116) (a : Nat) : ∀ d, (∀ j, a ≤ j → j < a + d → (l.getD j z116).f0 ≠ 4) → segC l (a + d) = segC l a
  | 0, _ => rfl
  | d + 1, h => by
    have ih := segC_same l a d (fun j h1 h2 => h j h1 (by omega))
    show segC l (a + d) + (if (l.getD (a + d) z116).f0 = 4 then 1 else 0) = _
    rw [if_neg (h (a + d) (by omega) (by omega)), ih, Nat.add_zero]
theorem flush_last (l : List S116) (a b : Nat) (h4 : (l.getD a z116).f0 = 4) (hs : segC l a = segC l b) : b ≤ a := by
  by_cases h : a < b
  · have := segC_flush l h4 h; omega
  · omega
theorem bef_asymm (l : List S116) {a b : Nat} (h1 : bef l a b) (h2 : bef l b a) : False := by
  unfold bef at *
  omega
theorem bef_trans (l : List S116) {a b c : Nat} (h1 : bef l a b) (h2 : bef l b c) : bef l a c := by
  by_cases hac : a = c
  · subst hac; exact (bef_asymm l h1 h2).elim
  have f1 := flush_last l a b
  have f2 := flush_last l b a
  have f3 := flush_last l b c
  have f4 := flush_last l c b
  have f5 := flush_last l a c
  have f6 := flush_last l c a
  unfold bef at *
  generalize segC l a = sa at *
  generalize segC l b = sb at *
  generalize segC l c = sc at *
  generalize l.getD a z116 = x at *
  generalize l.getD b z116 = y at *
  generalize l.getD c z116 = z at *
  by_cases e1 : sa = sb
  · by_cases e2 : sb = sc
    · by_cases g1 : x.f0 = 4
      · have := f1 g1 e1; have := f5 g1 (by omega); omega
      · by_cases g2 : y.f0 = 4
        · have := f3 g2 e2; have := f2 g2 e1.symm; omega
        · by_cases g3 : z.f0 = 4
          · have := f4 g3 e2.symm; have := f6 g3 (by omega); omega
          · omega
    · omega
  · omega
theorem bef_total (l : List S116) {a b : Nat} (h : a ≠ b) : bef l a b ∨ bef l b a := by
  unfold bef
  omega
theorem ltP_bef (l : List S116) {a b : Nat} (hs : segC l a = segC l b) (ha : (l.getD a z116).f0 ≠ 4) (hb : (l.getD b z116).f0 ≠ 4) (h : ltP l a b) : bef l a b := by
  unfold bef ltP at *
  omega
def keptL (l : List S116) : Nat → Nat → List Nat
  | 0, _ => []
  | d + 1, i => (if covA l i then [] else [i]) ++ keptL l d (i + 1)
theorem keptL_mem (l : List S116) : ∀ d i, ∀ j ∈ keptL l d i, i ≤ j ∧ j < i + d
  | 0, _ => by intro j hj; simp [keptL] at hj
  | d + 1, i => by
    intro j hj
    unfold keptL at hj
    rcases List.mem_append.1 hj with h | h
    · split at h
      · simp at h
      · simp at h; omega
    · have := keptL_mem l d (i + 1) j h; omega
theorem keptL_split (l : List S116) (b : Nat) : ∀ a i, keptL l (a + b) i = keptL l a i ++ keptL l b (i + a)
  | 0, i => by rw [Nat.zero_add]; rfl
  | a + 1, i => by
    rw [show a + 1 + b = (a + b) + 1 by omega]
    show _ ++ keptL l (a + b) (i + 1) = (_ ++ keptL l a (i + 1)) ++ _
    rw [keptL_split l b a (i + 1), List.append_assoc, show i + 1 + a = i + (a + 1) by omega]
theorem keptL_nodup (l : List S116) : ∀ d i, (keptL l d i).Pairwise (· < ·)
  | 0, _ => List.Pairwise.nil
  | d + 1, i => by
    unfold keptL
    refine List.pairwise_append.2 ⟨by split <;> simp, keptL_nodup l d (i + 1), fun x hx y hy => ?_⟩
    have := keptL_mem l d (i + 1) y hy
    split at hx
    · simp at hx
    · simp at hx; omega
theorem goV_cut (s : Int) {y : S116} (hy : y.f0 = 4) (zs : List S116) : ∀ xs, goV s (xs ++ y :: zs) = goV s xs
  | [] => by show (if y.f0 = 4 then false else _) = false; rw [if_pos hy]
  | x :: xs => by
    show (if x.f0 = 4 then false else if x.f1 = s then chg x.f0 else goV s (xs ++ y :: zs)) = (if x.f0 = 4 then false else if x.f1 = s then chg x.f0 else goV s xs)
    rw [goV_cut s hy zs xs]
theorem keep_cut (l : List S116) {e j : Nat} (he : e = l.length ∨ e < l.length ∧ (l.getD e z116).f0 = 4) (hj : j < e) : keepS l j e = !covA l j := by
  unfold keepS covA covV
  rcases he with rfl | ⟨he, h4⟩
  · rw [List.take_length]
  · have hd : l.drop (j + 1) = (l.take e).drop (j + 1) ++ l.getD e z116 :: l.drop (e + 1) := by
      rw [← dropG l e he]
      conv => lhs; rw [← List.take_append_drop e l]
      rw [List.drop_append_of_le_length (by rw [List.length_take]; omega)]
    rw [hd, goV_cut _ h4]
theorem segK_kept (l : List S116) (e : Nat) : ∀ d i, (∀ j, i ≤ j → j < i + d → keepS l j e = !covA l j) → segK l e d i = keptL l d i
  | 0, _, _ => rfl
  | d + 1, i, h => by
    unfold segK keptL
    rw [segK_kept l e d (i + 1) (fun j h1 h2 => h j (by omega) (by omega)), h i (Nat.le_refl _) (by omega)]
    cases covA l i <;> rfl
theorem leP_trans (l : List S116) (a b c : Nat) (h1 : leP l a b = true) (h2 : leP l b c = true) : leP l a c = true := by
  unfold leP at *
  simp only [Bool.not_eq_true', decide_eq_false_iff_not] at *
  unfold ltP at *
  omega
theorem leP_total (l : List S116) (a b : Nat) : (leP l a b || leP l b a) = true := by
  unfold leP
  rw [Bool.or_eq_true]
  simp only [Bool.not_eq_true', decide_eq_false_iff_not]
  unfold ltP
  omega
theorem segR_perm (l : List S116) {f e : Nat} (he : e = l.length ∨ e < l.length ∧ (l.getD e z116).f0 = 4) (hfe : f ≤ e) : (segR l f e).Perm (keptL l (e - f) f) := by
  unfold segR
  refine (List.mergeSort_perm _ _).trans ?_
  rw [segK_kept l e (e - f) f (fun j h1 h2 => keep_cut l he (by omega))]
theorem segR_sorted (l : List S116) {f e : Nat} (he : e = l.length ∨ e < l.length ∧ (l.getD e z116).f0 = 4) (hfe : f ≤ e) (hn : ∀ j, f ≤ j → j < e → (l.getD j z116).f0 ≠ 4) : (segR l f e).Pairwise (bef l) := by
  have hp := segR_perm l he hfe
  have h1 : (segR l f e).Pairwise (fun a b => leP l a b = true) := List.pairwise_mergeSort (leP_trans l) (leP_total l) _
  have h2 : (segR l f e).Pairwise (· ≠ ·) := hp.symm.pairwise (R := (· ≠ ·)) ((keptL_nodup l _ _).imp (fun h => Nat.ne_of_lt h)) (fun h => h.symm)
  refine (h1.and h2).imp_of_mem fun {a b} ha hb hab => ?_
  have ma := keptL_mem l _ _ a (hp.mem_iff.1 ha)
  have mb := keptL_mem l _ _ b (hp.mem_iff.1 hb)
  have sa : segC l a = segC l f := by
    have := segC_same l f (a - f) (fun j h1 h2 => hn j h1 (by omega))
    rwa [show f + (a - f) = a by omega] at this
  have sb : segC l b = segC l f := by
    have := segC_same l f (b - f) (fun j h1 h2 => hn j h1 (by omega))
    rwa [show f + (b - f) = b by omega] at this
  refine ltP_bef l (by omega) (hn a ma.1 (by omega)) (hn b mb.1 (by omega)) ?_
  have hl := hab.1
  unfold leP at hl
  simp only [Bool.not_eq_true', decide_eq_false_iff_not] at hl
  have hne := hab.2
  unfold ltP at *
  omega
def betK (l : List S116) : Nat → Nat → Nat → List Nat → List Nat
  | 0, _, f, ys => ys ++ segR l f l.length
  | d + 1, i, f, ys => if (l.getD i z116).f0 = 4 then betK l d (i + 1) (i + 1) (ys ++ segR l f i ++ [i]) else betK l d (i + 1) f ys
theorem betL_cast (l : List S116) : ∀ d i f (ys : List Nat), betL l d i f (ys.map fun j : Nat => (j : Int)) = (betK l d i f ys).map fun j : Nat => (j : Int)
  | 0, i, f, ys => by unfold betL betK segI; rw [List.map_append]
  | d + 1, i, f, ys => by
    unfold betL betK
    split
    · rw [← betL_cast l d]
      unfold segI
      rw [List.map_append, List.map_append]
      rfl
    · exact betL_cast l d _ _ _
theorem covA_flush (l : List S116) {i : Nat} (h : (l.getD i z116).f0 = 4) : covA l i = false := by
  unfold covA covV
  rw [h]
  rfl
theorem betK_ok (l : List S116) : ∀ d i f ys, i + d = l.length → f ≤ i → (∀ j, f ≤ j → j < i → (l.getD j z116).f0 ≠ 4) → ys.Pairwise (bef l) → (∀ y ∈ ys, segC l y < segC l f) →
    (betK l d i f ys).Pairwise (bef l) ∧ (betK l d i f ys).Perm (ys ++ keptL l (l.length - f) f)
  | 0, i, f, ys, hi, hf, hn, hs, hy => by
    obtain rfl : i = l.length := by omega
    unfold betK
    have he : l.length = l.length ∨ l.length < l.length ∧ (l.getD l.length z116).f0 = 4 := .inl rfl
    have hp := segR_perm l he hf
    refine ⟨List.pairwise_append.2 ⟨hs, segR_sorted l he hf hn, fun x hx y hyy => ?_⟩, hp.append_left _⟩
    have my := keptL_mem l _ _ y (hp.mem_iff.1 hyy)
    have h1 := hy x hx
    have h2 := segC_mono l f (y - f)
    rw [show f + (y - f) = y by omega] at h2
    exact .inl (by omega)
  | d + 1, i, f, ys, hi, hf, hn, hs, hy => by
    unfold betK
    split
    · rename_i h4
      have he : i = l.length ∨ i < l.length ∧ (l.getD i z116).f0 = 4 := .inr ⟨by omega, h4⟩
      have hp := segR_perm l he hf
      have hR := segR_sorted l he hf hn
      have hfi : segC l i = segC l f := by
        have := segC_same l f (i - f) (fun j h1 h2 => hn j h1 (by omega))
        rwa [show f + (i - f) = i by omega] at this
      have hi1 : segC l i < segC l (i + 1) := segC_flush l h4 (by omega)
      have hin : ∀ x ∈ segR l f i, f ≤ x ∧ x < i ∧ segC l x = segC l f := fun x hx => by
        have mx := keptL_mem l _ _ x (hp.mem_iff.1 hx)
        have := segC_same l f (x - f) (fun j h1 h2 => hn j h1 (by omega))
        rw [show f + (x - f) = x by omega] at this
        omega
      have ih := betK_ok l d (i + 1) (i + 1) (ys ++ segR l f i ++ [i]) (by omega) (Nat.le_refl _) (fun j h1 h2 => by omega)
        (by
          refine List.pairwise_append.2 ⟨List.pairwise_append.2 ⟨hs, hR, fun x hx y hyy => ?_⟩, List.pairwise_singleton _ _, fun x hx y hyy => ?_⟩
          · have h1 := hy x hx
            have h2 := hin y hyy
            exact .inl (by omega)
          · obtain rfl : y = i := by simpa using hyy
            rcases List.mem_append.1 hx with hx | hx
            · have h1 := hy x hx
              exact .inl (by omega)
            · have h2 := hin x hx
              exact .inr ⟨by omega, .inl ⟨.inr h4, by omega⟩⟩)
        (fun y hyy => by
          rcases List.mem_append.1 hyy with hyy | hyy
          · rcases List.mem_append.1 hyy with hyy | hyy
            · have h1 := hy y hyy; omega
            · have h2 := hin y hyy; omega
          · obtain rfl : y = i := by simpa using hyy
            omega)
      refine ⟨ih.1, ih.2.trans ?_⟩
      have hk : keptL l (l.length - f) f = keptL l (i - f) f ++ ([i] ++ keptL l (l.length - (i + 1)) (i + 1)) := by
        rw [show l.length - f = (i - f) + (l.length - i) by omega, keptL_split, show f + (i - f) = i by omega, show l.length - i = (l.length - (i + 1)) + 1 by omega]
        show _ ++ ((if covA l i then [] else [i]) ++ _) = _
        rw [covA_flush l h4]
        rfl
      rw [hk, List.append_assoc, List.append_assoc]
      refine List.Perm.append_left _ ?_
      exact hp.append_right _
    · rename_i h4
      exact betK_ok l d (i + 1) f ys (by omega) (by omega) (fun j h1 h2 => by
        by_cases e : j = i
        · rw [e]; exact h4
        · exact hn j h1 (by omega)) hs hy
/-- The places that are covered. -/
def covL (l : List S116) : Nat → Nat → List Int
  | 0, _ => []
  | d + 1, i => (if covA l i then [(i : Int)] else []) ++ covL l d (i + 1)
theorem covL_len (l : List S116) : ∀ d i, (covL l d i).length ≤ d
  | 0, _ => Nat.le_refl _
  | d + 1, i => by
    have := covL_len l d (i + 1)
    unfold covL
    rw [List.length_append]
    split <;> simp <;> omega
theorem qcov_ev (l : List S116) (hl : l.length ≤ 1000) : ∀ (d i : Nat) (acc : List Int), i + d = l.length → acc.length ≤ i → EvL (fun k => queue_Covered.l0 k l acc l (l.length : Int) (i : Int)) (acc ++ covL l d i) := by
  intro d
  induction d with
  | zero =>
    intro i acc hd ha
    refine EvL.step (h := fun _ => some (acc ++ covL l 0 i)) (fun k => ?_) EvL.const
    simp only [queue_Covered.l0, covL, List.append_nil]
    rw [if_neg (by omega)]
  | succ d ih =>
    intro i acc hd ha
    have hi : i < l.length := by omega
    have hc : queue_covered.f (l.getD i z116).f0 (l.getD i z116).f1 (l.getD i z116).f2 (l.drop (i + 1)) = some (covA l i) := by
      unfold queue_covered.f covA
      rw [if_pos (by rw [List.length_drop]; omega)]
    have hstep : ∀ k, queue_Covered.l0 (k + 1) l acc l (l.length : Int) (i : Int) = if covA l i = true then queue_Covered.l0 k l (acc ++ [(i : Int)]) l (l.length : Int) ((i + 1 : Nat) : Int) else queue_Covered.l0 k l acc l (l.length : Int) ((i + 1 : Nat) : Int) := fun k => by
      simp only [queue_Covered.l0]
      rw [if_pos (by omega), if_pos (by omega), if_pos (by omega), w_succ i (by omega), if_pos (by omega), if_pos (by omega), rd116, Int.toNat_natCast, hc, Option.bind_some]
      cases covA l i
      · rfl
      · rw [if_pos rfl, if_pos (by omega), if_pos rfl]
    unfold covL
    cases hv : covA l i with
    | true =>
      refine EvL.step (h := fun k => queue_Covered.l0 k l (acc ++ [(i : Int)]) l (l.length : Int) ((i + 1 : Nat) : Int)) (fun k => by rw [hstep, hv, if_pos rfl]) ?_
      have := ih (i + 1) (acc ++ [(i : Int)]) (by omega) (by simp; omega)
      rw [List.append_assoc] at this
      exact this
    | false =>
      refine EvL.step (h := fun k => queue_Covered.l0 k l acc l (l.length : Int) ((i + 1 : Nat) : Int)) (fun k => by rw [hstep, hv, if_neg (by decide)]) ?_
      exact ih (i + 1) acc (by omega) (by omega)
theorem qcov_f (l : List S116) (hl : l.length ≤ 1000) : EvL (fun k => queue_Covered.f k l) (covL l l.length 0) := qcov_ev l hl l.length 0 [] (by omega) (Nat.le_refl _)
end Go.Proofs.Ytnkgbnipcjgjeaa.Qu
