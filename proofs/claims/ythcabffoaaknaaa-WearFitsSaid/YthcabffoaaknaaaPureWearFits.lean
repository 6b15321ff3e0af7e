/-
  For every list of numbers and every shift, the law WearFits of the given program returns true (plain part, over the printed functions). Conditions: none beyond the statement's own.
-/
import Derived.Test.YthcabffoaaknaaaWalkFits
import Derived.Test.YthcabffoaaknaaaPureW3
import Derived.OpenShut
namespace Go.Proofs.Ythcabffoaaknaaa.Pure
open Go.RowKit Go.Proofs.Ythcabffoaaknaaa Go.Proofs.Ythcabffoaaknaaa.QW Go.Proofs.YthcabffoaaknaaaW.PrintWords Go.Proofs.YthcabffoaaknaaaW.PrintLast
set_option linter.unusedVariables false
section
variable {l : List Int} {a : Int} {w1 w2 w3 w4 : Int} {bars : List Int}
theorem fits_l2 (hl : l.length ≤ 1000) (hmv : mayV l = 0) (a0 : 0 ≤ a) (a1 : a ≤ 65535) : ∀ (d i : Nat), i + d = l.length → (∀ j, j < i → l.getD j 0 ≤ 2147483648 - a) → EvL (fun k => incunablelaw38_WearFits.l2 k l a ((l.take i).map (· + a)) (List.replicate i a) l (l.length : Int) (i : Int)) true := by
  obtain ⟨hok, hp⟩ := mayV_ok hmv
  intro d
  induction d with
  | zero =>
    intro i hd hb
    have hi : i = l.length := by omega
    subst hi
    rw [List.take_length]
    have hmok : okN (l.map (· + a)) := by
      intro y hy
      obtain ⟨x, hx, rfl⟩ := List.mem_map.1 hy
      have h1 := hok x hx
      obtain ⟨j, hj, rfl⟩ := List.mem_iff_getElem.1 hx
      have h2 := hb j hj
      rw [List.getD_eq_getElem?_getD, List.getElem?_eq_getElem hj] at h2
      have h3 : l[j] ≤ 2147483648 - a := h2
      omega
    have hml : (l.map (· + a)).length = l.length := List.length_map ..
    have hmm : mayV (l.map (· + a)) = 0 := mayV_of hmok (by rw [hml]; exact hp)
    have heok : okN (List.replicate l.length a) := fun x hx => by
      have := List.eq_of_mem_replicate hx
      omega
    have hel : (List.replicate l.length a).length = l.length := List.length_replicate ..
    have hem : mayV (List.replicate l.length a) = 0 := mayV_of heok (by rw [hel]; exact hp)
    have q2 := wsq_f (l.map (· + a)) (by omega) hmm
    rw [hml, sum_shift, sq_shift] at q2
    have q3 := wsq_f (List.replicate l.length a) (by omega) hem
    rw [hel, sum_rep, sq_rep] at q3
    refine EvL.step (fun k => by
      simp only [incunablelaw38_WearFits.l2]
      rw [if_neg (by omega), spread_f l hl hmv, Option.bind_some, spread_f (l.map (· + a)) (by omega) hmm, Option.bind_some]) ?_
    refine EvL.bind (wsq_f l hl hmv) ?_
    refine EvL.bind q2 ?_
    refine EvL.bind q3 ?_
    have e : maxL l - minL l = maxL (l.map (· + a)) - minL (l.map (· + a)) := by rw [max_shift hp, min_shift hp]; omega
    simp only [if_true]
    rw [← e]
    simp only [if_true]
    exact ⟨0, fun k _ => rfl⟩
  | succ d ih =>
    intro i hd hb
    have hi : i < l.length := by omega
    have hx := okN_getD hok i hi
    have hwa : wrap64 a = a := IntWalk.wrap64_in _ (by omega)
    by_cases c : l.getD i 0 > 2147483648 - a
    · refine EvL.step (h := fun _ => some true) (fun k => ?_) EvL.const
      simp only [incunablelaw38_WearFits.l2]
      rw [if_pos (by omega), if_pos (by omega), if_pos (by omega), rd_nat, hwa, IntWalk.wrap64_in (2147483648 - a) (by omega), if_pos c]
    · refine EvL.step (h := fun k => incunablelaw38_WearFits.l2 k l a ((l.take (i + 1)).map (· + a)) (List.replicate (i + 1) a) l (l.length : Int) ((i + 1 : Nat) : Int)) (fun k => ?_) (ih (i + 1) (by omega) (fun j hj => by
        by_cases e : j = i
        · subst e; omega
        · exact hb j (by omega)))
      simp only [incunablelaw38_WearFits.l2]
      rw [if_pos (by omega), if_pos (by omega), if_pos (by omega), rd_nat, hwa, IntWalk.wrap64_in (2147483648 - a) (by omega), if_neg c, if_pos (by rw [List.length_map, List.length_take]; omega), if_pos (by rw [List.length_replicate]; omega), IntWalk.wrap64_in (l.getD i 0 + a) (by omega), w_succ i (by omega)]
      have e1 : (l.take (i + 1)).map (· + a) = (l.take i).map (· + a) ++ [l.getD i 0 + a] := by
        rw [List.take_succ_eq_append_getElem hi, List.map_append, List.getD_eq_getElem?_getD, List.getElem?_eq_getElem hi]
        rfl
      have e2 : List.replicate (i + 1) a = List.replicate i a ++ [a] := List.replicate_succ' ..
      rw [e1, e2]
theorem fits_l1 (hl : l.length ≤ 1000) (hmv : mayV l = 0) (a0 : 0 ≤ a) (a1 : a ≤ 65535) {b g : Int} (b0 : 0 ≤ b) (b1 : 2 * b ≤ l.length) (g0 : 0 ≤ g) (g1 : 2 * g ≤ l.length)
    (hbl : bars.length ≤ 1024) (hbn : ∀ x ∈ bars, 0 ≤ x ∧ x ≤ 1000) (hbs : bars ≠ [] → sumI bars = l.length) : ∀ (d i : Nat) (acc : Int), i + d = bars.length → 0 ≤ acc → acc ≤ i * 1000 → acc + sumI (bars.drop i) = sumI bars → EvL (fun k => incunablelaw38_WearFits.l1 k l a 0 b g acc bars (bars.length : Int) (i : Int) w1 w2 w3 w4 bars) true := by
  intro d
  induction d with
  | zero =>
    intro i acc hd h0 h1 hs
    rw [List.drop_eq_nil_of_le (by omega)] at hs
    simp only [sumI, Int.add_zero] at hs
    have hj : EvL (fun k => incunablelaw38_WearFits.j2 k l a false) true := by
      refine EvL.step (h := fun k => incunablelaw38_WearFits.l2 k l a ([] : List Int) ([] : List Int) l (l.length : Int) ((0 : Nat) : Int)) (fun k => ?_) ?_
      · simp only [incunablelaw38_WearFits.j2]
        rw [if_neg (by decide)]
        rfl
      · have := fits_l2 hl hmv a0 a1 l.length 0 (by omega) (fun j hj => absurd hj (Nat.not_lt_zero j))
        exact this
    refine EvL.step (h := fun k => incunablelaw38_WearFits.j2 k l a false) (fun k => ?_) hj
    simp only [incunablelaw38_WearFits.l1]
    rw [if_neg (by omega), if_pos trivial, IntWalk.wrap64_in (2 * b) (by omega), IntWalk.wrap64_in (2 * g) (by omega), if_neg (by omega), if_neg (by omega)]
    by_cases hb : bars = []
    · rw [if_neg (by rw [hb]; simp)]
    · have hp : 0 < bars.length := List.length_pos_iff.2 hb
      rw [if_pos (by omega), hs, hbs hb]
      simp
  | succ d ih =>
    intro i acc hd h0 h1 hs
    have hi : i < bars.length := by omega
    have hx : 0 ≤ bars.getD i 0 ∧ bars.getD i 0 ≤ 1000 := by
      rw [List.getD_eq_getElem?_getD, List.getElem?_eq_getElem hi]
      exact hbn _ (List.getElem_mem hi)
    rw [drop_getD bars i hi, sumI] at hs
    refine EvL.step (h := fun k => incunablelaw38_WearFits.l1 k l a 0 b g (acc + bars.getD i 0) bars (bars.length : Int) ((i + 1 : Nat) : Int) w1 w2 w3 w4 bars) (fun k => ?_) (ih (i + 1) _ (by omega) (by omega) (by omega) (by omega))
    simp only [incunablelaw38_WearFits.l1]
    rw [if_pos (by omega), if_pos (by omega), if_pos (by omega), rd_nat, IntWalk.wrap64_in _ (by omega), w_succ i (by omega)]
theorem fits_l0 (hl : l.length ≤ 1000) (m : Int) (H : EvL (fun k => incunablelaw38_WearFits.l1 k l a 0 (cntLt m l) (cntGt m l) 0 bars (bars.length : Int) 0 w1 w2 w3 w4 bars) true) : ∀ (d i : Nat) (b g : Int), i + d = l.length → 0 ≤ b → b ≤ i → 0 ≤ g → g ≤ i → b + cntLt m (l.drop i) = cntLt m l → g + cntGt m (l.drop i) = cntGt m l → EvL (fun k => incunablelaw38_WearFits.l0 k l a m 0 b g 0 l (l.length : Int) (i : Int) w1 w2 w3 w4 bars) true := by
  intro d
  induction d with
  | zero =>
    intro i b g hd b0 b1 g0 g1 hb hg
    rw [List.drop_eq_nil_of_le (by omega)] at hb hg
    simp only [cntLt, cntGt, Int.add_zero] at hb hg
    subst hb hg
    refine EvL.step (fun k => ?_) H
    simp only [incunablelaw38_WearFits.l0]
    rw [if_neg (by omega)]
  | succ d ih =>
    intro i b g hd b0 b1 g0 g1 hb hg
    have hi : i < l.length := by omega
    rw [drop_getD l i hi] at hb hg
    simp only [cntLt, cntGt] at hb hg
    by_cases c : l.getD i 0 < m
    · have c2 : ¬ l.getD i 0 > m := by omega
      rw [if_pos c] at hb
      rw [if_neg c2] at hg
      refine EvL.step (h := fun k => incunablelaw38_WearFits.l0 k l a m 0 (b + 1) g 0 l (l.length : Int) ((i + 1 : Nat) : Int) w1 w2 w3 w4 bars) (fun k => ?_) (ih (i + 1) _ _ (by omega) (by omega) (by omega) (by omega) (by omega) (by omega) (by omega))
      simp only [incunablelaw38_WearFits.l0]
      rw [if_pos (by omega), if_pos (by omega), if_pos (by omega), rd_nat, if_pos c, if_neg c2, IntWalk.wrap64_in (b + 1) (by omega), w_succ i (by omega)]
    · rw [if_neg c] at hb
      by_cases c2 : l.getD i 0 > m
      · rw [if_pos c2] at hg
        refine EvL.step (h := fun k => incunablelaw38_WearFits.l0 k l a m 0 b (g + 1) 0 l (l.length : Int) ((i + 1 : Nat) : Int) w1 w2 w3 w4 bars) (fun k => ?_) (ih (i + 1) _ _ (by omega) (by omega) (by omega) (by omega) (by omega) (by omega) (by omega))
        simp only [incunablelaw38_WearFits.l0]
        rw [if_pos (by omega), if_pos (by omega), if_pos (by omega), rd_nat, if_neg c, if_pos c2, IntWalk.wrap64_in (g + 1) (by omega), w_succ i (by omega)]
      · rw [if_neg c2] at hg
        refine EvL.step (h := fun k => incunablelaw38_WearFits.l0 k l a m 0 b g 0 l (l.length : Int) ((i + 1 : Nat) : Int) w1 w2 w3 w4 bars) (fun k => ?_) (ih (i + 1) _ _ (by omega) (by omega) (by omega) (by omega) (by omega) (by omega) (by omega))
        simp only [incunablelaw38_WearFits.l0]
        rw [if_pos (by omega), if_pos (by omega), if_pos (by omega), rd_nat, if_neg c, if_neg c2, w_succ i (by omega)]
end
theorem WearFits : incunablelaw38_WearFits.Pure := by
  intro l a _ _ _ ha
  have hab := bounds_u16 ha
  suffices h : EvL (fun k => incunablelaw38_WearFits.f k l a) true by
    obtain ⟨k0, h0⟩ := h
    exact ⟨k0, h0 k0 (Nat.le_refl _)⟩
  unfold incunablelaw38_WearFits.f incunablelaw38_awake.f
  simp only [Option.bind_some, if_true]
  by_cases h3 : (l.length : Int) > 300
  · simp only [if_pos h3]; exact EvL.const
  · simp only [if_neg h3]
    have hl : l.length ≤ 1000 := by omega
    by_cases hmv : mayV l = 0
    · obtain ⟨hok, hp⟩ := mayV_ok hmv
      obtain ⟨m, hm⟩ : ∃ m, l.length = m + 1 := ⟨l.length - 1, by omega⟩
      have hof : wear_Of.f l = some (minL l, maxL l, totL l, (l.length : Int), barsL (minL l) (maxL l) l, 0) := by unfold wear_Of.f; rw [if_pos hl, if_pos hmv]
      rw [hof]
      simp only [Option.bind_some, if_true, median_f l m hm hl hmv]
      have hh := below_half l m hm
      have hb := cntLt_bd ((sortL l).getD (m / 2) 0) l
      have hg := cntGt_bd ((sortL l).getD (m / 2) 0) l
      have h1 := minL_spec hp
      have h2 := maxL_spec hp
      have hlo := hok _ h1.1
      have hhi := hok _ h2.1
      have hbars : (barsL (minL l) (maxL l) l).length ≤ 1024 ∧ (∀ x ∈ barsL (minL l) (maxL l) l, 0 ≤ x ∧ x ≤ 1000) ∧ (barsL (minL l) (maxL l) l ≠ [] → sumI (barsL (minL l) (maxL l) l) = l.length) := by
        unfold barsL
        split
        · rename_i hs
          refine ⟨by simp; omega, fun x hx => ?_, fun _ => ?_⟩
          · obtain ⟨j, _, rfl⟩ := List.mem_map.1 hx
            have := cnt_le (minL l) l j
            omega
          · exact bars_sum _ _ l (fun x hx => by have := h1.2 x hx; have := h2.2 x hx; omega)
        · exact ⟨by simp, fun x hx => by simp at hx, fun h => absurd rfl h⟩
      have H := fits_l1 (a := a) (w1 := minL l) (w2 := maxL l) (w3 := totL l) (w4 := (l.length : Int)) hl hmv hab.1 hab.2 hb.1 hh.1 hg.1 hh.2 hbars.1 hbars.2.1 hbars.2.2 _ 0 0 (Nat.zero_add _) (by omega) (by omega) (by rw [List.drop_zero]; omega)
      have := fits_l0 hl ((sortL l).getD (m / 2) 0) H l.length 0 0 0 (by omega) (by omega) (by omega) (by omega) (by omega) (by rw [List.drop_zero]; omega) (by rw [List.drop_zero]; omega)
      exact this
    · have hof : wear_Of.f l = some (0, 0, 0, 0, [], mayV l) := by unfold wear_Of.f; rw [if_pos hl, if_neg hmv]
      rw [hof]
      simp only [Option.bind_some, if_neg hmv]
      exact ⟨0, fun k _ => rfl⟩
end Go.Proofs.Ythcabffoaaknaaa.Pure
