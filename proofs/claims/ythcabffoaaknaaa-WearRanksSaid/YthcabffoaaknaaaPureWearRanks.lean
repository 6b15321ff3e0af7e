/-
  For every list of numbers, the law WearRanks of the given program returns true (plain part, over the printed functions). Conditions: none beyond the statement's own.
-/
import Derived.Test.YthcabffoaaknaaaQWx3
import Derived.Test.YthcabffoaaknaaaPureW2
namespace Go.Proofs.Ythcabffoaaknaaa.Pure
open Go.RowKit Go.Proofs.Ythcabffoaaknaaa Go.Proofs.Ythcabffoaaknaaa.QW Go.Proofs.YthcabffoaaknaaaW.PrintWords Go.Proofs.YthcabffoaaknaaaW.PrintLast
set_option linter.unusedVariables false
theorem rank_at (l : List Int) (m i : Nat) (hm : l.length = m + 1) (hi : i < m + 1) : ∃ a : Nat, (rankN l (m + 1)).getD i 0 = (a : Int) ∧ a < m + 1 ∧ l.getD a 0 = (sortL l).getD i 0 := by
  have hlen := rank_len l m
  refine ⟨((rankF l m)[i]).val, ?_, ((rankF l m)[i]).isLt, ?_⟩
  · show ((rankF l m).map fun x => (x.val : Int)).getD i 0 = _
    rw [List.getD_eq_getElem?_getD, List.getElem?_map, List.getElem?_eq_getElem (by omega)]
    rfl
  · rw [← rank_sorted l m hm, List.getD_eq_getElem?_getD (l := List.map _ _), List.getElem?_map, List.getElem?_eq_getElem (by omega)]
    rfl
theorem rank_step (l : List Int) (m i : Nat) (hm : l.length = m + 1) (hi : i + 1 < m + 1) {a b : Nat} (ha : (rankN l (m + 1)).getD i 0 = (a : Int)) (hb : (rankN l (m + 1)).getD (i + 1) 0 = (b : Int)) (he : l.getD a 0 = l.getD b 0) : a < b := by
  have hlen := rank_len l m
  have ea : ((rankF l m)[i]).val = a := by
    have h1 : ((rankF l m).map fun x => (x.val : Int)).getD i 0 = (a : Int) := ha
    rw [List.getD_eq_getElem?_getD, List.getElem?_map, List.getElem?_eq_getElem (by omega)] at h1
    exact Int.ofNat.inj h1
  have eb : ((rankF l m)[i + 1]).val = b := by
    have h1 : ((rankF l m).map fun x => (x.val : Int)).getD (i + 1) 0 = (b : Int) := hb
    rw [List.getD_eq_getElem?_getD, List.getElem?_map, List.getElem?_eq_getElem (by omega)] at h1
    exact Int.ofNat.inj h1
  have h := (List.pairwise_iff_getElem.1 (rankF_rises l m)) i (i + 1) (by omega) (by omega) (by omega)
  have hnd : (rankF l m)[i] ≠ (rankF l m)[i + 1] := by
    have hn : (rankF l m).Nodup := (rankF_perm l m).nodup_iff.2 (List.nodup_finRange _)
    exact (List.pairwise_iff_getElem.1 hn) i (i + 1) (by omega) (by omega) (by omega)
  have hne : a ≠ b := by
    rw [← ea, ← eb]
    exact fun e => hnd (Fin.ext e)
  rw [ea, eb] at h
  unfold ltP at h
  omega
theorem ranks_ev (l : List Int) (m : Nat) (hm : l.length = m + 1) (hl : l.length ≤ 1000) (hok : okN l) (q : Int × Int) (hq : q = sqL l.length (sumI l) 0 l) : ∀ (d i : Nat), i + d = m + 1 → EvL (fun k => incunablelaw38_WearRanks.l0 k l (rankN l (m + 1)) q.1 q.2 (sortL l) (rankN l (m + 1)) ((m + 1 : Nat) : Int) (i : Int)) true := by
  have hlen : (rankN l (m + 1)).length = m + 1 := by show ((rankF l m).map _).length = _; rw [List.length_map, rank_len]
  have hslen : (sortL l).length = m + 1 := by rw [sort_len, hm]
  intro d
  induction d with
  | zero =>
    intro i hd
    refine EvL.step (h := fun k => (incunableref38_Squares.f k l).bind fun bt => if q.1 = bt.1 then some (q.2 == bt.2) else some false) (fun k => ?_) ?_
    · simp only [incunablelaw38_WearRanks.l0]
      rw [if_neg (by omega)]
    · refine EvL.bind (rsq_f l hok hl) ?_
      rw [← hq, if_pos rfl]
      exact ⟨0, fun k _ => by simp⟩
  | succ d ih =>
    intro i hd
    have hi : i < m + 1 := by omega
    obtain ⟨b, hb, hb1, hb2⟩ := rank_at l m i hm hi
    refine EvL.step (h := fun k => incunablelaw38_WearRanks.l0 k l (rankN l (m + 1)) q.1 q.2 (sortL l) (rankN l (m + 1)) ((m + 1 : Nat) : Int) ((i + 1 : Nat) : Int)) (fun k => ?_) (ih (i + 1) (by omega))
    simp only [incunablelaw38_WearRanks.l0]
    rw [hlen, if_pos (by omega), if_pos (by omega), if_pos (by omega), rd_nat, hb, if_neg (by omega), if_neg (by omega), if_pos (by omega), if_pos (by omega), if_pos (by omega), rd_nat, rd_nat, hb2, if_pos rfl, w_succ i (by omega)]
    by_cases c : i = 0
    · rw [if_neg (by omega)]
    · rw [if_pos (by omega)]
      obtain ⟨j, rfl⟩ : ∃ j, i = j + 1 := ⟨i - 1, by omega⟩
      obtain ⟨a, ha, ha1, ha2⟩ := rank_at l m j hm (by omega)
      have hw : wrap64 (((j + 1 : Nat) : Int) - 1) = (j : Int) := by rw [IntWalk.wrap64_in _ (by omega)]; omega
      rw [hw, if_pos (by omega), if_pos (by omega), rd_nat, ha, if_pos (by omega), if_pos (by omega), rd_nat]
      by_cases c2 : l.getD a 0 = (sortL l).getD (j + 1) 0
      · rw [if_pos c2]
        have := rank_step l m j hm hi ha hb (by rw [c2, hb2])
        rw [if_neg (by omega)]
      · rw [if_neg c2]
theorem WearRanks : incunablelaw38_WearRanks.Pure := by
  intro l _ _ _
  suffices h : EvL (fun k => incunablelaw38_WearRanks.f k l) true by
    obtain ⟨k0, h0⟩ := h
    exact ⟨k0, h0 k0 (Nat.le_refl _)⟩
  unfold incunablelaw38_WearRanks.f incunablelaw38_awake.f
  simp only [Option.bind_some, if_true]
  by_cases h3 : (l.length : Int) > 300
  · simp only [if_pos h3]; exact EvL.const
  · simp only [if_neg h3]
    have hl : l.length ≤ 1000 := by omega
    by_cases hmv : mayV l = 0
    · obtain ⟨hok, hp⟩ := mayV_ok hmv
      obtain ⟨m, hm⟩ : ∃ m, l.length = m + 1 := ⟨l.length - 1, by omega⟩
      have hr : wear_Rank.f l = some (rankN l (m + 1), 0) := by unfold wear_Rank.f rankL; rw [if_pos hl, if_pos hmv, hm]
      rw [hr]
      simp only [Option.bind_some]
      refine EvL.bind (wsq_f l hl hmv) ?_
      refine EvL.bind (may_f l hl) ?_
      simp only [if_pos hmv]
      refine EvL.bind (sorted_f l hl) ?_
      simp only [if_true]
      have hlen : (rankN l (m + 1)).length = m + 1 := by show ((rankF l m).map _).length = _; rw [List.length_map, rank_len]
      refine EvL.step (h := fun k => incunablelaw38_WearRanks.l0 k l (rankN l (m + 1)) (sqL l.length (sumI l) 0 l).1 (sqL l.length (sumI l) 0 l).2 (sortL l) (rankN l (m + 1)) ((m + 1 : Nat) : Int) ((0 : Nat) : Int)) (fun k => ?_) (ranks_ev l m hm hl hok _ rfl (m + 1) 0 (by omega))
      simp only [incunablelaw38_WearRanks.j0]
      rw [hlen, hm, if_neg (by simp)]
      rfl
    · have hr : wear_Rank.f l = some ([], mayV l) := by unfold wear_Rank.f; rw [if_pos hl, if_neg hmv]
      rw [hr]
      simp only [Option.bind_some]
      refine EvL.bind (wsq_no l hl hmv) ?_
      refine EvL.bind (may_f l hl) ?_
      simp only [if_neg hmv, if_true, List.length_nil]
      exact ⟨0, fun k _ => by simp⟩
end Go.Proofs.Ythcabffoaaknaaa.Pure
