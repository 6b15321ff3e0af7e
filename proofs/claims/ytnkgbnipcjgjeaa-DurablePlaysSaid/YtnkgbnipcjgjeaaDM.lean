import Derived.Test.YtnkgbnipcjgjeaaDK
namespace Go.Proofs.Ytnkgbnipcjgjeaa
open Go.RowKit Go.Shelf Go.Sort Go.Lib Go.Proofs.YtnkgbnipcjgjeaaW.PrintWords Go.Proofs.YtnkgbnipcjgjeaaW.PrintLast Go.Proofs.YtnkgbnipcjgjeaaW.PrintMore
set_option linter.unusedVariables false
theorem same_ev (xs ys : List Int) (hxy : xs.length = ys.length) (hl : xs.length ≤ 100000) : ∀ (d i : Nat), i + d = xs.length → EvL (fun k => QI.incunableref01_Same.l0 k xs ys (i : Int)) (decide (xs.drop i = ys.drop i)) := by
  intro d
  induction d with
  | zero =>
    intro i hd
    refine EvL.step (h := fun _ => some (decide (xs.drop i = ys.drop i))) (fun k => ?_) EvL.const
    simp only [QI.incunableref01_Same.l0]
    rw [if_neg (by omega), List.drop_of_length_le (by omega), List.drop_of_length_le (by omega)]
    rfl
  | succ d ih =>
    intro i hd
    have hx : i < xs.length := by omega
    have hy : i < ys.length := by omega
    have e1 : YtnkgbnipcjgjeaaW.PrintWords.rd xs (i : Int) = xs[i] := by unfold YtnkgbnipcjgjeaaW.PrintWords.rd; rw [Int.toNat_natCast, List.getD_eq_getElem?_getD, List.getElem?_eq_getElem hx]; rfl
    have e2 : YtnkgbnipcjgjeaaW.PrintWords.rd ys (i : Int) = ys[i] := by unfold YtnkgbnipcjgjeaaW.PrintWords.rd; rw [Int.toNat_natCast, List.getD_eq_getElem?_getD, List.getElem?_eq_getElem hy]; rfl
    rw [List.drop_eq_getElem_cons hx, List.drop_eq_getElem_cons hy]
    by_cases h : xs[i] = ys[i]
    · refine EvL.step (h := fun k => QI.incunableref01_Same.l0 k xs ys ((i + 1 : Nat) : Int)) (fun k => ?_) ?_
      · simp only [QI.incunableref01_Same.l0]
        rw [if_pos (by omega), if_pos (by omega), if_pos (by omega), e1, e2, if_pos h, w_succ i (by omega)]
      · rw [show decide (xs[i] :: xs.drop (i + 1) = ys[i] :: ys.drop (i + 1)) = decide (xs.drop (i + 1) = ys.drop (i + 1)) from decide_eq_decide.2 ⟨fun e => (List.cons.inj e).2, fun e => by rw [h, e]⟩]
        exact ih (i + 1) (by omega)
    · refine EvL.step (h := fun _ => some false) (fun k => ?_) ?_
      · simp only [QI.incunableref01_Same.l0]
        rw [if_pos (by omega), if_pos (by omega), if_pos (by omega), e1, e2, if_neg h]
      · rw [decide_eq_false (fun e => h (List.cons.inj e).1)]
        exact EvL.const
theorem same_f (xs ys : List Int) (hl : xs.length ≤ 100000) : ∃ k, QI.incunableref01_Same.f k xs ys = some (decide (xs = ys)) := by
  unfold QI.incunableref01_Same.f
  by_cases h : (xs.length : Int) = (ys.length : Int)
  · obtain ⟨k0, h0⟩ := same_ev xs ys (by omega) hl xs.length 0 (by omega)
    refine ⟨k0, ?_⟩
    rw [if_pos h]
    exact h0 k0 (Nat.le_refl _)
  · refine ⟨0, ?_⟩
    rw [if_neg h, decide_eq_false (fun e => h (by rw [e]))]
theorem same_call (A0 : Option Addr) (c0 : Nat) (xs : List Int) (A1 : Option Addr) (c1 : Nat) (ys : List Int) (w : World) (h0 : kB.C w A0 xs.length xs) (hc0 : xs.length ≤ c0) (h1 : kB.C w A1 ys.length ys) (hc1 : ys.length ≤ c1) (hl : xs.length ≤ 100000) :
    Calls Try.prog 52 #[.slice A0 xs.length c0, .slice A1 ys.length c1] w fun e w' => e = .returned (.bool (decide (xs = ys))) ∧ ∃ q, w' = w.drewN q := by
  obtain ⟨k, hk⟩ := same_f xs ys hl
  refine (QI.incunableref01_Same.calls k A0 c0 xs A1 c1 ys _ w h0 hc0 h1 hc1 hk).mono ?_
  rintro e w' ⟨rfl, ⟨q, rfl⟩⟩
  exact ⟨rfl, q, rfl⟩
theorem flL_get (l : Rec) (s : Int) : mget (flL l) s = (mget l s).map fun rows => [rows.getLastD []] := by
  induction l with
  | nil => rfl
  | cons p r ih =>
    show mget (flP p :: flL r) s = _
    rw [mget_cons, mget_cons]
    by_cases e : p.1 = s
    · rw [if_pos e, if_pos (show (flP p).1 = s from e)]; rfl
    · rw [if_neg e, if_neg (show ¬ (flP p).1 = s from e), ih]
theorem ofV_fl (l : Rec) (sz : Nat) (s : Int) : ofV (flL l) sz s = [(ofV l sz s).getLastD []] := by
  unfold ofV
  rw [flL_get]
  cases mget l s <;> rfl
theorem fl_one (l : Rec) : ∀ p ∈ flL l, p.2.length = 1 := fun p hp => by
  obtain ⟨q, _, rfl⟩ := List.mem_map.1 hp
  rfl
theorem cntS_zero (Q S : Nat → Bool) : ∀ n, (∀ i, i < n → Q i = false) → cntS Q S n = 0
  | 0, _ => rfl
  | n + 1, h => by
    unfold cntS
    rw [cntS_zero Q S n (fun i hi => h i (by omega)), h n (by omega), Bool.and_false]; rfl
theorem openN_fl (l : Rec) : openN (flL l) = 0 := by
  unfold openN
  refine cntS_zero _ _ _ fun i hi => ?_
  unfold bigQ
  rw [List.getD_eq_getElem?_getD, List.getElem?_eq_getElem hi, Option.getD_some, fl_one l _ (List.getElem_mem hi)]
  rfl
theorem mput_len (l : Rec) (s : Int) (rows : List (List Int)) : (mput l s rows).length ≤ l.length + 1 := by
  induction l with
  | nil => exact Nat.le_refl _
  | cons p r ih =>
    rw [mput_cons]
    split
    · rw [List.length_cons, List.length_cons]; omega
    · rw [List.length_cons, List.length_cons]; omega
theorem last_mem {l : List (List Int)} (h : l ≠ []) : l.getLastD [] ∈ l := by
  rw [List.getLastD_eq_getLast?, List.getLast?_eq_some_getLast h]
  exact List.getLast_mem _
/-- A slice of one's own, as it is read. -/
theorem own_C {w : World} {base : Nat} {ok : Nat → Prop} {A : Option Addr} {m c : Nat} {xs : List Int} (h : kB.R 5 w base ok (.slice A m c) xs) : m = xs.length ∧ xs.length ≤ c ∧ kB.C w A xs.length xs := by
  obtain ⟨A', c', he, hc, hC⟩ := Kd.R_reads h
  injection he with e1 e2 e3
  subst e1 e2 e3
  exact ⟨rfl, hc, hC⟩
end Go.Proofs.Ytnkgbnipcjgjeaa
