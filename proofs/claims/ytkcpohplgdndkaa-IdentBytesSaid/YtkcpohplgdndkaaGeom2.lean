import Derived.Test.YtkcpohplgdndkaaGeom1
import Derived.Test.YtkcpohplgdndkaaQGx2
import Derived.Test.YtkcpohplgdndkaaSameP
namespace Go.Proofs.Ytkcpohplgdndkaa
open Go.RowKit Go.Proofs.Ytkcpohplgdndkaa.QG Go.Proofs.YtkcpohplgdndkaaW.PrintWords

theorem chainB {B : Nat} {a w w1 : World} (hB : B ≤ a.heap.size) (h : Below B a w) (k : Below w.heap.size w w1) : Below B a w1 := h.trans (k.mono (Nat.le_trans hB h.size))
theorem cellB {B : Nat} {a w : World} (h : Below B a w) : ∀ b o, b < B → w.cell? ⟨b, o, none⟩ = a.cell? ⟨b, o, none⟩ := fun b o hb => h.cell (p := ⟨b, o, none⟩) hb
theorem awake04_f : incunablelaw04_awake.f = some true := by decide +kernel
theorem from_yes (a b c : Int) (h : b ≤ a ∧ a ≤ c) : incunableref04_from.f a b c = some true := by
  unfold incunableref04_from.f
  rw [if_pos (by omega), decide_eq_true h.2]
theorem from_no (a b c : Int) (h : ¬ (b ≤ a ∧ a ≤ c)) : incunableref04_from.f a b c = some false := by
  unfold incunableref04_from.f
  by_cases h1 : a ≥ b
  · rw [if_pos h1, decide_eq_false (by omega)]
  · rw [if_neg h1]
theorem div_mul_iff (b p : Int) : (b / p * p = b) ↔ b % p = 0 := by
  have := Int.mul_ediv_add_emod b p
  rw [Int.mul_comm] at this
  constructor <;> intro h <;> omega
theorem refRight_eq (pl bl pg cs ck rg pt : Int) : incunableref04_Right.f pl bl pg cs ck rg pt = some (decide (Right pl bl pg cs ck rg pt)) := by
  unfold incunableref04_Right.f
  have dn : ¬ Right pl bl pg cs ck rg pt → decide (Right pl bl pg cs ck rg pt) = false := fun h => decide_eq_false h
  have dy : Right pl bl pg cs ck rg pt → decide (Right pl bl pg cs ck rg pt) = true := fun h => decide_eq_true h
  by_cases q0 : 1 ≤ pl ∧ pl ≤ 4
  · by_cases q1 : 2 ≤ bl ∧ bl ≤ 256
    · by_cases q2 : 4 ≤ pg ∧ pg ≤ 64
      · by_cases q3 : 1 ≤ cs ∧ cs ≤ 16
        · by_cases q4 : 4 ≤ ck ∧ ck ≤ 512
          · by_cases q5 : 1 ≤ rg ∧ rg ≤ 8
            · by_cases q6 : 1 ≤ pt ∧ pt ≤ 8
              · rw [from_yes _ _ _ q0, from_yes _ _ _ q1, from_yes _ _ _ q2, from_yes _ _ _ q3, from_yes _ _ _ q4, from_yes _ _ _ q5, from_yes _ _ _ q6]
                simp only [Option.bind_some, if_true]
                rw [if_neg (by omega)]
                have e1 : Int.tdiv bl pl = bl / pl := Int.tdiv_eq_ediv_of_nonneg (by omega)
                have e2 : Int.tdiv pg 2 = pg / 2 := Int.tdiv_eq_ediv_of_nonneg (by omega)
                have e3 : 0 ≤ bl / pl := Int.ediv_nonneg (by omega) (by omega)
                have e4 : bl / pl ≤ bl := Int.ediv_le_self _ (by omega)
                have e5 : 0 ≤ bl / pl * pl := Int.mul_nonneg e3 (by omega)
                have e6 : bl / pl * pl ≤ bl := Int.ediv_mul_le _ (by omega)
                rw [e1, e2, w64 (bl / pl) (by omega) (by omega), w64 (bl / pl * pl) (by omega) (by omega), w64 (pg / 2) (by omega) (by omega), w64 (pg / 2 * 2) (by omega) (by omega)]
                have i1 := div_mul_iff bl pl
                by_cases c1 : bl % pl = 0
                · rw [if_pos (i1.2 c1)]
                  by_cases c2 : pg % 2 = 0
                  · rw [dy ⟨q0, q1, q2, q3, q4, q5, q6, c1, c2⟩]
                    congr 1; rw [beq_iff_eq]; omega
                  · rw [dn (fun h => c2 h.2.2.2.2.2.2.2.2)]
                    congr 1; rw [beq_eq_false_iff_ne]; omega
                · rw [if_neg (fun h => c1 (i1.1 h)), dn (fun h => c1 h.2.2.2.2.2.2.2.1)]
              · rw [from_yes _ _ _ q0, from_yes _ _ _ q1, from_yes _ _ _ q2, from_yes _ _ _ q3, from_yes _ _ _ q4, from_yes _ _ _ q5, from_no _ _ _ q6, dn (fun h => q6 h.2.2.2.2.2.2.1)]; rfl
            · rw [from_yes _ _ _ q0, from_yes _ _ _ q1, from_yes _ _ _ q2, from_yes _ _ _ q3, from_yes _ _ _ q4, from_no _ _ _ q5, dn (fun h => q5 h.2.2.2.2.2.1)]; rfl
          · rw [from_yes _ _ _ q0, from_yes _ _ _ q1, from_yes _ _ _ q2, from_yes _ _ _ q3, from_no _ _ _ q4, dn (fun h => q4 h.2.2.2.2.1)]; rfl
        · rw [from_yes _ _ _ q0, from_yes _ _ _ q1, from_yes _ _ _ q2, from_no _ _ _ q3, dn (fun h => q3 h.2.2.2.1)]; rfl
      · rw [from_yes _ _ _ q0, from_yes _ _ _ q1, from_no _ _ _ q2, dn (fun h => q2 h.2.2.1)]; rfl
    · rw [from_yes _ _ _ q0, from_no _ _ _ q1, dn (fun h => q1 h.2.1)]; rfl
  · rw [from_no _ _ _ q0, dn (fun h => q0 h.1)]; rfl
theorem refRight_ok {pl bl pg cs ck rg pt : Int} (h : Right pl bl pg cs ck rg pt) (w : World) : Calls Try.prog 27 #[.agg #[.int .i64 pl, .int .i64 bl, .int .i64 pg, .int .i64 cs, .int .i64 ck, .int .i64 rg, .int .i64 pt]] w fun e w' => e = .returned (.bool true) ∧ Below w.heap.size w w' :=
  incunableref04_Right.calls _ _ _ _ _ _ _ _ w (by rw [refRight_eq, decide_eq_true h])
theorem refRight_no {pl bl pg cs ck rg pt : Int} (h : ¬ Right pl bl pg cs ck rg pt) (w : World) : Calls Try.prog 27 #[.agg #[.int .i64 pl, .int .i64 bl, .int .i64 pg, .int .i64 cs, .int .i64 ck, .int .i64 rg, .int .i64 pt]] w fun e w' => e = .returned (.bool false) ∧ Below w.heap.size w w' :=
  incunableref04_Right.calls _ _ _ _ _ _ _ _ w (by rw [refRight_eq, decide_eq_false h])
theorem refRaw_ok {pl bl pg cs ck rg pt : Int} (h : Right pl bl pg cs ck rg pt) (w : World) : Calls Try.prog 31 #[.agg #[.int .i64 pl, .int .i64 bl, .int .i64 pg, .int .i64 cs, .int .i64 ck, .int .i64 rg, .int .i64 pt]] w fun e w' => e = .returned (.int .i64 (cs * (ck + 2) + 31)) ∧ Below w.heap.size w w' := by
  refine incunableref04_Raw.calls _ _ _ _ _ _ _ _ w ?_
  obtain ⟨⟨a1, a2⟩, ⟨b1, b2⟩, ⟨c1, c2⟩, ⟨d1, d2⟩, ⟨e1, e2⟩, _⟩ := h
  have m1 : 0 ≤ cs * ck := Int.mul_nonneg (by omega) (by omega)
  have m2 : cs * ck ≤ 8192 := Int.le_trans (Int.mul_le_mul_of_nonneg_right d2 (by omega)) (by omega)
  unfold incunableref04_Raw.f
  rw [w64 (cs * ck) (by omega) (by omega), w64 (2 * cs) (by omega) (by omega), w64 (cs * ck + 2 * cs) (by omega) (by omega), w64 _ (by omega) (by omega), Int.mul_add]
  congr 1; omega
theorem awake04_ok (w : World) : Calls Try.prog 17 #[] w fun e w' => e = .returned (.bool true) ∧ Below w.heap.size w w' := incunablelaw04_awake.calls true w awake04_f

end Go.Proofs.Ytkcpohplgdndkaa
