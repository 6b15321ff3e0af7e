import Derived.Test.YtfmogmgdpamfgaaNu
import Derived.Test.YtfmogmgdpamfgaaGm1
import Derived.Test.YtfmogmgdpamfgaaJp0
import Derived.Test.YtfmogmgdpamfgaaJw5
namespace Go.Proofs.Ytfmogmgdpamfgaa
open Go.RowKit Go.Proofs.Ytfmogmgdpamfgaa.QJ Go.Proofs.YtfmogmgdpamfgaaW.PrintWords
set_option linter.unusedVariables false
theorem from_yes (a b c : Int) (h : b ≤ a ∧ a ≤ c) : incunableref04_from.f a b c = some true := by
  unfold incunableref04_from.f
  rw [if_pos (by omega), decide_eq_true h.2]
theorem from_no (a b c : Int) (h : ¬ (b ≤ a ∧ a ≤ c)) : incunableref04_from.f a b c = some false := by
  unfold incunableref04_from.f
  by_cases h1 : a ≥ b
  · rw [if_pos h1, decide_eq_false (by omega)]
  · rw [if_neg h1]
theorem div_mul_iff (b p : Int) : (b / p * p = b) ↔ b % p = 0 := by
  have := Int.mul_ediv_add_emod b p
  rw [Int.mul_comm] at this
  constructor <;> intro h <;> omega
theorem refRight_eq (pl bl pg cs ck rg pt : Int) : incunableref04_Right.f pl bl pg cs ck rg pt = some (decide (Right pl bl pg cs ck rg pt)) := by
  unfold incunableref04_Right.f
  have dn : ¬ Right pl bl pg cs ck rg pt → decide (Right pl bl pg cs ck rg pt) = false := fun h => decide_eq_false h
  have dy : Right pl bl pg cs ck rg pt → decide (Right pl bl pg cs ck rg pt) = true := fun h => decide_eq_true h
  by_cases q0 : 1 ≤ pl ∧ pl ≤ 4
  · by_cases q1 : 2 ≤ bl ∧ bl ≤ 256
    · by_cases q2 : 4 ≤ pg ∧ pg ≤ 64
      · by_cases q3 : 1 ≤ cs ∧ cs ≤ 16
        · by_cases q4 : 4 ≤ ck ∧ ck ≤ 512
          · by_cases q5 : 1 ≤ rg ∧ rg ≤ 8
            · by_cases q6 : 1 ≤ pt ∧ pt ≤ 8
              · rw [from_yes _ _ _ q0, from_yes _ _ _ q1, from_yes _ _ _ q2, from_yes _ _ _ q3, from_yes _ _ _ q4, from_yes _ _ _ q5, from_yes _ _ _ q6]
                simp only [Option.bind_some, if_true]
                rw [if_neg (by omega)]
                have e1 : Int.tdiv bl pl = bl / pl := Int.tdiv_eq_ediv_of_nonneg (by omega)
                have e2 : Int.tdiv pg 2 = pg / 2 := Int.tdiv_eq_ediv_of_nonneg (by omega)
                have e3 : 0 ≤ bl / pl := Int.ediv_nonneg (by omega) (by omega)
                have e4 : bl / pl ≤ bl := Int.ediv_le_self _ (by omega)
                have e5 : 0 ≤ bl / pl * pl := Int.mul_nonneg e3 (by omega)
                have e6 : bl / pl * pl ≤ bl := Int.ediv_mul_le _ (by omega)
                rw [e1, e2, w64i (bl / pl) (by omega) (by omega), w64i (bl / pl * pl) (by omega) (by omega), w64i (pg / 2) (by omega) (by omega), w64i (pg / 2 * 2) (by omega) (by omega)]
                have i1 := div_mul_iff bl pl
                by_cases c1 : bl % pl = 0
                · rw [if_pos (i1.2 c1)]
                  by_cases c2 : pg % 2 = 0
                  · rw [dy ⟨q0, q1, q2, q3, q4, q5, q6, c1, c2⟩]
                    congr 1; rw [beq_iff_eq]; omega
                  · rw [dn (fun h => c2 h.2.2.2.2.2.2.2.2)]
                    congr 1; rw [beq_eq_false_iff_ne]; omega
                · rw [if_neg (fun h => c1 (i1.1 h)), dn (fun h => c1 h.2.2.2.2.2.2.2.1)]
              · rw [from_yes _ _ _ q0, from_yes _ _ _ q1, from_yes _ _ _ q2, from_yes _ _ _ q3, from_yes _ _ _ q4, from_yes _ _ _ q5, from_no _ _ _ q6, dn (fun h => q6 h.2.2.2.2.2.2.1)]; rfl
            · rw [from_yes _ _ _ q0, from_yes _ _ _ q1, from_yes _ _ _ q2, from_yes _ _ _ q3, from_yes _ _ _ q4, from_no _ _ _ q5, dn (fun h => q5 h.2.2.2.2.2.1)]; rfl
          · rw [from_yes _ _ _ q0, from_yes _ _ _ q1, from_yes _ _ _ q2, from_yes _ _ _ q3, from_no _ _ _ q4, dn (fun h => q4 h.2.2.2.2.1)]; rfl
        · rw [from_yes _ _ _ q0, from_yes _ _ _ q1, from_yes _ _ _ q2, from_no _ _ _ q3, dn (fun h => q3 h.2.2.2.1)]; rfl
      · rw [from_yes _ _ _ q0, from_yes _ _ _ q1, from_no _ _ _ q2, dn (fun h => q2 h.2.2.1)]; rfl
    · rw [from_yes _ _ _ q0, from_no _ _ _ q1, dn (fun h => q1 h.2.1)]; rfl
  · rw [from_no _ _ _ q0, dn (fun h => q0 h.1)]; rfl

namespace Jd
theorem gright_ok {g : Ge} (h : g.ok) (w : World) : Calls Try.prog 13 #[g.v] w fun e w' => e = .returned (.bool true) ∧ Below w.heap.size w w' :=
  incunableref04_Right.calls _ _ _ _ _ _ _ _ w (by rw [refRight_eq, decide_eq_true (show Right g.pl g.bl g.pg g.ch g.ck g.ru g.pa from h)])
theorem gright_no {g : Ge} (h : ¬ g.ok) (w : World) : Calls Try.prog 13 #[g.v] w fun e w' => e = .returned (.bool false) ∧ Below w.heap.size w w' :=
  incunableref04_Right.calls _ _ _ _ _ _ _ _ w (by rw [refRight_eq, decide_eq_false (show ¬ Right g.pl g.bl g.pg g.ch g.ck g.ru g.pa from h)])
theorem small_any (g : Ge) : ∃ B : Bool, (B = true → g.bl ≤ 16 ∧ g.pg ≤ 12 ∧ g.ch ≤ 4 ∧ g.ck ≤ 40) ∧ ∀ w, Calls Try.prog 12 #[g.v] w fun e w' => e = .returned (.bool B) ∧ Below w.heap.size w w' := by
  have h8 : ∃ B : Bool, incunablelaw08_Small.f g.pl g.bl g.pg g.ch g.ck g.ru g.pa = some B ∧ (B = true → g.ch ≤ 4 ∧ g.ck ≤ 40) := by
    unfold incunablelaw08_Small.f
    by_cases h1 : g.ch ≤ 4
    · by_cases h2 : g.ck ≤ 40
      · rw [if_pos h1, if_pos h2]
        split
        · exact ⟨_, rfl, fun _ => ⟨h1, h2⟩⟩
        · exact ⟨_, rfl, fun _ => ⟨h1, h2⟩⟩
      · rw [if_pos h1, if_neg h2]; exact ⟨_, rfl, fun h => by cases h⟩
    · rw [if_neg h1]; exact ⟨_, rfl, fun h => by cases h⟩
  obtain ⟨B8, e8, b8⟩ := h8
  have h13 : ∃ B : Bool, incunablelaw13_Small.f g.pl g.bl g.pg g.ch g.ck g.ru g.pa = some B ∧ (B = true → g.bl ≤ 16 ∧ g.pg ≤ 12 ∧ g.ch ≤ 4 ∧ g.ck ≤ 40) := by
    unfold incunablelaw13_Small.f
    rw [e8, Option.bind_some]
    by_cases h1 : B8 = true
    · rw [if_pos h1]
      by_cases h2 : g.bl ≤ 16
      · rw [if_pos h2]
        exact ⟨_, rfl, fun h => ⟨h2, of_decide_eq_true h, (b8 h1).1, (b8 h1).2⟩⟩
      · rw [if_neg h2]; exact ⟨_, rfl, fun h => by cases h⟩
    · rw [if_neg h1]; exact ⟨_, rfl, fun h => by cases h⟩
  obtain ⟨B, e, b⟩ := h13
  exact ⟨B, b, fun w => incunablelaw13_Small.calls _ _ _ _ _ _ _ _ w e⟩
end Jd
end Go.Proofs.Ytfmogmgdpamfgaa
