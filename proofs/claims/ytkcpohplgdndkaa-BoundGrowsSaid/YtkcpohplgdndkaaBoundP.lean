import Derived.Test.YtkcpohplgdndkaaBound0
import Derived.Test.YtkcpohplgdndkaaNum
namespace Go.Proofs.Ytkcpohplgdndkaa
open Go.RowKit Go.Proofs.Ytkcpohplgdndkaa.QB Go.Proofs.YtkcpohplgdndkaaW.PrintWords
set_option linter.unusedVariables false

theorem check_f (pl bl pg cs ck rg pt : Int) : geom_Check.f pl bl pg cs ck rg pt = some (if Right pl bl pg cs ck rg pt then 0 else 2) := rfl
theorem within_f (a b c : Int) : store_within.f a b c = some (decide (b ≤ a ∧ a ≤ c)) := by
  unfold store_within.f
  by_cases h : a ≥ b
  · rw [if_pos h]; congr 1; rw [decide_eq_decide]; omega
  · rw [if_neg h]; congr 1; rw [eq_comm, decide_eq_false_iff_not]; omega
theorem most_some (pl bl pg cs ck rg pt sec spr thr b buf : Int) : ∃ m, store_Most.f pl bl pg cs ck rg pt sec spr thr b buf = some m := by
  unfold store_Most.f
  rw [check_f]
  simp only [Option.bind_some]
  by_cases h : Right pl bl pg cs ck rg pt
  · rw [if_pos h, if_pos rfl, within_f]
    simp only [Option.bind_some]
    by_cases h2 : 0 ≤ spr ∧ spr ≤ 8
    · rw [decide_eq_true h2, if_pos rfl]; exact ⟨_, rfl⟩
    · rw [decide_eq_false h2, if_neg Bool.false_ne_true]; exact ⟨_, rfl⟩
  · rw [if_neg h, if_neg (by decide)]; exact ⟨_, rfl⟩
theorem data_some (pl bl pg cs ck rg pt : Int) : ∃ d, geom_Data.f pl bl pg cs ck rg pt = some d ∧ (¬ Right pl bl pg cs ck rg pt → d = 0) := by
  unfold geom_Data.f
  rw [check_f]
  simp only [Option.bind_some]
  by_cases h : Right pl bl pg cs ck rg pt
  · rw [if_pos h, if_pos rfl]; exact ⟨_, rfl, fun h' => absurd h h'⟩
  · rw [if_neg h, if_neg (by decide)]; exact ⟨_, rfl, fun _ => rfl⟩
def Valid (pl bl pg cs ck rg pt sec spr thr b buf : Int) : Prop := store_Check.f pl bl pg cs ck rg pt sec spr thr b buf = some 0
theorem valid_or (pl bl pg cs ck rg pt sec spr thr b buf : Int) : store_Check.f pl bl pg cs ck rg pt sec spr thr b buf = some 0 ∨ store_Check.f pl bl pg cs ck rg pt sec spr thr b buf = some 2 := by
  obtain ⟨d, hd, _⟩ := data_some pl bl pg cs ck rg pt
  obtain ⟨m, hm⟩ := most_some pl bl pg cs ck rg pt sec spr thr b buf
  unfold store_Check.f
  rw [hd, hm]
  simp only [Option.bind_some, within_f]
  repeat' split
  all_goals first | exact .inl rfl | exact .inr rfl
theorem not_valid {pl bl pg cs ck rg pt sec spr thr b buf : Int} (h : ¬ Valid pl bl pg cs ck rg pt sec spr thr b buf) : store_Check.f pl bl pg cs ck rg pt sec spr thr b buf = some 2 := (valid_or pl bl pg cs ck rg pt sec spr thr b buf).resolve_left h
theorem valid_facts {pl bl pg cs ck rg pt sec spr thr b buf : Int} (h : Valid pl bl pg cs ck rg pt sec spr thr b buf) : Right pl bl pg cs ck rg pt ∧ (1 ≤ b ∧ b ≤ 65536) ∧ (1 ≤ buf ∧ buf ≤ 64) := by
  obtain ⟨d, hd, hz⟩ := data_some pl bl pg cs ck rg pt
  obtain ⟨m, hm⟩ := most_some pl bl pg cs ck rg pt sec spr thr b buf
  unfold Valid store_Check.f at h
  rw [hd, hm] at h
  simp only [Option.bind_some, within_f] at h
  by_cases c0 : d < 16
  · rw [if_pos c0] at h; simp at h
  rw [if_neg c0] at h
  by_cases c1 : 1 ≤ sec ∧ sec ≤ m
  · rw [decide_eq_true c1, if_pos rfl] at h
    by_cases c2 : 1 ≤ thr ∧ thr ≤ 65536
    · rw [decide_eq_true c2, if_pos rfl] at h
      by_cases c3 : 1 ≤ b ∧ b ≤ 65536
      · rw [decide_eq_true c3, if_pos rfl] at h
        by_cases c4 : 1 ≤ buf ∧ buf ≤ 64
        · refine ⟨?_, c3, c4⟩
          by_cases c5 : Right pl bl pg cs ck rg pt
          · exact c5
          · exact absurd (hz c5) (by omega)
        · rw [decide_eq_false c4, if_neg (by decide)] at h; simp at h
      · rw [decide_eq_false c3, if_neg (by decide)] at h; simp at h
    · rw [decide_eq_false c2, if_neg (by decide)] at h; simp at h
  · rw [decide_eq_false c1, if_neg (by decide)] at h; simp at h
/-! the sums -/
theorem sum_l0 (l : List Int) (hl : l.length ≤ 1000) (hp : ∀ x ∈ l, 0 ≤ x) (d : Nat) : ∀ (k i : Nat) (s : Int), i ≤ l.length → l.length - i = d → d < k → 0 ≤ s → s + (l.drop i).sum ≤ 4611686018427387904 →
    bound_sum.l0 k s l l.length i = some (s + (l.drop i).sum) := by
  induction d with
  | zero =>
    intro k i s h0 hd hk _ _
    obtain ⟨k, rfl⟩ : ∃ m, k = m + 1 := ⟨k - 1, by omega⟩
    simp only [bound_sum.l0]
    rw [if_neg (by omega), List.drop_of_length_le (by omega)]
    simp
  | succ d ih =>
    intro k i s h0 hd hk hs hb
    obtain ⟨k, rfl⟩ : ∃ m, k = m + 1 := ⟨k - 1, by omega⟩
    have hx : i < l.length := by omega
    rw [List.drop_eq_getElem_cons hx, List.sum_cons] at hb ⊢
    have hx0 := hp _ (List.getElem_mem hx)
    have hr : 0 ≤ (l.drop (i + 1)).sum := by
      have : ∀ m : List Int, (∀ x ∈ m, 0 ≤ x) → 0 ≤ m.sum := by
        intro m
        induction m with
        | nil => intro _; simp
        | cons a m ih => intro h; rw [List.sum_cons]; have := h a (by simp); have := ih (fun x hx => h x (by simp [hx])); omega
      exact this _ (fun x hx => hp x (List.mem_of_mem_drop hx))
    simp only [bound_sum.l0]
    rw [if_pos (by omega), if_pos (by omega), if_pos (by omega), QG.rd_nat l i hx, QG.w64 (s + l[i]) (by omega) (by omega), QG.w64_succ i _ hx (by omega), ih k (i + 1) _ (by omega) (by omega) (by omega) (by omega) (by omega)]
    congr 1; omega
theorem sum_f (k : Nat) (l : List Int) (hl : l.length ≤ 1000) (hk : l.length < k) (hp : ∀ x ∈ l, 0 ≤ x) (hb : l.sum ≤ 4611686018427387904) : bound_sum.f k l = some l.sum := by
  unfold bound_sum.f
  have := sum_l0 l hl hp l.length k 0 0 (by omega) (by omega) hk (by omega) (by simpa using hb)
  simpa using this
def ord (b n : Int) : Int := n + b + 1 + 2 * (b + 2)
def rdv (rg b raw : Int) : Int := rg * (ord b 6 + ord b 6 + raw + 1 + (b + 2))
def svv (pl b raw : Int) : Int := pl * (ord b 4 + ord b (raw + 6))
def ptv (pl bl b raw : Int) : Int := (bl + 1) * (ord b 4 + 2 * ord b (raw + 6) + 2 * svv pl b raw)
def clv (pl bl pg rg b raw : Int) : Int := pg * (rdv rg b raw + ptv pl bl b raw)
def drv (pl bl pg rg b raw : Int) : Int := (8 * bl + 8) * clv pl bl pg rg b raw + ptv pl bl b raw
def mtv (pl bl pg rg b raw : Int) : Int := (b + 2) + 35 + b + 2 * svv pl b raw + (bl * pg + bl + pl) * rdv rg b raw
end Go.Proofs.Ytkcpohplgdndkaa
