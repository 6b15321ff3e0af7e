/-
  For every page, number and bytes, incunablelaw04.GeomPairs returns true: pairs, addresses and numbers are the document's. Conditions: none beyond the statement's own.
-/
import Derived.Test.YtkcpohplgdndkaaQGx2
import Derived.Test.YtkcpohplgdndkaaSameP
import Derived.Test.YtkcpohplgdndkaaBits
namespace Go.Proofs.Ytkcpohplgdndkaa.Pure
open Go.RowKit Go.Proofs.Ytkcpohplgdndkaa.QG Go.Proofs.YtkcpohplgdndkaaW.PrintWords Go.Proofs.YtkcpohplgdndkaaW.PrintLast

theorem awake04 : incunablelaw04_awake.f = some true := by decide +kernel
theorem wf64 {x : Int} (h : (Lit.int .i64 x).wf = true) : -9223372036854775808 ≤ x ∧ x ≤ 9223372036854775807 := by
  simp [Lit.wf, IntKind.min, IntKind.max, IntKind.bits, IntKind.signed] at h
  exact h
theorem wf8 {x : Int} (h : (Lit.int .u8 x).wf = true) : 0 ≤ x ∧ x ≤ 255 := by
  simp [Lit.wf, IntKind.min, IntKind.max, IntKind.bits, IntKind.signed] at h
  exact h
theorem tmod256 (n : Int) : (0 ≤ Int.tmod n 256 ∧ Int.tmod n 256 = n % 256) ∨ (Int.tmod n 256 < 0 ∧ Int.tmod n 256 + 256 = n % 256) := by
  rw [Int.tmod_eq_emod]
  split
  · left; constructor <;> omega
  · rename_i h
    have : ¬ (256 : Int) ∣ n := fun hd => h (Or.inr hd)
    have h1 : (256 : Int).natAbs = 256 := rfl
    rw [h1]
    right; constructor <;> omega
theorem tdiv256 (n : Int) (h : n % 256 = 0) : Int.tdiv n 256 = n / 256 := by
  rw [Int.tdiv_eq_ediv, if_pos (Or.inr (by omega))]
  omega
theorem ref_address (n : Int) (h0 : -9223372036854775808 ≤ n) (h1 : n ≤ 9223372036854775807) : incunableref04_Address.f n = some [n % 256, n / 256 % 256] := by
  unfold incunableref04_Address.f
  have key : ∀ t : Int, t = n % 256 → (if (Int.tmod (wrap64 (Int.tdiv (wrap64 (n - t)) 256)) 256) < 0 then (some (([t % 256, (wrap64 ((Int.tmod (wrap64 (Int.tdiv (wrap64 (n - t)) 256)) 256) + 256)) % 256] : List Int))) else (some (([t % 256, (Int.tmod (wrap64 (Int.tdiv (wrap64 (n - t)) 256)) 256) % 256] : List Int)))) = some [n % 256, n / 256 % 256] := by
    intro t ht
    have e1 : wrap64 (n - t) = n - t := w64 _ (by omega) (by omega)
    have e2 : Int.tdiv (n - t) 256 = n / 256 := by rw [tdiv256 _ (by omega)]; omega
    rw [e1, e2, w64 (n / 256) (by omega) (by omega)]
    have e3 : t % 256 = n % 256 := by omega
    rw [e3]
    rcases tmod256 (n / 256) with ⟨ha, hb⟩ | ⟨ha, hb⟩
    · rw [if_neg (by omega), hb]
      have : n / 256 % 256 % 256 = n / 256 % 256 := by omega
      rw [this]
    · rw [if_pos ha, hb, w64 _ (by omega) (by omega)]
      have : n / 256 % 256 % 256 = n / 256 % 256 := by omega
      rw [this]
  rcases tmod256 n with ⟨ha, hb⟩ | ⟨ha, hb⟩
  · rw [if_neg (by omega)]
    exact key _ hb
  · rw [if_pos ha, hb, w64 (n % 256) (by omega) (by omega)]
    exact key _ rfl
theorem number_two (a b : Int) (ha : 0 ≤ a ∧ a ≤ 255) (hb : 0 ≤ b ∧ b ≤ 255) : geom_Number.f [a, b] = some (a + 256 * b, true) := by
  unfold geom_Number.f
  simp only [List.length_cons, List.length_nil]
  rw [if_pos (by decide), if_pos (by decide), if_pos (by decide)]
  have e0 : rd [a, b] 0 = a := rfl
  have e1 : rd [a, b] 1 = b := rfl
  rw [e0, e1, w64 a (by omega) (by omega), w64 b (by omega) (by omega), w64 (b * 256) (by omega) (by omega), bits_comm_or, or_join 8 (b * 256) a (by omega) (by omega) (by omega) (by omega) (by omega) (by omega)]
  congr 2
  omega
theorem number_no (l : List Int) (h : l.length ≠ 2) : geom_Number.f l = some (0, false) := by
  unfold geom_Number.f
  rw [if_neg (by omega)]
theorem GeomPairs : incunablelaw04_GeomPairs.Pure := by
  intro p n l hp hn hl hb hw
  obtain ⟨p0, p1⟩ := wf64 hp
  obtain ⟨n0, n1⟩ := wf64 hn
  refine ⟨l.length + 10, ?_⟩
  unfold incunablelaw04_GeomPairs.f
  rw [awake04]
  simp only [Option.bind_some, if_true]
  have main : ∀ lo hi : Int, geom_Lower.f p = some lo → geom_Upper.f p = some hi → incunablelaw04_GeomPairs.j0 (l.length + 10) p n l lo hi = some true := by
    intro lo hi h1 h2
    have j1 : ∀ k, 8 ≤ k → incunablelaw04_GeomPairs.j1 k p n lo hi false = some true := by
      intro k hk
      obtain ⟨k, rfl⟩ : ∃ m, k = m + 1 := ⟨k - 1, by omega⟩
      simp only [incunablelaw04_GeomPairs.j1]
      rw [if_neg (by decide), h1, h2]
      simp only [Option.bind_some, if_true]
      rw [ref_address n n0 n1]
      unfold geom_Address.f
      simp only [Option.bind_some]
      rw [same_eq _ _ (by simp) _ (by simp; omega)]
      simp
    obtain ⟨k, hk⟩ : ∃ m, l.length + 10 = m + 1 := ⟨l.length + 9, rfl⟩
    rw [hk]
    simp only [incunablelaw04_GeomPairs.j0]
    by_cases c : l.length = 2
    · obtain ⟨a, b, rfl⟩ : ∃ a b, l = [a, b] := by
        match l, c with
        | [a, b], _ => exact ⟨a, b, rfl⟩
      have ha := wf8 (hw a (by simp))
      have hb := wf8 (hw b (by simp))
      rw [number_two a b ha hb]
      simp only [Option.bind_some]
      rw [if_neg (by simp)]
      simp only [if_true]
      unfold geom_Address.f
      simp only [Option.bind_some]
      rw [same_eq _ _ (by simp) _ (by simp at hk ⊢; omega)]
      simp only [Option.bind_some]
      have e : [(a + 256 * b) % 256, (a + 256 * b) / 256 % 256] = [a, b] := by
        have x1 : (a + 256 * b) % 256 = a := by omega
        have x2 : (a + 256 * b) / 256 % 256 = b := by omega
        rw [x1, x2]
      rw [if_pos (decide_eq_true e)]
      exact j1 _ (by simp at hk; omega)
    · rw [number_no l c]
      simp only [Option.bind_some]
      rw [if_neg (by simp; omega), if_neg (by decide)]
      exact j1 _ (by omega)
  by_cases c : 0 ≤ p
  · rw [if_pos c]
    have e0 : Int.tdiv p 2 = p / 2 := Int.tdiv_eq_ediv_of_nonneg c
    rw [e0, w64 (p / 2) (by omega) (by omega), w64 (p / 2 * 2) (by omega) (by omega), w64 (p / 2 * 2 + 1) (by omega) (by omega)]
    refine main _ _ ?_ ?_
    · unfold geom_Lower.f
      have : mx p 0 = p := by unfold mx; omega
      rw [this, andNot_one p c (by omega)]
      congr 1; omega
    · unfold geom_Upper.f
      rw [if_neg (by omega), or_one p c (by omega)]
      congr 1; omega
  · rw [if_neg (by omega)]
    refine main _ _ ?_ ?_
    · unfold geom_Lower.f
      have : mx p 0 = 0 := by unfold mx; omega
      rw [this]; decide +kernel
    · unfold geom_Upper.f
      rw [if_pos (by omega)]
end Go.Proofs.Ytkcpohplgdndkaa.Pure
