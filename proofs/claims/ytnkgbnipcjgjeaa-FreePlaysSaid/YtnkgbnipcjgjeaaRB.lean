import Derived.Test.YtnkgbnipcjgjeaaRA
namespace Go.Proofs.Ytnkgbnipcjgjeaa
open Go.RowKit Go.Shelf Go.Sort Go.Lib Go.Proofs.YtnkgbnipcjgjeaaW.PrintWords Go.Proofs.YtnkgbnipcjgjeaaW.PrintLast Go.Proofs.YtnkgbnipcjgjeaaW.PrintMore
set_option linter.unusedVariables false
set_option maxHeartbeats 8000000 in
set_option maxRecDepth 100000 in
theorem rnext_ok (g : Nat) (l : List (Int × Int)) (w : World) (h : RR w g l) (hl : l.length ≤ 1000) : Calls Try.prog 23 #[.pointer (some ⟨g, 0, none⟩)] w fun e w' => e = .returned (.int .i64 (minI l)) ∧ ∃ q, w' = w.drewN q := by
  obtain ⟨A1, c1, A2, c2, h0, h3, h4, hc⟩ := h.cells
  obtain ⟨T, hT⟩ : ∃ T, T = minI l := ⟨_, rfl⟩
  rw [← hT]
  have HT := Lib.hid hT
  have HC := Lib.hid hc
  obtain ⟨n, hn⟩ : ∃ n, n = l.length := ⟨_, rfl⟩
  rw [← hn] at h0
  have HN := Lib.hid hn
  have hn2 : (n : Int) ≤ 1000 := by omega
  have H0 := Lib.hid h0
  clear h hc hl h3 h4 h0 hn hT
  go_enter Try.func23, Try.ntmps23
  go_wp2_with fail
  go_loopw [3, 4] (fun bs i wr => ∃ (k : Nat) (best : Int), k ≤ n ∧ i = .int .i64 k ∧ bs = .int .i64 best ∧ (best = -1 ∨ 0 ≤ best ∧ best < k) ∧ Hid (minGo l (n - k) k best = T) ∧ ∃ q, wr = w.drewN q) (fun _ i _ => n - (intOf i).toNat)
  case atStart => exact ⟨0, -1, by omega, rfl, rfl, .inl rfl, Lib.hid (by rw [HT.out, HN.out]; rfl), 0, rfl⟩
  case round =>
    obtain ⟨k, best, hk, rfl, rfl, hbest, HG, q, rfl⟩ := hrel
    have hg0 : w.cell? ⟨g, 0, none⟩ = some (.slice A1 n c1) := blk_cell H0.out 0
    have hg1 : w.cell? ⟨g, 1, none⟩ = some (.slice A2 n c2) := blk_cell H0.out 1
    by_cases hkn : k < n
    · obtain ⟨b1, o1, b2, o2, rfl, rfl, _, _, hcell⟩ := HC.out (by have := HN.out; omega)
      have ek := hcell k (by have := HN.out; omega)
      have e1 : w.cell? ⟨b1, o1 + k, none⟩ = some (.int .i64 (gP l k).1) := ek.1
      have e2 : w.cell? ⟨b2, o2 + k, none⟩ = some (.int .i64 (gP l k).2) := ek.2
      have hg := HG.out
      rw [show n - k = (n - (k + 1)) + 1 by omega] at hg
      have hg' : (if best < 0 ∨ ltE (gP l k) (gP l best.toNat) = true then minGo l (n - (k + 1)) (k + 1) k else minGo l (n - (k + 1)) (k + 1) best) = T := hg
      have hk0 : (k : Int) < (n : Int) := by omega
      have hkk : (0 : Int) ≤ (k : Int) := by omega
      rcases hbest with rfl | ⟨hb0, hb1⟩
      · rw [if_pos (.inl (by decide))] at hg'
        have HG2 := Lib.hid hg'
        clear hcell ek hg hg'
        go_wp2_with fail
        go_quiet (fail)
        go_wp2_with fail
        go_roundw
        case rel => exact ⟨k + 1, k, hkn, by go_num, rfl, .inr ⟨by omega, by omega⟩, HG2, q + nq, rfl⟩
        case measure => exact step_measure hkn
      · obtain ⟨j, rfl⟩ := Int.eq_ofNat_of_zero_le hb0
        have hjk : j < k := by omega
        have ej := hcell j (by have := HN.out; omega)
        have e3 : w.cell? ⟨b1, o1 + j, none⟩ = some (.int .i64 (gP l j).1) := ej.1
        have e4 : w.cell? ⟨b2, o2 + j, none⟩ = some (.int .i64 (gP l j).2) := ej.2
        have hneg : decide ((j : Int) < 0) = false := decide_eq_false (by omega)
        have hj0 : (j : Int) < (n : Int) := by omega
        have hjj : (0 : Int) ≤ (j : Int) := by omega
        rw [Int.toNat_natCast] at hg'
        generalize gP l k = p at e1 e2 hg'
        generalize gP l j = b at e3 e4 hg'
        obtain ⟨p1, p2⟩ := p
        obtain ⟨q1, q2⟩ := b
        have hlt : ltE (p1, p2) (q1, q2) = decide (p2 < q2 ∨ p2 = q2 ∧ p1 < q1) := rfl
        rw [hlt] at hg'
        clear hcell ek ej hg hlt
        by_cases t1 : p2 < q2
        · rw [if_pos (.inr (decide_eq_true (.inl t1)))] at hg'
          have HG2 := Lib.hid hg'
          have d1 : decide (p2 < q2) = true := decide_eq_true t1
          clear hg' t1
          go_wp2_with fail
          go_quiet (fail)
          go_wp2_with fail
          go_roundw
          case rel => exact ⟨k + 1, k, hkn, by go_num, rfl, .inr ⟨by omega, by omega⟩, HG2, q + nq, rfl⟩
          case measure => exact step_measure hkn
        · have d1 : decide (p2 < q2) = false := decide_eq_false t1
          by_cases t2 : p2 = q2
          · have d2 : (p2 == q2) = true := beq_iff_eq.2 t2
            by_cases t3 : p1 < q1
            · rw [if_pos (.inr (decide_eq_true (.inr ⟨t2, t3⟩)))] at hg'
              have HG2 := Lib.hid hg'
              have d3 : decide (p1 < q1) = true := decide_eq_true t3
              clear hg' t1 t2 t3
              go_wp2_with fail
              go_quiet (fail)
              go_wp2_with fail
              go_roundw
              case rel => exact ⟨k + 1, k, hkn, by go_num, rfl, .inr ⟨by omega, by omega⟩, HG2, q + nq, rfl⟩
              case measure => exact step_measure hkn
            · rw [if_neg (by rw [decide_eq_true_eq]; omega)] at hg'
              have HG2 := Lib.hid hg'
              have d3 : decide (p1 < q1) = false := decide_eq_false t3
              clear hg' t1 t2 t3
              go_wp2_with fail
              go_quiet (fail)
              go_wp2_with fail
              go_roundw
              case rel => exact ⟨k + 1, j, hkn, by go_num, rfl, .inr ⟨by omega, by omega⟩, HG2, q + nq, rfl⟩
              case measure => exact step_measure hkn
          · have d2 : (p2 == q2) = false := beq_eq_false_iff_ne.2 t2
            rw [if_neg (by rw [decide_eq_true_eq]; omega)] at hg'
            have HG2 := Lib.hid hg'
            clear hg' t1 t2
            go_wp2_with fail
            go_quiet (fail)
            go_wp2_with fail
            go_roundw
            case rel => exact ⟨k + 1, j, hkn, by go_num, rfl, .inr ⟨by omega, by omega⟩, HG2, q + nq, rfl⟩
            case measure => exact step_measure hkn
    · have hk2 : k = n := by omega
      subst hk2
      have hg := HG.out
      rw [Nat.sub_self] at hg
      have : best = T := hg
      subst this
      clear hg hkn
      go_wp2_with fail
      go_ret
      exact ⟨rfl, q, rfl⟩
end Go.Proofs.Ytnkgbnipcjgjeaa
