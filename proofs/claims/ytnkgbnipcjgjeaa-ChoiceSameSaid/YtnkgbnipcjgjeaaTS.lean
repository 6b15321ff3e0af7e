import Derived.Test.YtnkgbnipcjgjeaaTH
namespace Go.Proofs.Ytnkgbnipcjgjeaa
open Go.RowKit Go.Shelf Go.Sort Go.Lib Go.Proofs.YtnkgbnipcjgjeaaW.PrintWords Go.Proofs.YtnkgbnipcjgjeaaW.PrintLast Go.Proofs.YtnkgbnipcjgjeaaW.PrintMore
set_option linter.unusedVariables false
set_option maxHeartbeats 2000000 in
theorem idx133_ok (A : Option Addr) (c : Nat) (xs : List Int) (v : Int) (w : World) (hC : kN.C w A xs.length xs) (hl : xs.length ≤ 100000) :
    Calls Try.prog 133 #[.slice A xs.length c, .int .i64 v] w fun e w' => e = .returned (.int .i64 (idxP (fun j => decide (v = xs.getD j 0)) xs.length 0)) ∧ w' = w := by
  obtain ⟨T, hT⟩ : ∃ T, T = idxP (fun j => decide (v = xs.getD j 0)) xs.length 0 := ⟨_, rfl⟩
  rw [← hT]
  obtain ⟨m, hm⟩ : ∃ m, m = xs.length := ⟨_, rfl⟩
  rw [← hm] at hC hl hT ⊢
  have HT := Lib.hid hT
  have HC := Lib.hid hC
  have HM := Lib.hid hm
  have hm2 : (m : Int) ≤ 100000 := by omega
  clear hT hC hm hl
  go_enter Try.func133, Try.ntmps133
  go_wp2_with fail
  go_loop [8] (fun i => ∃ (k : Nat), k ≤ m ∧ i = .int .i64 k ∧ Hid (T = idxP (fun j => decide (v = xs.getD j 0)) (m - k) k)) (fun i => m - (intOf i).toNat)
  case atStart => exact ⟨0, by omega, rfl, HT⟩
  case round =>
    clear HT
    obtain ⟨k, hk, rfl, HG⟩ := hrel
    by_cases hkm : k < m
    · have hkx : k < xs.length := by rw [← HM.out]; exact hkm
      have hC := HC.out
      rw [HM.out] at hC
      obtain ⟨b, off, rfl, _, hcell⟩ := row_of_C hC (by omega)
      have e0 := hcell k hkx
      have hg := HG.out
      obtain ⟨d, hd⟩ : ∃ d, m - k = d + 1 := ⟨m - k - 1, by omega⟩
      have hd2 : m - (k + 1) = d := by omega
      rw [hd] at hg
      have h1 : idxP (fun j => decide (v = xs.getD j 0)) (d + 1) k = if decide (v = xs.getD k 0) = true then (k : Int) else idxP (fun j => decide (v = xs.getD j 0)) d (k + 1) := rfl
      rw [h1] at hg
      generalize xs.getD k 0 = x at hg e0
      have hk0 : (k : Int) < (m : Int) := by omega
      by_cases hb : v = x
      · rw [decide_eq_true hb, if_pos rfl] at hg
        have hb2 : (v == x) = true := by rw [beq_iff_eq]; exact hb
        subst hg
        clear hb h1 hcell hC hkx hd hd2 HG
        go_wp2_with fail
        go_ret
        exact ⟨rfl, rfl⟩
      · rw [decide_eq_false hb, if_neg (by decide)] at hg
        have hb2 : (v == x) = false := by rw [beq_eq_false_iff_ne]; exact hb
        rw [← hd2] at hg
        have HG2 := Lib.hid hg
        clear hg hb h1 hcell hC hkx hd hd2 HG
        go_wp2_with fail
        go_round
        case rel => exact ⟨k + 1, hkm, by go_num, HG2⟩
        case measure => exact step_measure hkm
    · have hk2 : k = m := by omega
      subst hk2
      have hg := HG.out
      rw [Nat.sub_self] at hg
      have hT : T = -1 := hg
      subst hT
      clear hg hkm
      go_wp2_with fail
      go_ret
      exact ⟨rfl, rfl⟩
theorem has97_ok (A : Option Addr) (c : Nat) (xs : List Int) (v : Int) (w : World) (hC : kN.C w A xs.length xs) (hl : xs.length ≤ 100000) :
    Calls Try.prog 97 #[.slice A xs.length c, .int .i64 v] w fun e w' => e = .returned (.bool (decide (v ∈ xs))) ∧ w' = w := by
  have HI := Lib.hid (idx133_ok A c xs v w hC hl)
  have hT := idxP_any (fun x => decide (v = x)) 0 xs xs.length 0 (by omega)
  rw [List.drop_zero] at hT
  have hT2 : decide (v ∈ xs) = decide (0 ≤ idxP (fun j => decide (v = xs.getD j 0)) xs.length 0) := by
    rw [hT, Bool.eq_iff_iff, decide_eq_true_iff, List.any_eq_true]
    exact ⟨fun h => ⟨v, h, by simp⟩, fun ⟨x, h1, h2⟩ => by rw [of_decide_eq_true h2]; exact h1⟩
  rw [hT2]
  generalize idxP (fun j => decide (v = xs.getD j 0)) xs.length 0 = T at HI ⊢
  clear hC hl hT hT2
  go_enter Try.func97, Try.ntmps97
  go_wp2_with (go_at_call 133; refine (HI.out).mono ?_; rintro e w' ⟨rfl, rfl⟩)
  go_ret
  exact ⟨rfl, rfl⟩
theorem done_nil (w : World) : Calls Try.prog 48 #[.pointer none] w fun e w' => e = .returned (.tuple #[.int .i64 0, .int .i64 0]) ∧ w' = w := by
  go_enter Try.func48, Try.ntmps48
  go_wp2_with (go_at_call 96; refine (tis_nil _).mono ?_; rintro e w' ⟨rfl, rfl⟩)
  go_ret2
  exact ⟨rfl, rfl⟩
theorem fails_nil (w : World) : Calls Try.prog 50 #[.pointer none] w fun e w' => e = .returned (.bool false) ∧ w' = w := by
  go_enter Try.func50, Try.ntmps50
  go_wp2_with (go_at_call 96; refine (tis_nil _).mono ?_; rintro e w' ⟨rfl, rfl⟩)
  go_ret
  exact ⟨rfl, rfl⟩
theorem torn_nil (n : Int) (w : World) : Calls Try.prog 51 #[.pointer none, .int .i64 n] w fun e w' => e = .returned (.slice none 0 0) ∧ w' = w := by
  go_enter Try.func51, Try.ntmps51
  go_wp2_with (go_at_call 96; refine (tis_nil _).mono ?_; rintro e w' ⟨rfl, rfl⟩)
  go_ret
  exact ⟨rfl, rfl⟩
section
variable {w : World} {N0 p mb : Nat} {asked work : Int} {s : Sc}
set_option maxHeartbeats 4000000 in
set_option maxRecDepth 100000 in
theorem fails_ok (k : Nat) (h : TelIs w N0 p mb asked (k : Int) s) (hk : k ≤ 100000) (hl : s.fails.length ≤ 100000) :
    Calls Try.prog 50 #[.pointer (some ⟨p, 0, none⟩)] w fun e w' => e = .returned (.bool (decide ((k : Int) ∈ s.fails))) ∧ TelIs w' N0 p mb asked ((k + 1 : Nat) : Int) s ∧ Mods w w' (fun q => q = p) := by
  have c2 := h.cell2
  have HI := Lib.hid (tis_ok p mb w c2)
  obtain ⟨A1, c1, A2, c2', A4, c4, h1, _, l2, _, _, f2, _⟩ := id h.blk
  have a5 := blk_cell h1 5
  have hbl := blk_put h1 5 (.int .i64 ((k : Int) + 1)) rfl
  have hM : Mods w (w.setCell ⟨p, 5, none⟩ (.int .i64 ((k : Int) + 1))) (fun q => q = p) := (Mods.refl w (fun q => q = p)).setCell (.inl rfl) _
  have hT : TelIs (w.setCell ⟨p, 5, none⟩ (.int .i64 ((k : Int) + 1))) N0 p mb asked ((k + 1 : Nat) : Int) s := h.turn hM (fun cs hcs => by
    rw [h1] at hcs
    injection hcs with hcs
    injection hcs with hcs _ _
    rw [← hcs]
    exact hbl)
  have hF := Kd.F_now (F_keep3 f2 (fun q hq => hM.block q hq.lt (h.not3 q hq)))
  have b5 := blk_cell hbl 5
  have b1 := blk_cell hbl 1
  have HT := Lib.hid hT
  have HMM := Lib.hid hM
  have z5 : w.frozen? ⟨p, 5, none⟩ = false := blk_frozen h1 5
  have hk1 : IntKind.i64.wrap ((k : Int) + 1) = (k : Int) + 1 := IntWalk.i64_in _ (by omega)
  have hkk : (k : Int) ≤ 100000 := by omega
  have hk3 : (k : Int) + 1 - 1 = (k : Int) := by omega
  have hwk : IntKind.i64.wrap (k : Int) = (k : Int) := IntWalk.i64_in _ (by omega)
  have hkz : (0 : Int) ≤ (k : Int) := by omega
  have HC := Lib.hid (fun q => has97_ok A2 c2' s.fails (k : Int) _ (Kd.C_drewN hF q) hl)
  generalize s.fails.length = m at b1 HC
  generalize decide ((k : Int) ∈ s.fails) = r at HC ⊢
  clear h h1 hbl hM hT l2 f2 hl hF
  go_enter Try.func50, Try.ntmps50
  go_wp2_with fail
  refine (HI.out).mono ?_
  rintro e w1 ⟨rfl, rfl⟩
  go_wp2_with fail
  go_region_held3 (fun w' => w'.cell? ⟨p, 5, none⟩ = some (.int .i64 ((k : Int) + 1)) ∧ w'.cell? ⟨p, 1, none⟩ = some (.slice A2 m c2')) (go_keep) ((go_at_call 97; refine (HC.out 1).mono ?_; rintro e w2 ⟨rfl, rfl⟩))
  all_goals
    go_wp2_with fail
    go_ret
    exact ⟨rfl, HT.out.drewN 1, HMM.out.drewN 1⟩
end
end Go.Proofs.Ytnkgbnipcjgjeaa
