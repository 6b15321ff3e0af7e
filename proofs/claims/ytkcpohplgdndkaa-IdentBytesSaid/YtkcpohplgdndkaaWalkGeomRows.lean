import Derived.Test.YtkcpohplgdndkaaGeom2
import Derived.Deep.RegionHeld3
namespace Go.Proofs.Ytkcpohplgdndkaa
open Go.RowKit Go.Proofs.Ytkcpohplgdndkaa.QG Go.Proofs.YtkcpohplgdndkaaW.PrintWords
set_option linter.unusedVariables false

theorem boxes1 {w w1 : World} {A : Array Value} {TA : TypeId} (h : Below (w.heap.size + 1) (w.alloc (.cells A TA)) w1) : ∀ o, w1.cell? ⟨w.heap.size, o, none⟩ = A[o]? := by
  intro o
  rw [h.cell (p := ⟨w.heap.size, o, none⟩) (by show w.heap.size < w.heap.size + 1; omega), World.cell?_alloc_at _ _ _ _ rfl]
theorem upper_any (p u : Int) (h0 : 0 ≤ p) (h1 : p ≤ 4611686018427387903) (hu : Hid (u = p + 1 - p % 2)) (w : World) : Calls Try.prog 21 #[.int .i64 p] w fun e w' => e = .returned (.int .i64 u) ∧ w' = w := by
  have hb := or_one p h0 (by omega)
  rw [← hu.out] at hb
  have HB := Lib.hid hb
  clear hb
  go_enter Try.func21, Try.ntmps21
  go_wp2
  go_ret
  exact ⟨ret_int HB.out, rfl⟩
theorem lower_any (p l : Int) (h0 : 0 ≤ p) (h1 : p ≤ 4611686018427387903) (hu : Hid (l = p - p % 2)) (w : World) : Calls Try.prog 22 #[.int .i64 p] w fun e w' => e = .returned (.int .i64 l) ∧ w' = w := by
  have hb := andNot_one p h0 (by omega)
  rw [← hu.out] at hb
  have HB := Lib.hid hb
  clear hb
  go_enter Try.func22, Try.ntmps22
  go_wp2
  go_ret
  exact ⟨ret_int HB.out, rfl⟩

theorem split_ok' {pl bl pg cs ck rg pt z q r : Int} (h : Right pl bl pg cs ck rg pt) (h0 : 0 ≤ z) (h1 : z < bl * pg) (hq : Hid (q = z / pg)) (hr : Hid (r = z % pg)) (w : World) :
    Calls Try.prog 20 #[.agg #[.int .i64 pl, .int .i64 bl, .int .i64 pg, .int .i64 cs, .int .i64 ck, .int .i64 rg, .int .i64 pt], .int .i64 z] w fun e w' => e = .returned (.tuple #[.int .i64 q, .int .i64 r, .bool true]) ∧ Below w.heap.size w w' := by
  rw [hq.out, hr.out]; exact split_ok h h0 h1 w
set_option maxHeartbeats 2000000 in
set_option maxRecDepth 100000 in
theorem gr_no {pl bl pg cs ck rg pt : Int} (h : ¬ Right pl bl pg cs ck rg pt) (w : World) :
    Calls Try.prog 3 #[.agg #[.int .i64 pl, .int .i64 bl, .int .i64 pg, .int .i64 cs, .int .i64 ck, .int .i64 rg, .int .i64 pt]] w fun e w' => e = .returned (.bool true) ∧ Below w.heap.size w w' := by
  have HH := Lib.hid h
  clear h
  have HB := Below.refl (w.heap.size + 1) (w.alloc (.cells #[.int .i64 pl, .int .i64 bl, .int .i64 pg, .int .i64 cs, .int .i64 ck, .int .i64 rg, .int .i64 pt] 23))
  go_enter Try.func3, Try.ntmps3
  go_wp2_with (first | (go_at_call 17; refine (awake04_ok _).mono ?_; rintro e w1 ⟨rfl, hb1⟩; replace HB := chainB (by simp) HB hb1; clear hb1; (try clear hcA); have hcA := boxes1 HB) | (go_at_call 18; refine (check_no HH.out _).mono ?_; rintro e w1 ⟨rfl, hb1⟩; replace HB := chainB (by simp) HB hb1; clear hb1; (try clear hcA); have hcA := boxes1 HB))
  go_ret
  exact ⟨rfl, chain1 _ HB⟩
set_option maxHeartbeats 2000000 in
set_option maxRecDepth 100000 in
theorem gr_big {pl bl pg cs ck rg pt : Int} (h : Right pl bl pg cs ck rg pt) (hb : 64 < bl) (w : World) :
    Calls Try.prog 3 #[.agg #[.int .i64 pl, .int .i64 bl, .int .i64 pg, .int .i64 cs, .int .i64 ck, .int .i64 rg, .int .i64 pt]] w fun e w' => e = .returned (.bool true) ∧ Below w.heap.size w w' := by
  have HH := Lib.hid h
  clear h
  have HB := Below.refl (w.heap.size + 1) (w.alloc (.cells #[.int .i64 pl, .int .i64 bl, .int .i64 pg, .int .i64 cs, .int .i64 ck, .int .i64 rg, .int .i64 pt] 23))
  go_enter Try.func3, Try.ntmps3
  go_wp2_with (first | (go_at_call 17; refine (awake04_ok _).mono ?_; rintro e w1 ⟨rfl, hb1⟩; replace HB := chainB (by simp) HB hb1; clear hb1; (try clear hcA); have hcA := boxes1 HB) | (go_at_call 18; refine (check_ok HH.out _).mono ?_; rintro e w1 ⟨rfl, hb1⟩; replace HB := chainB (by simp) HB hb1; clear hb1; (try clear hcA); have hcA := boxes1 HB))
  go_ret
  exact ⟨rfl, chain1 _ HB⟩
set_option maxHeartbeats 4000000 in
set_option maxRecDepth 100000 in
theorem gr_ok {pl bl pg cs ck rg pt : Int} (h : Right pl bl pg cs ck rg pt) (hb : bl ≤ 64) (w : World) :
    Calls Try.prog 3 #[.agg #[.int .i64 pl, .int .i64 bl, .int .i64 pg, .int .i64 cs, .int .i64 ck, .int .i64 rg, .int .i64 pt]] w fun e w' => e = .returned (.bool true) ∧ Below w.heap.size w w' := by
  obtain ⟨⟨a1, a2⟩, ⟨b1, b2⟩, ⟨c1, c2⟩, ⟨d1, d2⟩, ⟨e1, e2⟩, ⟨f1, f2⟩, ⟨g1, g2⟩, h1, h2⟩ := id h
  have HE := Lib.hid h2
  have HH := Lib.hid h
  clear h h1 h2
  have HB := Below.refl (w.heap.size + 1) (w.alloc (.cells #[.int .i64 pl, .int .i64 bl, .int .i64 pg, .int .i64 cs, .int .i64 ck, .int .i64 rg, .int .i64 pt] 23))
  go_enter Try.func3, Try.ntmps3
  go_wp2_with (first | (go_at_call 17; refine (awake04_ok _).mono ?_; rintro e w1 ⟨rfl, hb1⟩; replace HB := chainB (by simp) HB hb1; clear hb1; (try clear hcA); have hcA := boxes1 HB) | (go_at_call 18; refine (check_ok HH.out _).mono ?_; rintro e w1 ⟨rfl, hb1⟩; replace HB := chainB (by simp) HB hb1; clear hb1; (try clear hcA); have hcA := boxes1 HB))
  go_loopw [28, 3] (fun i x wr => ∃ k : Nat, (k : Int) ≤ bl ∧ i = .int .i64 k ∧ x = .int .i64 (k * pg) ∧ Below (w.heap.size + 1) (w.alloc (.cells #[.int .i64 pl, .int .i64 bl, .int .i64 pg, .int .i64 cs, .int .i64 ck, .int .i64 rg, .int .i64 pt] 23)) wr) (fun i _ _ => bl.toNat - (intOf i).toNat)
  case atStart => exact ⟨0, by omega, rfl, by simp, HB⟩
  case round =>
    clear HB hcA
    obtain ⟨k, hk, rfl, rfl, HB⟩ := hrel
    have hcA := boxes1 HB
    have m0 : 0 ≤ (k : Int) * pg := Int.mul_nonneg (by omega) (by omega)
    have m1 : (k : Int) * pg ≤ 4096 := Int.le_trans (Int.mul_le_mul_of_nonneg_right (by omega : (k : Int) ≤ 64) (by omega)) (by omega)
    by_cases hlt : (k : Int) < bl
    · go_wp2_with fail
      obtain ⟨wo, hwo⟩ : ∃ wo : World, wo = wr := ⟨_, rfl⟩
      go_loopw [33, 3] (fun i x wi => ∃ j : Nat, (j : Int) ≤ pg ∧ i = .int .i64 j ∧ x = .int .i64 (k * pg + j) ∧ Below (w.heap.size + 1) (w.alloc (.cells #[.int .i64 pl, .int .i64 bl, .int .i64 pg, .int .i64 cs, .int .i64 ck, .int .i64 rg, .int .i64 pt] 23)) wi) (fun i _ _ => pg.toNat - (intOf i).toNat)
      case atStart => exact ⟨0, by omega, rfl, by simp, HB⟩
      case round =>
        clear HB hcA hwo
        obtain ⟨j, hj, rfl, rfl, HB⟩ := hrel
        have hcA := boxes1 HB
        by_cases hlt2 : (j : Int) < pg
        · have hr0 : 0 ≤ (k : Int) * pg + j := by omega
          have hr1 : (k : Int) * pg + j < bl * pg := by
            have := Int.mul_le_mul_of_nonneg_right (by omega : (k : Int) + 1 ≤ bl) (by omega : 0 ≤ pg)
            rw [Int.add_mul] at this
            omega
          have hq : (k : Int) = (k * pg + j) / pg := by
            rw [Int.add_comm, Int.add_mul_ediv_right _ _ (by omega), Int.ediv_eq_zero_of_lt (by omega) hlt2]; omega
          have hr : (j : Int) = (k * pg + j) % pg := by
            rw [Int.add_comm, Int.add_mul_emod_self_right, Int.emod_eq_of_lt (by omega) hlt2]
          have HQ := Lib.hid hq
          have HR := Lib.hid hr
          clear hq hr
          obtain ⟨u, hu⟩ : ∃ u : Int, u = (j : Int) + 1 - (j : Int) % 2 := ⟨_, rfl⟩
          obtain ⟨l, hl⟩ : ∃ l : Int, l = (j : Int) - (j : Int) % 2 := ⟨_, rfl⟩
          have t1 : (u - l != 1) = false := by rw [bne_eq_false_iff_eq]; omega
          have t2 : IntKind.i64.wrap (u - l) = u - l := IntWalk.i64_in _ (by omega)
          have t3 : u < pg := by have := HE.out; omega
          have t4 : 0 ≤ u := by omega
          have hpar : ((j : Int) != l) = false ∨ (((j : Int) != l) = true ∧ ((j : Int) != u) = false) := by
            rw [bne_eq_false_iff_eq, bne_iff_ne, bne_eq_false_iff_eq]; omega
          have HU := Lib.hid hu
          have HL := Lib.hid hl
          clear hu hl
          rcases hpar with hp | ⟨hp, hp2⟩
          all_goals
            go_wp2_with (first | (go_at_call 19; refine (row_ok HH.out (by omega) hlt (by omega) hlt2 _).mono ?_; rintro e w1 ⟨rfl, hb1⟩; replace HB := chainB (by simp) HB hb1; clear hb1; (try clear hcA); have hcA := boxes1 HB) | (go_at_call 20; refine (split_ok' HH.out hr0 hr1 HQ HR _).mono ?_; rintro e w1 ⟨rfl, hb1⟩; replace HB := chainB (by simp) HB hb1; clear hb1; (try clear hcA); have hcA := boxes1 HB))
            go_quiet (first | (go_at_call 21; exact Calls.quiet_of_same (upper_any _ u (by omega) (by omega) HU _)) | (go_at_call 22; exact Calls.quiet_of_same (lower_any _ l (by omega) (by omega) HL _)))
            go_wp2
            go_roundw
            case rel => exact ⟨j + 1, by omega, by go_num, by go_num, b_drewN HB _⟩
            case measure => simp [intOf]; omega
        · obtain hpj : pg = (j : Int) := by omega
          have HP := Lib.hid hpj
          clear hpj
          go_wp2
          go_roundw
          case rel => exact ⟨k + 1, by omega, by go_num, by rw [← HP.out]; have e : ((k + 1 : Nat) : Int) * pg = k * pg + pg := by rw [Int.natCast_add, Int.add_mul]; simp
                                                            rw [e], HB⟩
          case measure => simp [intOf]; omega
    · have hkb : (k : Int) = bl := by omega
      have HK := Lib.hid hkb
      have hb1 : ¬ (0 ≤ bl ∧ bl < bl) := by omega
      have HX := Lib.hid hb1
      have hb2 : ¬ (0 ≤ (k : Int) * pg ∧ (k : Int) * pg < bl * pg) := by rw [hkb]; omega
      have HZ := Lib.hid hb2
      clear hkb hb1 hb2
      go_wp2_with (first | (go_at_call 19; refine (row_no2 HH.out HX.out _).mono ?_; rintro e w1 ⟨rfl, hb1⟩; replace HB := chainB (by simp) HB hb1; clear hb1; (try clear hcA); have hcA := boxes1 HB) | (go_at_call 20; refine (split_no2 HH.out HZ.out _).mono ?_; rintro e w1 ⟨rfl, hb1⟩; replace HB := chainB (by simp) HB hb1; clear hb1; (try clear hcA); have hcA := boxes1 HB))
      go_ret
      exact ⟨rfl, chain1 _ HB⟩
theorem geomRows_walk (w : World) (x0 : (Int × Int × Int × Int × Int × Int × Int)) (hw0 : ((Lit.int .i64 x0.1).wf = true ∧ (Lit.int .i64 x0.2.1).wf = true ∧ (Lit.int .i64 x0.2.2.1).wf = true ∧ (Lit.int .i64 x0.2.2.2.1).wf = true ∧ (Lit.int .i64 x0.2.2.2.2.1).wf = true ∧ (Lit.int .i64 x0.2.2.2.2.2.1).wf = true ∧ (Lit.int .i64 x0.2.2.2.2.2.2).wf = true)) :
    Calls Try.prog 3 #[.agg #[.int .i64 x0.1, .int .i64 x0.2.1, .int .i64 x0.2.2.1, .int .i64 x0.2.2.2.1, .int .i64 x0.2.2.2.2.1, .int .i64 x0.2.2.2.2.2.1, .int .i64 x0.2.2.2.2.2.2]] w fun e w' => e = .returned (.bool true) ∧ Below w.heap.size w w' := by
  obtain ⟨pl, bl, pg, cs, ck, rg, pt⟩ := x0
  clear hw0
  by_cases h : Right pl bl pg cs ck rg pt
  · by_cases hb : bl ≤ 64
    · exact gr_ok h hb w
    · exact gr_big h (by omega) w
  · exact gr_no h w

end Go.Proofs.Ytkcpohplgdndkaa
