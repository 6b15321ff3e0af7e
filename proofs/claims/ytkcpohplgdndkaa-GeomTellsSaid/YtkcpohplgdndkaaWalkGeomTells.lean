import Derived.Test.YtkcpohplgdndkaaGeom2
import Derived.Deep.RegionHeld3
namespace Go.Proofs.Ytkcpohplgdndkaa
open Go.RowKit Go.Proofs.Ytkcpohplgdndkaa.QG Go.Proofs.YtkcpohplgdndkaaW.PrintWords
set_option linter.unusedVariables false

theorem boxes2 {w w1 : World} {A B : Array Value} {TA TB : TypeId} (h : Below (w.heap.size + 2) ((w.alloc (.cells A TA)).alloc (.cells B TB)) w1) :
    (∀ o, w1.cell? ⟨w.heap.size, o, none⟩ = A[o]?) ∧ (∀ o, w1.cell? ⟨w.heap.size + 1, o, none⟩ = B[o]?) := by
  constructor
  · intro o
    rw [h.cell (p := ⟨w.heap.size, o, none⟩) (by show w.heap.size < w.heap.size + 2; omega), World.cell?_alloc_past _ _ _ (by simp), World.cell?_alloc_at _ _ _ _ rfl]
  · intro o
    rw [h.cell (p := ⟨w.heap.size + 1, o, none⟩) (by show w.heap.size + 1 < w.heap.size + 2; omega), World.cell?_alloc_at _ _ _ _ (by simp)]
theorem below2 (w : World) (o o' : Obj) : Below w.heap.size w ((w.alloc o).alloc o') := ((Below.refl _ _).alloc (Nat.le_refl _) o).alloc (by simp) o'

set_option maxHeartbeats 2000000 in
set_option maxRecDepth 100000 in
theorem gt_no {pl bl pg cs ck rg pt x y z : Int} (h : ¬ Right pl bl pg cs ck rg pt) (w : World) :
    Calls Try.prog 5 #[.agg #[.int .i64 pl, .int .i64 bl, .int .i64 pg, .int .i64 cs, .int .i64 ck, .int .i64 rg, .int .i64 pt], .agg #[.int .i64 x, .int .i64 y, .int .i64 z]] w fun e w' => e = .returned (.bool true) ∧ Below w.heap.size w w' := by
  have HH := Lib.hid h
  clear h
  have HB := Below.refl (w.heap.size + 2) ((w.alloc (.cells #[.int .i64 pl, .int .i64 bl, .int .i64 pg, .int .i64 cs, .int .i64 ck, .int .i64 rg, .int .i64 pt] 23)).alloc (.cells #[.int .i64 x, .int .i64 y, .int .i64 z] 38))
  go_enter Try.func5, Try.ntmps5
  go_wp2_with (first | (go_at_call 17; refine (awake04_ok _).mono ?_; rintro e w1 ⟨rfl, hb1⟩; replace HB := chainB (by simp) HB hb1; clear hb1; (try clear hcA hcB); obtain ⟨hcA, hcB⟩ := boxes2 HB) | (go_at_call 27; refine (refRight_no HH.out _).mono ?_; rintro e w1 ⟨rfl, hb1⟩; replace HB := chainB (by simp) HB hb1; clear hb1; (try clear hcA hcB); obtain ⟨hcA, hcB⟩ := boxes2 HB) | (go_at_call 18; refine (check_no HH.out _).mono ?_; rintro e w1 ⟨rfl, hb1⟩; replace HB := chainB (by simp) HB hb1; clear hb1; (try clear hcA hcB); obtain ⟨hcA, hcB⟩ := boxes2 HB) | (go_at_call 19; refine (row_no1 HH.out _).mono ?_; rintro e w1 ⟨rfl, hb1⟩; replace HB := chainB (by simp) HB hb1; clear hb1; (try clear hcA hcB); obtain ⟨hcA, hcB⟩ := boxes2 HB) | (go_at_call 20; refine (split_no1 HH.out _).mono ?_; rintro e w1 ⟨rfl, hb1⟩; replace HB := chainB (by simp) HB hb1; clear hb1; (try clear hcA hcB); obtain ⟨hcA, hcB⟩ := boxes2 HB) | (go_at_call 28; refine (plane_no1 HH.out _).mono ?_; rintro e w1 ⟨rfl, hb1⟩; replace HB := chainB (by simp) HB hb1; clear hb1; (try clear hcA hcB); obtain ⟨hcA, hcB⟩ := boxes2 HB) | (go_at_call 29; refine (data_no HH.out _).mono ?_; rintro e w1 ⟨rfl, hb1⟩; replace HB := chainB (by simp) HB hb1; clear hb1; (try clear hcA hcB); obtain ⟨hcA, hcB⟩ := boxes2 HB) | (go_at_call 30; refine (raw_no HH.out _).mono ?_; rintro e w1 ⟨rfl, hb1⟩; replace HB := chainB (by simp) HB hb1; clear hb1; (try clear hcA hcB); obtain ⟨hcA, hcB⟩ := boxes2 HB))
  go_ret
  exact ⟨rfl, (below2 _ _ _).trans (HB.mono (by omega))⟩
theorem split_ok' {pl bl pg cs ck rg pt z q r : Int} (h : Right pl bl pg cs ck rg pt) (h0 : 0 ≤ z) (h1 : z < bl * pg) (hq : Hid (q = z / pg)) (hr : Hid (r = z % pg)) (w : World) :
    Calls Try.prog 20 #[.agg #[.int .i64 pl, .int .i64 bl, .int .i64 pg, .int .i64 cs, .int .i64 ck, .int .i64 rg, .int .i64 pt], .int .i64 z] w fun e w' => e = .returned (.tuple #[.int .i64 q, .int .i64 r, .bool true]) ∧ Below w.heap.size w w' := by
  rw [hq.out, hr.out]; exact split_ok h h0 h1 w

set_option maxHeartbeats 2000000 in
set_option maxRecDepth 100000 in
theorem gt_xlzl {pl bl pg cs ck rg pt x y z : Int} (h : Right pl bl pg cs ck rg pt) (hx : x < 0)  (hz : z < 0) (w : World) :
    Calls Try.prog 5 #[.agg #[.int .i64 pl, .int .i64 bl, .int .i64 pg, .int .i64 cs, .int .i64 ck, .int .i64 rg, .int .i64 pt], .agg #[.int .i64 x, .int .i64 y, .int .i64 z]] w fun e w' => e = .returned (.bool true) ∧ Below w.heap.size w w' := by
  obtain ⟨⟨a1, a2⟩, ⟨b1, b2⟩, ⟨c1, c2⟩, ⟨d1, d2⟩, ⟨e1, e2⟩, ⟨f1, f2⟩, ⟨g1, g2⟩, h1, h2⟩ := id h
  have hm : 4 ≤ bl * pg ∧ bl * pg ≤ 16384 := ⟨by have := Int.mul_le_mul b1 c1 (by omega) (by omega); omega, Int.le_trans (Int.mul_le_mul_of_nonneg_right b2 (by omega)) (by omega)⟩
  obtain ⟨m1, m2⟩ := hm
  have hm : 0 ≤ cs * ck ∧ cs * ck ≤ 8192 := ⟨Int.mul_nonneg (by omega) (by omega), Int.le_trans (Int.mul_le_mul_of_nonneg_right d2 (by omega)) (by omega)⟩
  obtain ⟨m3, m4⟩ := hm
  have hxn : ¬ (0 ≤ x ∧ x < bl) := by omega
  have HX := Lib.hid hxn
  clear hxn
  have hzn : ¬ (0 ≤ z ∧ z < bl * pg) := by omega
  have HZ := Lib.hid hzn
  clear hzn
  have HH := Lib.hid h
  clear h h1 h2
  have HB := Below.refl (w.heap.size + 2) ((w.alloc (.cells #[.int .i64 pl, .int .i64 bl, .int .i64 pg, .int .i64 cs, .int .i64 ck, .int .i64 rg, .int .i64 pt] 23)).alloc (.cells #[.int .i64 x, .int .i64 y, .int .i64 z] 38))
  go_enter Try.func5, Try.ntmps5
  go_wp2_with (first | (go_at_call 17; refine (awake04_ok _).mono ?_; rintro e w1 ⟨rfl, hb1⟩; replace HB := chainB (by simp) HB hb1; clear hb1; (try clear hcA hcB); obtain ⟨hcA, hcB⟩ := boxes2 HB) | (go_at_call 27; refine (refRight_ok HH.out _).mono ?_; rintro e w1 ⟨rfl, hb1⟩; replace HB := chainB (by simp) HB hb1; clear hb1; (try clear hcA hcB); obtain ⟨hcA, hcB⟩ := boxes2 HB) | (go_at_call 18; refine (check_ok HH.out _).mono ?_; rintro e w1 ⟨rfl, hb1⟩; replace HB := chainB (by simp) HB hb1; clear hb1; (try clear hcA hcB); obtain ⟨hcA, hcB⟩ := boxes2 HB) | (go_at_call 29; refine (data_ok HH.out _).mono ?_; rintro e w1 ⟨rfl, hb1⟩; replace HB := chainB (by simp) HB hb1; clear hb1; (try clear hcA hcB); obtain ⟨hcA, hcB⟩ := boxes2 HB) | (go_at_call 30; refine (raw_ok HH.out _).mono ?_; rintro e w1 ⟨rfl, hb1⟩; replace HB := chainB (by simp) HB hb1; clear hb1; (try clear hcA hcB); obtain ⟨hcA, hcB⟩ := boxes2 HB) | (go_at_call 31; refine (refRaw_ok HH.out _).mono ?_; rintro e w1 ⟨rfl, hb1⟩; replace HB := chainB (by simp) HB hb1; clear hb1; (try clear hcA hcB); obtain ⟨hcA, hcB⟩ := boxes2 HB) | (go_at_call 28; refine (plane_no2 HH.out HX.out _).mono ?_; rintro e w1 ⟨rfl, hb1⟩; replace HB := chainB (by simp) HB hb1; clear hb1; (try clear hcA hcB); obtain ⟨hcA, hcB⟩ := boxes2 HB) | (go_at_call 19; refine (row_no2 HH.out HX.out _).mono ?_; rintro e w1 ⟨rfl, hb1⟩; replace HB := chainB (by simp) HB hb1; clear hb1; (try clear hcA hcB); obtain ⟨hcA, hcB⟩ := boxes2 HB) | (go_at_call 20; refine (split_no2 HH.out HZ.out _).mono ?_; rintro e w1 ⟨rfl, hb1⟩; replace HB := chainB (by simp) HB hb1; clear hb1; (try clear hcA hcB); obtain ⟨hcA, hcB⟩ := boxes2 HB))
  have hwr : IntKind.i64.wrap (cs * ck) = cs * ck := IntWalk.i64_in _ (by omega)
  go_region_held3 (fun w' => w'.cell? ⟨w.heap.size, 0, none⟩ = some (.int .i64 pl) ∧ w'.cell? ⟨w.heap.size, 1, none⟩ = some (.int .i64 bl) ∧ w'.cell? ⟨w.heap.size, 2, none⟩ = some (.int .i64 pg) ∧ w'.cell? ⟨w.heap.size, 3, none⟩ = some (.int .i64 cs) ∧ w'.cell? ⟨w.heap.size, 4, none⟩ = some (.int .i64 ck) ∧ w'.cell? ⟨w.heap.size, 5, none⟩ = some (.int .i64 rg) ∧ w'.cell? ⟨w.heap.size, 6, none⟩ = some (.int .i64 pt)) (go_keep) (first | (go_at_call 29; refine (data_ok HH.out _).mono ?_; rintro e w1 ⟨rfl, hb1⟩; (first | replace HB := chainB (by simp) HB hb1 | replace HB := chainB (by simp) HB.drew hb1 | replace HB := chainB (by simp) (b_drewN HB _) hb1); clear hb1; (try clear hcA hcB); obtain ⟨hcA, hcB⟩ := boxes2 HB) | (go_at_call 30; refine (raw_ok HH.out _).mono ?_; rintro e w1 ⟨rfl, hb1⟩; (first | replace HB := chainB (by simp) HB hb1 | replace HB := chainB (by simp) HB.drew hb1 | replace HB := chainB (by simp) (b_drewN HB _) hb1); clear hb1; (try clear hcA hcB); obtain ⟨hcA, hcB⟩ := boxes2 HB) | (go_at_call 31; refine (refRaw_ok HH.out _).mono ?_; rintro e w1 ⟨rfl, hb1⟩; (first | replace HB := chainB (by simp) HB hb1 | replace HB := chainB (by simp) HB.drew hb1 | replace HB := chainB (by simp) (b_drewN HB _) hb1); clear hb1; (try clear hcA hcB); obtain ⟨hcA, hcB⟩ := boxes2 HB))
  all_goals (go_wp2; go_ret; exact ⟨rfl, (below2 _ _ _).trans (HB.mono (by omega))⟩)
set_option maxHeartbeats 2000000 in
set_option maxRecDepth 100000 in
theorem gt_xlzh {pl bl pg cs ck rg pt x y z : Int} (h : Right pl bl pg cs ck rg pt) (hx : x < 0)  (hz : bl * pg ≤ z) (w : World) :
    Calls Try.prog 5 #[.agg #[.int .i64 pl, .int .i64 bl, .int .i64 pg, .int .i64 cs, .int .i64 ck, .int .i64 rg, .int .i64 pt], .agg #[.int .i64 x, .int .i64 y, .int .i64 z]] w fun e w' => e = .returned (.bool true) ∧ Below w.heap.size w w' := by
  obtain ⟨⟨a1, a2⟩, ⟨b1, b2⟩, ⟨c1, c2⟩, ⟨d1, d2⟩, ⟨e1, e2⟩, ⟨f1, f2⟩, ⟨g1, g2⟩, h1, h2⟩ := id h
  have hm : 4 ≤ bl * pg ∧ bl * pg ≤ 16384 := ⟨by have := Int.mul_le_mul b1 c1 (by omega) (by omega); omega, Int.le_trans (Int.mul_le_mul_of_nonneg_right b2 (by omega)) (by omega)⟩
  obtain ⟨m1, m2⟩ := hm
  have hm : 0 ≤ cs * ck ∧ cs * ck ≤ 8192 := ⟨Int.mul_nonneg (by omega) (by omega), Int.le_trans (Int.mul_le_mul_of_nonneg_right d2 (by omega)) (by omega)⟩
  obtain ⟨m3, m4⟩ := hm
  have hxn : ¬ (0 ≤ x ∧ x < bl) := by omega
  have HX := Lib.hid hxn
  clear hxn
  have hzn : ¬ (0 ≤ z ∧ z < bl * pg) := by omega
  have HZ := Lib.hid hzn
  clear hzn
  have HH := Lib.hid h
  clear h h1 h2
  have HB := Below.refl (w.heap.size + 2) ((w.alloc (.cells #[.int .i64 pl, .int .i64 bl, .int .i64 pg, .int .i64 cs, .int .i64 ck, .int .i64 rg, .int .i64 pt] 23)).alloc (.cells #[.int .i64 x, .int .i64 y, .int .i64 z] 38))
  go_enter Try.func5, Try.ntmps5
  go_wp2_with (first | (go_at_call 17; refine (awake04_ok _).mono ?_; rintro e w1 ⟨rfl, hb1⟩; replace HB := chainB (by simp) HB hb1; clear hb1; (try clear hcA hcB); obtain ⟨hcA, hcB⟩ := boxes2 HB) | (go_at_call 27; refine (refRight_ok HH.out _).mono ?_; rintro e w1 ⟨rfl, hb1⟩; replace HB := chainB (by simp) HB hb1; clear hb1; (try clear hcA hcB); obtain ⟨hcA, hcB⟩ := boxes2 HB) | (go_at_call 18; refine (check_ok HH.out _).mono ?_; rintro e w1 ⟨rfl, hb1⟩; replace HB := chainB (by simp) HB hb1; clear hb1; (try clear hcA hcB); obtain ⟨hcA, hcB⟩ := boxes2 HB) | (go_at_call 29; refine (data_ok HH.out _).mono ?_; rintro e w1 ⟨rfl, hb1⟩; replace HB := chainB (by simp) HB hb1; clear hb1; (try clear hcA hcB); obtain ⟨hcA, hcB⟩ := boxes2 HB) | (go_at_call 30; refine (raw_ok HH.out _).mono ?_; rintro e w1 ⟨rfl, hb1⟩; replace HB := chainB (by simp) HB hb1; clear hb1; (try clear hcA hcB); obtain ⟨hcA, hcB⟩ := boxes2 HB) | (go_at_call 31; refine (refRaw_ok HH.out _).mono ?_; rintro e w1 ⟨rfl, hb1⟩; replace HB := chainB (by simp) HB hb1; clear hb1; (try clear hcA hcB); obtain ⟨hcA, hcB⟩ := boxes2 HB) | (go_at_call 28; refine (plane_no2 HH.out HX.out _).mono ?_; rintro e w1 ⟨rfl, hb1⟩; replace HB := chainB (by simp) HB hb1; clear hb1; (try clear hcA hcB); obtain ⟨hcA, hcB⟩ := boxes2 HB) | (go_at_call 19; refine (row_no2 HH.out HX.out _).mono ?_; rintro e w1 ⟨rfl, hb1⟩; replace HB := chainB (by simp) HB hb1; clear hb1; (try clear hcA hcB); obtain ⟨hcA, hcB⟩ := boxes2 HB) | (go_at_call 20; refine (split_no2 HH.out HZ.out _).mono ?_; rintro e w1 ⟨rfl, hb1⟩; replace HB := chainB (by simp) HB hb1; clear hb1; (try clear hcA hcB); obtain ⟨hcA, hcB⟩ := boxes2 HB))
  have hwr : IntKind.i64.wrap (cs * ck) = cs * ck := IntWalk.i64_in _ (by omega)
  go_region_held3 (fun w' => w'.cell? ⟨w.heap.size, 0, none⟩ = some (.int .i64 pl) ∧ w'.cell? ⟨w.heap.size, 1, none⟩ = some (.int .i64 bl) ∧ w'.cell? ⟨w.heap.size, 2, none⟩ = some (.int .i64 pg) ∧ w'.cell? ⟨w.heap.size, 3, none⟩ = some (.int .i64 cs) ∧ w'.cell? ⟨w.heap.size, 4, none⟩ = some (.int .i64 ck) ∧ w'.cell? ⟨w.heap.size, 5, none⟩ = some (.int .i64 rg) ∧ w'.cell? ⟨w.heap.size, 6, none⟩ = some (.int .i64 pt)) (go_keep) (first | (go_at_call 29; refine (data_ok HH.out _).mono ?_; rintro e w1 ⟨rfl, hb1⟩; (first | replace HB := chainB (by simp) HB hb1 | replace HB := chainB (by simp) HB.drew hb1 | replace HB := chainB (by simp) (b_drewN HB _) hb1); clear hb1; (try clear hcA hcB); obtain ⟨hcA, hcB⟩ := boxes2 HB) | (go_at_call 30; refine (raw_ok HH.out _).mono ?_; rintro e w1 ⟨rfl, hb1⟩; (first | replace HB := chainB (by simp) HB hb1 | replace HB := chainB (by simp) HB.drew hb1 | replace HB := chainB (by simp) (b_drewN HB _) hb1); clear hb1; (try clear hcA hcB); obtain ⟨hcA, hcB⟩ := boxes2 HB) | (go_at_call 31; refine (refRaw_ok HH.out _).mono ?_; rintro e w1 ⟨rfl, hb1⟩; (first | replace HB := chainB (by simp) HB hb1 | replace HB := chainB (by simp) HB.drew hb1 | replace HB := chainB (by simp) (b_drewN HB _) hb1); clear hb1; (try clear hcA hcB); obtain ⟨hcA, hcB⟩ := boxes2 HB))
  all_goals (go_wp2; go_ret; exact ⟨rfl, (below2 _ _ _).trans (HB.mono (by omega))⟩)
set_option maxHeartbeats 2000000 in
set_option maxRecDepth 100000 in
theorem gt_xlzi {pl bl pg cs ck rg pt x y z : Int} (h : Right pl bl pg cs ck rg pt) (hx : x < 0)  (hz0 : 0 ≤ z) (hz1 : z < bl * pg) (w : World) :
    Calls Try.prog 5 #[.agg #[.int .i64 pl, .int .i64 bl, .int .i64 pg, .int .i64 cs, .int .i64 ck, .int .i64 rg, .int .i64 pt], .agg #[.int .i64 x, .int .i64 y, .int .i64 z]] w fun e w' => e = .returned (.bool true) ∧ Below w.heap.size w w' := by
  obtain ⟨⟨a1, a2⟩, ⟨b1, b2⟩, ⟨c1, c2⟩, ⟨d1, d2⟩, ⟨e1, e2⟩, ⟨f1, f2⟩, ⟨g1, g2⟩, h1, h2⟩ := id h
  have hm : 4 ≤ bl * pg ∧ bl * pg ≤ 16384 := ⟨by have := Int.mul_le_mul b1 c1 (by omega) (by omega); omega, Int.le_trans (Int.mul_le_mul_of_nonneg_right b2 (by omega)) (by omega)⟩
  obtain ⟨m1, m2⟩ := hm
  have hm : 0 ≤ cs * ck ∧ cs * ck ≤ 8192 := ⟨Int.mul_nonneg (by omega) (by omega), Int.le_trans (Int.mul_le_mul_of_nonneg_right d2 (by omega)) (by omega)⟩
  obtain ⟨m3, m4⟩ := hm
  have hxn : ¬ (0 ≤ x ∧ x < bl) := by omega
  have HX := Lib.hid hxn
  clear hxn
  obtain ⟨q, hq⟩ : ∃ q, q = z / pg := ⟨_, rfl⟩
  obtain ⟨r, hr⟩ : ∃ r, r = z % pg := ⟨_, rfl⟩
  have e1 : q * pg + r = z := by rw [hq, hr, Int.mul_comm]; exact Int.mul_ediv_add_emod z pg
  have r0 : 0 ≤ r := by rw [hr]; exact Int.emod_nonneg _ (by omega)
  have r1 : r < pg := by rw [hr]; exact Int.emod_lt_of_pos _ (by omega)
  have q0 : 0 ≤ q := by rw [hq]; exact Int.ediv_nonneg hz0 (by omega)
  have q2 : 0 ≤ q * pg := Int.mul_nonneg q0 (by omega)
  have q3 : q * pg ≤ 16384 := by omega
  have q4 : q * 1 ≤ q * pg := Int.mul_le_mul_of_nonneg_left (by omega : 1 ≤ pg) q0
  have q1 : q ≤ 16384 := by omega
  have hqz : (q * pg + r != z) = false := by rw [bne_eq_false_iff_eq]; exact e1
  clear q4
  have HQ := Lib.hid hq
  have HR := Lib.hid hr
  clear hq hr e1
  have HH := Lib.hid h
  clear h h1 h2
  have HB := Below.refl (w.heap.size + 2) ((w.alloc (.cells #[.int .i64 pl, .int .i64 bl, .int .i64 pg, .int .i64 cs, .int .i64 ck, .int .i64 rg, .int .i64 pt] 23)).alloc (.cells #[.int .i64 x, .int .i64 y, .int .i64 z] 38))
  go_enter Try.func5, Try.ntmps5
  go_wp2_with (first | (go_at_call 17; refine (awake04_ok _).mono ?_; rintro e w1 ⟨rfl, hb1⟩; replace HB := chainB (by simp) HB hb1; clear hb1; (try clear hcA hcB); obtain ⟨hcA, hcB⟩ := boxes2 HB) | (go_at_call 27; refine (refRight_ok HH.out _).mono ?_; rintro e w1 ⟨rfl, hb1⟩; replace HB := chainB (by simp) HB hb1; clear hb1; (try clear hcA hcB); obtain ⟨hcA, hcB⟩ := boxes2 HB) | (go_at_call 18; refine (check_ok HH.out _).mono ?_; rintro e w1 ⟨rfl, hb1⟩; replace HB := chainB (by simp) HB hb1; clear hb1; (try clear hcA hcB); obtain ⟨hcA, hcB⟩ := boxes2 HB) | (go_at_call 29; refine (data_ok HH.out _).mono ?_; rintro e w1 ⟨rfl, hb1⟩; replace HB := chainB (by simp) HB hb1; clear hb1; (try clear hcA hcB); obtain ⟨hcA, hcB⟩ := boxes2 HB) | (go_at_call 30; refine (raw_ok HH.out _).mono ?_; rintro e w1 ⟨rfl, hb1⟩; replace HB := chainB (by simp) HB hb1; clear hb1; (try clear hcA hcB); obtain ⟨hcA, hcB⟩ := boxes2 HB) | (go_at_call 31; refine (refRaw_ok HH.out _).mono ?_; rintro e w1 ⟨rfl, hb1⟩; replace HB := chainB (by simp) HB hb1; clear hb1; (try clear hcA hcB); obtain ⟨hcA, hcB⟩ := boxes2 HB) | (go_at_call 28; refine (plane_no2 HH.out HX.out _).mono ?_; rintro e w1 ⟨rfl, hb1⟩; replace HB := chainB (by simp) HB hb1; clear hb1; (try clear hcA hcB); obtain ⟨hcA, hcB⟩ := boxes2 HB) | (go_at_call 19; refine (row_no2 HH.out HX.out _).mono ?_; rintro e w1 ⟨rfl, hb1⟩; replace HB := chainB (by simp) HB hb1; clear hb1; (try clear hcA hcB); obtain ⟨hcA, hcB⟩ := boxes2 HB) | (go_at_call 20; refine (split_ok' HH.out hz0 hz1 HQ HR _).mono ?_; rintro e w1 ⟨rfl, hb1⟩; replace HB := chainB (by simp) HB hb1; clear hb1; (try clear hcA hcB); obtain ⟨hcA, hcB⟩ := boxes2 HB))
  have hwr : IntKind.i64.wrap (cs * ck) = cs * ck := IntWalk.i64_in _ (by omega)
  go_region_held3 (fun w' => w'.cell? ⟨w.heap.size, 0, none⟩ = some (.int .i64 pl) ∧ w'.cell? ⟨w.heap.size, 1, none⟩ = some (.int .i64 bl) ∧ w'.cell? ⟨w.heap.size, 2, none⟩ = some (.int .i64 pg) ∧ w'.cell? ⟨w.heap.size, 3, none⟩ = some (.int .i64 cs) ∧ w'.cell? ⟨w.heap.size, 4, none⟩ = some (.int .i64 ck) ∧ w'.cell? ⟨w.heap.size, 5, none⟩ = some (.int .i64 rg) ∧ w'.cell? ⟨w.heap.size, 6, none⟩ = some (.int .i64 pt)) (go_keep) (first | (go_at_call 29; refine (data_ok HH.out _).mono ?_; rintro e w1 ⟨rfl, hb1⟩; (first | replace HB := chainB (by simp) HB hb1 | replace HB := chainB (by simp) HB.drew hb1 | replace HB := chainB (by simp) (b_drewN HB _) hb1); clear hb1; (try clear hcA hcB); obtain ⟨hcA, hcB⟩ := boxes2 HB) | (go_at_call 30; refine (raw_ok HH.out _).mono ?_; rintro e w1 ⟨rfl, hb1⟩; (first | replace HB := chainB (by simp) HB hb1 | replace HB := chainB (by simp) HB.drew hb1 | replace HB := chainB (by simp) (b_drewN HB _) hb1); clear hb1; (try clear hcA hcB); obtain ⟨hcA, hcB⟩ := boxes2 HB) | (go_at_call 31; refine (refRaw_ok HH.out _).mono ?_; rintro e w1 ⟨rfl, hb1⟩; (first | replace HB := chainB (by simp) HB hb1 | replace HB := chainB (by simp) HB.drew hb1 | replace HB := chainB (by simp) (b_drewN HB _) hb1); clear hb1; (try clear hcA hcB); obtain ⟨hcA, hcB⟩ := boxes2 HB))
  all_goals (go_wp2; go_ret; exact ⟨rfl, (below2 _ _ _).trans (HB.mono (by omega))⟩)
set_option maxHeartbeats 2000000 in
set_option maxRecDepth 100000 in
theorem gt_xhzl {pl bl pg cs ck rg pt x y z : Int} (h : Right pl bl pg cs ck rg pt) (hx : bl ≤ x)  (hz : z < 0) (w : World) :
    Calls Try.prog 5 #[.agg #[.int .i64 pl, .int .i64 bl, .int .i64 pg, .int .i64 cs, .int .i64 ck, .int .i64 rg, .int .i64 pt], .agg #[.int .i64 x, .int .i64 y, .int .i64 z]] w fun e w' => e = .returned (.bool true) ∧ Below w.heap.size w w' := by
  obtain ⟨⟨a1, a2⟩, ⟨b1, b2⟩, ⟨c1, c2⟩, ⟨d1, d2⟩, ⟨e1, e2⟩, ⟨f1, f2⟩, ⟨g1, g2⟩, h1, h2⟩ := id h
  have hm : 4 ≤ bl * pg ∧ bl * pg ≤ 16384 := ⟨by have := Int.mul_le_mul b1 c1 (by omega) (by omega); omega, Int.le_trans (Int.mul_le_mul_of_nonneg_right b2 (by omega)) (by omega)⟩
  obtain ⟨m1, m2⟩ := hm
  have hm : 0 ≤ cs * ck ∧ cs * ck ≤ 8192 := ⟨Int.mul_nonneg (by omega) (by omega), Int.le_trans (Int.mul_le_mul_of_nonneg_right d2 (by omega)) (by omega)⟩
  obtain ⟨m3, m4⟩ := hm
  have hxn : ¬ (0 ≤ x ∧ x < bl) := by omega
  have HX := Lib.hid hxn
  clear hxn
  have hzn : ¬ (0 ≤ z ∧ z < bl * pg) := by omega
  have HZ := Lib.hid hzn
  clear hzn
  have HH := Lib.hid h
  clear h h1 h2
  have HB := Below.refl (w.heap.size + 2) ((w.alloc (.cells #[.int .i64 pl, .int .i64 bl, .int .i64 pg, .int .i64 cs, .int .i64 ck, .int .i64 rg, .int .i64 pt] 23)).alloc (.cells #[.int .i64 x, .int .i64 y, .int .i64 z] 38))
  go_enter Try.func5, Try.ntmps5
  go_wp2_with (first | (go_at_call 17; refine (awake04_ok _).mono ?_; rintro e w1 ⟨rfl, hb1⟩; replace HB := chainB (by simp) HB hb1; clear hb1; (try clear hcA hcB); obtain ⟨hcA, hcB⟩ := boxes2 HB) | (go_at_call 27; refine (refRight_ok HH.out _).mono ?_; rintro e w1 ⟨rfl, hb1⟩; replace HB := chainB (by simp) HB hb1; clear hb1; (try clear hcA hcB); obtain ⟨hcA, hcB⟩ := boxes2 HB) | (go_at_call 18; refine (check_ok HH.out _).mono ?_; rintro e w1 ⟨rfl, hb1⟩; replace HB := chainB (by simp) HB hb1; clear hb1; (try clear hcA hcB); obtain ⟨hcA, hcB⟩ := boxes2 HB) | (go_at_call 29; refine (data_ok HH.out _).mono ?_; rintro e w1 ⟨rfl, hb1⟩; replace HB := chainB (by simp) HB hb1; clear hb1; (try clear hcA hcB); obtain ⟨hcA, hcB⟩ := boxes2 HB) | (go_at_call 30; refine (raw_ok HH.out _).mono ?_; rintro e w1 ⟨rfl, hb1⟩; replace HB := chainB (by simp) HB hb1; clear hb1; (try clear hcA hcB); obtain ⟨hcA, hcB⟩ := boxes2 HB) | (go_at_call 31; refine (refRaw_ok HH.out _).mono ?_; rintro e w1 ⟨rfl, hb1⟩; replace HB := chainB (by simp) HB hb1; clear hb1; (try clear hcA hcB); obtain ⟨hcA, hcB⟩ := boxes2 HB) | (go_at_call 28; refine (plane_no2 HH.out HX.out _).mono ?_; rintro e w1 ⟨rfl, hb1⟩; replace HB := chainB (by simp) HB hb1; clear hb1; (try clear hcA hcB); obtain ⟨hcA, hcB⟩ := boxes2 HB) | (go_at_call 19; refine (row_no2 HH.out HX.out _).mono ?_; rintro e w1 ⟨rfl, hb1⟩; replace HB := chainB (by simp) HB hb1; clear hb1; (try clear hcA hcB); obtain ⟨hcA, hcB⟩ := boxes2 HB) | (go_at_call 20; refine (split_no2 HH.out HZ.out _).mono ?_; rintro e w1 ⟨rfl, hb1⟩; replace HB := chainB (by simp) HB hb1; clear hb1; (try clear hcA hcB); obtain ⟨hcA, hcB⟩ := boxes2 HB))
  have hwr : IntKind.i64.wrap (cs * ck) = cs * ck := IntWalk.i64_in _ (by omega)
  go_region_held3 (fun w' => w'.cell? ⟨w.heap.size, 0, none⟩ = some (.int .i64 pl) ∧ w'.cell? ⟨w.heap.size, 1, none⟩ = some (.int .i64 bl) ∧ w'.cell? ⟨w.heap.size, 2, none⟩ = some (.int .i64 pg) ∧ w'.cell? ⟨w.heap.size, 3, none⟩ = some (.int .i64 cs) ∧ w'.cell? ⟨w.heap.size, 4, none⟩ = some (.int .i64 ck) ∧ w'.cell? ⟨w.heap.size, 5, none⟩ = some (.int .i64 rg) ∧ w'.cell? ⟨w.heap.size, 6, none⟩ = some (.int .i64 pt)) (go_keep) (first | (go_at_call 29; refine (data_ok HH.out _).mono ?_; rintro e w1 ⟨rfl, hb1⟩; (first | replace HB := chainB (by simp) HB hb1 | replace HB := chainB (by simp) HB.drew hb1 | replace HB := chainB (by simp) (b_drewN HB _) hb1); clear hb1; (try clear hcA hcB); obtain ⟨hcA, hcB⟩ := boxes2 HB) | (go_at_call 30; refine (raw_ok HH.out _).mono ?_; rintro e w1 ⟨rfl, hb1⟩; (first | replace HB := chainB (by simp) HB hb1 | replace HB := chainB (by simp) HB.drew hb1 | replace HB := chainB (by simp) (b_drewN HB _) hb1); clear hb1; (try clear hcA hcB); obtain ⟨hcA, hcB⟩ := boxes2 HB) | (go_at_call 31; refine (refRaw_ok HH.out _).mono ?_; rintro e w1 ⟨rfl, hb1⟩; (first | replace HB := chainB (by simp) HB hb1 | replace HB := chainB (by simp) HB.drew hb1 | replace HB := chainB (by simp) (b_drewN HB _) hb1); clear hb1; (try clear hcA hcB); obtain ⟨hcA, hcB⟩ := boxes2 HB))
  all_goals (go_wp2; go_ret; exact ⟨rfl, (below2 _ _ _).trans (HB.mono (by omega))⟩)
set_option maxHeartbeats 2000000 in
set_option maxRecDepth 100000 in
theorem gt_xhzh {pl bl pg cs ck rg pt x y z : Int} (h : Right pl bl pg cs ck rg pt) (hx : bl ≤ x)  (hz : bl * pg ≤ z) (w : World) :
    Calls Try.prog 5 #[.agg #[.int .i64 pl, .int .i64 bl, .int .i64 pg, .int .i64 cs, .int .i64 ck, .int .i64 rg, .int .i64 pt], .agg #[.int .i64 x, .int .i64 y, .int .i64 z]] w fun e w' => e = .returned (.bool true) ∧ Below w.heap.size w w' := by
  obtain ⟨⟨a1, a2⟩, ⟨b1, b2⟩, ⟨c1, c2⟩, ⟨d1, d2⟩, ⟨e1, e2⟩, ⟨f1, f2⟩, ⟨g1, g2⟩, h1, h2⟩ := id h
  have hm : 4 ≤ bl * pg ∧ bl * pg ≤ 16384 := ⟨by have := Int.mul_le_mul b1 c1 (by omega) (by omega); omega, Int.le_trans (Int.mul_le_mul_of_nonneg_right b2 (by omega)) (by omega)⟩
  obtain ⟨m1, m2⟩ := hm
  have hm : 0 ≤ cs * ck ∧ cs * ck ≤ 8192 := ⟨Int.mul_nonneg (by omega) (by omega), Int.le_trans (Int.mul_le_mul_of_nonneg_right d2 (by omega)) (by omega)⟩
  obtain ⟨m3, m4⟩ := hm
  have hxn : ¬ (0 ≤ x ∧ x < bl) := by omega
  have HX := Lib.hid hxn
  clear hxn
  have hzn : ¬ (0 ≤ z ∧ z < bl * pg) := by omega
  have HZ := Lib.hid hzn
  clear hzn
  have HH := Lib.hid h
  clear h h1 h2
  have HB := Below.refl (w.heap.size + 2) ((w.alloc (.cells #[.int .i64 pl, .int .i64 bl, .int .i64 pg, .int .i64 cs, .int .i64 ck, .int .i64 rg, .int .i64 pt] 23)).alloc (.cells #[.int .i64 x, .int .i64 y, .int .i64 z] 38))
  go_enter Try.func5, Try.ntmps5
  go_wp2_with (first | (go_at_call 17; refine (awake04_ok _).mono ?_; rintro e w1 ⟨rfl, hb1⟩; replace HB := chainB (by simp) HB hb1; clear hb1; (try clear hcA hcB); obtain ⟨hcA, hcB⟩ := boxes2 HB) | (go_at_call 27; refine (refRight_ok HH.out _).mono ?_; rintro e w1 ⟨rfl, hb1⟩; replace HB := chainB (by simp) HB hb1; clear hb1; (try clear hcA hcB); obtain ⟨hcA, hcB⟩ := boxes2 HB) | (go_at_call 18; refine (check_ok HH.out _).mono ?_; rintro e w1 ⟨rfl, hb1⟩; replace HB := chainB (by simp) HB hb1; clear hb1; (try clear hcA hcB); obtain ⟨hcA, hcB⟩ := boxes2 HB) | (go_at_call 29; refine (data_ok HH.out _).mono ?_; rintro e w1 ⟨rfl, hb1⟩; replace HB := chainB (by simp) HB hb1; clear hb1; (try clear hcA hcB); obtain ⟨hcA, hcB⟩ := boxes2 HB) | (go_at_call 30; refine (raw_ok HH.out _).mono ?_; rintro e w1 ⟨rfl, hb1⟩; replace HB := chainB (by simp) HB hb1; clear hb1; (try clear hcA hcB); obtain ⟨hcA, hcB⟩ := boxes2 HB) | (go_at_call 31; refine (refRaw_ok HH.out _).mono ?_; rintro e w1 ⟨rfl, hb1⟩; replace HB := chainB (by simp) HB hb1; clear hb1; (try clear hcA hcB); obtain ⟨hcA, hcB⟩ := boxes2 HB) | (go_at_call 28; refine (plane_no2 HH.out HX.out _).mono ?_; rintro e w1 ⟨rfl, hb1⟩; replace HB := chainB (by simp) HB hb1; clear hb1; (try clear hcA hcB); obtain ⟨hcA, hcB⟩ := boxes2 HB) | (go_at_call 19; refine (row_no2 HH.out HX.out _).mono ?_; rintro e w1 ⟨rfl, hb1⟩; replace HB := chainB (by simp) HB hb1; clear hb1; (try clear hcA hcB); obtain ⟨hcA, hcB⟩ := boxes2 HB) | (go_at_call 20; refine (split_no2 HH.out HZ.out _).mono ?_; rintro e w1 ⟨rfl, hb1⟩; replace HB := chainB (by simp) HB hb1; clear hb1; (try clear hcA hcB); obtain ⟨hcA, hcB⟩ := boxes2 HB))
  have hwr : IntKind.i64.wrap (cs * ck) = cs * ck := IntWalk.i64_in _ (by omega)
  go_region_held3 (fun w' => w'.cell? ⟨w.heap.size, 0, none⟩ = some (.int .i64 pl) ∧ w'.cell? ⟨w.heap.size, 1, none⟩ = some (.int .i64 bl) ∧ w'.cell? ⟨w.heap.size, 2, none⟩ = some (.int .i64 pg) ∧ w'.cell? ⟨w.heap.size, 3, none⟩ = some (.int .i64 cs) ∧ w'.cell? ⟨w.heap.size, 4, none⟩ = some (.int .i64 ck) ∧ w'.cell? ⟨w.heap.size, 5, none⟩ = some (.int .i64 rg) ∧ w'.cell? ⟨w.heap.size, 6, none⟩ = some (.int .i64 pt)) (go_keep) (first | (go_at_call 29; refine (data_ok HH.out _).mono ?_; rintro e w1 ⟨rfl, hb1⟩; (first | replace HB := chainB (by simp) HB hb1 | replace HB := chainB (by simp) HB.drew hb1 | replace HB := chainB (by simp) (b_drewN HB _) hb1); clear hb1; (try clear hcA hcB); obtain ⟨hcA, hcB⟩ := boxes2 HB) | (go_at_call 30; refine (raw_ok HH.out _).mono ?_; rintro e w1 ⟨rfl, hb1⟩; (first | replace HB := chainB (by simp) HB hb1 | replace HB := chainB (by simp) HB.drew hb1 | replace HB := chainB (by simp) (b_drewN HB _) hb1); clear hb1; (try clear hcA hcB); obtain ⟨hcA, hcB⟩ := boxes2 HB) | (go_at_call 31; refine (refRaw_ok HH.out _).mono ?_; rintro e w1 ⟨rfl, hb1⟩; (first | replace HB := chainB (by simp) HB hb1 | replace HB := chainB (by simp) HB.drew hb1 | replace HB := chainB (by simp) (b_drewN HB _) hb1); clear hb1; (try clear hcA hcB); obtain ⟨hcA, hcB⟩ := boxes2 HB))
  all_goals (go_wp2; go_ret; exact ⟨rfl, (below2 _ _ _).trans (HB.mono (by omega))⟩)
set_option maxHeartbeats 2000000 in
set_option maxRecDepth 100000 in
theorem gt_xhzi {pl bl pg cs ck rg pt x y z : Int} (h : Right pl bl pg cs ck rg pt) (hx : bl ≤ x)  (hz0 : 0 ≤ z) (hz1 : z < bl * pg) (w : World) :
    Calls Try.prog 5 #[.agg #[.int .i64 pl, .int .i64 bl, .int .i64 pg, .int .i64 cs, .int .i64 ck, .int .i64 rg, .int .i64 pt], .agg #[.int .i64 x, .int .i64 y, .int .i64 z]] w fun e w' => e = .returned (.bool true) ∧ Below w.heap.size w w' := by
  obtain ⟨⟨a1, a2⟩, ⟨b1, b2⟩, ⟨c1, c2⟩, ⟨d1, d2⟩, ⟨e1, e2⟩, ⟨f1, f2⟩, ⟨g1, g2⟩, h1, h2⟩ := id h
  have hm : 4 ≤ bl * pg ∧ bl * pg ≤ 16384 := ⟨by have := Int.mul_le_mul b1 c1 (by omega) (by omega); omega, Int.le_trans (Int.mul_le_mul_of_nonneg_right b2 (by omega)) (by omega)⟩
  obtain ⟨m1, m2⟩ := hm
  have hm : 0 ≤ cs * ck ∧ cs * ck ≤ 8192 := ⟨Int.mul_nonneg (by omega) (by omega), Int.le_trans (Int.mul_le_mul_of_nonneg_right d2 (by omega)) (by omega)⟩
  obtain ⟨m3, m4⟩ := hm
  have hxn : ¬ (0 ≤ x ∧ x < bl) := by omega
  have HX := Lib.hid hxn
  clear hxn
  obtain ⟨q, hq⟩ : ∃ q, q = z / pg := ⟨_, rfl⟩
  obtain ⟨r, hr⟩ : ∃ r, r = z % pg := ⟨_, rfl⟩
  have e1 : q * pg + r = z := by rw [hq, hr, Int.mul_comm]; exact Int.mul_ediv_add_emod z pg
  have r0 : 0 ≤ r := by rw [hr]; exact Int.emod_nonneg _ (by omega)
  have r1 : r < pg := by rw [hr]; exact Int.emod_lt_of_pos _ (by omega)
  have q0 : 0 ≤ q := by rw [hq]; exact Int.ediv_nonneg hz0 (by omega)
  have q2 : 0 ≤ q * pg := Int.mul_nonneg q0 (by omega)
  have q3 : q * pg ≤ 16384 := by omega
  have q4 : q * 1 ≤ q * pg := Int.mul_le_mul_of_nonneg_left (by omega : 1 ≤ pg) q0
  have q1 : q ≤ 16384 := by omega
  have hqz : (q * pg + r != z) = false := by rw [bne_eq_false_iff_eq]; exact e1
  clear q4
  have HQ := Lib.hid hq
  have HR := Lib.hid hr
  clear hq hr e1
  have HH := Lib.hid h
  clear h h1 h2
  have HB := Below.refl (w.heap.size + 2) ((w.alloc (.cells #[.int .i64 pl, .int .i64 bl, .int .i64 pg, .int .i64 cs, .int .i64 ck, .int .i64 rg, .int .i64 pt] 23)).alloc (.cells #[.int .i64 x, .int .i64 y, .int .i64 z] 38))
  go_enter Try.func5, Try.ntmps5
  go_wp2_with (first | (go_at_call 17; refine (awake04_ok _).mono ?_; rintro e w1 ⟨rfl, hb1⟩; replace HB := chainB (by simp) HB hb1; clear hb1; (try clear hcA hcB); obtain ⟨hcA, hcB⟩ := boxes2 HB) | (go_at_call 27; refine (refRight_ok HH.out _).mono ?_; rintro e w1 ⟨rfl, hb1⟩; replace HB := chainB (by simp) HB hb1; clear hb1; (try clear hcA hcB); obtain ⟨hcA, hcB⟩ := boxes2 HB) | (go_at_call 18; refine (check_ok HH.out _).mono ?_; rintro e w1 ⟨rfl, hb1⟩; replace HB := chainB (by simp) HB hb1; clear hb1; (try clear hcA hcB); obtain ⟨hcA, hcB⟩ := boxes2 HB) | (go_at_call 29; refine (data_ok HH.out _).mono ?_; rintro e w1 ⟨rfl, hb1⟩; replace HB := chainB (by simp) HB hb1; clear hb1; (try clear hcA hcB); obtain ⟨hcA, hcB⟩ := boxes2 HB) | (go_at_call 30; refine (raw_ok HH.out _).mono ?_; rintro e w1 ⟨rfl, hb1⟩; replace HB := chainB (by simp) HB hb1; clear hb1; (try clear hcA hcB); obtain ⟨hcA, hcB⟩ := boxes2 HB) | (go_at_call 31; refine (refRaw_ok HH.out _).mono ?_; rintro e w1 ⟨rfl, hb1⟩; replace HB := chainB (by simp) HB hb1; clear hb1; (try clear hcA hcB); obtain ⟨hcA, hcB⟩ := boxes2 HB) | (go_at_call 28; refine (plane_no2 HH.out HX.out _).mono ?_; rintro e w1 ⟨rfl, hb1⟩; replace HB := chainB (by simp) HB hb1; clear hb1; (try clear hcA hcB); obtain ⟨hcA, hcB⟩ := boxes2 HB) | (go_at_call 19; refine (row_no2 HH.out HX.out _).mono ?_; rintro e w1 ⟨rfl, hb1⟩; replace HB := chainB (by simp) HB hb1; clear hb1; (try clear hcA hcB); obtain ⟨hcA, hcB⟩ := boxes2 HB) | (go_at_call 20; refine (split_ok' HH.out hz0 hz1 HQ HR _).mono ?_; rintro e w1 ⟨rfl, hb1⟩; replace HB := chainB (by simp) HB hb1; clear hb1; (try clear hcA hcB); obtain ⟨hcA, hcB⟩ := boxes2 HB))
  have hwr : IntKind.i64.wrap (cs * ck) = cs * ck := IntWalk.i64_in _ (by omega)
  go_region_held3 (fun w' => w'.cell? ⟨w.heap.size, 0, none⟩ = some (.int .i64 pl) ∧ w'.cell? ⟨w.heap.size, 1, none⟩ = some (.int .i64 bl) ∧ w'.cell? ⟨w.heap.size, 2, none⟩ = some (.int .i64 pg) ∧ w'.cell? ⟨w.heap.size, 3, none⟩ = some (.int .i64 cs) ∧ w'.cell? ⟨w.heap.size, 4, none⟩ = some (.int .i64 ck) ∧ w'.cell? ⟨w.heap.size, 5, none⟩ = some (.int .i64 rg) ∧ w'.cell? ⟨w.heap.size, 6, none⟩ = some (.int .i64 pt)) (go_keep) (first | (go_at_call 29; refine (data_ok HH.out _).mono ?_; rintro e w1 ⟨rfl, hb1⟩; (first | replace HB := chainB (by simp) HB hb1 | replace HB := chainB (by simp) HB.drew hb1 | replace HB := chainB (by simp) (b_drewN HB _) hb1); clear hb1; (try clear hcA hcB); obtain ⟨hcA, hcB⟩ := boxes2 HB) | (go_at_call 30; refine (raw_ok HH.out _).mono ?_; rintro e w1 ⟨rfl, hb1⟩; (first | replace HB := chainB (by simp) HB hb1 | replace HB := chainB (by simp) HB.drew hb1 | replace HB := chainB (by simp) (b_drewN HB _) hb1); clear hb1; (try clear hcA hcB); obtain ⟨hcA, hcB⟩ := boxes2 HB) | (go_at_call 31; refine (refRaw_ok HH.out _).mono ?_; rintro e w1 ⟨rfl, hb1⟩; (first | replace HB := chainB (by simp) HB hb1 | replace HB := chainB (by simp) HB.drew hb1 | replace HB := chainB (by simp) (b_drewN HB _) hb1); clear hb1; (try clear hcA hcB); obtain ⟨hcA, hcB⟩ := boxes2 HB))
  all_goals (go_wp2; go_ret; exact ⟨rfl, (below2 _ _ _).trans (HB.mono (by omega))⟩)
set_option maxHeartbeats 2000000 in
set_option maxRecDepth 100000 in
theorem gt_xiylzl {pl bl pg cs ck rg pt x y z : Int} (h : Right pl bl pg cs ck rg pt) (hx0 : 0 ≤ x) (hx1 : x < bl) (hy : y < 0) (hz : z < 0) (w : World) :
    Calls Try.prog 5 #[.agg #[.int .i64 pl, .int .i64 bl, .int .i64 pg, .int .i64 cs, .int .i64 ck, .int .i64 rg, .int .i64 pt], .agg #[.int .i64 x, .int .i64 y, .int .i64 z]] w fun e w' => e = .returned (.bool true) ∧ Below w.heap.size w w' := by
  obtain ⟨⟨a1, a2⟩, ⟨b1, b2⟩, ⟨c1, c2⟩, ⟨d1, d2⟩, ⟨e1, e2⟩, ⟨f1, f2⟩, ⟨g1, g2⟩, h1, h2⟩ := id h
  have hm : 4 ≤ bl * pg ∧ bl * pg ≤ 16384 := ⟨by have := Int.mul_le_mul b1 c1 (by omega) (by omega); omega, Int.le_trans (Int.mul_le_mul_of_nonneg_right b2 (by omega)) (by omega)⟩
  obtain ⟨m1, m2⟩ := hm
  have hm : 0 ≤ cs * ck ∧ cs * ck ≤ 8192 := ⟨Int.mul_nonneg (by omega) (by omega), Int.le_trans (Int.mul_le_mul_of_nonneg_right d2 (by omega)) (by omega)⟩
  obtain ⟨m3, m4⟩ := hm
  have hm : 0 ≤ x * pg ∧ x * pg ≤ 16384 := ⟨Int.mul_nonneg (by omega) (by omega), Int.le_trans (Int.mul_le_mul_of_nonneg_right (by omega : x ≤ 256) (by omega)) (by omega)⟩
  obtain ⟨m5, m6⟩ := hm
  have hyn : ¬ (0 ≤ y ∧ y < pg) := by omega
  have HY := Lib.hid hyn
  clear hyn
  have hzn : ¬ (0 ≤ z ∧ z < bl * pg) := by omega
  have HZ := Lib.hid hzn
  clear hzn
  have HH := Lib.hid h
  clear h h1 h2
  have HB := Below.refl (w.heap.size + 2) ((w.alloc (.cells #[.int .i64 pl, .int .i64 bl, .int .i64 pg, .int .i64 cs, .int .i64 ck, .int .i64 rg, .int .i64 pt] 23)).alloc (.cells #[.int .i64 x, .int .i64 y, .int .i64 z] 38))
  go_enter Try.func5, Try.ntmps5
  go_wp2_with (first | (go_at_call 17; refine (awake04_ok _).mono ?_; rintro e w1 ⟨rfl, hb1⟩; replace HB := chainB (by simp) HB hb1; clear hb1; (try clear hcA hcB); obtain ⟨hcA, hcB⟩ := boxes2 HB) | (go_at_call 27; refine (refRight_ok HH.out _).mono ?_; rintro e w1 ⟨rfl, hb1⟩; replace HB := chainB (by simp) HB hb1; clear hb1; (try clear hcA hcB); obtain ⟨hcA, hcB⟩ := boxes2 HB) | (go_at_call 18; refine (check_ok HH.out _).mono ?_; rintro e w1 ⟨rfl, hb1⟩; replace HB := chainB (by simp) HB hb1; clear hb1; (try clear hcA hcB); obtain ⟨hcA, hcB⟩ := boxes2 HB) | (go_at_call 29; refine (data_ok HH.out _).mono ?_; rintro e w1 ⟨rfl, hb1⟩; replace HB := chainB (by simp) HB hb1; clear hb1; (try clear hcA hcB); obtain ⟨hcA, hcB⟩ := boxes2 HB) | (go_at_call 30; refine (raw_ok HH.out _).mono ?_; rintro e w1 ⟨rfl, hb1⟩; replace HB := chainB (by simp) HB hb1; clear hb1; (try clear hcA hcB); obtain ⟨hcA, hcB⟩ := boxes2 HB) | (go_at_call 31; refine (refRaw_ok HH.out _).mono ?_; rintro e w1 ⟨rfl, hb1⟩; replace HB := chainB (by simp) HB hb1; clear hb1; (try clear hcA hcB); obtain ⟨hcA, hcB⟩ := boxes2 HB) | (go_at_call 28; refine (plane_ok HH.out hx0 hx1 _).mono ?_; rintro e w1 ⟨rfl, hb1⟩; replace HB := chainB (by simp) HB hb1; clear hb1; (try clear hcA hcB); obtain ⟨hcA, hcB⟩ := boxes2 HB) | (go_at_call 19; refine (row_no3 HH.out hx0 hx1 HY.out _).mono ?_; rintro e w1 ⟨rfl, hb1⟩; replace HB := chainB (by simp) HB hb1; clear hb1; (try clear hcA hcB); obtain ⟨hcA, hcB⟩ := boxes2 HB) | (go_at_call 20; refine (split_no2 HH.out HZ.out _).mono ?_; rintro e w1 ⟨rfl, hb1⟩; replace HB := chainB (by simp) HB hb1; clear hb1; (try clear hcA hcB); obtain ⟨hcA, hcB⟩ := boxes2 HB))
  have hwr : IntKind.i64.wrap (cs * ck) = cs * ck := IntWalk.i64_in _ (by omega)
  go_region_held3 (fun w' => w'.cell? ⟨w.heap.size, 0, none⟩ = some (.int .i64 pl) ∧ w'.cell? ⟨w.heap.size, 1, none⟩ = some (.int .i64 bl) ∧ w'.cell? ⟨w.heap.size, 2, none⟩ = some (.int .i64 pg) ∧ w'.cell? ⟨w.heap.size, 3, none⟩ = some (.int .i64 cs) ∧ w'.cell? ⟨w.heap.size, 4, none⟩ = some (.int .i64 ck) ∧ w'.cell? ⟨w.heap.size, 5, none⟩ = some (.int .i64 rg) ∧ w'.cell? ⟨w.heap.size, 6, none⟩ = some (.int .i64 pt)) (go_keep) (first | (go_at_call 29; refine (data_ok HH.out _).mono ?_; rintro e w1 ⟨rfl, hb1⟩; (first | replace HB := chainB (by simp) HB hb1 | replace HB := chainB (by simp) HB.drew hb1 | replace HB := chainB (by simp) (b_drewN HB _) hb1); clear hb1; (try clear hcA hcB); obtain ⟨hcA, hcB⟩ := boxes2 HB) | (go_at_call 30; refine (raw_ok HH.out _).mono ?_; rintro e w1 ⟨rfl, hb1⟩; (first | replace HB := chainB (by simp) HB hb1 | replace HB := chainB (by simp) HB.drew hb1 | replace HB := chainB (by simp) (b_drewN HB _) hb1); clear hb1; (try clear hcA hcB); obtain ⟨hcA, hcB⟩ := boxes2 HB) | (go_at_call 31; refine (refRaw_ok HH.out _).mono ?_; rintro e w1 ⟨rfl, hb1⟩; (first | replace HB := chainB (by simp) HB hb1 | replace HB := chainB (by simp) HB.drew hb1 | replace HB := chainB (by simp) (b_drewN HB _) hb1); clear hb1; (try clear hcA hcB); obtain ⟨hcA, hcB⟩ := boxes2 HB))
  all_goals (go_wp2; go_ret; exact ⟨rfl, (below2 _ _ _).trans (HB.mono (by omega))⟩)
set_option maxHeartbeats 2000000 in
set_option maxRecDepth 100000 in
theorem gt_xiylzh {pl bl pg cs ck rg pt x y z : Int} (h : Right pl bl pg cs ck rg pt) (hx0 : 0 ≤ x) (hx1 : x < bl) (hy : y < 0) (hz : bl * pg ≤ z) (w : World) :
    Calls Try.prog 5 #[.agg #[.int .i64 pl, .int .i64 bl, .int .i64 pg, .int .i64 cs, .int .i64 ck, .int .i64 rg, .int .i64 pt], .agg #[.int .i64 x, .int .i64 y, .int .i64 z]] w fun e w' => e = .returned (.bool true) ∧ Below w.heap.size w w' := by
  obtain ⟨⟨a1, a2⟩, ⟨b1, b2⟩, ⟨c1, c2⟩, ⟨d1, d2⟩, ⟨e1, e2⟩, ⟨f1, f2⟩, ⟨g1, g2⟩, h1, h2⟩ := id h
  have hm : 4 ≤ bl * pg ∧ bl * pg ≤ 16384 := ⟨by have := Int.mul_le_mul b1 c1 (by omega) (by omega); omega, Int.le_trans (Int.mul_le_mul_of_nonneg_right b2 (by omega)) (by omega)⟩
  obtain ⟨m1, m2⟩ := hm
  have hm : 0 ≤ cs * ck ∧ cs * ck ≤ 8192 := ⟨Int.mul_nonneg (by omega) (by omega), Int.le_trans (Int.mul_le_mul_of_nonneg_right d2 (by omega)) (by omega)⟩
  obtain ⟨m3, m4⟩ := hm
  have hm : 0 ≤ x * pg ∧ x * pg ≤ 16384 := ⟨Int.mul_nonneg (by omega) (by omega), Int.le_trans (Int.mul_le_mul_of_nonneg_right (by omega : x ≤ 256) (by omega)) (by omega)⟩
  obtain ⟨m5, m6⟩ := hm
  have hyn : ¬ (0 ≤ y ∧ y < pg) := by omega
  have HY := Lib.hid hyn
  clear hyn
  have hzn : ¬ (0 ≤ z ∧ z < bl * pg) := by omega
  have HZ := Lib.hid hzn
  clear hzn
  have HH := Lib.hid h
  clear h h1 h2
  have HB := Below.refl (w.heap.size + 2) ((w.alloc (.cells #[.int .i64 pl, .int .i64 bl, .int .i64 pg, .int .i64 cs, .int .i64 ck, .int .i64 rg, .int .i64 pt] 23)).alloc (.cells #[.int .i64 x, .int .i64 y, .int .i64 z] 38))
  go_enter Try.func5, Try.ntmps5
  go_wp2_with (first | (go_at_call 17; refine (awake04_ok _).mono ?_; rintro e w1 ⟨rfl, hb1⟩; replace HB := chainB (by simp) HB hb1; clear hb1; (try clear hcA hcB); obtain ⟨hcA, hcB⟩ := boxes2 HB) | (go_at_call 27; refine (refRight_ok HH.out _).mono ?_; rintro e w1 ⟨rfl, hb1⟩; replace HB := chainB (by simp) HB hb1; clear hb1; (try clear hcA hcB); obtain ⟨hcA, hcB⟩ := boxes2 HB) | (go_at_call 18; refine (check_ok HH.out _).mono ?_; rintro e w1 ⟨rfl, hb1⟩; replace HB := chainB (by simp) HB hb1; clear hb1; (try clear hcA hcB); obtain ⟨hcA, hcB⟩ := boxes2 HB) | (go_at_call 29; refine (data_ok HH.out _).mono ?_; rintro e w1 ⟨rfl, hb1⟩; replace HB := chainB (by simp) HB hb1; clear hb1; (try clear hcA hcB); obtain ⟨hcA, hcB⟩ := boxes2 HB) | (go_at_call 30; refine (raw_ok HH.out _).mono ?_; rintro e w1 ⟨rfl, hb1⟩; replace HB := chainB (by simp) HB hb1; clear hb1; (try clear hcA hcB); obtain ⟨hcA, hcB⟩ := boxes2 HB) | (go_at_call 31; refine (refRaw_ok HH.out _).mono ?_; rintro e w1 ⟨rfl, hb1⟩; replace HB := chainB (by simp) HB hb1; clear hb1; (try clear hcA hcB); obtain ⟨hcA, hcB⟩ := boxes2 HB) | (go_at_call 28; refine (plane_ok HH.out hx0 hx1 _).mono ?_; rintro e w1 ⟨rfl, hb1⟩; replace HB := chainB (by simp) HB hb1; clear hb1; (try clear hcA hcB); obtain ⟨hcA, hcB⟩ := boxes2 HB) | (go_at_call 19; refine (row_no3 HH.out hx0 hx1 HY.out _).mono ?_; rintro e w1 ⟨rfl, hb1⟩; replace HB := chainB (by simp) HB hb1; clear hb1; (try clear hcA hcB); obtain ⟨hcA, hcB⟩ := boxes2 HB) | (go_at_call 20; refine (split_no2 HH.out HZ.out _).mono ?_; rintro e w1 ⟨rfl, hb1⟩; replace HB := chainB (by simp) HB hb1; clear hb1; (try clear hcA hcB); obtain ⟨hcA, hcB⟩ := boxes2 HB))
  have hwr : IntKind.i64.wrap (cs * ck) = cs * ck := IntWalk.i64_in _ (by omega)
  go_region_held3 (fun w' => w'.cell? ⟨w.heap.size, 0, none⟩ = some (.int .i64 pl) ∧ w'.cell? ⟨w.heap.size, 1, none⟩ = some (.int .i64 bl) ∧ w'.cell? ⟨w.heap.size, 2, none⟩ = some (.int .i64 pg) ∧ w'.cell? ⟨w.heap.size, 3, none⟩ = some (.int .i64 cs) ∧ w'.cell? ⟨w.heap.size, 4, none⟩ = some (.int .i64 ck) ∧ w'.cell? ⟨w.heap.size, 5, none⟩ = some (.int .i64 rg) ∧ w'.cell? ⟨w.heap.size, 6, none⟩ = some (.int .i64 pt)) (go_keep) (first | (go_at_call 29; refine (data_ok HH.out _).mono ?_; rintro e w1 ⟨rfl, hb1⟩; (first | replace HB := chainB (by simp) HB hb1 | replace HB := chainB (by simp) HB.drew hb1 | replace HB := chainB (by simp) (b_drewN HB _) hb1); clear hb1; (try clear hcA hcB); obtain ⟨hcA, hcB⟩ := boxes2 HB) | (go_at_call 30; refine (raw_ok HH.out _).mono ?_; rintro e w1 ⟨rfl, hb1⟩; (first | replace HB := chainB (by simp) HB hb1 | replace HB := chainB (by simp) HB.drew hb1 | replace HB := chainB (by simp) (b_drewN HB _) hb1); clear hb1; (try clear hcA hcB); obtain ⟨hcA, hcB⟩ := boxes2 HB) | (go_at_call 31; refine (refRaw_ok HH.out _).mono ?_; rintro e w1 ⟨rfl, hb1⟩; (first | replace HB := chainB (by simp) HB hb1 | replace HB := chainB (by simp) HB.drew hb1 | replace HB := chainB (by simp) (b_drewN HB _) hb1); clear hb1; (try clear hcA hcB); obtain ⟨hcA, hcB⟩ := boxes2 HB))
  all_goals (go_wp2; go_ret; exact ⟨rfl, (below2 _ _ _).trans (HB.mono (by omega))⟩)
set_option maxHeartbeats 2000000 in
set_option maxRecDepth 100000 in
theorem gt_xiylzi {pl bl pg cs ck rg pt x y z : Int} (h : Right pl bl pg cs ck rg pt) (hx0 : 0 ≤ x) (hx1 : x < bl) (hy : y < 0) (hz0 : 0 ≤ z) (hz1 : z < bl * pg) (w : World) :
    Calls Try.prog 5 #[.agg #[.int .i64 pl, .int .i64 bl, .int .i64 pg, .int .i64 cs, .int .i64 ck, .int .i64 rg, .int .i64 pt], .agg #[.int .i64 x, .int .i64 y, .int .i64 z]] w fun e w' => e = .returned (.bool true) ∧ Below w.heap.size w w' := by
  obtain ⟨⟨a1, a2⟩, ⟨b1, b2⟩, ⟨c1, c2⟩, ⟨d1, d2⟩, ⟨e1, e2⟩, ⟨f1, f2⟩, ⟨g1, g2⟩, h1, h2⟩ := id h
  have hm : 4 ≤ bl * pg ∧ bl * pg ≤ 16384 := ⟨by have := Int.mul_le_mul b1 c1 (by omega) (by omega); omega, Int.le_trans (Int.mul_le_mul_of_nonneg_right b2 (by omega)) (by omega)⟩
  obtain ⟨m1, m2⟩ := hm
  have hm : 0 ≤ cs * ck ∧ cs * ck ≤ 8192 := ⟨Int.mul_nonneg (by omega) (by omega), Int.le_trans (Int.mul_le_mul_of_nonneg_right d2 (by omega)) (by omega)⟩
  obtain ⟨m3, m4⟩ := hm
  have hm : 0 ≤ x * pg ∧ x * pg ≤ 16384 := ⟨Int.mul_nonneg (by omega) (by omega), Int.le_trans (Int.mul_le_mul_of_nonneg_right (by omega : x ≤ 256) (by omega)) (by omega)⟩
  obtain ⟨m5, m6⟩ := hm
  have hyn : ¬ (0 ≤ y ∧ y < pg) := by omega
  have HY := Lib.hid hyn
  clear hyn
  obtain ⟨q, hq⟩ : ∃ q, q = z / pg := ⟨_, rfl⟩
  obtain ⟨r, hr⟩ : ∃ r, r = z % pg := ⟨_, rfl⟩
  have e1 : q * pg + r = z := by rw [hq, hr, Int.mul_comm]; exact Int.mul_ediv_add_emod z pg
  have r0 : 0 ≤ r := by rw [hr]; exact Int.emod_nonneg _ (by omega)
  have r1 : r < pg := by rw [hr]; exact Int.emod_lt_of_pos _ (by omega)
  have q0 : 0 ≤ q := by rw [hq]; exact Int.ediv_nonneg hz0 (by omega)
  have q2 : 0 ≤ q * pg := Int.mul_nonneg q0 (by omega)
  have q3 : q * pg ≤ 16384 := by omega
  have q4 : q * 1 ≤ q * pg := Int.mul_le_mul_of_nonneg_left (by omega : 1 ≤ pg) q0
  have q1 : q ≤ 16384 := by omega
  have hqz : (q * pg + r != z) = false := by rw [bne_eq_false_iff_eq]; exact e1
  clear q4
  have HQ := Lib.hid hq
  have HR := Lib.hid hr
  clear hq hr e1
  have HH := Lib.hid h
  clear h h1 h2
  have HB := Below.refl (w.heap.size + 2) ((w.alloc (.cells #[.int .i64 pl, .int .i64 bl, .int .i64 pg, .int .i64 cs, .int .i64 ck, .int .i64 rg, .int .i64 pt] 23)).alloc (.cells #[.int .i64 x, .int .i64 y, .int .i64 z] 38))
  go_enter Try.func5, Try.ntmps5
  go_wp2_with (first | (go_at_call 17; refine (awake04_ok _).mono ?_; rintro e w1 ⟨rfl, hb1⟩; replace HB := chainB (by simp) HB hb1; clear hb1; (try clear hcA hcB); obtain ⟨hcA, hcB⟩ := boxes2 HB) | (go_at_call 27; refine (refRight_ok HH.out _).mono ?_; rintro e w1 ⟨rfl, hb1⟩; replace HB := chainB (by simp) HB hb1; clear hb1; (try clear hcA hcB); obtain ⟨hcA, hcB⟩ := boxes2 HB) | (go_at_call 18; refine (check_ok HH.out _).mono ?_; rintro e w1 ⟨rfl, hb1⟩; replace HB := chainB (by simp) HB hb1; clear hb1; (try clear hcA hcB); obtain ⟨hcA, hcB⟩ := boxes2 HB) | (go_at_call 29; refine (data_ok HH.out _).mono ?_; rintro e w1 ⟨rfl, hb1⟩; replace HB := chainB (by simp) HB hb1; clear hb1; (try clear hcA hcB); obtain ⟨hcA, hcB⟩ := boxes2 HB) | (go_at_call 30; refine (raw_ok HH.out _).mono ?_; rintro e w1 ⟨rfl, hb1⟩; replace HB := chainB (by simp) HB hb1; clear hb1; (try clear hcA hcB); obtain ⟨hcA, hcB⟩ := boxes2 HB) | (go_at_call 31; refine (refRaw_ok HH.out _).mono ?_; rintro e w1 ⟨rfl, hb1⟩; replace HB := chainB (by simp) HB hb1; clear hb1; (try clear hcA hcB); obtain ⟨hcA, hcB⟩ := boxes2 HB) | (go_at_call 28; refine (plane_ok HH.out hx0 hx1 _).mono ?_; rintro e w1 ⟨rfl, hb1⟩; replace HB := chainB (by simp) HB hb1; clear hb1; (try clear hcA hcB); obtain ⟨hcA, hcB⟩ := boxes2 HB) | (go_at_call 19; refine (row_no3 HH.out hx0 hx1 HY.out _).mono ?_; rintro e w1 ⟨rfl, hb1⟩; replace HB := chainB (by simp) HB hb1; clear hb1; (try clear hcA hcB); obtain ⟨hcA, hcB⟩ := boxes2 HB) | (go_at_call 20; refine (split_ok' HH.out hz0 hz1 HQ HR _).mono ?_; rintro e w1 ⟨rfl, hb1⟩; replace HB := chainB (by simp) HB hb1; clear hb1; (try clear hcA hcB); obtain ⟨hcA, hcB⟩ := boxes2 HB))
  have hwr : IntKind.i64.wrap (cs * ck) = cs * ck := IntWalk.i64_in _ (by omega)
  go_region_held3 (fun w' => w'.cell? ⟨w.heap.size, 0, none⟩ = some (.int .i64 pl) ∧ w'.cell? ⟨w.heap.size, 1, none⟩ = some (.int .i64 bl) ∧ w'.cell? ⟨w.heap.size, 2, none⟩ = some (.int .i64 pg) ∧ w'.cell? ⟨w.heap.size, 3, none⟩ = some (.int .i64 cs) ∧ w'.cell? ⟨w.heap.size, 4, none⟩ = some (.int .i64 ck) ∧ w'.cell? ⟨w.heap.size, 5, none⟩ = some (.int .i64 rg) ∧ w'.cell? ⟨w.heap.size, 6, none⟩ = some (.int .i64 pt)) (go_keep) (first | (go_at_call 29; refine (data_ok HH.out _).mono ?_; rintro e w1 ⟨rfl, hb1⟩; (first | replace HB := chainB (by simp) HB hb1 | replace HB := chainB (by simp) HB.drew hb1 | replace HB := chainB (by simp) (b_drewN HB _) hb1); clear hb1; (try clear hcA hcB); obtain ⟨hcA, hcB⟩ := boxes2 HB) | (go_at_call 30; refine (raw_ok HH.out _).mono ?_; rintro e w1 ⟨rfl, hb1⟩; (first | replace HB := chainB (by simp) HB hb1 | replace HB := chainB (by simp) HB.drew hb1 | replace HB := chainB (by simp) (b_drewN HB _) hb1); clear hb1; (try clear hcA hcB); obtain ⟨hcA, hcB⟩ := boxes2 HB) | (go_at_call 31; refine (refRaw_ok HH.out _).mono ?_; rintro e w1 ⟨rfl, hb1⟩; (first | replace HB := chainB (by simp) HB hb1 | replace HB := chainB (by simp) HB.drew hb1 | replace HB := chainB (by simp) (b_drewN HB _) hb1); clear hb1; (try clear hcA hcB); obtain ⟨hcA, hcB⟩ := boxes2 HB))
  all_goals (go_wp2; go_ret; exact ⟨rfl, (below2 _ _ _).trans (HB.mono (by omega))⟩)
set_option maxHeartbeats 2000000 in
set_option maxRecDepth 100000 in
theorem gt_xiyhzl {pl bl pg cs ck rg pt x y z : Int} (h : Right pl bl pg cs ck rg pt) (hx0 : 0 ≤ x) (hx1 : x < bl) (hy : pg ≤ y) (hz : z < 0) (w : World) :
    Calls Try.prog 5 #[.agg #[.int .i64 pl, .int .i64 bl, .int .i64 pg, .int .i64 cs, .int .i64 ck, .int .i64 rg, .int .i64 pt], .agg #[.int .i64 x, .int .i64 y, .int .i64 z]] w fun e w' => e = .returned (.bool true) ∧ Below w.heap.size w w' := by
  obtain ⟨⟨a1, a2⟩, ⟨b1, b2⟩, ⟨c1, c2⟩, ⟨d1, d2⟩, ⟨e1, e2⟩, ⟨f1, f2⟩, ⟨g1, g2⟩, h1, h2⟩ := id h
  have hm : 4 ≤ bl * pg ∧ bl * pg ≤ 16384 := ⟨by have := Int.mul_le_mul b1 c1 (by omega) (by omega); omega, Int.le_trans (Int.mul_le_mul_of_nonneg_right b2 (by omega)) (by omega)⟩
  obtain ⟨m1, m2⟩ := hm
  have hm : 0 ≤ cs * ck ∧ cs * ck ≤ 8192 := ⟨Int.mul_nonneg (by omega) (by omega), Int.le_trans (Int.mul_le_mul_of_nonneg_right d2 (by omega)) (by omega)⟩
  obtain ⟨m3, m4⟩ := hm
  have hm : 0 ≤ x * pg ∧ x * pg ≤ 16384 := ⟨Int.mul_nonneg (by omega) (by omega), Int.le_trans (Int.mul_le_mul_of_nonneg_right (by omega : x ≤ 256) (by omega)) (by omega)⟩
  obtain ⟨m5, m6⟩ := hm
  have hyn : ¬ (0 ≤ y ∧ y < pg) := by omega
  have HY := Lib.hid hyn
  clear hyn
  have hzn : ¬ (0 ≤ z ∧ z < bl * pg) := by omega
  have HZ := Lib.hid hzn
  clear hzn
  have HH := Lib.hid h
  clear h h1 h2
  have HB := Below.refl (w.heap.size + 2) ((w.alloc (.cells #[.int .i64 pl, .int .i64 bl, .int .i64 pg, .int .i64 cs, .int .i64 ck, .int .i64 rg, .int .i64 pt] 23)).alloc (.cells #[.int .i64 x, .int .i64 y, .int .i64 z] 38))
  go_enter Try.func5, Try.ntmps5
  go_wp2_with (first | (go_at_call 17; refine (awake04_ok _).mono ?_; rintro e w1 ⟨rfl, hb1⟩; replace HB := chainB (by simp) HB hb1; clear hb1; (try clear hcA hcB); obtain ⟨hcA, hcB⟩ := boxes2 HB) | (go_at_call 27; refine (refRight_ok HH.out _).mono ?_; rintro e w1 ⟨rfl, hb1⟩; replace HB := chainB (by simp) HB hb1; clear hb1; (try clear hcA hcB); obtain ⟨hcA, hcB⟩ := boxes2 HB) | (go_at_call 18; refine (check_ok HH.out _).mono ?_; rintro e w1 ⟨rfl, hb1⟩; replace HB := chainB (by simp) HB hb1; clear hb1; (try clear hcA hcB); obtain ⟨hcA, hcB⟩ := boxes2 HB) | (go_at_call 29; refine (data_ok HH.out _).mono ?_; rintro e w1 ⟨rfl, hb1⟩; replace HB := chainB (by simp) HB hb1; clear hb1; (try clear hcA hcB); obtain ⟨hcA, hcB⟩ := boxes2 HB) | (go_at_call 30; refine (raw_ok HH.out _).mono ?_; rintro e w1 ⟨rfl, hb1⟩; replace HB := chainB (by simp) HB hb1; clear hb1; (try clear hcA hcB); obtain ⟨hcA, hcB⟩ := boxes2 HB) | (go_at_call 31; refine (refRaw_ok HH.out _).mono ?_; rintro e w1 ⟨rfl, hb1⟩; replace HB := chainB (by simp) HB hb1; clear hb1; (try clear hcA hcB); obtain ⟨hcA, hcB⟩ := boxes2 HB) | (go_at_call 28; refine (plane_ok HH.out hx0 hx1 _).mono ?_; rintro e w1 ⟨rfl, hb1⟩; replace HB := chainB (by simp) HB hb1; clear hb1; (try clear hcA hcB); obtain ⟨hcA, hcB⟩ := boxes2 HB) | (go_at_call 19; refine (row_no3 HH.out hx0 hx1 HY.out _).mono ?_; rintro e w1 ⟨rfl, hb1⟩; replace HB := chainB (by simp) HB hb1; clear hb1; (try clear hcA hcB); obtain ⟨hcA, hcB⟩ := boxes2 HB) | (go_at_call 20; refine (split_no2 HH.out HZ.out _).mono ?_; rintro e w1 ⟨rfl, hb1⟩; replace HB := chainB (by simp) HB hb1; clear hb1; (try clear hcA hcB); obtain ⟨hcA, hcB⟩ := boxes2 HB))
  have hwr : IntKind.i64.wrap (cs * ck) = cs * ck := IntWalk.i64_in _ (by omega)
  go_region_held3 (fun w' => w'.cell? ⟨w.heap.size, 0, none⟩ = some (.int .i64 pl) ∧ w'.cell? ⟨w.heap.size, 1, none⟩ = some (.int .i64 bl) ∧ w'.cell? ⟨w.heap.size, 2, none⟩ = some (.int .i64 pg) ∧ w'.cell? ⟨w.heap.size, 3, none⟩ = some (.int .i64 cs) ∧ w'.cell? ⟨w.heap.size, 4, none⟩ = some (.int .i64 ck) ∧ w'.cell? ⟨w.heap.size, 5, none⟩ = some (.int .i64 rg) ∧ w'.cell? ⟨w.heap.size, 6, none⟩ = some (.int .i64 pt)) (go_keep) (first | (go_at_call 29; refine (data_ok HH.out _).mono ?_; rintro e w1 ⟨rfl, hb1⟩; (first | replace HB := chainB (by simp) HB hb1 | replace HB := chainB (by simp) HB.drew hb1 | replace HB := chainB (by simp) (b_drewN HB _) hb1); clear hb1; (try clear hcA hcB); obtain ⟨hcA, hcB⟩ := boxes2 HB) | (go_at_call 30; refine (raw_ok HH.out _).mono ?_; rintro e w1 ⟨rfl, hb1⟩; (first | replace HB := chainB (by simp) HB hb1 | replace HB := chainB (by simp) HB.drew hb1 | replace HB := chainB (by simp) (b_drewN HB _) hb1); clear hb1; (try clear hcA hcB); obtain ⟨hcA, hcB⟩ := boxes2 HB) | (go_at_call 31; refine (refRaw_ok HH.out _).mono ?_; rintro e w1 ⟨rfl, hb1⟩; (first | replace HB := chainB (by simp) HB hb1 | replace HB := chainB (by simp) HB.drew hb1 | replace HB := chainB (by simp) (b_drewN HB _) hb1); clear hb1; (try clear hcA hcB); obtain ⟨hcA, hcB⟩ := boxes2 HB))
  all_goals (go_wp2; go_ret; exact ⟨rfl, (below2 _ _ _).trans (HB.mono (by omega))⟩)
set_option maxHeartbeats 2000000 in
set_option maxRecDepth 100000 in
theorem gt_xiyhzh {pl bl pg cs ck rg pt x y z : Int} (h : Right pl bl pg cs ck rg pt) (hx0 : 0 ≤ x) (hx1 : x < bl) (hy : pg ≤ y) (hz : bl * pg ≤ z) (w : World) :
    Calls Try.prog 5 #[.agg #[.int .i64 pl, .int .i64 bl, .int .i64 pg, .int .i64 cs, .int .i64 ck, .int .i64 rg, .int .i64 pt], .agg #[.int .i64 x, .int .i64 y, .int .i64 z]] w fun e w' => e = .returned (.bool true) ∧ Below w.heap.size w w' := by
  obtain ⟨⟨a1, a2⟩, ⟨b1, b2⟩, ⟨c1, c2⟩, ⟨d1, d2⟩, ⟨e1, e2⟩, ⟨f1, f2⟩, ⟨g1, g2⟩, h1, h2⟩ := id h
  have hm : 4 ≤ bl * pg ∧ bl * pg ≤ 16384 := ⟨by have := Int.mul_le_mul b1 c1 (by omega) (by omega); omega, Int.le_trans (Int.mul_le_mul_of_nonneg_right b2 (by omega)) (by omega)⟩
  obtain ⟨m1, m2⟩ := hm
  have hm : 0 ≤ cs * ck ∧ cs * ck ≤ 8192 := ⟨Int.mul_nonneg (by omega) (by omega), Int.le_trans (Int.mul_le_mul_of_nonneg_right d2 (by omega)) (by omega)⟩
  obtain ⟨m3, m4⟩ := hm
  have hm : 0 ≤ x * pg ∧ x * pg ≤ 16384 := ⟨Int.mul_nonneg (by omega) (by omega), Int.le_trans (Int.mul_le_mul_of_nonneg_right (by omega : x ≤ 256) (by omega)) (by omega)⟩
  obtain ⟨m5, m6⟩ := hm
  have hyn : ¬ (0 ≤ y ∧ y < pg) := by omega
  have HY := Lib.hid hyn
  clear hyn
  have hzn : ¬ (0 ≤ z ∧ z < bl * pg) := by omega
  have HZ := Lib.hid hzn
  clear hzn
  have HH := Lib.hid h
  clear h h1 h2
  have HB := Below.refl (w.heap.size + 2) ((w.alloc (.cells #[.int .i64 pl, .int .i64 bl, .int .i64 pg, .int .i64 cs, .int .i64 ck, .int .i64 rg, .int .i64 pt] 23)).alloc (.cells #[.int .i64 x, .int .i64 y, .int .i64 z] 38))
  go_enter Try.func5, Try.ntmps5
  go_wp2_with (first | (go_at_call 17; refine (awake04_ok _).mono ?_; rintro e w1 ⟨rfl, hb1⟩; replace HB := chainB (by simp) HB hb1; clear hb1; (try clear hcA hcB); obtain ⟨hcA, hcB⟩ := boxes2 HB) | (go_at_call 27; refine (refRight_ok HH.out _).mono ?_; rintro e w1 ⟨rfl, hb1⟩; replace HB := chainB (by simp) HB hb1; clear hb1; (try clear hcA hcB); obtain ⟨hcA, hcB⟩ := boxes2 HB) | (go_at_call 18; refine (check_ok HH.out _).mono ?_; rintro e w1 ⟨rfl, hb1⟩; replace HB := chainB (by simp) HB hb1; clear hb1; (try clear hcA hcB); obtain ⟨hcA, hcB⟩ := boxes2 HB) | (go_at_call 29; refine (data_ok HH.out _).mono ?_; rintro e w1 ⟨rfl, hb1⟩; replace HB := chainB (by simp) HB hb1; clear hb1; (try clear hcA hcB); obtain ⟨hcA, hcB⟩ := boxes2 HB) | (go_at_call 30; refine (raw_ok HH.out _).mono ?_; rintro e w1 ⟨rfl, hb1⟩; replace HB := chainB (by simp) HB hb1; clear hb1; (try clear hcA hcB); obtain ⟨hcA, hcB⟩ := boxes2 HB) | (go_at_call 31; refine (refRaw_ok HH.out _).mono ?_; rintro e w1 ⟨rfl, hb1⟩; replace HB := chainB (by simp) HB hb1; clear hb1; (try clear hcA hcB); obtain ⟨hcA, hcB⟩ := boxes2 HB) | (go_at_call 28; refine (plane_ok HH.out hx0 hx1 _).mono ?_; rintro e w1 ⟨rfl, hb1⟩; replace HB := chainB (by simp) HB hb1; clear hb1; (try clear hcA hcB); obtain ⟨hcA, hcB⟩ := boxes2 HB) | (go_at_call 19; refine (row_no3 HH.out hx0 hx1 HY.out _).mono ?_; rintro e w1 ⟨rfl, hb1⟩; replace HB := chainB (by simp) HB hb1; clear hb1; (try clear hcA hcB); obtain ⟨hcA, hcB⟩ := boxes2 HB) | (go_at_call 20; refine (split_no2 HH.out HZ.out _).mono ?_; rintro e w1 ⟨rfl, hb1⟩; replace HB := chainB (by simp) HB hb1; clear hb1; (try clear hcA hcB); obtain ⟨hcA, hcB⟩ := boxes2 HB))
  have hwr : IntKind.i64.wrap (cs * ck) = cs * ck := IntWalk.i64_in _ (by omega)
  go_region_held3 (fun w' => w'.cell? ⟨w.heap.size, 0, none⟩ = some (.int .i64 pl) ∧ w'.cell? ⟨w.heap.size, 1, none⟩ = some (.int .i64 bl) ∧ w'.cell? ⟨w.heap.size, 2, none⟩ = some (.int .i64 pg) ∧ w'.cell? ⟨w.heap.size, 3, none⟩ = some (.int .i64 cs) ∧ w'.cell? ⟨w.heap.size, 4, none⟩ = some (.int .i64 ck) ∧ w'.cell? ⟨w.heap.size, 5, none⟩ = some (.int .i64 rg) ∧ w'.cell? ⟨w.heap.size, 6, none⟩ = some (.int .i64 pt)) (go_keep) (first | (go_at_call 29; refine (data_ok HH.out _).mono ?_; rintro e w1 ⟨rfl, hb1⟩; (first | replace HB := chainB (by simp) HB hb1 | replace HB := chainB (by simp) HB.drew hb1 | replace HB := chainB (by simp) (b_drewN HB _) hb1); clear hb1; (try clear hcA hcB); obtain ⟨hcA, hcB⟩ := boxes2 HB) | (go_at_call 30; refine (raw_ok HH.out _).mono ?_; rintro e w1 ⟨rfl, hb1⟩; (first | replace HB := chainB (by simp) HB hb1 | replace HB := chainB (by simp) HB.drew hb1 | replace HB := chainB (by simp) (b_drewN HB _) hb1); clear hb1; (try clear hcA hcB); obtain ⟨hcA, hcB⟩ := boxes2 HB) | (go_at_call 31; refine (refRaw_ok HH.out _).mono ?_; rintro e w1 ⟨rfl, hb1⟩; (first | replace HB := chainB (by simp) HB hb1 | replace HB := chainB (by simp) HB.drew hb1 | replace HB := chainB (by simp) (b_drewN HB _) hb1); clear hb1; (try clear hcA hcB); obtain ⟨hcA, hcB⟩ := boxes2 HB))
  all_goals (go_wp2; go_ret; exact ⟨rfl, (below2 _ _ _).trans (HB.mono (by omega))⟩)
set_option maxHeartbeats 2000000 in
set_option maxRecDepth 100000 in
theorem gt_xiyhzi {pl bl pg cs ck rg pt x y z : Int} (h : Right pl bl pg cs ck rg pt) (hx0 : 0 ≤ x) (hx1 : x < bl) (hy : pg ≤ y) (hz0 : 0 ≤ z) (hz1 : z < bl * pg) (w : World) :
    Calls Try.prog 5 #[.agg #[.int .i64 pl, .int .i64 bl, .int .i64 pg, .int .i64 cs, .int .i64 ck, .int .i64 rg, .int .i64 pt], .agg #[.int .i64 x, .int .i64 y, .int .i64 z]] w fun e w' => e = .returned (.bool true) ∧ Below w.heap.size w w' := by
  obtain ⟨⟨a1, a2⟩, ⟨b1, b2⟩, ⟨c1, c2⟩, ⟨d1, d2⟩, ⟨e1, e2⟩, ⟨f1, f2⟩, ⟨g1, g2⟩, h1, h2⟩ := id h
  have hm : 4 ≤ bl * pg ∧ bl * pg ≤ 16384 := ⟨by have := Int.mul_le_mul b1 c1 (by omega) (by omega); omega, Int.le_trans (Int.mul_le_mul_of_nonneg_right b2 (by omega)) (by omega)⟩
  obtain ⟨m1, m2⟩ := hm
  have hm : 0 ≤ cs * ck ∧ cs * ck ≤ 8192 := ⟨Int.mul_nonneg (by omega) (by omega), Int.le_trans (Int.mul_le_mul_of_nonneg_right d2 (by omega)) (by omega)⟩
  obtain ⟨m3, m4⟩ := hm
  have hm : 0 ≤ x * pg ∧ x * pg ≤ 16384 := ⟨Int.mul_nonneg (by omega) (by omega), Int.le_trans (Int.mul_le_mul_of_nonneg_right (by omega : x ≤ 256) (by omega)) (by omega)⟩
  obtain ⟨m5, m6⟩ := hm
  have hyn : ¬ (0 ≤ y ∧ y < pg) := by omega
  have HY := Lib.hid hyn
  clear hyn
  obtain ⟨q, hq⟩ : ∃ q, q = z / pg := ⟨_, rfl⟩
  obtain ⟨r, hr⟩ : ∃ r, r = z % pg := ⟨_, rfl⟩
  have e1 : q * pg + r = z := by rw [hq, hr, Int.mul_comm]; exact Int.mul_ediv_add_emod z pg
  have r0 : 0 ≤ r := by rw [hr]; exact Int.emod_nonneg _ (by omega)
  have r1 : r < pg := by rw [hr]; exact Int.emod_lt_of_pos _ (by omega)
  have q0 : 0 ≤ q := by rw [hq]; exact Int.ediv_nonneg hz0 (by omega)
  have q2 : 0 ≤ q * pg := Int.mul_nonneg q0 (by omega)
  have q3 : q * pg ≤ 16384 := by omega
  have q4 : q * 1 ≤ q * pg := Int.mul_le_mul_of_nonneg_left (by omega : 1 ≤ pg) q0
  have q1 : q ≤ 16384 := by omega
  have hqz : (q * pg + r != z) = false := by rw [bne_eq_false_iff_eq]; exact e1
  clear q4
  have HQ := Lib.hid hq
  have HR := Lib.hid hr
  clear hq hr e1
  have HH := Lib.hid h
  clear h h1 h2
  have HB := Below.refl (w.heap.size + 2) ((w.alloc (.cells #[.int .i64 pl, .int .i64 bl, .int .i64 pg, .int .i64 cs, .int .i64 ck, .int .i64 rg, .int .i64 pt] 23)).alloc (.cells #[.int .i64 x, .int .i64 y, .int .i64 z] 38))
  go_enter Try.func5, Try.ntmps5
  go_wp2_with (first | (go_at_call 17; refine (awake04_ok _).mono ?_; rintro e w1 ⟨rfl, hb1⟩; replace HB := chainB (by simp) HB hb1; clear hb1; (try clear hcA hcB); obtain ⟨hcA, hcB⟩ := boxes2 HB) | (go_at_call 27; refine (refRight_ok HH.out _).mono ?_; rintro e w1 ⟨rfl, hb1⟩; replace HB := chainB (by simp) HB hb1; clear hb1; (try clear hcA hcB); obtain ⟨hcA, hcB⟩ := boxes2 HB) | (go_at_call 18; refine (check_ok HH.out _).mono ?_; rintro e w1 ⟨rfl, hb1⟩; replace HB := chainB (by simp) HB hb1; clear hb1; (try clear hcA hcB); obtain ⟨hcA, hcB⟩ := boxes2 HB) | (go_at_call 29; refine (data_ok HH.out _).mono ?_; rintro e w1 ⟨rfl, hb1⟩; replace HB := chainB (by simp) HB hb1; clear hb1; (try clear hcA hcB); obtain ⟨hcA, hcB⟩ := boxes2 HB) | (go_at_call 30; refine (raw_ok HH.out _).mono ?_; rintro e w1 ⟨rfl, hb1⟩; replace HB := chainB (by simp) HB hb1; clear hb1; (try clear hcA hcB); obtain ⟨hcA, hcB⟩ := boxes2 HB) | (go_at_call 31; refine (refRaw_ok HH.out _).mono ?_; rintro e w1 ⟨rfl, hb1⟩; replace HB := chainB (by simp) HB hb1; clear hb1; (try clear hcA hcB); obtain ⟨hcA, hcB⟩ := boxes2 HB) | (go_at_call 28; refine (plane_ok HH.out hx0 hx1 _).mono ?_; rintro e w1 ⟨rfl, hb1⟩; replace HB := chainB (by simp) HB hb1; clear hb1; (try clear hcA hcB); obtain ⟨hcA, hcB⟩ := boxes2 HB) | (go_at_call 19; refine (row_no3 HH.out hx0 hx1 HY.out _).mono ?_; rintro e w1 ⟨rfl, hb1⟩; replace HB := chainB (by simp) HB hb1; clear hb1; (try clear hcA hcB); obtain ⟨hcA, hcB⟩ := boxes2 HB) | (go_at_call 20; refine (split_ok' HH.out hz0 hz1 HQ HR _).mono ?_; rintro e w1 ⟨rfl, hb1⟩; replace HB := chainB (by simp) HB hb1; clear hb1; (try clear hcA hcB); obtain ⟨hcA, hcB⟩ := boxes2 HB))
  have hwr : IntKind.i64.wrap (cs * ck) = cs * ck := IntWalk.i64_in _ (by omega)
  go_region_held3 (fun w' => w'.cell? ⟨w.heap.size, 0, none⟩ = some (.int .i64 pl) ∧ w'.cell? ⟨w.heap.size, 1, none⟩ = some (.int .i64 bl) ∧ w'.cell? ⟨w.heap.size, 2, none⟩ = some (.int .i64 pg) ∧ w'.cell? ⟨w.heap.size, 3, none⟩ = some (.int .i64 cs) ∧ w'.cell? ⟨w.heap.size, 4, none⟩ = some (.int .i64 ck) ∧ w'.cell? ⟨w.heap.size, 5, none⟩ = some (.int .i64 rg) ∧ w'.cell? ⟨w.heap.size, 6, none⟩ = some (.int .i64 pt)) (go_keep) (first | (go_at_call 29; refine (data_ok HH.out _).mono ?_; rintro e w1 ⟨rfl, hb1⟩; (first | replace HB := chainB (by simp) HB hb1 | replace HB := chainB (by simp) HB.drew hb1 | replace HB := chainB (by simp) (b_drewN HB _) hb1); clear hb1; (try clear hcA hcB); obtain ⟨hcA, hcB⟩ := boxes2 HB) | (go_at_call 30; refine (raw_ok HH.out _).mono ?_; rintro e w1 ⟨rfl, hb1⟩; (first | replace HB := chainB (by simp) HB hb1 | replace HB := chainB (by simp) HB.drew hb1 | replace HB := chainB (by simp) (b_drewN HB _) hb1); clear hb1; (try clear hcA hcB); obtain ⟨hcA, hcB⟩ := boxes2 HB) | (go_at_call 31; refine (refRaw_ok HH.out _).mono ?_; rintro e w1 ⟨rfl, hb1⟩; (first | replace HB := chainB (by simp) HB hb1 | replace HB := chainB (by simp) HB.drew hb1 | replace HB := chainB (by simp) (b_drewN HB _) hb1); clear hb1; (try clear hcA hcB); obtain ⟨hcA, hcB⟩ := boxes2 HB))
  all_goals (go_wp2; go_ret; exact ⟨rfl, (below2 _ _ _).trans (HB.mono (by omega))⟩)
set_option maxHeartbeats 2000000 in
set_option maxRecDepth 100000 in
theorem gt_xiyizl {pl bl pg cs ck rg pt x y z : Int} (h : Right pl bl pg cs ck rg pt) (hx0 : 0 ≤ x) (hx1 : x < bl) (hy0 : 0 ≤ y) (hy1 : y < pg) (hz : z < 0) (w : World) :
    Calls Try.prog 5 #[.agg #[.int .i64 pl, .int .i64 bl, .int .i64 pg, .int .i64 cs, .int .i64 ck, .int .i64 rg, .int .i64 pt], .agg #[.int .i64 x, .int .i64 y, .int .i64 z]] w fun e w' => e = .returned (.bool true) ∧ Below w.heap.size w w' := by
  obtain ⟨⟨a1, a2⟩, ⟨b1, b2⟩, ⟨c1, c2⟩, ⟨d1, d2⟩, ⟨e1, e2⟩, ⟨f1, f2⟩, ⟨g1, g2⟩, h1, h2⟩ := id h
  have hm : 4 ≤ bl * pg ∧ bl * pg ≤ 16384 := ⟨by have := Int.mul_le_mul b1 c1 (by omega) (by omega); omega, Int.le_trans (Int.mul_le_mul_of_nonneg_right b2 (by omega)) (by omega)⟩
  obtain ⟨m1, m2⟩ := hm
  have hm : 0 ≤ cs * ck ∧ cs * ck ≤ 8192 := ⟨Int.mul_nonneg (by omega) (by omega), Int.le_trans (Int.mul_le_mul_of_nonneg_right d2 (by omega)) (by omega)⟩
  obtain ⟨m3, m4⟩ := hm
  have hm : 0 ≤ x * pg ∧ x * pg ≤ 16384 := ⟨Int.mul_nonneg (by omega) (by omega), Int.le_trans (Int.mul_le_mul_of_nonneg_right (by omega : x ≤ 256) (by omega)) (by omega)⟩
  obtain ⟨m5, m6⟩ := hm
  have hzn : ¬ (0 ≤ z ∧ z < bl * pg) := by omega
  have HZ := Lib.hid hzn
  clear hzn
  have HH := Lib.hid h
  clear h h1 h2
  have HB := Below.refl (w.heap.size + 2) ((w.alloc (.cells #[.int .i64 pl, .int .i64 bl, .int .i64 pg, .int .i64 cs, .int .i64 ck, .int .i64 rg, .int .i64 pt] 23)).alloc (.cells #[.int .i64 x, .int .i64 y, .int .i64 z] 38))
  go_enter Try.func5, Try.ntmps5
  go_wp2_with (first | (go_at_call 17; refine (awake04_ok _).mono ?_; rintro e w1 ⟨rfl, hb1⟩; replace HB := chainB (by simp) HB hb1; clear hb1; (try clear hcA hcB); obtain ⟨hcA, hcB⟩ := boxes2 HB) | (go_at_call 27; refine (refRight_ok HH.out _).mono ?_; rintro e w1 ⟨rfl, hb1⟩; replace HB := chainB (by simp) HB hb1; clear hb1; (try clear hcA hcB); obtain ⟨hcA, hcB⟩ := boxes2 HB) | (go_at_call 18; refine (check_ok HH.out _).mono ?_; rintro e w1 ⟨rfl, hb1⟩; replace HB := chainB (by simp) HB hb1; clear hb1; (try clear hcA hcB); obtain ⟨hcA, hcB⟩ := boxes2 HB) | (go_at_call 29; refine (data_ok HH.out _).mono ?_; rintro e w1 ⟨rfl, hb1⟩; replace HB := chainB (by simp) HB hb1; clear hb1; (try clear hcA hcB); obtain ⟨hcA, hcB⟩ := boxes2 HB) | (go_at_call 30; refine (raw_ok HH.out _).mono ?_; rintro e w1 ⟨rfl, hb1⟩; replace HB := chainB (by simp) HB hb1; clear hb1; (try clear hcA hcB); obtain ⟨hcA, hcB⟩ := boxes2 HB) | (go_at_call 31; refine (refRaw_ok HH.out _).mono ?_; rintro e w1 ⟨rfl, hb1⟩; replace HB := chainB (by simp) HB hb1; clear hb1; (try clear hcA hcB); obtain ⟨hcA, hcB⟩ := boxes2 HB) | (go_at_call 28; refine (plane_ok HH.out hx0 hx1 _).mono ?_; rintro e w1 ⟨rfl, hb1⟩; replace HB := chainB (by simp) HB hb1; clear hb1; (try clear hcA hcB); obtain ⟨hcA, hcB⟩ := boxes2 HB) | (go_at_call 19; refine (row_ok HH.out hx0 hx1 hy0 hy1 _).mono ?_; rintro e w1 ⟨rfl, hb1⟩; replace HB := chainB (by simp) HB hb1; clear hb1; (try clear hcA hcB); obtain ⟨hcA, hcB⟩ := boxes2 HB) | (go_at_call 20; refine (split_no2 HH.out HZ.out _).mono ?_; rintro e w1 ⟨rfl, hb1⟩; replace HB := chainB (by simp) HB hb1; clear hb1; (try clear hcA hcB); obtain ⟨hcA, hcB⟩ := boxes2 HB))
  have hwr : IntKind.i64.wrap (cs * ck) = cs * ck := IntWalk.i64_in _ (by omega)
  go_region_held3 (fun w' => w'.cell? ⟨w.heap.size, 0, none⟩ = some (.int .i64 pl) ∧ w'.cell? ⟨w.heap.size, 1, none⟩ = some (.int .i64 bl) ∧ w'.cell? ⟨w.heap.size, 2, none⟩ = some (.int .i64 pg) ∧ w'.cell? ⟨w.heap.size, 3, none⟩ = some (.int .i64 cs) ∧ w'.cell? ⟨w.heap.size, 4, none⟩ = some (.int .i64 ck) ∧ w'.cell? ⟨w.heap.size, 5, none⟩ = some (.int .i64 rg) ∧ w'.cell? ⟨w.heap.size, 6, none⟩ = some (.int .i64 pt)) (go_keep) (first | (go_at_call 29; refine (data_ok HH.out _).mono ?_; rintro e w1 ⟨rfl, hb1⟩; (first | replace HB := chainB (by simp) HB hb1 | replace HB := chainB (by simp) HB.drew hb1 | replace HB := chainB (by simp) (b_drewN HB _) hb1); clear hb1; (try clear hcA hcB); obtain ⟨hcA, hcB⟩ := boxes2 HB) | (go_at_call 30; refine (raw_ok HH.out _).mono ?_; rintro e w1 ⟨rfl, hb1⟩; (first | replace HB := chainB (by simp) HB hb1 | replace HB := chainB (by simp) HB.drew hb1 | replace HB := chainB (by simp) (b_drewN HB _) hb1); clear hb1; (try clear hcA hcB); obtain ⟨hcA, hcB⟩ := boxes2 HB) | (go_at_call 31; refine (refRaw_ok HH.out _).mono ?_; rintro e w1 ⟨rfl, hb1⟩; (first | replace HB := chainB (by simp) HB hb1 | replace HB := chainB (by simp) HB.drew hb1 | replace HB := chainB (by simp) (b_drewN HB _) hb1); clear hb1; (try clear hcA hcB); obtain ⟨hcA, hcB⟩ := boxes2 HB))
  all_goals (go_wp2; go_ret; exact ⟨rfl, (below2 _ _ _).trans (HB.mono (by omega))⟩)
set_option maxHeartbeats 2000000 in
set_option maxRecDepth 100000 in
theorem gt_xiyizh {pl bl pg cs ck rg pt x y z : Int} (h : Right pl bl pg cs ck rg pt) (hx0 : 0 ≤ x) (hx1 : x < bl) (hy0 : 0 ≤ y) (hy1 : y < pg) (hz : bl * pg ≤ z) (w : World) :
    Calls Try.prog 5 #[.agg #[.int .i64 pl, .int .i64 bl, .int .i64 pg, .int .i64 cs, .int .i64 ck, .int .i64 rg, .int .i64 pt], .agg #[.int .i64 x, .int .i64 y, .int .i64 z]] w fun e w' => e = .returned (.bool true) ∧ Below w.heap.size w w' := by
  obtain ⟨⟨a1, a2⟩, ⟨b1, b2⟩, ⟨c1, c2⟩, ⟨d1, d2⟩, ⟨e1, e2⟩, ⟨f1, f2⟩, ⟨g1, g2⟩, h1, h2⟩ := id h
  have hm : 4 ≤ bl * pg ∧ bl * pg ≤ 16384 := ⟨by have := Int.mul_le_mul b1 c1 (by omega) (by omega); omega, Int.le_trans (Int.mul_le_mul_of_nonneg_right b2 (by omega)) (by omega)⟩
  obtain ⟨m1, m2⟩ := hm
  have hm : 0 ≤ cs * ck ∧ cs * ck ≤ 8192 := ⟨Int.mul_nonneg (by omega) (by omega), Int.le_trans (Int.mul_le_mul_of_nonneg_right d2 (by omega)) (by omega)⟩
  obtain ⟨m3, m4⟩ := hm
  have hm : 0 ≤ x * pg ∧ x * pg ≤ 16384 := ⟨Int.mul_nonneg (by omega) (by omega), Int.le_trans (Int.mul_le_mul_of_nonneg_right (by omega : x ≤ 256) (by omega)) (by omega)⟩
  obtain ⟨m5, m6⟩ := hm
  have hzn : ¬ (0 ≤ z ∧ z < bl * pg) := by omega
  have HZ := Lib.hid hzn
  clear hzn
  have HH := Lib.hid h
  clear h h1 h2
  have HB := Below.refl (w.heap.size + 2) ((w.alloc (.cells #[.int .i64 pl, .int .i64 bl, .int .i64 pg, .int .i64 cs, .int .i64 ck, .int .i64 rg, .int .i64 pt] 23)).alloc (.cells #[.int .i64 x, .int .i64 y, .int .i64 z] 38))
  go_enter Try.func5, Try.ntmps5
  go_wp2_with (first | (go_at_call 17; refine (awake04_ok _).mono ?_; rintro e w1 ⟨rfl, hb1⟩; replace HB := chainB (by simp) HB hb1; clear hb1; (try clear hcA hcB); obtain ⟨hcA, hcB⟩ := boxes2 HB) | (go_at_call 27; refine (refRight_ok HH.out _).mono ?_; rintro e w1 ⟨rfl, hb1⟩; replace HB := chainB (by simp) HB hb1; clear hb1; (try clear hcA hcB); obtain ⟨hcA, hcB⟩ := boxes2 HB) | (go_at_call 18; refine (check_ok HH.out _).mono ?_; rintro e w1 ⟨rfl, hb1⟩; replace HB := chainB (by simp) HB hb1; clear hb1; (try clear hcA hcB); obtain ⟨hcA, hcB⟩ := boxes2 HB) | (go_at_call 29; refine (data_ok HH.out _).mono ?_; rintro e w1 ⟨rfl, hb1⟩; replace HB := chainB (by simp) HB hb1; clear hb1; (try clear hcA hcB); obtain ⟨hcA, hcB⟩ := boxes2 HB) | (go_at_call 30; refine (raw_ok HH.out _).mono ?_; rintro e w1 ⟨rfl, hb1⟩; replace HB := chainB (by simp) HB hb1; clear hb1; (try clear hcA hcB); obtain ⟨hcA, hcB⟩ := boxes2 HB) | (go_at_call 31; refine (refRaw_ok HH.out _).mono ?_; rintro e w1 ⟨rfl, hb1⟩; replace HB := chainB (by simp) HB hb1; clear hb1; (try clear hcA hcB); obtain ⟨hcA, hcB⟩ := boxes2 HB) | (go_at_call 28; refine (plane_ok HH.out hx0 hx1 _).mono ?_; rintro e w1 ⟨rfl, hb1⟩; replace HB := chainB (by simp) HB hb1; clear hb1; (try clear hcA hcB); obtain ⟨hcA, hcB⟩ := boxes2 HB) | (go_at_call 19; refine (row_ok HH.out hx0 hx1 hy0 hy1 _).mono ?_; rintro e w1 ⟨rfl, hb1⟩; replace HB := chainB (by simp) HB hb1; clear hb1; (try clear hcA hcB); obtain ⟨hcA, hcB⟩ := boxes2 HB) | (go_at_call 20; refine (split_no2 HH.out HZ.out _).mono ?_; rintro e w1 ⟨rfl, hb1⟩; replace HB := chainB (by simp) HB hb1; clear hb1; (try clear hcA hcB); obtain ⟨hcA, hcB⟩ := boxes2 HB))
  have hwr : IntKind.i64.wrap (cs * ck) = cs * ck := IntWalk.i64_in _ (by omega)
  go_region_held3 (fun w' => w'.cell? ⟨w.heap.size, 0, none⟩ = some (.int .i64 pl) ∧ w'.cell? ⟨w.heap.size, 1, none⟩ = some (.int .i64 bl) ∧ w'.cell? ⟨w.heap.size, 2, none⟩ = some (.int .i64 pg) ∧ w'.cell? ⟨w.heap.size, 3, none⟩ = some (.int .i64 cs) ∧ w'.cell? ⟨w.heap.size, 4, none⟩ = some (.int .i64 ck) ∧ w'.cell? ⟨w.heap.size, 5, none⟩ = some (.int .i64 rg) ∧ w'.cell? ⟨w.heap.size, 6, none⟩ = some (.int .i64 pt)) (go_keep) (first | (go_at_call 29; refine (data_ok HH.out _).mono ?_; rintro e w1 ⟨rfl, hb1⟩; (first | replace HB := chainB (by simp) HB hb1 | replace HB := chainB (by simp) HB.drew hb1 | replace HB := chainB (by simp) (b_drewN HB _) hb1); clear hb1; (try clear hcA hcB); obtain ⟨hcA, hcB⟩ := boxes2 HB) | (go_at_call 30; refine (raw_ok HH.out _).mono ?_; rintro e w1 ⟨rfl, hb1⟩; (first | replace HB := chainB (by simp) HB hb1 | replace HB := chainB (by simp) HB.drew hb1 | replace HB := chainB (by simp) (b_drewN HB _) hb1); clear hb1; (try clear hcA hcB); obtain ⟨hcA, hcB⟩ := boxes2 HB) | (go_at_call 31; refine (refRaw_ok HH.out _).mono ?_; rintro e w1 ⟨rfl, hb1⟩; (first | replace HB := chainB (by simp) HB hb1 | replace HB := chainB (by simp) HB.drew hb1 | replace HB := chainB (by simp) (b_drewN HB _) hb1); clear hb1; (try clear hcA hcB); obtain ⟨hcA, hcB⟩ := boxes2 HB))
  all_goals (go_wp2; go_ret; exact ⟨rfl, (below2 _ _ _).trans (HB.mono (by omega))⟩)
set_option maxHeartbeats 2000000 in
set_option maxRecDepth 100000 in
theorem gt_xiyizi {pl bl pg cs ck rg pt x y z : Int} (h : Right pl bl pg cs ck rg pt) (hx0 : 0 ≤ x) (hx1 : x < bl) (hy0 : 0 ≤ y) (hy1 : y < pg) (hz0 : 0 ≤ z) (hz1 : z < bl * pg) (w : World) :
    Calls Try.prog 5 #[.agg #[.int .i64 pl, .int .i64 bl, .int .i64 pg, .int .i64 cs, .int .i64 ck, .int .i64 rg, .int .i64 pt], .agg #[.int .i64 x, .int .i64 y, .int .i64 z]] w fun e w' => e = .returned (.bool true) ∧ Below w.heap.size w w' := by
  obtain ⟨⟨a1, a2⟩, ⟨b1, b2⟩, ⟨c1, c2⟩, ⟨d1, d2⟩, ⟨e1, e2⟩, ⟨f1, f2⟩, ⟨g1, g2⟩, h1, h2⟩ := id h
  have hm : 4 ≤ bl * pg ∧ bl * pg ≤ 16384 := ⟨by have := Int.mul_le_mul b1 c1 (by omega) (by omega); omega, Int.le_trans (Int.mul_le_mul_of_nonneg_right b2 (by omega)) (by omega)⟩
  obtain ⟨m1, m2⟩ := hm
  have hm : 0 ≤ cs * ck ∧ cs * ck ≤ 8192 := ⟨Int.mul_nonneg (by omega) (by omega), Int.le_trans (Int.mul_le_mul_of_nonneg_right d2 (by omega)) (by omega)⟩
  obtain ⟨m3, m4⟩ := hm
  have hm : 0 ≤ x * pg ∧ x * pg ≤ 16384 := ⟨Int.mul_nonneg (by omega) (by omega), Int.le_trans (Int.mul_le_mul_of_nonneg_right (by omega : x ≤ 256) (by omega)) (by omega)⟩
  obtain ⟨m5, m6⟩ := hm
  obtain ⟨q, hq⟩ : ∃ q, q = z / pg := ⟨_, rfl⟩
  obtain ⟨r, hr⟩ : ∃ r, r = z % pg := ⟨_, rfl⟩
  have e1 : q * pg + r = z := by rw [hq, hr, Int.mul_comm]; exact Int.mul_ediv_add_emod z pg
  have r0 : 0 ≤ r := by rw [hr]; exact Int.emod_nonneg _ (by omega)
  have r1 : r < pg := by rw [hr]; exact Int.emod_lt_of_pos _ (by omega)
  have q0 : 0 ≤ q := by rw [hq]; exact Int.ediv_nonneg hz0 (by omega)
  have q2 : 0 ≤ q * pg := Int.mul_nonneg q0 (by omega)
  have q3 : q * pg ≤ 16384 := by omega
  have q4 : q * 1 ≤ q * pg := Int.mul_le_mul_of_nonneg_left (by omega : 1 ≤ pg) q0
  have q1 : q ≤ 16384 := by omega
  have hqz : (q * pg + r != z) = false := by rw [bne_eq_false_iff_eq]; exact e1
  clear q4
  have HQ := Lib.hid hq
  have HR := Lib.hid hr
  clear hq hr e1
  have HH := Lib.hid h
  clear h h1 h2
  have HB := Below.refl (w.heap.size + 2) ((w.alloc (.cells #[.int .i64 pl, .int .i64 bl, .int .i64 pg, .int .i64 cs, .int .i64 ck, .int .i64 rg, .int .i64 pt] 23)).alloc (.cells #[.int .i64 x, .int .i64 y, .int .i64 z] 38))
  go_enter Try.func5, Try.ntmps5
  go_wp2_with (first | (go_at_call 17; refine (awake04_ok _).mono ?_; rintro e w1 ⟨rfl, hb1⟩; replace HB := chainB (by simp) HB hb1; clear hb1; (try clear hcA hcB); obtain ⟨hcA, hcB⟩ := boxes2 HB) | (go_at_call 27; refine (refRight_ok HH.out _).mono ?_; rintro e w1 ⟨rfl, hb1⟩; replace HB := chainB (by simp) HB hb1; clear hb1; (try clear hcA hcB); obtain ⟨hcA, hcB⟩ := boxes2 HB) | (go_at_call 18; refine (check_ok HH.out _).mono ?_; rintro e w1 ⟨rfl, hb1⟩; replace HB := chainB (by simp) HB hb1; clear hb1; (try clear hcA hcB); obtain ⟨hcA, hcB⟩ := boxes2 HB) | (go_at_call 29; refine (data_ok HH.out _).mono ?_; rintro e w1 ⟨rfl, hb1⟩; replace HB := chainB (by simp) HB hb1; clear hb1; (try clear hcA hcB); obtain ⟨hcA, hcB⟩ := boxes2 HB) | (go_at_call 30; refine (raw_ok HH.out _).mono ?_; rintro e w1 ⟨rfl, hb1⟩; replace HB := chainB (by simp) HB hb1; clear hb1; (try clear hcA hcB); obtain ⟨hcA, hcB⟩ := boxes2 HB) | (go_at_call 31; refine (refRaw_ok HH.out _).mono ?_; rintro e w1 ⟨rfl, hb1⟩; replace HB := chainB (by simp) HB hb1; clear hb1; (try clear hcA hcB); obtain ⟨hcA, hcB⟩ := boxes2 HB) | (go_at_call 28; refine (plane_ok HH.out hx0 hx1 _).mono ?_; rintro e w1 ⟨rfl, hb1⟩; replace HB := chainB (by simp) HB hb1; clear hb1; (try clear hcA hcB); obtain ⟨hcA, hcB⟩ := boxes2 HB) | (go_at_call 19; refine (row_ok HH.out hx0 hx1 hy0 hy1 _).mono ?_; rintro e w1 ⟨rfl, hb1⟩; replace HB := chainB (by simp) HB hb1; clear hb1; (try clear hcA hcB); obtain ⟨hcA, hcB⟩ := boxes2 HB) | (go_at_call 20; refine (split_ok' HH.out hz0 hz1 HQ HR _).mono ?_; rintro e w1 ⟨rfl, hb1⟩; replace HB := chainB (by simp) HB hb1; clear hb1; (try clear hcA hcB); obtain ⟨hcA, hcB⟩ := boxes2 HB))
  have hwr : IntKind.i64.wrap (cs * ck) = cs * ck := IntWalk.i64_in _ (by omega)
  go_region_held3 (fun w' => w'.cell? ⟨w.heap.size, 0, none⟩ = some (.int .i64 pl) ∧ w'.cell? ⟨w.heap.size, 1, none⟩ = some (.int .i64 bl) ∧ w'.cell? ⟨w.heap.size, 2, none⟩ = some (.int .i64 pg) ∧ w'.cell? ⟨w.heap.size, 3, none⟩ = some (.int .i64 cs) ∧ w'.cell? ⟨w.heap.size, 4, none⟩ = some (.int .i64 ck) ∧ w'.cell? ⟨w.heap.size, 5, none⟩ = some (.int .i64 rg) ∧ w'.cell? ⟨w.heap.size, 6, none⟩ = some (.int .i64 pt)) (go_keep) (first | (go_at_call 29; refine (data_ok HH.out _).mono ?_; rintro e w1 ⟨rfl, hb1⟩; (first | replace HB := chainB (by simp) HB hb1 | replace HB := chainB (by simp) HB.drew hb1 | replace HB := chainB (by simp) (b_drewN HB _) hb1); clear hb1; (try clear hcA hcB); obtain ⟨hcA, hcB⟩ := boxes2 HB) | (go_at_call 30; refine (raw_ok HH.out _).mono ?_; rintro e w1 ⟨rfl, hb1⟩; (first | replace HB := chainB (by simp) HB hb1 | replace HB := chainB (by simp) HB.drew hb1 | replace HB := chainB (by simp) (b_drewN HB _) hb1); clear hb1; (try clear hcA hcB); obtain ⟨hcA, hcB⟩ := boxes2 HB) | (go_at_call 31; refine (refRaw_ok HH.out _).mono ?_; rintro e w1 ⟨rfl, hb1⟩; (first | replace HB := chainB (by simp) HB hb1 | replace HB := chainB (by simp) HB.drew hb1 | replace HB := chainB (by simp) (b_drewN HB _) hb1); clear hb1; (try clear hcA hcB); obtain ⟨hcA, hcB⟩ := boxes2 HB))
  all_goals (go_wp2; go_ret; exact ⟨rfl, (below2 _ _ _).trans (HB.mono (by omega))⟩)
theorem geomTells_walk (w : World) (x0 : (Int × Int × Int × Int × Int × Int × Int)) (hw0 : ((Lit.int .i64 x0.1).wf = true ∧ (Lit.int .i64 x0.2.1).wf = true ∧ (Lit.int .i64 x0.2.2.1).wf = true ∧ (Lit.int .i64 x0.2.2.2.1).wf = true ∧ (Lit.int .i64 x0.2.2.2.2.1).wf = true ∧ (Lit.int .i64 x0.2.2.2.2.2.1).wf = true ∧ (Lit.int .i64 x0.2.2.2.2.2.2).wf = true)) (x1 : (Int × Int × Int)) (hw1 : ((Lit.int .i64 x1.1).wf = true ∧ (Lit.int .i64 x1.2.1).wf = true ∧ (Lit.int .i64 x1.2.2).wf = true)) :
    Calls Try.prog 5 #[.agg #[.int .i64 x0.1, .int .i64 x0.2.1, .int .i64 x0.2.2.1, .int .i64 x0.2.2.2.1, .int .i64 x0.2.2.2.2.1, .int .i64 x0.2.2.2.2.2.1, .int .i64 x0.2.2.2.2.2.2], .agg #[.int .i64 x1.1, .int .i64 x1.2.1, .int .i64 x1.2.2]] w fun e w' => e = .returned (.bool true) ∧ Below w.heap.size w w' := by
  obtain ⟨pl, bl, pg, cs, ck, rg, pt⟩ := x0
  obtain ⟨x, y, z⟩ := x1
  clear hw0 hw1
  by_cases h : Right pl bl pg cs ck rg pt
  · have hx : x < 0 ∨ bl ≤ x ∨ (0 ≤ x ∧ x < bl) := by omega
    have hy : y < 0 ∨ pg ≤ y ∨ (0 ≤ y ∧ y < pg) := by omega
    have hz : z < 0 ∨ bl * pg ≤ z ∨ (0 ≤ z ∧ z < bl * pg) := by omega
    rcases hx with hx | hx | ⟨hx0, hx1⟩
    · rcases hz with hz | hz | ⟨hz0, hz1⟩
      · exact gt_xlzl h hx hz w
      · exact gt_xlzh h hx hz w
      · exact gt_xlzi h hx hz0 hz1 w
    · rcases hz with hz | hz | ⟨hz0, hz1⟩
      · exact gt_xhzl h hx hz w
      · exact gt_xhzh h hx hz w
      · exact gt_xhzi h hx hz0 hz1 w
    · rcases hy with hy | hy | ⟨hy0, hy1⟩
      · rcases hz with hz | hz | ⟨hz0, hz1⟩
        · exact gt_xiylzl h hx0 hx1 hy hz w
        · exact gt_xiylzh h hx0 hx1 hy hz w
        · exact gt_xiylzi h hx0 hx1 hy hz0 hz1 w
      · rcases hz with hz | hz | ⟨hz0, hz1⟩
        · exact gt_xiyhzl h hx0 hx1 hy hz w
        · exact gt_xiyhzh h hx0 hx1 hy hz w
        · exact gt_xiyhzi h hx0 hx1 hy hz0 hz1 w
      · rcases hz with hz | hz | ⟨hz0, hz1⟩
        · exact gt_xiyizl h hx0 hx1 hy0 hy1 hz w
        · exact gt_xiyizh h hx0 hx1 hy0 hy1 hz w
        · exact gt_xiyizi h hx0 hx1 hy0 hy1 hz0 hz1 w
  · exact gt_no h w
end Go.Proofs.Ytkcpohplgdndkaa
