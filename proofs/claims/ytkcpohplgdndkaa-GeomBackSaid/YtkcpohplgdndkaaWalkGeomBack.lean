import Derived.Test.YtkcpohplgdndkaaWalkGeomRows
import Derived.Test.YtkcpohplgdndkaaPureGeomPairs
import Derived.Deep.RegionHeld3
namespace Go.Proofs.Ytkcpohplgdndkaa
open Go.RowKit Go.Proofs.Ytkcpohplgdndkaa.QG Go.Proofs.YtkcpohplgdndkaaW.PrintWords
set_option linter.unusedVariables false

theorem num_of (k : Int) (h0 : 0 ≤ k) (h1 : k < 65536) : geom_Number.f [k % 256, k / 256 % 256] = some (k, true) := by
  rw [Pure.number_two _ _ (by omega) (by omega)]
  congr 2; omega
theorem number_ok {A : Option Addr} {c : Nat} {k : Int} (h0 : 0 ≤ k) (h1 : k < 65536) (w : World) (hC : Kd.C (Kd.int .u8) w A 2 [k % 256, k / 256 % 256]) (hl : 2 ≤ c) :
    Calls Try.prog 23 #[.slice A 2 c] w fun e w' => e = .returned (.tuple #[.int .i64 k, .bool true]) ∧ Below w.heap.size w w' :=
  (geom_Number.calls A c [k % 256, k / 256 % 256] k true w hC hl (num_of k h0 h1)).mono fun _ _ ⟨he, hd⟩ => ⟨he, hd.below⟩
theorem address_ok (k : Int) (w : World) : Calls Try.prog 25 #[.int .i64 k] w fun e w' => ∃ A c, e = .returned (.slice A 2 c) ∧ 2 ≤ c ∧ Kd.C (Kd.int .u8) w' A 2 [k % 256, k / 256 % 256] ∧ Below w.heap.size w w' := by
  refine (geom_Address.calls k [k % 256, k / 256 % 256] w rfl).mono ?_
  rintro e w' ⟨v, rfl, hR, hb⟩
  obtain ⟨A, c, rfl, hl, hC⟩ := Kd.R_reads hR
  exact ⟨A, c, rfl, hl, hC, hb⟩

set_option maxHeartbeats 2000000 in
set_option maxRecDepth 100000 in
theorem gb_no {pl bl pg cs ck rg pt : Int} (x : Int) (h : ¬ Right pl bl pg cs ck rg pt) (w : World) :
    Calls Try.prog 7 #[.agg #[.int .i64 pl, .int .i64 bl, .int .i64 pg, .int .i64 cs, .int .i64 ck, .int .i64 rg, .int .i64 pt], .int .u16 x] w fun e w' => e = .returned (.bool true) ∧ Below w.heap.size w w' := by
  have HH := Lib.hid h
  clear h
  have HB := Below.refl (w.heap.size + 1) (w.alloc (.cells #[.int .i64 pl, .int .i64 bl, .int .i64 pg, .int .i64 cs, .int .i64 ck, .int .i64 rg, .int .i64 pt] 23))
  go_enter Try.func7, Try.ntmps7
  go_wp2_with (first | (go_at_call 17; refine (awake04_ok _).mono ?_; rintro e w1 ⟨rfl, hb1⟩; (first | replace HB := chainB (by simp) HB hb1 | replace HB := chainB (by simp) HB.drew hb1 | replace HB := chainB (by simp) (b_drewN HB _) hb1); clear hb1; (try clear hcA); have hcA := boxes1 HB) | (go_at_call 18; refine (check_no HH.out _).mono ?_; rintro e w1 ⟨rfl, hb1⟩; (first | replace HB := chainB (by simp) HB hb1 | replace HB := chainB (by simp) HB.drew hb1 | replace HB := chainB (by simp) (b_drewN HB _) hb1); clear hb1; (try clear hcA); have hcA := boxes1 HB) | (go_at_call 30; refine (raw_no HH.out _).mono ?_; rintro e w1 ⟨rfl, hb1⟩; (first | replace HB := chainB (by simp) HB hb1 | replace HB := chainB (by simp) HB.drew hb1 | replace HB := chainB (by simp) (b_drewN HB _) hb1); clear hb1; (try clear hcA); have hcA := boxes1 HB))
  go_ret
  exact ⟨rfl, chain1 _ HB⟩

theorem raw_ok' {pl bl pg cs ck rg pt v : Int} (h : Right pl bl pg cs ck rg pt) (hv : Hid (v = cs * (ck + 2) + 31)) (w : World) :
    Calls Try.prog 30 #[.agg #[.int .i64 pl, .int .i64 bl, .int .i64 pg, .int .i64 cs, .int .i64 ck, .int .i64 rg, .int .i64 pt]] w fun e w' => e = .returned (.int .i64 v) ∧ Below w.heap.size w w' := by
  rw [hv.out]; exact raw_ok h w
theorem data_ok' {pl bl pg cs ck rg pt v : Int} (h : Right pl bl pg cs ck rg pt) (hv : Hid (v = cs * ck)) (w : World) :
    Calls Try.prog 29 #[.agg #[.int .i64 pl, .int .i64 bl, .int .i64 pg, .int .i64 cs, .int .i64 ck, .int .i64 rg, .int .i64 pt]] w fun e w' => e = .returned (.int .i64 v) ∧ Below w.heap.size w w' := by
  rw [hv.out]; exact data_ok h w
theorem plane_ok' {pl bl pg cs ck rg pt b v : Int} (h : Right pl bl pg cs ck rg pt) (h0 : 0 ≤ b) (h1 : b < bl) (hv : Hid (v = b % pl)) (w : World) :
    Calls Try.prog 28 #[.agg #[.int .i64 pl, .int .i64 bl, .int .i64 pg, .int .i64 cs, .int .i64 ck, .int .i64 rg, .int .i64 pt], .int .i64 b] w fun e w' => e = .returned (.tuple #[.int .i64 v, .bool true]) ∧ Below w.heap.size w w' := by
  rw [hv.out]; exact plane_ok h h0 h1 w
set_option maxHeartbeats 4000000 in
set_option maxRecDepth 100000 in
theorem gb_ok {pl bl pg cs ck rg pt : Int} (x : Int) (x0 : 0 ≤ x) (x1 : x ≤ 65535) (h : Right pl bl pg cs ck rg pt) (w : World) :
    Calls Try.prog 7 #[.agg #[.int .i64 pl, .int .i64 bl, .int .i64 pg, .int .i64 cs, .int .i64 ck, .int .i64 rg, .int .i64 pt], .int .u16 x] w fun e w' => e = .returned (.bool true) ∧ Below w.heap.size w w' := by
  obtain ⟨⟨a1, a2⟩, ⟨b1, b2⟩, ⟨c1, c2⟩, ⟨d1, d2⟩, ⟨e1, e2⟩, ⟨f1, f2⟩, ⟨g1, g2⟩, h1, h2⟩ := id h
  have hm : 4 ≤ bl * pg ∧ bl * pg ≤ 16384 := ⟨by have := Int.mul_le_mul b1 c1 (by omega) (by omega); omega, Int.le_trans (Int.mul_le_mul_of_nonneg_right b2 (by omega)) (by omega)⟩
  obtain ⟨m1, m2⟩ := hm
  have m3 : 0 ≤ cs * ck := Int.mul_nonneg (by omega) (by omega)
  have m4 : cs * ck ≤ 8192 := Int.le_trans (Int.mul_le_mul_of_nonneg_right d2 (by omega)) (by omega)
  have m5 : cs * (ck + 2) + 31 ≤ 8255 := by rw [Int.mul_add]; omega
  have m6 : cs * ck < cs * (ck + 2) + 31 := by rw [Int.mul_add]; omega
  obtain ⟨k, hk⟩ : ∃ k, k = x % (bl * pg) := ⟨_, rfl⟩
  have hk0 : 0 ≤ k := by rw [hk]; exact Int.emod_nonneg _ (by omega)
  have hk1 : k < bl * pg := by rw [hk]; exact Int.emod_lt_of_pos _ (by omega)
  obtain ⟨q, hq⟩ : ∃ q, q = k / pg := ⟨_, rfl⟩
  obtain ⟨r, hr⟩ : ∃ r, r = k % pg := ⟨_, rfl⟩
  have e1 : q * pg + r = k := by rw [hq, hr, Int.mul_comm]; exact Int.mul_ediv_add_emod k pg
  have r0 : 0 ≤ r := by rw [hr]; exact Int.emod_nonneg _ (by omega)
  have r1 : r < pg := by rw [hr]; exact Int.emod_lt_of_pos _ (by omega)
  have q0 : 0 ≤ q := by rw [hq]; exact Int.ediv_nonneg hk0 (by omega)
  have q1 : q < bl := by
    rcases Int.lt_or_le q bl with h3 | h3
    · exact h3
    · have := Int.mul_le_mul_of_nonneg_right h3 (by omega : 0 ≤ pg); omega
  obtain ⟨s, hs⟩ : ∃ s, s = (q + 1) % bl := ⟨_, rfl⟩
  have s0 : 0 ≤ s := by rw [hs]; exact Int.emod_nonneg _ (by omega)
  have s1 : s < bl := by rw [hs]; exact Int.emod_lt_of_pos _ (by omega)
  have u0 : 0 ≤ q % pl := Int.emod_nonneg _ (by omega)
  have u1 : q % pl < pl := Int.emod_lt_of_pos _ (by omega)
  have hsp : s % pl = (q % pl + 1) % pl := by
    rw [hs, Int.emod_emod_of_dvd _ (Int.dvd_of_emod_eq_zero h1), ← Int.emod_add_emod]
  obtain ⟨y, hy⟩ : ∃ y, y = s % pl := ⟨_, rfl⟩
  obtain ⟨z, hz⟩ : ∃ z, z = q % pl := ⟨_, rfl⟩
  rw [← hz] at u0 u1 hsp
  rw [← hy] at hsp
  obtain ⟨u, hu⟩ : ∃ u : Int, u = r + 1 - r % 2 := ⟨_, rfl⟩
  obtain ⟨l, hll⟩ : ∃ l : Int, l = r - r % 2 := ⟨_, rfl⟩
  have hlu : l = u - u % 2 := by omega
  have hu0 : 0 ≤ u := by omega
  have hu1 : u ≤ 100 := by omega
  obtain ⟨R, hR⟩ : ∃ R : Int, R = cs * (ck + 2) + 31 := ⟨_, rfl⟩
  obtain ⟨D, hD⟩ : ∃ D : Int, D = cs * ck := ⟨_, rfl⟩
  rw [← hR] at m5 m6
  rw [← hD] at m3 m4 m6
  have n0 : 0 ≤ R := by omega
  have bq : (q * pg + r == k) = true := by rw [beq_iff_eq]; exact e1
  have bs : (y == (z + 1) % pl) = true := by rw [beq_iff_eq]; exact hsp
  have wz : IntKind.i64.wrap (z + 1) = z + 1 := IntWalk.i64_in _ (by omega)
  have wq : IntKind.i64.wrap (q + 1) = q + 1 := IntWalk.i64_in _ (by omega)
  have nz : 0 ≤ z + 1 := by omega
  have nq : 0 ≤ q + 1 := by omega
  have nbl : bl ≠ 0 := by omega
  have npl : pl ≠ 0 := by omega
  have nbl2 : (bl == 0) = false := by rw [beq_eq_false_iff_ne]; omega
  have npl2 : (pl == 0) = false := by rw [beq_eq_false_iff_ne]; omega
  have tz : Int.tmod (z + 1) pl = (z + 1) % pl := Int.tmod_eq_emod_of_nonneg nz
  have tq : Int.tmod (q + 1) bl = s := by rw [Int.tmod_eq_emod_of_nonneg nq, hs]
  have hks : x.tmod (bl * pg) = k := by rw [Int.tmod_eq_emod_of_nonneg x0, hk]
  have hks' : x % (bl * pg) = k := hk.symm
  have tq' : (q + 1) % bl = s := hs.symm
  have HQ := Lib.hid hq
  have HR := Lib.hid hr
  have HU := Lib.hid hu
  have HL := Lib.hid hll
  have HL2 := Lib.hid hlu
  have HD := Lib.hid hD
  have HV := Lib.hid hR
  have HY := Lib.hid hy
  have HZ := Lib.hid hz
  have HH := Lib.hid h
  clear hq hr hu hll hlu hD hR hy hz h hs hk e1 hsp h1 h2
  have HB := Below.refl (w.heap.size + 1) (w.alloc (.cells #[.int .i64 pl, .int .i64 bl, .int .i64 pg, .int .i64 cs, .int .i64 ck, .int .i64 rg, .int .i64 pt] 23))
  go_enter Try.func7, Try.ntmps7
  go_wp2_with (first | (go_at_call 17; refine (awake04_ok _).mono ?_; rintro e w1 ⟨rfl, hb1⟩; (first | replace HB := chainB (by simp) HB hb1 | replace HB := chainB (by simp) HB.drew hb1 | replace HB := chainB (by simp) (b_drewN HB _) hb1); clear hb1; (try clear hcA); have hcA := boxes1 HB) | (go_at_call 18; refine (check_ok HH.out _).mono ?_; rintro e w1 ⟨rfl, hb1⟩; (first | replace HB := chainB (by simp) HB hb1 | replace HB := chainB (by simp) HB.drew hb1 | replace HB := chainB (by simp) (b_drewN HB _) hb1); clear hb1; (try clear hcA); have hcA := boxes1 HB) | (go_at_call 20; refine (split_ok' HH.out hk0 hk1 HQ HR _).mono ?_; rintro e w1 ⟨rfl, hb1⟩; (first | replace HB := chainB (by simp) HB hb1 | replace HB := chainB (by simp) HB.drew hb1 | replace HB := chainB (by simp) (b_drewN HB _) hb1); clear hb1; (try clear hcA); have hcA := boxes1 HB) | (go_at_call 19; refine (row_ok HH.out q0 q1 r0 r1 _).mono ?_; rintro e w1 ⟨rfl, hb1⟩; (first | replace HB := chainB (by simp) HB hb1 | replace HB := chainB (by simp) HB.drew hb1 | replace HB := chainB (by simp) (b_drewN HB _) hb1); clear hb1; (try clear hcA); have hcA := boxes1 HB) | (go_at_call 25; refine (address_ok _ _).mono ?_; rintro e w1 ⟨A, c, rfl, hl, hC, hb1⟩; (first | replace HB := chainB (by simp) HB hb1 | replace HB := chainB (by simp) HB.drew hb1 | replace HB := chainB (by simp) (b_drewN HB _) hb1); clear hb1; (try clear hcA); have hcA := boxes1 HB) | (go_at_call 23; refine (number_ok (by omega) (by omega) _ hC hl).mono ?_; rintro e w1 ⟨rfl, hb1⟩; clear hC hl; (first | replace HB := chainB (by simp) HB hb1 | replace HB := chainB (by simp) HB.drew hb1 | replace HB := chainB (by simp) (b_drewN HB _) hb1); clear hb1; (try clear hcA); have hcA := boxes1 HB) | (go_at_call 30; refine (raw_ok' HH.out HV _).mono ?_; rintro e w1 ⟨rfl, hb1⟩; (first | replace HB := chainB (by simp) HB hb1 | replace HB := chainB (by simp) HB.drew hb1 | replace HB := chainB (by simp) (b_drewN HB _) hb1); clear hb1; (try clear hcA); have hcA := boxes1 HB) | (go_at_call 28; refine (plane_ok' HH.out q0 q1 HZ _).mono ?_; rintro e w1 ⟨rfl, hb1⟩; (first | replace HB := chainB (by simp) HB hb1 | replace HB := chainB (by simp) HB.drew hb1 | replace HB := chainB (by simp) (b_drewN HB _) hb1); clear hb1; (try clear hcA); have hcA := boxes1 HB))
  go_region_held3 (fun w' => w'.cell? ⟨w.heap.size, 0, none⟩ = some (.int .i64 pl) ∧ w'.cell? ⟨w.heap.size, 1, none⟩ = some (.int .i64 bl) ∧ w'.cell? ⟨w.heap.size, 2, none⟩ = some (.int .i64 pg) ∧ w'.cell? ⟨w.heap.size, 3, none⟩ = some (.int .i64 cs) ∧ w'.cell? ⟨w.heap.size, 4, none⟩ = some (.int .i64 ck) ∧ w'.cell? ⟨w.heap.size, 5, none⟩ = some (.int .i64 rg) ∧ w'.cell? ⟨w.heap.size, 6, none⟩ = some (.int .i64 pt)) (go_keep) (first | (go_at_call 28; refine (plane_ok' HH.out s0 s1 HY _).mono ?_; rintro e w1 ⟨rfl, hb1⟩; (first | replace HB := chainB (by simp) HB hb1 | replace HB := chainB (by simp) HB.drew hb1 | replace HB := chainB (by simp) (b_drewN HB _) hb1); clear hb1; (try clear hcA); have hcA := boxes1 HB))
  all_goals (go_wp2_with fail)
  all_goals (go_region_held3 (fun w' => w'.cell? ⟨w.heap.size, 0, none⟩ = some (.int .i64 pl) ∧ w'.cell? ⟨w.heap.size, 1, none⟩ = some (.int .i64 bl) ∧ w'.cell? ⟨w.heap.size, 2, none⟩ = some (.int .i64 pg) ∧ w'.cell? ⟨w.heap.size, 3, none⟩ = some (.int .i64 cs) ∧ w'.cell? ⟨w.heap.size, 4, none⟩ = some (.int .i64 ck) ∧ w'.cell? ⟨w.heap.size, 5, none⟩ = some (.int .i64 rg) ∧ w'.cell? ⟨w.heap.size, 6, none⟩ = some (.int .i64 pt)) (go_keep) (first | (go_at_call 30; refine (raw_ok' HH.out HV _).mono ?_; rintro e w1 ⟨rfl, hb1⟩; (first | replace HB := chainB (by simp) HB hb1 | replace HB := chainB (by simp) HB.drew hb1 | replace HB := chainB (by simp) (b_drewN HB _) hb1); clear hb1; (try clear hcA); have hcA := boxes1 HB) | (go_at_call 29; refine (data_ok' HH.out HD _).mono ?_; rintro e w1 ⟨rfl, hb1⟩; (first | replace HB := chainB (by simp) HB hb1 | replace HB := chainB (by simp) HB.drew hb1 | replace HB := chainB (by simp) (b_drewN HB _) hb1); clear hb1; (try clear hcA); have hcA := boxes1 HB) | (go_at_call_of 21 (Value.int .i64 r); refine (upper_any r u (by omega) (by omega) HU _).mono ?_; rintro e w1 ⟨rfl, rfl⟩) | (go_at_call_of 22 (Value.int .i64 r); refine (lower_any r l (by omega) (by omega) HL _).mono ?_; rintro e w1 ⟨rfl, rfl⟩) | (go_at_call_of 22 (Value.int .i64 u); refine (lower_any u l (by omega) (by omega) HL2 _).mono ?_; rintro e w1 ⟨rfl, rfl⟩)))
  all_goals (go_wp2; go_ret; exact ⟨rfl, chain1 _ HB⟩)
theorem geomBack_walk (w : World) (x0 : (Int × Int × Int × Int × Int × Int × Int)) (hw0 : ((Lit.int .i64 x0.1).wf = true ∧ (Lit.int .i64 x0.2.1).wf = true ∧ (Lit.int .i64 x0.2.2.1).wf = true ∧ (Lit.int .i64 x0.2.2.2.1).wf = true ∧ (Lit.int .i64 x0.2.2.2.2.1).wf = true ∧ (Lit.int .i64 x0.2.2.2.2.2.1).wf = true ∧ (Lit.int .i64 x0.2.2.2.2.2.2).wf = true)) (x1 : Int) (hw1 : (Lit.int .u16 x1).wf = true) :
    Calls Try.prog 7 #[.agg #[.int .i64 x0.1, .int .i64 x0.2.1, .int .i64 x0.2.2.1, .int .i64 x0.2.2.2.1, .int .i64 x0.2.2.2.2.1, .int .i64 x0.2.2.2.2.2.1, .int .i64 x0.2.2.2.2.2.2], .int .u16 x1] w fun e w' => e = .returned (.bool true) ∧ Below w.heap.size w w' := by
  obtain ⟨pl, bl, pg, cs, ck, rg, pt⟩ := x0
  simp [Lit.wf, IntKind.min, IntKind.max, IntKind.bits, IntKind.signed] at hw1
  clear hw0
  by_cases h : Right pl bl pg cs ck rg pt
  · exact gb_ok x1 hw1.1 hw1.2 h w
  · exact gb_no x1 h w

end Go.Proofs.Ytkcpohplgdndkaa
