import Derived.Test.YtkcpohplgdndkaaBoundG1
import Derived.BigQuiet
namespace Go.Proofs.Ytkcpohplgdndkaa
open Go.RowKit Go.Proofs.Ytkcpohplgdndkaa.QB Go.Proofs.YtkcpohplgdndkaaW.PrintWords
set_option linter.unusedVariables false
set_option maxHeartbeats 8000000 in
set_option maxRecDepth 100000 in
theorem bg_ok {pl bl pg cs ck rg pt sec spr thr b b' buf more : Int} (m0 : 0 ≤ more) (m1 : more ≤ 65535) (h : Valid pl bl pg cs ck rg pt sec spr thr b buf) (h' : Valid pl bl pg cs ck rg pt sec spr thr b' buf) (HB' : Hid (b' = b + more)) (w : World) : Calls Try.prog 15 #[.agg #[.int .i64 pl, .int .i64 bl, .int .i64 pg, .int .i64 cs, .int .i64 ck, .int .i64 rg, .int .i64 pt, .int .i64 sec, .int .i64 spr, .int .i64 thr, .int .i64 b, .int .i64 buf], .int .u16 more] w fun e w' => e = .returned (.bool true) ∧ Below w.heap.size w w' := by
  have ok := okay_of h
  have ok' := okay_of h'
  obtain ⟨X, hX⟩ : ∃ x, x = b + 2 := ⟨_, rfl⟩
  obtain ⟨O, hO⟩ : ∃ x, x = ord b 6 := ⟨_, rfl⟩
  obtain ⟨R, hR⟩ : ∃ x, x = rdv rg b (cs * (ck + 2) + 31) := ⟨_, rfl⟩
  obtain ⟨P, hP⟩ : ∃ x, x = ptv pl bl b (cs * (ck + 2) + 31) := ⟨_, rfl⟩
  obtain ⟨D, hD⟩ : ∃ x, x = drv pl bl pg rg b (cs * (ck + 2) + 31) := ⟨_, rfl⟩
  obtain ⟨M, hM⟩ : ∃ x, x = mtv pl bl pg rg b (cs * (ck + 2) + 31) := ⟨_, rfl⟩
  have hle : b ≤ b' := by have := HB'.out; omega
  have vp := values_pos ok
  have db := drv_bd ok
  have HF : Hid (0 < X ∧ 0 < O ∧ 0 < R ∧ 0 < P ∧ 0 < D ∧ 0 < M ∧ O < P ∧ P < D ∧ D ≤ 200000000000000 ∧ X ≤ b' + 2 ∧ O ≤ ord b' 6 ∧ R ≤ rdv rg b' (cs * (ck + 2) + 31) ∧ P ≤ ptv pl bl b' (cs * (ck + 2) + 31) ∧ D ≤ drv pl bl pg rg b' (cs * (ck + 2) + 31) ∧ M ≤ mtv pl bl pg rg b' (cs * (ck + 2) + 31)) := by
    apply Lib.hid
    obtain ⟨pl1, pl2, bl1, bl2, pg1, pg2, rg1, rg2, b1, b2, f1, f2, r1, r2⟩ := ok
    rw [hX, hO, hR, hP, hD, hM]
    obtain ⟨v1, v2, v3, v4, v5⟩ := vp
    exact ⟨by omega, v1, v2, by omega, by omega, v3, v4, v5, db.2.1, by omega, ord_mono hle, rdv_mono (by omega) hle, ptv_mono (by omega) (by omega) hle, drv_mono (by omega) (by omega) (by omega) (by omega) hle, mtv_mono (by omega) (by omega) (by omega) (by omega) hle⟩
  have HX := Lib.hid hX
  have HO := Lib.hid hO
  have HR := Lib.hid hR
  have HP := Lib.hid hP
  have HD := Lib.hid hD
  have HM := Lib.hid hM
  obtain ⟨X2, hX2⟩ : ∃ x, x = b' + 2 := ⟨_, rfl⟩
  obtain ⟨O2, hO2⟩ : ∃ x, x = ord b' 6 := ⟨_, rfl⟩
  obtain ⟨R2, hR2⟩ : ∃ x, x = rdv rg b' (cs * (ck + 2) + 31) := ⟨_, rfl⟩
  obtain ⟨P2, hP2⟩ : ∃ x, x = ptv pl bl b' (cs * (ck + 2) + 31) := ⟨_, rfl⟩
  obtain ⟨D2, hD2⟩ : ∃ x, x = drv pl bl pg rg b' (cs * (ck + 2) + 31) := ⟨_, rfl⟩
  obtain ⟨M2, hM2⟩ : ∃ x, x = mtv pl bl pg rg b' (cs * (ck + 2) + 31) := ⟨_, rfl⟩
  rw [← hX2, ← hO2, ← hR2, ← hP2, ← hD2, ← hM2] at HF
  clear hle vp db
  have HX2 := Lib.hid hX2
  have HO2 := Lib.hid hO2
  have HR2 := Lib.hid hR2
  have HP2 := Lib.hid hP2
  have HD2 := Lib.hid hD2
  have HM2 := Lib.hid hM2
  have HV := Lib.hid h
  have HW := Lib.hid h'
  obtain ⟨pl1, pl2, bl1, bl2, pg1, pg2, rg1, rg2, b1, b2, f1, f2, r1, r2⟩ := ok
  clear h h' hX hO hR hP hD hM ok' hX2 hO2 hR2 hP2 hD2 hM2
  have HB := Below.refl (w.heap.size + 1) (w.alloc (.cells #[.int .i64 pl, .int .i64 bl, .int .i64 pg, .int .i64 cs, .int .i64 ck, .int .i64 rg, .int .i64 pt, .int .i64 sec, .int .i64 spr, .int .i64 thr, .int .i64 b, .int .i64 buf] 106))
  go_enter Try.func15, Try.ntmps15
  go_upto_region 4 with (first | (go_at_call 65; refine (awake37_ok _).mono ?_; rintro e w1 ⟨rfl, hb1⟩; replace HB := chainC (by simp) HB hb1; clear hb1; (try clear hcA); have hcA := boxC HB))
  have HB1 := HB.alloc (by have := HB.size; simpa using this) (.cells #[.int .i64 pl, .int .i64 bl, .int .i64 pg, .int .i64 cs, .int .i64 ck, .int .i64 rg, .int .i64 pt, .int .i64 sec, .int .i64 spr, .int .i64 thr, .int .i64 b, .int .i64 buf] 106)
  have hcB := boxC HB1
  have hdB := blkNew w1 (.cells #[.int .i64 pl, .int .i64 bl, .int .i64 pg, .int .i64 cs, .int .i64 ck, .int .i64 rg, .int .i64 pt, .int .i64 sec, .int .i64 spr, .int .i64 thr, .int .i64 b, .int .i64 buf] 106) rfl
  have hdC := blk_cell hdB
  have hdF := blk_frozen hdB
  go_upto_region 5 with fail
  clear hcB hdB hdC hdF HB1
  rw [← HB'.out]
  replace HB := HB.alloc (by have := HB.size; simpa using this) (.cells #[.int .i64 pl, .int .i64 bl, .int .i64 pg, .int .i64 cs, .int .i64 ck, .int .i64 rg, .int .i64 pt, .int .i64 sec, .int .i64 spr, .int .i64 thr, .int .i64 b', .int .i64 buf] 106)
  have hL := blkNew w1 (.cells #[.int .i64 pl, .int .i64 bl, .int .i64 pg, .int .i64 cs, .int .i64 ck, .int .i64 rg, .int .i64 pt, .int .i64 sec, .int .i64 spr, .int .i64 thr, .int .i64 b', .int .i64 buf] 106) rfl
  obtain ⟨g, hg⟩ : ∃ g, g = w1.heap.size := ⟨_, rfl⟩
  rw [← hg]
  rw [← hg] at hL
  generalize (w1.alloc (.cells #[.int .i64 pl, .int .i64 bl, .int .i64 pg, .int .i64 cs, .int .i64 ck, .int .i64 rg, .int .i64 pt, .int .i64 sec, .int .i64 spr, .int .i64 thr, .int .i64 b', .int .i64 buf] 106)) = w2 at HB hL ⊢
  clear hcA hg
  have hcA := boxC HB
  have hcD := blk_cell hL
  go_upto_region 7 with (first | (go_at_call 71; (first | (have hdn2 := hdone; refine (scheck_ok HW.out _).mono ?_) | (have hdone : 0 = 0 := rfl; refine (scheck_ok HV.out _).mono ?_)); rintro e w3 ⟨rfl, hb1⟩; (first | (replace HB := chainC (by simp) HB hb1; replace hL := blk_below hL hb1) | (replace HB := chainC (by simp) HB.drew hb1; replace hL := blk_below (blk_drew hL) hb1)); clear hb1; (try clear hcA); (try clear hcD); have hcA := boxC HB; have hcD := blk_cell hL))
  go_region_held3 (fun w' => w'.cell? ⟨w.heap.size, 0, none⟩ = some (.int .i64 pl) ∧ w'.cell? ⟨w.heap.size, 1, none⟩ = some (.int .i64 bl) ∧ w'.cell? ⟨w.heap.size, 2, none⟩ = some (.int .i64 pg) ∧ w'.cell? ⟨w.heap.size, 3, none⟩ = some (.int .i64 cs) ∧ w'.cell? ⟨w.heap.size, 4, none⟩ = some (.int .i64 ck) ∧ w'.cell? ⟨w.heap.size, 5, none⟩ = some (.int .i64 rg) ∧ w'.cell? ⟨w.heap.size, 6, none⟩ = some (.int .i64 pt) ∧ w'.cell? ⟨w.heap.size, 7, none⟩ = some (.int .i64 sec) ∧ w'.cell? ⟨w.heap.size, 8, none⟩ = some (.int .i64 spr) ∧ w'.cell? ⟨w.heap.size, 9, none⟩ = some (.int .i64 thr) ∧ w'.cell? ⟨w.heap.size, 10, none⟩ = some (.int .i64 b) ∧ w'.cell? ⟨w.heap.size, 11, none⟩ = some (.int .i64 buf)) (go_keep) (first | (go_at_call 66; refine (bReset_ok HV.out HX _).mono ?_; rintro e w3 ⟨rfl, hb1⟩; (first | (replace HB := chainC (by simp) HB hb1; replace hL := blk_below hL hb1) | (replace HB := chainC (by simp) HB.drew hb1; replace hL := blk_below (blk_drew hL) hb1)); clear hb1; (try clear hcA); (try clear hcD); have hcA := boxC HB; have hcD := blk_cell hL) | (go_at_call 72; refine (bOrder_ok HV.out (by omega) (by omega) HO _).mono ?_; rintro e w3 ⟨rfl, hb1⟩; (first | (replace HB := chainC (by simp) HB hb1; replace hL := blk_below hL hb1) | (replace HB := chainC (by simp) HB.drew hb1; replace hL := blk_below (blk_drew hL) hb1)); clear hb1; (try clear hcA); (try clear hcD); have hcA := boxC HB; have hcD := blk_cell hL) | (go_at_call 67; refine (bRead_ok HV.out HR _).mono ?_; rintro e w3 ⟨rfl, hb1⟩; (first | (replace HB := chainC (by simp) HB hb1; replace hL := blk_below hL hb1) | (replace HB := chainC (by simp) HB.drew hb1; replace hL := blk_below (blk_drew hL) hb1)); clear hb1; (try clear hcA); (try clear hcD); have hcA := boxC HB; have hcD := blk_cell hL) | (go_at_call 68; refine (bPut_ok HV.out HP _).mono ?_; rintro e w3 ⟨rfl, hb1⟩; (first | (replace HB := chainC (by simp) HB hb1; replace hL := blk_below hL hb1) | (replace HB := chainC (by simp) HB.drew hb1; replace hL := blk_below (blk_drew hL) hb1)); clear hb1; (try clear hcA); (try clear hcD); have hcA := boxC HB; have hcD := blk_cell hL) | (go_at_call 69; refine (bDrain_ok HV.out HD _).mono ?_; rintro e w3 ⟨rfl, hb1⟩; (first | (replace HB := chainC (by simp) HB hb1; replace hL := blk_below hL hb1) | (replace HB := chainC (by simp) HB.drew hb1; replace hL := blk_below (blk_drew hL) hb1)); clear hb1; (try clear hcA); (try clear hcD); have hcA := boxC HB; have hcD := blk_cell hL) | (go_at_call 70; refine (bMount_ok HV.out HM _).mono ?_; rintro e w3 ⟨rfl, hb1⟩; (first | (replace HB := chainC (by simp) HB hb1; replace hL := blk_below hL hb1) | (replace HB := chainC (by simp) HB.drew hb1; replace hL := blk_below (blk_drew hL) hb1)); clear hb1; (try clear hcA); (try clear hcD); have hcA := boxC HB; have hcD := blk_cell hL))
  go_upto_region 8 with fail
  replace HB := HB.alloc (by have := HB.size; simpa using this) (.cells #[.int .i64 X, .int .i64 O, .int .i64 R, .int .i64 P, .int .i64 D, .int .i64 M] 3)
  replace hL := blk_alloc hL (.cells #[.int .i64 X, .int .i64 O, .int .i64 R, .int .i64 P, .int .i64 D, .int .i64 M] 3)
  have hA := blkNew w3 (.cells #[.int .i64 X, .int .i64 O, .int .i64 R, .int .i64 P, .int .i64 D, .int .i64 M] 3) rfl
  obtain ⟨g1, hg1⟩ : ∃ g, g = w3.heap.size := ⟨_, rfl⟩
  rw [← hg1]
  rw [← hg1] at hA
  generalize (w3.alloc (.cells #[.int .i64 X, .int .i64 O, .int .i64 R, .int .i64 P, .int .i64 D, .int .i64 M] 3)) = w4 at HB hL hA ⊢
  clear hcA hcD hg1
  have hcA := boxC HB
  have hcD := blk_cell hL
  go_region_held3 (fun w' => w'.cell? ⟨g, 0, none⟩ = some (.int .i64 pl) ∧ w'.cell? ⟨g, 1, none⟩ = some (.int .i64 bl) ∧ w'.cell? ⟨g, 2, none⟩ = some (.int .i64 pg) ∧ w'.cell? ⟨g, 3, none⟩ = some (.int .i64 cs) ∧ w'.cell? ⟨g, 4, none⟩ = some (.int .i64 ck) ∧ w'.cell? ⟨g, 5, none⟩ = some (.int .i64 rg) ∧ w'.cell? ⟨g, 6, none⟩ = some (.int .i64 pt) ∧ w'.cell? ⟨g, 7, none⟩ = some (.int .i64 sec) ∧ w'.cell? ⟨g, 8, none⟩ = some (.int .i64 spr) ∧ w'.cell? ⟨g, 9, none⟩ = some (.int .i64 thr) ∧ w'.cell? ⟨g, 10, none⟩ = some (.int .i64 b') ∧ w'.cell? ⟨g, 11, none⟩ = some (.int .i64 buf)) (go_keep) (first | (go_at_call 66; refine (bReset_ok HW.out HX2 _).mono ?_; rintro e w3 ⟨rfl, hb1⟩; (first | (replace HB := chainC (by simp) HB hb1; replace hL := blk_below hL hb1; replace hA := blk_below hA hb1) | (replace HB := chainC (by simp) HB.drew hb1; replace hL := blk_below (blk_drew hL) hb1; replace hA := blk_below (blk_drew hA) hb1)); clear hb1; (try clear hcA); (try clear hcD); have hcA := boxC HB; have hcD := blk_cell hL) | (go_at_call 72; refine (bOrder_ok HW.out (by omega) (by omega) HO2 _).mono ?_; rintro e w3 ⟨rfl, hb1⟩; (first | (replace HB := chainC (by simp) HB hb1; replace hL := blk_below hL hb1; replace hA := blk_below hA hb1) | (replace HB := chainC (by simp) HB.drew hb1; replace hL := blk_below (blk_drew hL) hb1; replace hA := blk_below (blk_drew hA) hb1)); clear hb1; (try clear hcA); (try clear hcD); have hcA := boxC HB; have hcD := blk_cell hL) | (go_at_call 67; refine (bRead_ok HW.out HR2 _).mono ?_; rintro e w3 ⟨rfl, hb1⟩; (first | (replace HB := chainC (by simp) HB hb1; replace hL := blk_below hL hb1; replace hA := blk_below hA hb1) | (replace HB := chainC (by simp) HB.drew hb1; replace hL := blk_below (blk_drew hL) hb1; replace hA := blk_below (blk_drew hA) hb1)); clear hb1; (try clear hcA); (try clear hcD); have hcA := boxC HB; have hcD := blk_cell hL) | (go_at_call 68; refine (bPut_ok HW.out HP2 _).mono ?_; rintro e w3 ⟨rfl, hb1⟩; (first | (replace HB := chainC (by simp) HB hb1; replace hL := blk_below hL hb1; replace hA := blk_below hA hb1) | (replace HB := chainC (by simp) HB.drew hb1; replace hL := blk_below (blk_drew hL) hb1; replace hA := blk_below (blk_drew hA) hb1)); clear hb1; (try clear hcA); (try clear hcD); have hcA := boxC HB; have hcD := blk_cell hL) | (go_at_call 69; refine (bDrain_ok HW.out HD2 _).mono ?_; rintro e w3 ⟨rfl, hb1⟩; (first | (replace HB := chainC (by simp) HB hb1; replace hL := blk_below hL hb1; replace hA := blk_below hA hb1) | (replace HB := chainC (by simp) HB.drew hb1; replace hL := blk_below (blk_drew hL) hb1; replace hA := blk_below (blk_drew hA) hb1)); clear hb1; (try clear hcA); (try clear hcD); have hcA := boxC HB; have hcD := blk_cell hL) | (go_at_call 70; refine (bMount_ok HW.out HM2 _).mono ?_; rintro e w3 ⟨rfl, hb1⟩; (first | (replace HB := chainC (by simp) HB hb1; replace hL := blk_below hL hb1; replace hA := blk_below hA hb1) | (replace HB := chainC (by simp) HB.drew hb1; replace hL := blk_below (blk_drew hL) hb1; replace hA := blk_below (blk_drew hA) hb1)); clear hb1; (try clear hcA); (try clear hcD); have hcA := boxC HB; have hcD := blk_cell hL))
  go_upto_region 9 with fail
  replace HB := HB.alloc (by have := HB.size; simpa using this) (.cells #[.int .i64 X2, .int .i64 O2, .int .i64 R2, .int .i64 P2, .int .i64 D2, .int .i64 M2] 3)
  replace hL := blk_alloc hL (.cells #[.int .i64 X2, .int .i64 O2, .int .i64 R2, .int .i64 P2, .int .i64 D2, .int .i64 M2] 3)
  replace hA := blk_alloc hA (.cells #[.int .i64 X2, .int .i64 O2, .int .i64 R2, .int .i64 P2, .int .i64 D2, .int .i64 M2] 3)
  have hC := blkNew w3 (.cells #[.int .i64 X2, .int .i64 O2, .int .i64 R2, .int .i64 P2, .int .i64 D2, .int .i64 M2] 3) rfl
  obtain ⟨g2, hg2⟩ : ∃ g, g = w3.heap.size := ⟨_, rfl⟩
  rw [← hg2]
  rw [← hg2] at hC
  generalize (w3.alloc (.cells #[.int .i64 X2, .int .i64 O2, .int .i64 R2, .int .i64 P2, .int .i64 D2, .int .i64 M2] 3)) = w5 at HB hL hA hC ⊢
  clear hcA hcD hg2 hL
  go_wp2_with fail
  go_loopw [56] (fun i wr => ∃ k : Nat, k ≤ 6 ∧ i = .int .i64 k ∧ wr.heap[g1]? = some (.cells #[.int .i64 X, .int .i64 O, .int .i64 R, .int .i64 P, .int .i64 D, .int .i64 M] 3 (0, 0)) ∧ wr.heap[g2]? = some (.cells #[.int .i64 X2, .int .i64 O2, .int .i64 R2, .int .i64 P2, .int .i64 D2, .int .i64 M2] 3 (0, 0)) ∧ Below (w.heap.size + 1) (w.alloc (.cells #[.int .i64 pl, .int .i64 bl, .int .i64 pg, .int .i64 cs, .int .i64 ck, .int .i64 rg, .int .i64 pt, .int .i64 sec, .int .i64 spr, .int .i64 thr, .int .i64 b, .int .i64 buf] 106)) wr) (fun i _ => 6 - (intOf i).toNat)
  case atStart => exact ⟨0, by omega, rfl, hA, hC, HB⟩
  case round =>
    clear HB hA hC
    obtain ⟨k, hk, rfl, hA, hC, HB⟩ := hrel
    have hcA := blk_cell hA
    have hcC := blk_cell hC
    have hk6 : k = 0 ∨ k = 1 ∨ k = 2 ∨ k = 3 ∨ k = 4 ∨ k = 5 ∨ k = 6 := by omega
    rcases hk6 with rfl | rfl | rfl | rfl | rfl | rfl | rfl
    · have ca := hcA 0
      have cc := hcC 0
      have ca : wr.cell? ⟨g1, 0, none⟩ = some (.int .i64 X) := ca
      have cc : wr.cell? ⟨g2, 0, none⟩ = some (.int .i64 X2) := cc
      have hd1 : decide (X ≤ 0) = false := decide_eq_false (by have := HF.out.1; omega)
      have hd2 : decide (X2 < X) = false := decide_eq_false (by have := HF.out.2.2.2.2.2.2.2.2.2.1; omega)
      go_upto_region 12 with fail
      go_quiet (fail)
      go_wp2
      go_roundw
      case rel => exact ⟨0+1, by omega, by go_num, hA, hC, ⟨HB.os, HB.tape, HB.output, HB.size, HB.block⟩⟩
      case measure => simp [intOf]
    · have ca := hcA 1
      have cc := hcC 1
      have ca : wr.cell? ⟨g1, 1, none⟩ = some (.int .i64 O) := ca
      have cc : wr.cell? ⟨g2, 1, none⟩ = some (.int .i64 O2) := cc
      have hd1 : decide (O ≤ 0) = false := decide_eq_false (by have := HF.out.2.1; omega)
      have hd2 : decide (O2 < O) = false := decide_eq_false (by have := HF.out.2.2.2.2.2.2.2.2.2.2.1; omega)
      go_upto_region 12 with fail
      go_quiet (fail)
      go_wp2
      go_roundw
      case rel => exact ⟨1+1, by omega, by go_num, hA, hC, ⟨HB.os, HB.tape, HB.output, HB.size, HB.block⟩⟩
      case measure => simp [intOf]
    · have ca := hcA 2
      have cc := hcC 2
      have ca : wr.cell? ⟨g1, 2, none⟩ = some (.int .i64 R) := ca
      have cc : wr.cell? ⟨g2, 2, none⟩ = some (.int .i64 R2) := cc
      have hd1 : decide (R ≤ 0) = false := decide_eq_false (by have := HF.out.2.2.1; omega)
      have hd2 : decide (R2 < R) = false := decide_eq_false (by have := HF.out.2.2.2.2.2.2.2.2.2.2.2.1; omega)
      go_upto_region 12 with fail
      go_quiet (fail)
      go_wp2
      go_roundw
      case rel => exact ⟨2+1, by omega, by go_num, hA, hC, ⟨HB.os, HB.tape, HB.output, HB.size, HB.block⟩⟩
      case measure => simp [intOf]
    · have ca := hcA 3
      have cc := hcC 3
      have ca : wr.cell? ⟨g1, 3, none⟩ = some (.int .i64 P) := ca
      have cc : wr.cell? ⟨g2, 3, none⟩ = some (.int .i64 P2) := cc
      have hd1 : decide (P ≤ 0) = false := decide_eq_false (by have := HF.out.2.2.2.1; omega)
      have hd2 : decide (P2 < P) = false := decide_eq_false (by have := HF.out.2.2.2.2.2.2.2.2.2.2.2.2.1; omega)
      go_upto_region 12 with fail
      go_quiet (fail)
      go_wp2
      go_roundw
      case rel => exact ⟨3+1, by omega, by go_num, hA, hC, ⟨HB.os, HB.tape, HB.output, HB.size, HB.block⟩⟩
      case measure => simp [intOf]
    · have ca := hcA 4
      have cc := hcC 4
      have ca : wr.cell? ⟨g1, 4, none⟩ = some (.int .i64 D) := ca
      have cc : wr.cell? ⟨g2, 4, none⟩ = some (.int .i64 D2) := cc
      have hd1 : decide (D ≤ 0) = false := decide_eq_false (by have := HF.out.2.2.2.2.1; omega)
      have hd2 : decide (D2 < D) = false := decide_eq_false (by have := HF.out.2.2.2.2.2.2.2.2.2.2.2.2.2.1; omega)
      go_upto_region 12 with fail
      go_quiet (fail)
      go_wp2
      go_roundw
      case rel => exact ⟨4+1, by omega, by go_num, hA, hC, ⟨HB.os, HB.tape, HB.output, HB.size, HB.block⟩⟩
      case measure => simp [intOf]
    · have ca := hcA 5
      have cc := hcC 5
      have ca : wr.cell? ⟨g1, 5, none⟩ = some (.int .i64 M) := ca
      have cc : wr.cell? ⟨g2, 5, none⟩ = some (.int .i64 M2) := cc
      have hd1 : decide (M ≤ 0) = false := decide_eq_false (by have := HF.out.2.2.2.2.2.1; omega)
      have hd2 : decide (M2 < M) = false := decide_eq_false (by have := HF.out.2.2.2.2.2.2.2.2.2.2.2.2.2.2; omega)
      go_upto_region 12 with fail
      go_quiet (fail)
      go_wp2
      go_roundw
      case rel => exact ⟨5+1, by omega, by go_num, hA, hC, ⟨HB.os, HB.tape, HB.output, HB.size, HB.block⟩⟩
      case measure => simp [intOf]
    · obtain ⟨t1, t2, t3, t4, t5, t6, t7, t8, t9, t10⟩ := HF.out
      have hwr : IntKind.i64.wrap (buf * D) = buf * D := by
        have m := mul_le2 (x := buf) (X := 64) (y := D) (Y := 200000000000000) (by omega) f2 (by omega) t9
        obtain ⟨m1, m2⟩ := m
        exact IntWalk.i64_in _ (by omega)
      have d1 : 0 ≤ D := by omega
      have d2 : D ≤ 200000000000000 := t9
      have hp1 : decide (O < P) = true := decide_eq_true t7
      have hp2 : decide (P < D) = true := decide_eq_true t8
      clear t1 t2 t3 t4 t5 t6 t9 t10 hcA hcC hC
      have hcB := boxC HB
      have c1 : wr.cell? ⟨g1, 1, none⟩ = some (.int .i64 O) := blk_cell hA 1
      have c2 : wr.cell? ⟨g1, 2, none⟩ = some (.int .i64 R) := blk_cell hA 2
      have c3 : wr.cell? ⟨g1, 3, none⟩ = some (.int .i64 P) := blk_cell hA 3
      have c4 : wr.cell? ⟨g1, 4, none⟩ = some (.int .i64 D) := blk_cell hA 4
      go_upto_region 15 with fail
      go_region_held3 (fun w' => w'.cell? ⟨w.heap.size, 0, none⟩ = some (.int .i64 pl) ∧ w'.cell? ⟨w.heap.size, 1, none⟩ = some (.int .i64 bl) ∧ w'.cell? ⟨w.heap.size, 2, none⟩ = some (.int .i64 pg) ∧ w'.cell? ⟨w.heap.size, 3, none⟩ = some (.int .i64 cs) ∧ w'.cell? ⟨w.heap.size, 4, none⟩ = some (.int .i64 ck) ∧ w'.cell? ⟨w.heap.size, 5, none⟩ = some (.int .i64 rg) ∧ w'.cell? ⟨w.heap.size, 6, none⟩ = some (.int .i64 pt) ∧ w'.cell? ⟨w.heap.size, 7, none⟩ = some (.int .i64 sec) ∧ w'.cell? ⟨w.heap.size, 8, none⟩ = some (.int .i64 spr) ∧ w'.cell? ⟨w.heap.size, 9, none⟩ = some (.int .i64 thr) ∧ w'.cell? ⟨w.heap.size, 10, none⟩ = some (.int .i64 b) ∧ w'.cell? ⟨w.heap.size, 11, none⟩ = some (.int .i64 buf) ∧ w'.cell? ⟨g1, 1, none⟩ = some (.int .i64 O) ∧ w'.cell? ⟨g1, 2, none⟩ = some (.int .i64 R) ∧ w'.cell? ⟨g1, 3, none⟩ = some (.int .i64 P) ∧ w'.cell? ⟨g1, 4, none⟩ = some (.int .i64 D)) (go_keep) (first | (go_at_call_of 73 (Value.int .i64 1); refine (bOp_ok1 HV HR HD f1 f2 d1 d2 _).mono ?_; rintro e w3 ⟨rfl, hb1⟩; (first | (replace HB := chainC (by simp) HB hb1; replace hA := blk_below hA hb1) | (replace HB := chainC (by simp) HB.drew hb1; replace hA := blk_below (blk_drew hA) hb1)); clear hb1; (try clear c1); (try clear c2); (try clear c3); (try clear c4); (try clear hcB); have hcB := boxC HB; have c1 := blk_cell hA 1; have c2 := blk_cell hA 2; have c3 := blk_cell hA 3; have c4 := blk_cell hA 4) | (go_at_call_of 73 (Value.int .i64 2); refine (bOp_ok2 HV HR HD f1 f2 d1 d2 _).mono ?_; rintro e w3 ⟨rfl, hb1⟩; (first | (replace HB := chainC (by simp) HB hb1; replace hA := blk_below hA hb1) | (replace HB := chainC (by simp) HB.drew hb1; replace hA := blk_below (blk_drew hA) hb1)); clear hb1; (try clear c1); (try clear c2); (try clear c3); (try clear c4); (try clear hcB); have hcB := boxC HB; have c1 := blk_cell hA 1; have c2 := blk_cell hA 2; have c3 := blk_cell hA 3; have c4 := blk_cell hA 4) | (go_at_call_of 73 (Value.int .i64 3); refine (bOp_ok3 HV HR HD f1 f2 d1 d2 _).mono ?_; rintro e w3 ⟨rfl, hb1⟩; (first | (replace HB := chainC (by simp) HB hb1; replace hA := blk_below hA hb1) | (replace HB := chainC (by simp) HB.drew hb1; replace hA := blk_below (blk_drew hA) hb1)); clear hb1; (try clear c1); (try clear c2); (try clear c3); (try clear c4); (try clear hcB); have hcB := boxC HB; have c1 := blk_cell hA 1; have c2 := blk_cell hA 2; have c3 := blk_cell hA 3; have c4 := blk_cell hA 4) | (go_at_call_of 73 (Value.int .i64 4); refine (bOp_ok4 HV HR HD f1 f2 d1 d2 _).mono ?_; rintro e w3 ⟨rfl, hb1⟩; (first | (replace HB := chainC (by simp) HB hb1; replace hA := blk_below hA hb1) | (replace HB := chainC (by simp) HB.drew hb1; replace hA := blk_below (blk_drew hA) hb1)); clear hb1; (try clear c1); (try clear c2); (try clear c3); (try clear c4); (try clear hcB); have hcB := boxC HB; have c1 := blk_cell hA 1; have c2 := blk_cell hA 2; have c3 := blk_cell hA 3; have c4 := blk_cell hA 4))
      go_wp2
      go_ret
      exact ⟨rfl, boxDone _ HB⟩

end Go.Proofs.Ytkcpohplgdndkaa
