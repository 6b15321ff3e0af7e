import Derived.Test.YtkcpohplgdndkaaBoundT
import Derived.Deep.DeepCutAuto
namespace Go.Proofs.Ytkcpohplgdndkaa
open Go.RowKit Go.Proofs.Ytkcpohplgdndkaa.QB Go.Proofs.YtkcpohplgdndkaaW.PrintWords
set_option linter.unusedVariables false

theorem refRaw_ok' {pl bl pg cs ck rg pt v : Int} (h : Right pl bl pg cs ck rg pt) (hv : Hid (v = cs * (ck + 2) + 31)) (w : World) : Calls Try.prog 31 #[.agg #[.int .i64 pl, .int .i64 bl, .int .i64 pg, .int .i64 cs, .int .i64 ck, .int .i64 rg, .int .i64 pt]] w fun e w' => e = .returned (.int .i64 v) ∧ Below w.heap.size w w' := by
  rw [hv.out]
  refine incunableref04_Raw.calls _ _ _ _ _ _ _ _ w ?_
  obtain ⟨⟨a1, a2⟩, ⟨b1, b2⟩, ⟨c1, c2⟩, ⟨d1, d2⟩, ⟨e1, e2⟩, _⟩ := h
  have m := mul_le2 (x := cs) (X := 16) (y := ck) (Y := 512) (by omega) d2 (by omega) e2
  unfold incunableref04_Raw.f
  rw [QG.w64 (cs * ck) (by omega) (by omega), QG.w64 (2 * cs) (by omega) (by omega), QG.w64 (cs * ck + 2 * cs) (by omega) (by omega), QG.w64 _ (by omega) (by omega), Int.mul_add]
  congr 1; omega
theorem quietAdd {P : Program} {f : FuncId} {args : Array Value} {w : World} {a n : Nat} {v : Value}
    (h : Calls P f args (w.drewN (a + n)) fun e w' => e = .returned v ∧ w' = w.drewN (a + n)) :
    Calls P f args (w.drewN (a + n)) fun e w'' => e = .returned v ∧ ∃ m, w'' = w.drewN (a + m) :=
  h.mono fun _ _ ⟨he, hm⟩ => ⟨he, n, hm⟩
theorem ordc_ok {w : World} {g1 g2 : Nat} {b x0 n v : Int} (h1 : w.cell? ⟨g1, 0, none⟩ = some (.int .i64 b)) (h2 : w.cell? ⟨g2, 0, none⟩ = some (.int .i64 x0)) (n0 : 0 ≤ n) (n1 : n ≤ 16777216) (b1 : 1 ≤ b) (b2 : b ≤ 65536) (x1 : 0 ≤ x0) (x2 : x0 ≤ 70000) (hv : Hid (v = n + b + 1 + 2 * x0)) :
    Calls Try.prog 74 #[.int .i64 n, .pointer (some ⟨g1, 0, none⟩), .pointer (some ⟨g2, 0, none⟩)] w fun e w' => e = .returned (.int .i64 v) ∧ w' = w := by
  go_enter Try.func74, Try.ntmps74
  go_wp2
  go_ret
  exact ⟨retI hv.out.symm, rfl⟩
set_option maxHeartbeats 16000000 in
set_option maxRecDepth 100000 in
theorem bt_ok {pl bl pg cs ck rg pt sec spr thr b buf n kind : Int} (h : Valid pl bl pg cs ck rg pt sec spr thr b buf) (w : World) : Calls Try.prog 14 #[.agg #[.int .i64 pl, .int .i64 bl, .int .i64 pg, .int .i64 cs, .int .i64 ck, .int .i64 rg, .int .i64 pt, .int .i64 sec, .int .i64 spr, .int .i64 thr, .int .i64 b, .int .i64 buf], .int .i64 n, .int .i64 kind] w fun e w' => e = .returned (.bool true) ∧ Below w.heap.size w w' := by
  have ok := okay_of h
  have hRi := (valid_facts h).1
  obtain ⟨raw, hraw⟩ : ∃ r, r = (cs * (ck + 2) + 31) := ⟨_, rfl⟩
  rw [← hraw] at ok
  have rb := rdv_bd ok
  have sb := svv_bd ok
  have pb := ptv_bd ok
  have db := drv_bd ok
  have cb := clv_bd ok
  have mb := mtv_bd ok
  obtain ⟨x0, hx0⟩ : ∃ x, x = b + 2 := ⟨_, rfl⟩
  obtain ⟨R, hR⟩ : ∃ x, x = rdv rg b raw := ⟨_, rfl⟩
  obtain ⟨SV, hS⟩ : ∃ x, x = svv pl b raw := ⟨_, rfl⟩
  obtain ⟨P, hP⟩ : ∃ x, x = ptv pl bl b raw := ⟨_, rfl⟩
  obtain ⟨D, hD⟩ : ∃ x, x = drv pl bl pg rg b raw := ⟨_, rfl⟩
  obtain ⟨M, hM⟩ : ∃ x, x = mtv pl bl pg rg b raw := ⟨_, rfl⟩
  obtain ⟨o6, ho6⟩ : ∃ x, x = 6 + b + 1 + 2 * x0 := ⟨_, rfl⟩
  obtain ⟨o4, ho4⟩ : ∃ x, x = 4 + b + 1 + 2 * x0 := ⟨_, rfl⟩
  obtain ⟨o66, ho66⟩ : ∃ x, x = raw + 6 + b + 1 + 2 * x0 := ⟨_, rfl⟩
  obtain ⟨pl1, pl2, bl1, bl2, pg1, pg2, rg1, rg2, b1, b2, f1, f2, r1, r2⟩ := ok
  have e1 : rg * (2 * o6 + raw + 1 + x0) = R := by
    rw [hR]; unfold rdv ord; rw [ho6, hx0]; congr 1; omega
  have e2 : pl * (o4 + o66) = SV := by
    rw [hS]; unfold svv ord; rw [ho4, ho66, hx0]
  have e3 : (bl + 1) * (o4 + 2 * o66 + 2 * SV) = P := by
    rw [hP, hS]; unfold ptv ord; rw [ho4, ho66, hx0]
  have e4 : (8 * bl + 8) * (pg * R + pg * P) + P = D := by
    rw [hD, hR, hP]; unfold drv clv; rw [Int.mul_add pg]
  have e5 : x0 + 35 + b + 2 * SV + bl * pg * R + bl * R + pl * R = M := by
    rw [hM, hS, hR, hx0]; unfold mtv; rw [Int.add_mul, Int.add_mul]; omega
  have k1 : 0 ≤ pg * R ∧ pg * R ≤ 64 * 4000000 := mul_le2 (by omega) pg2 (by omega) (by omega)
  have k2 : 0 ≤ pg * P ∧ pg * P ≤ 64 * 1285000000 := mul_le2 (by omega) pg2 (by omega) (by omega)
  have k3 : 0 ≤ (8 * bl + 8) * (pg * R + pg * P) := Int.mul_nonneg (by omega) (by omega)
  have k4 : 0 ≤ bl * pg * R ∧ bl * pg * R ≤ 16384 * 4000000 := mul_le2 mb.2.2.1 mb.2.2.2.1 (by omega) (by omega)
  have k5 : 0 ≤ bl * R ∧ bl * R ≤ 256 * 4000000 := mul_le2 (by omega) bl2 (by omega) (by omega)
  have k6 : 0 ≤ pl * R ∧ pl * R ≤ 4 * 4000000 := mul_le2 (by omega) pl2 (by omega) (by omega)
  have z1 : 0 ≤ o6 ∧ o6 ≤ 300000 := by omega
  have z2 : 0 ≤ o4 ∧ o4 ≤ 300000 := by omega
  have z3 : 0 ≤ o66 ∧ o66 ≤ 300000 := by omega
  rw [← hR] at rb
  rw [← hS] at sb
  rw [← hP] at pb
  rw [← hD] at db
  rw [← hM] at mb
  have kk1 := mb.2.2.1
  have kk2 := mb.2.2.2.1
  have db1 := db.1
  have db2 := db.2.1
  have mb1 := mb.1
  have mb2 := mb.2.1
  clear db mb cb
  have HX0 := Lib.hid hx0
  have HXR : Hid (R = rdv rg b (cs * (ck + 2) + 31)) := Lib.hid (by rw [← hraw]; exact hR)
  have HXP : Hid (P = ptv pl bl b (cs * (ck + 2) + 31)) := Lib.hid (by rw [← hraw]; exact hP)
  have HXD : Hid (D = drv pl bl pg rg b (cs * (ck + 2) + 31)) := Lib.hid (by rw [← hraw]; exact hD)
  have HXM : Hid (M = mtv pl bl pg rg b (cs * (ck + 2) + 31)) := Lib.hid (by rw [← hraw]; exact hM)
  have HRaw := Lib.hid hraw
  have H6 := Lib.hid ho6
  have H4 := Lib.hid ho4
  have H66 := Lib.hid ho66
  have HR := Lib.hid hRi
  have HV := Lib.hid h
  have E1 := Lib.hid e1
  have E2 := Lib.hid e2
  have E3 := Lib.hid e3
  have E4 := Lib.hid e4
  have E5 := Lib.hid e5
  have xb : 0 ≤ x0 ∧ x0 ≤ 65538 := by omega
  clear hx0 hR hS hP hD hM hraw ho6 ho4 ho66 hRi h e1 e2 e3 e4 e5
  obtain ⟨rb1, rb2⟩ := rb
  obtain ⟨sb1, sb2⟩ := sb
  obtain ⟨pb1, pb2⟩ := pb
  obtain ⟨xb1, xb2⟩ := xb
  have HB := Below.refl (w.heap.size + 1) (w.alloc (.cells #[.int .i64 pl, .int .i64 bl, .int .i64 pg, .int .i64 cs, .int .i64 ck, .int .i64 rg, .int .i64 pt, .int .i64 sec, .int .i64 spr, .int .i64 thr, .int .i64 b, .int .i64 buf] 106))
  go_enter Try.func14, Try.ntmps14
  go_wp2_with (first | (go_at_call 65; refine (awake37_ok _).mono ?_; rintro e w1 ⟨rfl, hb1⟩; replace HB := chainC (by simp) HB hb1; clear hb1; (try clear hcA); have hcA := boxC HB))
  go_region_held3 (fun w' => w'.cell? ⟨w.heap.size, 0, none⟩ = some (.int .i64 pl) ∧ w'.cell? ⟨w.heap.size, 1, none⟩ = some (.int .i64 bl) ∧ w'.cell? ⟨w.heap.size, 2, none⟩ = some (.int .i64 pg) ∧ w'.cell? ⟨w.heap.size, 3, none⟩ = some (.int .i64 cs) ∧ w'.cell? ⟨w.heap.size, 4, none⟩ = some (.int .i64 ck) ∧ w'.cell? ⟨w.heap.size, 5, none⟩ = some (.int .i64 rg) ∧ w'.cell? ⟨w.heap.size, 6, none⟩ = some (.int .i64 pt) ∧ w'.cell? ⟨w.heap.size, 7, none⟩ = some (.int .i64 sec) ∧ w'.cell? ⟨w.heap.size, 8, none⟩ = some (.int .i64 spr) ∧ w'.cell? ⟨w.heap.size, 9, none⟩ = some (.int .i64 thr) ∧ w'.cell? ⟨w.heap.size, 10, none⟩ = some (.int .i64 b) ∧ w'.cell? ⟨w.heap.size, 11, none⟩ = some (.int .i64 buf)) (go_keep) (first | (go_at_call 66; refine (bReset_ok HV.out HX0 _).mono ?_; rintro e w1 ⟨rfl, hb1⟩; (first | replace HB := chainC (by simp) HB hb1 | replace HB := chainC (by simp) HB.drew hb1); clear hb1; (try clear hcA); have hcA := boxC HB) | (go_at_call 67; refine (bRead_ok HV.out HXR _).mono ?_; rintro e w1 ⟨rfl, hb1⟩; (first | replace HB := chainC (by simp) HB hb1 | replace HB := chainC (by simp) HB.drew hb1); clear hb1; (try clear hcA); have hcA := boxC HB) | (go_at_call 68; refine (bPut_ok HV.out HXP _).mono ?_; rintro e w1 ⟨rfl, hb1⟩; (first | replace HB := chainC (by simp) HB hb1 | replace HB := chainC (by simp) HB.drew hb1); clear hb1; (try clear hcA); have hcA := boxC HB) | (go_at_call 69; refine (bDrain_ok HV.out HXD _).mono ?_; rintro e w1 ⟨rfl, hb1⟩; (first | replace HB := chainC (by simp) HB hb1 | replace HB := chainC (by simp) HB.drew hb1); clear hb1; (try clear hcA); have hcA := boxC HB) | (go_at_call 70; refine (bMount_ok HV.out HXM _).mono ?_; rintro e w1 ⟨rfl, hb1⟩; (first | replace HB := chainC (by simp) HB hb1 | replace HB := chainC (by simp) HB.drew hb1); clear hb1; (try clear hcA); have hcA := boxC HB))
  go_wp2_with fail
  refine (scheck_ok HV.out _).mono ?_
  rintro e w2 ⟨rfl, hb1⟩
  obtain ⟨HB2, hL⟩ := blkCall (by simp) HB (⟨hb1.os, hb1.tape, hb1.output, hb1.size, hb1.block⟩ : Below (w1.alloc (.cells #[.int .i64 x0, .int .i64 R, .int .i64 P, .int .i64 D, .int .i64 M] 3)).heap.size (w1.alloc (.cells #[.int .i64 x0, .int .i64 R, .int .i64 P, .int .i64 D, .int .i64 M] 3)) w2)
  clear HB hb1 hcA
  have HB := HB2
  clear HB2
  have hcA := boxC HB
  have hll := blk_lt hL
  have hne1 : w.heap.size ≠ w2.heap.size := by have := HB.size; simp at this; omega
  have hne2 : w2.heap.size ≠ w.heap.size := fun h => hne1 h.symm
  go_upto_region 12 with fail
  go_cut [10, 11] (fun s10 s11 wx => ∃ g : Nat, s10 = .int .i64 raw ∧ s11 = .pointer (some ⟨g, 0, none⟩) ∧ wx.heap[g]? = some (.cells #[.int .i64 b] 3 (0, 0)) ∧ g ≠ w1.heap.size ∧ wx.heap[w1.heap.size]? = some (.cells #[.int .i64 x0, .int .i64 R, .int .i64 P, .int .i64 D, .int .i64 M] 3 (0, 0)) ∧ Below (w.heap.size + 1) (w.alloc (.cells #[.int .i64 pl, .int .i64 bl, .int .i64 pg, .int .i64 cs, .int .i64 ck, .int .i64 rg, .int .i64 pt, .int .i64 sec, .int .i64 spr, .int .i64 thr, .int .i64 b, .int .i64 buf] 106)) wx)
  case first =>
    go_region_held3 (fun w' => w'.cell? ⟨w.heap.size, 0, none⟩ = some (.int .i64 pl) ∧ w'.cell? ⟨w.heap.size, 1, none⟩ = some (.int .i64 bl) ∧ w'.cell? ⟨w.heap.size, 2, none⟩ = some (.int .i64 pg) ∧ w'.cell? ⟨w.heap.size, 3, none⟩ = some (.int .i64 cs) ∧ w'.cell? ⟨w.heap.size, 4, none⟩ = some (.int .i64 ck) ∧ w'.cell? ⟨w.heap.size, 5, none⟩ = some (.int .i64 rg) ∧ w'.cell? ⟨w.heap.size, 6, none⟩ = some (.int .i64 pt) ∧ w'.cell? ⟨w.heap.size, 7, none⟩ = some (.int .i64 sec) ∧ w'.cell? ⟨w.heap.size, 8, none⟩ = some (.int .i64 spr) ∧ w'.cell? ⟨w.heap.size, 9, none⟩ = some (.int .i64 thr) ∧ w'.cell? ⟨w.heap.size, 10, none⟩ = some (.int .i64 b) ∧ w'.cell? ⟨w.heap.size, 11, none⟩ = some (.int .i64 buf)) (go_keep) (first | (go_at_call 31; refine (refRaw_ok' HR.out HRaw _).mono ?_; rintro e w3 ⟨rfl, hb1⟩; (first | (have HB3 := chainC (by simp) HB hb1; have hL3 := blk_below hL hb1) | (have HB3 := chainC (by simp) HB.drew hb1; have hL3 := blk_below (blk_drew hL) hb1) | (have HB3 := chainC (by simp) (HB.alloc (by have := HB.size; simpa using this) (.cells #[.int .i64 0] 3)).drew hb1; have hL3 := blk_below (blk_drew (blk_alloc hL (.cells #[.int .i64 0] 3))) hb1; have hg3 := blk_below (blk_drew (blkNew w2 (.cells #[.int .i64 0] 3) rfl)) hb1; have c3 : w3.cell? ⟨w2.heap.size, 0, none⟩ = some (.int .i64 0) := (blk_cell hg3 0).trans rfl; have f3 := blk_frozen hg3 0)); clear hcA; have hcA := boxC HB3))
    all_goals (go_wp2_with fail)
    all_goals go_meet
    · exact ⟨w3.heap.size, rfl, rfl, blkNew w3 _ rfl, (by have := blk_lt hL3; omega), blk_alloc hL3 _, ⟨(HB3.alloc (by have := HB3.size; simpa using this) _).os, (HB3.alloc (by have := HB3.size; simpa using this) _).tape, (HB3.alloc (by have := HB3.size; simpa using this) _).output, (HB3.alloc (by have := HB3.size; simpa using this) _).size, (HB3.alloc (by have := HB3.size; simpa using this) (.cells #[.int .i64 b] 3)).block⟩⟩
    · exact ⟨w2.heap.size, rfl, rfl, blk_put hg3 0 _ rfl, (by omega), blk_far hL3 (by show w1.heap.size ≠ w2.heap.size; omega) _, HB3.setCell (by have := HB.size; simpa using this) _⟩
  case rest =>
    clear hL hll hcA HB hne1 hne2
    obtain ⟨g, rfl, rfl, hG, hgne, hL, HB⟩ := hcut
    have hcA := boxC HB
    have hg0 : wc.cell? ⟨g, 0, none⟩ = some (.int .i64 b) := (blk_cell hG 0).trans rfl
    have hbx : b + 2 = x0 := HX0.out.symm
    have hgl := blk_lt hG
    have hwl : w.heap.size < wc.heap.size := by have := HB.size; simp at this; omega
    have hll := blk_lt hL
    go_wp2_with fail
    have HB1 := HB.alloc (by have := HB.size; simpa using this) (.cells #[.int .i64 x0] 3)
    have hgA : (wc.alloc (.cells #[.int .i64 x0] 3)).cell? ⟨g, 0, none⟩ = some (.int .i64 b) := (blk_cell (blk_alloc hG _) 0).trans rfl
    have hgX : (wc.alloc (.cells #[.int .i64 x0] 3)).cell? ⟨wc.heap.size, 0, none⟩ = some (.int .i64 x0) := (blk_cell (blkNew wc _ rfl) 0).trans rfl
    have e1 := E1.out
    have v1 : IntKind.i64.wrap (2 * o6) = 2 * o6 := IntWalk.i64_in _ (by omega)
    have v2 : IntKind.i64.wrap (2 * o6 + raw) = 2 * o6 + raw := IntWalk.i64_in _ (by omega)
    have v3 : IntKind.i64.wrap (2 * o6 + raw + 1) = 2 * o6 + raw + 1 := IntWalk.i64_in _ (by omega)
    have v4 : IntKind.i64.wrap (2 * o6 + raw + 1 + x0) = 2 * o6 + raw + 1 + x0 := IntWalk.i64_in _ (by omega)
    have v5 : IntKind.i64.wrap R = R := IntWalk.i64_in _ (by omega)
    go_quiet (first | (go_at_call 74; exact Calls.quiet_of_same (ordc_ok (by simp [*]) (by simp [*]) (by omega) (by omega) b1 b2 xb1 (by omega) H6)))
    clear e1 v1 v2 v3 v4 v5
    go_wp2_with (first | (go_at_call 74; refine (ordc_ok (by simp [*]) (by simp [*]) (by omega) (by omega) b1 b2 xb1 (by omega) H66).mono ?_; rintro e w' ⟨rfl, rfl⟩))
    have e2 := E2.out
    have v0 : IntKind.i64.wrap (raw + 6) = raw + 6 := IntWalk.i64_in _ (by omega)
    have v1 : IntKind.i64.wrap (o4 + o66) = o4 + o66 := IntWalk.i64_in _ (by omega)
    have v5 : IntKind.i64.wrap SV = SV := IntWalk.i64_in _ (by omega)
    go_quiet (first | (go_at_call 74; exact quietAdd (ordc_ok (by simp [*]) (by simp [*]) (by omega) (by omega) b1 b2 xb1 (by omega) H4)) | (go_at_call 74; exact quietAdd (ordc_ok (by simp [*]) (by simp [*]) (by omega) (by omega) b1 b2 xb1 (by omega) H66)))
    clear e2 v0 v1 v5
    go_wp2_with fail
    have e3 := E3.out
    have v0 : IntKind.i64.wrap (bl + 1) = bl + 1 := IntWalk.i64_in _ (by omega)
    have v1 : IntKind.i64.wrap (o4 + 2 * o66) = o4 + 2 * o66 := IntWalk.i64_in _ (by omega)
    have v2 : IntKind.i64.wrap (2 * SV) = 2 * SV := IntWalk.i64_in _ (by omega)
    have v3 : IntKind.i64.wrap (o4 + 2 * o66 + 2 * SV) = o4 + 2 * o66 + 2 * SV := IntWalk.i64_in _ (by omega)
    have v5 : IntKind.i64.wrap P = P := IntWalk.i64_in _ (by omega)
    go_quiet (first | (go_at_call 74; exact quietAdd (ordc_ok (by simp [*]) (by simp [*]) (by omega) (by omega) b1 b2 xb1 (by omega) H4)))
    clear e3 v0 v1 v2 v3 v5
    have e4 := E4.out
    have e5 := E5.out
    obtain ⟨k11, k12⟩ := k1
    obtain ⟨k21, k22⟩ := k2
    obtain ⟨k41, k42⟩ := k4
    obtain ⟨k51, k52⟩ := k5
    obtain ⟨k61, k62⟩ := k6
    go_wp2_with fail
    clear e4 e5
    have y0 : (wc.alloc (.cells #[.int .i64 x0] 3)).cell? ⟨w1.heap.size, 0, none⟩ = some (.int .i64 x0) := (blk_cell (blk_alloc hL _) 0).trans rfl
    have y1 : (wc.alloc (.cells #[.int .i64 x0] 3)).cell? ⟨w1.heap.size, 1, none⟩ = some (.int .i64 R) := (blk_cell (blk_alloc hL _) 1).trans rfl
    have y2 : (wc.alloc (.cells #[.int .i64 x0] 3)).cell? ⟨w1.heap.size, 2, none⟩ = some (.int .i64 P) := (blk_cell (blk_alloc hL _) 2).trans rfl
    have y3 : (wc.alloc (.cells #[.int .i64 x0] 3)).cell? ⟨w1.heap.size, 3, none⟩ = some (.int .i64 D) := (blk_cell (blk_alloc hL _) 3).trans rfl
    have y4 : (wc.alloc (.cells #[.int .i64 x0] 3)).cell? ⟨w1.heap.size, 4, none⟩ = some (.int .i64 M) := (blk_cell (blk_alloc hL _) 4).trans rfl
    go_quiet (fail)
    clear y0 y1 y2 y3 y4
    have hbd : 0 ≤ buf * D ∧ buf * D ≤ 64 * 200000000000000 := mul_le2 (by omega) f2 db1 db2
    obtain ⟨hbd1, hbd2⟩ := hbd
    have hn3 : n < 0 ∨ 16777216 < n ∨ (0 ≤ n ∧ n ≤ 16777216) := by omega
    have hk5 : kind = 1 ∨ kind = 2 ∨ kind = 3 ∨ kind = 4 ∨ ((kind == 1) = false ∧ (kind == 2) = false ∧ (kind == 3) = false ∧ (kind == 4) = false) := by
      simp only [beq_eq_false_iff_ne]; omega
    rcases hn3 with hn | hn | ⟨hn0, hn1⟩
    · skip
      rcases hk5 with rfl | rfl | rfl | rfl | ⟨k1, k2, k3, k4⟩
      · go_wp2_with (first | (go_at_call 72; refine (bOrder_out (.inl hn) _).mono ?_; rintro e w4 ⟨rfl, hb1⟩; have HB4 := chainC (by simp) HB1 (⟨hb1.os, hb1.tape, hb1.output, hb1.size, hb1.block⟩ : Below (wc.alloc (.cells #[.int .i64 x0] 3)).heap.size (wc.alloc (.cells #[.int .i64 x0] 3)) w4); clear hb1 hcA; have hcA := boxC HB4) | (go_at_call 73; refine (bOp_ok1 HV HXR HXD f1 f2 db1 db2 _).mono ?_; rintro e w5 ⟨rfl, hb1⟩; have HB5 := chainC (by simp) HB4 hb1; clear hb1))
        go_ret
        exact ⟨rfl, boxDone _ HB5⟩
      · go_wp2_with (first | (go_at_call 72; refine (bOrder_out (.inl hn) _).mono ?_; rintro e w4 ⟨rfl, hb1⟩; have HB4 := chainC (by simp) HB1 (⟨hb1.os, hb1.tape, hb1.output, hb1.size, hb1.block⟩ : Below (wc.alloc (.cells #[.int .i64 x0] 3)).heap.size (wc.alloc (.cells #[.int .i64 x0] 3)) w4); clear hb1 hcA; have hcA := boxC HB4) | (go_at_call 73; refine (bOp_ok2 HV HXR HXD f1 f2 db1 db2 _).mono ?_; rintro e w5 ⟨rfl, hb1⟩; have HB5 := chainC (by simp) HB4 hb1; clear hb1))
        go_ret
        exact ⟨rfl, boxDone _ HB5⟩
      · go_wp2_with (first | (go_at_call 72; refine (bOrder_out (.inl hn) _).mono ?_; rintro e w4 ⟨rfl, hb1⟩; have HB4 := chainC (by simp) HB1 (⟨hb1.os, hb1.tape, hb1.output, hb1.size, hb1.block⟩ : Below (wc.alloc (.cells #[.int .i64 x0] 3)).heap.size (wc.alloc (.cells #[.int .i64 x0] 3)) w4); clear hb1 hcA; have hcA := boxC HB4) | (go_at_call 73; refine (bOp_ok3 HV HXR HXD f1 f2 db1 db2 _).mono ?_; rintro e w5 ⟨rfl, hb1⟩; have HB5 := chainC (by simp) HB4 hb1; clear hb1))
        go_ret
        exact ⟨rfl, boxDone _ HB5⟩
      · go_wp2_with (first | (go_at_call 72; refine (bOrder_out (.inl hn) _).mono ?_; rintro e w4 ⟨rfl, hb1⟩; have HB4 := chainC (by simp) HB1 (⟨hb1.os, hb1.tape, hb1.output, hb1.size, hb1.block⟩ : Below (wc.alloc (.cells #[.int .i64 x0] 3)).heap.size (wc.alloc (.cells #[.int .i64 x0] 3)) w4); clear hb1 hcA; have hcA := boxC HB4) | (go_at_call 73; refine (bOp_ok4 HV HXR HXD f1 f2 db1 db2 _).mono ?_; rintro e w5 ⟨rfl, hb1⟩; have HB5 := chainC (by simp) HB4 hb1; clear hb1))
        go_ret
        exact ⟨rfl, boxDone _ HB5⟩
      · go_wp2_with (first | (go_at_call 72; refine (bOrder_out (.inl hn) _).mono ?_; rintro e w4 ⟨rfl, hb1⟩; have HB4 := chainC (by simp) HB1 (⟨hb1.os, hb1.tape, hb1.output, hb1.size, hb1.block⟩ : Below (wc.alloc (.cells #[.int .i64 x0] 3)).heap.size (wc.alloc (.cells #[.int .i64 x0] 3)) w4); clear hb1 hcA; have hcA := boxC HB4) | (go_at_call 73; refine (bOp_okx HV HXR HXD f1 f2 db1 db2 k1 k2 k3 k4 _).mono ?_; rintro e w5 ⟨rfl, hb1⟩; have HB5 := chainC (by simp) HB4 hb1; clear hb1))
        go_ret
        exact ⟨rfl, boxDone _ HB5⟩
    · skip
      rcases hk5 with rfl | rfl | rfl | rfl | ⟨k1, k2, k3, k4⟩
      · go_wp2_with (first | (go_at_call 72; refine (bOrder_out (.inr hn) _).mono ?_; rintro e w4 ⟨rfl, hb1⟩; have HB4 := chainC (by simp) HB1 (⟨hb1.os, hb1.tape, hb1.output, hb1.size, hb1.block⟩ : Below (wc.alloc (.cells #[.int .i64 x0] 3)).heap.size (wc.alloc (.cells #[.int .i64 x0] 3)) w4); clear hb1 hcA; have hcA := boxC HB4) | (go_at_call 73; refine (bOp_ok1 HV HXR HXD f1 f2 db1 db2 _).mono ?_; rintro e w5 ⟨rfl, hb1⟩; have HB5 := chainC (by simp) HB4 hb1; clear hb1))
        go_ret
        exact ⟨rfl, boxDone _ HB5⟩
      · go_wp2_with (first | (go_at_call 72; refine (bOrder_out (.inr hn) _).mono ?_; rintro e w4 ⟨rfl, hb1⟩; have HB4 := chainC (by simp) HB1 (⟨hb1.os, hb1.tape, hb1.output, hb1.size, hb1.block⟩ : Below (wc.alloc (.cells #[.int .i64 x0] 3)).heap.size (wc.alloc (.cells #[.int .i64 x0] 3)) w4); clear hb1 hcA; have hcA := boxC HB4) | (go_at_call 73; refine (bOp_ok2 HV HXR HXD f1 f2 db1 db2 _).mono ?_; rintro e w5 ⟨rfl, hb1⟩; have HB5 := chainC (by simp) HB4 hb1; clear hb1))
        go_ret
        exact ⟨rfl, boxDone _ HB5⟩
      · go_wp2_with (first | (go_at_call 72; refine (bOrder_out (.inr hn) _).mono ?_; rintro e w4 ⟨rfl, hb1⟩; have HB4 := chainC (by simp) HB1 (⟨hb1.os, hb1.tape, hb1.output, hb1.size, hb1.block⟩ : Below (wc.alloc (.cells #[.int .i64 x0] 3)).heap.size (wc.alloc (.cells #[.int .i64 x0] 3)) w4); clear hb1 hcA; have hcA := boxC HB4) | (go_at_call 73; refine (bOp_ok3 HV HXR HXD f1 f2 db1 db2 _).mono ?_; rintro e w5 ⟨rfl, hb1⟩; have HB5 := chainC (by simp) HB4 hb1; clear hb1))
        go_ret
        exact ⟨rfl, boxDone _ HB5⟩
      · go_wp2_with (first | (go_at_call 72; refine (bOrder_out (.inr hn) _).mono ?_; rintro e w4 ⟨rfl, hb1⟩; have HB4 := chainC (by simp) HB1 (⟨hb1.os, hb1.tape, hb1.output, hb1.size, hb1.block⟩ : Below (wc.alloc (.cells #[.int .i64 x0] 3)).heap.size (wc.alloc (.cells #[.int .i64 x0] 3)) w4); clear hb1 hcA; have hcA := boxC HB4) | (go_at_call 73; refine (bOp_ok4 HV HXR HXD f1 f2 db1 db2 _).mono ?_; rintro e w5 ⟨rfl, hb1⟩; have HB5 := chainC (by simp) HB4 hb1; clear hb1))
        go_ret
        exact ⟨rfl, boxDone _ HB5⟩
      · go_wp2_with (first | (go_at_call 72; refine (bOrder_out (.inr hn) _).mono ?_; rintro e w4 ⟨rfl, hb1⟩; have HB4 := chainC (by simp) HB1 (⟨hb1.os, hb1.tape, hb1.output, hb1.size, hb1.block⟩ : Below (wc.alloc (.cells #[.int .i64 x0] 3)).heap.size (wc.alloc (.cells #[.int .i64 x0] 3)) w4); clear hb1 hcA; have hcA := boxC HB4) | (go_at_call 73; refine (bOp_okx HV HXR HXD f1 f2 db1 db2 k1 k2 k3 k4 _).mono ?_; rintro e w5 ⟨rfl, hb1⟩; have HB5 := chainC (by simp) HB4 hb1; clear hb1))
        go_ret
        exact ⟨rfl, boxDone _ HB5⟩
    · skip
      obtain ⟨on, hon⟩ : ∃ x, x = n + b + 1 + 2 * x0 := ⟨_, rfl⟩
      have hon2 : on = ord b n := by rw [hon]; unfold ord; rw [HX0.out]
      have HON2 := Lib.hid hon
      have HON1 := Lib.hid hon2
      clear hon hon2
      rcases hk5 with rfl | rfl | rfl | rfl | ⟨k1, k2, k3, k4⟩
      · go_wp2_with (first | (go_at_call 74; refine (ordc_ok (by simp [*]) (by simp [*]) hn0 hn1 b1 b2 xb1 (by omega) HON2).mono ?_; rintro e w6 ⟨rfl, rfl⟩) | (go_at_call 72; refine (bOrder_ok HV.out hn0 hn1 HON1 _).mono ?_; rintro e w4 ⟨rfl, hb1⟩; have HB4 := chainC (by simp) HB1 (⟨hb1.os, hb1.tape, hb1.output, hb1.size, hb1.block⟩ : Below (wc.alloc (.cells #[.int .i64 x0] 3)).heap.size (wc.alloc (.cells #[.int .i64 x0] 3)) w4); clear hb1 hcA; have hcA := boxC HB4) | (go_at_call 73; refine (bOp_ok1 HV HXR HXD f1 f2 db1 db2 _).mono ?_; rintro e w5 ⟨rfl, hb1⟩; have HB5 := chainC (by simp) HB4 hb1; clear hb1))
        go_ret
        exact ⟨rfl, boxDone _ HB5⟩
      · go_wp2_with (first | (go_at_call 74; refine (ordc_ok (by simp [*]) (by simp [*]) hn0 hn1 b1 b2 xb1 (by omega) HON2).mono ?_; rintro e w6 ⟨rfl, rfl⟩) | (go_at_call 72; refine (bOrder_ok HV.out hn0 hn1 HON1 _).mono ?_; rintro e w4 ⟨rfl, hb1⟩; have HB4 := chainC (by simp) HB1 (⟨hb1.os, hb1.tape, hb1.output, hb1.size, hb1.block⟩ : Below (wc.alloc (.cells #[.int .i64 x0] 3)).heap.size (wc.alloc (.cells #[.int .i64 x0] 3)) w4); clear hb1 hcA; have hcA := boxC HB4) | (go_at_call 73; refine (bOp_ok2 HV HXR HXD f1 f2 db1 db2 _).mono ?_; rintro e w5 ⟨rfl, hb1⟩; have HB5 := chainC (by simp) HB4 hb1; clear hb1))
        go_ret
        exact ⟨rfl, boxDone _ HB5⟩
      · go_wp2_with (first | (go_at_call 74; refine (ordc_ok (by simp [*]) (by simp [*]) hn0 hn1 b1 b2 xb1 (by omega) HON2).mono ?_; rintro e w6 ⟨rfl, rfl⟩) | (go_at_call 72; refine (bOrder_ok HV.out hn0 hn1 HON1 _).mono ?_; rintro e w4 ⟨rfl, hb1⟩; have HB4 := chainC (by simp) HB1 (⟨hb1.os, hb1.tape, hb1.output, hb1.size, hb1.block⟩ : Below (wc.alloc (.cells #[.int .i64 x0] 3)).heap.size (wc.alloc (.cells #[.int .i64 x0] 3)) w4); clear hb1 hcA; have hcA := boxC HB4) | (go_at_call 73; refine (bOp_ok3 HV HXR HXD f1 f2 db1 db2 _).mono ?_; rintro e w5 ⟨rfl, hb1⟩; have HB5 := chainC (by simp) HB4 hb1; clear hb1))
        go_ret
        exact ⟨rfl, boxDone _ HB5⟩
      · go_wp2_with (first | (go_at_call 74; refine (ordc_ok (by simp [*]) (by simp [*]) hn0 hn1 b1 b2 xb1 (by omega) HON2).mono ?_; rintro e w6 ⟨rfl, rfl⟩) | (go_at_call 72; refine (bOrder_ok HV.out hn0 hn1 HON1 _).mono ?_; rintro e w4 ⟨rfl, hb1⟩; have HB4 := chainC (by simp) HB1 (⟨hb1.os, hb1.tape, hb1.output, hb1.size, hb1.block⟩ : Below (wc.alloc (.cells #[.int .i64 x0] 3)).heap.size (wc.alloc (.cells #[.int .i64 x0] 3)) w4); clear hb1 hcA; have hcA := boxC HB4) | (go_at_call 73; refine (bOp_ok4 HV HXR HXD f1 f2 db1 db2 _).mono ?_; rintro e w5 ⟨rfl, hb1⟩; have HB5 := chainC (by simp) HB4 hb1; clear hb1))
        go_ret
        exact ⟨rfl, boxDone _ HB5⟩
      · go_wp2_with (first | (go_at_call 74; refine (ordc_ok (by simp [*]) (by simp [*]) hn0 hn1 b1 b2 xb1 (by omega) HON2).mono ?_; rintro e w6 ⟨rfl, rfl⟩) | (go_at_call 72; refine (bOrder_ok HV.out hn0 hn1 HON1 _).mono ?_; rintro e w4 ⟨rfl, hb1⟩; have HB4 := chainC (by simp) HB1 (⟨hb1.os, hb1.tape, hb1.output, hb1.size, hb1.block⟩ : Below (wc.alloc (.cells #[.int .i64 x0] 3)).heap.size (wc.alloc (.cells #[.int .i64 x0] 3)) w4); clear hb1 hcA; have hcA := boxC HB4) | (go_at_call 73; refine (bOp_okx HV HXR HXD f1 f2 db1 db2 k1 k2 k3 k4 _).mono ?_; rintro e w5 ⟨rfl, hb1⟩; have HB5 := chainC (by simp) HB4 hb1; clear hb1))
        go_ret
        exact ⟨rfl, boxDone _ HB5⟩

end Go.Proofs.Ytkcpohplgdndkaa
