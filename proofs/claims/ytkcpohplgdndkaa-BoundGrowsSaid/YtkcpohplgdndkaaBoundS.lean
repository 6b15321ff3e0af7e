import Derived.Test.YtkcpohplgdndkaaBoundR
import Derived.Deep.RegionHeld3
namespace Go.Proofs.Ytkcpohplgdndkaa
open Go.RowKit Go.Proofs.Ytkcpohplgdndkaa.QB Go.Proofs.YtkcpohplgdndkaaW.PrintWords
set_option linter.unusedVariables false
theorem chainC {B : Nat} {a w w1 : World} (hB : B ≤ a.heap.size) (h : Below B a w) (k : Below w.heap.size w w1) : Below B a w1 := h.trans (k.mono (Nat.le_trans hB h.size))
theorem boxC {w w1 : World} {A : Array Value} {TA : TypeId} (h : Below (w.heap.size + 1) (w.alloc (.cells A TA)) w1) : ∀ o, w1.cell? ⟨w.heap.size, o, none⟩ = A[o]? := by
  intro o
  rw [h.cell (p := ⟨w.heap.size, o, none⟩) (by show w.heap.size < w.heap.size + 1; omega), World.cell?_alloc_at _ _ _ _ rfl]
theorem boxDone {w : World} (o : Obj) {w1 : World} (h : Below (w.heap.size + 1) (w.alloc o) w1) : Below w.heap.size w w1 :=
  ((Below.refl _ _).alloc (Nat.le_refl _) _).trans (h.mono (by omega))
theorem retI {k : IntKind} {a b : Int} (h : a = b) : Ending.returned (.int k a) = .returned (.int k b) := by rw [h]

set_option maxHeartbeats 2000000 in
theorem bOp_ok1 {pl bl pg cs ck rg pt sec spr thr b buf R D : Int} (h : Hid (Valid pl bl pg cs ck rg pt sec spr thr b buf)) (hR : Hid (R = rdv rg b (cs * (ck + 2) + 31))) (hD : Hid (D = drv pl bl pg rg b (cs * (ck + 2) + 31))) (f1 : 1 ≤ buf) (f2 : buf ≤ 64) (d1 : 0 ≤ D) (d2 : D ≤ 200000000000000)  (w : World) : Calls Try.prog 73 #[.agg #[.int .i64 pl, .int .i64 bl, .int .i64 pg, .int .i64 cs, .int .i64 ck, .int .i64 rg, .int .i64 pt, .int .i64 sec, .int .i64 spr, .int .i64 thr, .int .i64 b, .int .i64 buf], .int .i64 1] w fun e w' => e = .returned (.int .i64 (D)) ∧ Below w.heap.size w w' := by
  have HB := Below.refl (w.heap.size + 1) (w.alloc (.cells #[.int .i64 pl, .int .i64 bl, .int .i64 pg, .int .i64 cs, .int .i64 ck, .int .i64 rg, .int .i64 pt, .int .i64 sec, .int .i64 spr, .int .i64 thr, .int .i64 b, .int .i64 buf] 106))
  go_enter Try.func73, Try.ntmps73
  go_wp2_with (first | (go_at_call 69; refine (bDrain_ok h.out hD _).mono ?_; rintro e w1 ⟨rfl, hb1⟩; replace HB := chainC (by simp) HB hb1; clear hb1; (try clear hcA); have hcA := boxC HB) | (go_at_call 67; refine (bRead_ok h.out hR _).mono ?_; rintro e w1 ⟨rfl, hb1⟩; replace HB := chainC (by simp) HB hb1; clear hb1; (try clear hcA); have hcA := boxC HB))
  go_ret
  exact ⟨rfl, boxDone _ HB⟩
set_option maxHeartbeats 2000000 in
theorem bOp_ok2 {pl bl pg cs ck rg pt sec spr thr b buf R D : Int} (h : Hid (Valid pl bl pg cs ck rg pt sec spr thr b buf)) (hR : Hid (R = rdv rg b (cs * (ck + 2) + 31))) (hD : Hid (D = drv pl bl pg rg b (cs * (ck + 2) + 31))) (f1 : 1 ≤ buf) (f2 : buf ≤ 64) (d1 : 0 ≤ D) (d2 : D ≤ 200000000000000)  (w : World) : Calls Try.prog 73 #[.agg #[.int .i64 pl, .int .i64 bl, .int .i64 pg, .int .i64 cs, .int .i64 ck, .int .i64 rg, .int .i64 pt, .int .i64 sec, .int .i64 spr, .int .i64 thr, .int .i64 b, .int .i64 buf], .int .i64 2] w fun e w' => e = .returned (.int .i64 (D)) ∧ Below w.heap.size w w' := by
  have HB := Below.refl (w.heap.size + 1) (w.alloc (.cells #[.int .i64 pl, .int .i64 bl, .int .i64 pg, .int .i64 cs, .int .i64 ck, .int .i64 rg, .int .i64 pt, .int .i64 sec, .int .i64 spr, .int .i64 thr, .int .i64 b, .int .i64 buf] 106))
  go_enter Try.func73, Try.ntmps73
  go_wp2_with (first | (go_at_call 69; refine (bDrain_ok h.out hD _).mono ?_; rintro e w1 ⟨rfl, hb1⟩; replace HB := chainC (by simp) HB hb1; clear hb1; (try clear hcA); have hcA := boxC HB) | (go_at_call 67; refine (bRead_ok h.out hR _).mono ?_; rintro e w1 ⟨rfl, hb1⟩; replace HB := chainC (by simp) HB hb1; clear hb1; (try clear hcA); have hcA := boxC HB))
  go_ret
  exact ⟨rfl, boxDone _ HB⟩
set_option maxHeartbeats 2000000 in
theorem bOp_ok3 {pl bl pg cs ck rg pt sec spr thr b buf R D : Int} (h : Hid (Valid pl bl pg cs ck rg pt sec spr thr b buf)) (hR : Hid (R = rdv rg b (cs * (ck + 2) + 31))) (hD : Hid (D = drv pl bl pg rg b (cs * (ck + 2) + 31))) (f1 : 1 ≤ buf) (f2 : buf ≤ 64) (d1 : 0 ≤ D) (d2 : D ≤ 200000000000000)  (w : World) : Calls Try.prog 73 #[.agg #[.int .i64 pl, .int .i64 bl, .int .i64 pg, .int .i64 cs, .int .i64 ck, .int .i64 rg, .int .i64 pt, .int .i64 sec, .int .i64 spr, .int .i64 thr, .int .i64 b, .int .i64 buf], .int .i64 3] w fun e w' => e = .returned (.int .i64 (R)) ∧ Below w.heap.size w w' := by
  have HB := Below.refl (w.heap.size + 1) (w.alloc (.cells #[.int .i64 pl, .int .i64 bl, .int .i64 pg, .int .i64 cs, .int .i64 ck, .int .i64 rg, .int .i64 pt, .int .i64 sec, .int .i64 spr, .int .i64 thr, .int .i64 b, .int .i64 buf] 106))
  go_enter Try.func73, Try.ntmps73
  go_wp2_with (first | (go_at_call 69; refine (bDrain_ok h.out hD _).mono ?_; rintro e w1 ⟨rfl, hb1⟩; replace HB := chainC (by simp) HB hb1; clear hb1; (try clear hcA); have hcA := boxC HB) | (go_at_call 67; refine (bRead_ok h.out hR _).mono ?_; rintro e w1 ⟨rfl, hb1⟩; replace HB := chainC (by simp) HB hb1; clear hb1; (try clear hcA); have hcA := boxC HB))
  go_ret
  exact ⟨rfl, boxDone _ HB⟩
set_option maxHeartbeats 2000000 in
theorem bOp_ok4 {pl bl pg cs ck rg pt sec spr thr b buf R D : Int} (h : Hid (Valid pl bl pg cs ck rg pt sec spr thr b buf)) (hR : Hid (R = rdv rg b (cs * (ck + 2) + 31))) (hD : Hid (D = drv pl bl pg rg b (cs * (ck + 2) + 31))) (f1 : 1 ≤ buf) (f2 : buf ≤ 64) (d1 : 0 ≤ D) (d2 : D ≤ 200000000000000)  (w : World) : Calls Try.prog 73 #[.agg #[.int .i64 pl, .int .i64 bl, .int .i64 pg, .int .i64 cs, .int .i64 ck, .int .i64 rg, .int .i64 pt, .int .i64 sec, .int .i64 spr, .int .i64 thr, .int .i64 b, .int .i64 buf], .int .i64 4] w fun e w' => e = .returned (.int .i64 (buf * D)) ∧ Below w.heap.size w w' := by
  have m := mul_le2 (x := buf) (X := 64) (y := D) (Y := 200000000000000) (by omega) f2 d1 d2
  obtain ⟨m1, m2⟩ := m
  have hwr : IntKind.i64.wrap (buf * D) = buf * D := IntWalk.i64_in _ (by omega)
  have HB := Below.refl (w.heap.size + 1) (w.alloc (.cells #[.int .i64 pl, .int .i64 bl, .int .i64 pg, .int .i64 cs, .int .i64 ck, .int .i64 rg, .int .i64 pt, .int .i64 sec, .int .i64 spr, .int .i64 thr, .int .i64 b, .int .i64 buf] 106))
  go_enter Try.func73, Try.ntmps73
  go_wp2_with (first | (go_at_call 69; refine (bDrain_ok h.out hD _).mono ?_; rintro e w1 ⟨rfl, hb1⟩; replace HB := chainC (by simp) HB hb1; clear hb1; (try clear hcA); have hcA := boxC HB) | (go_at_call 67; refine (bRead_ok h.out hR _).mono ?_; rintro e w1 ⟨rfl, hb1⟩; replace HB := chainC (by simp) HB hb1; clear hb1; (try clear hcA); have hcA := boxC HB))
  go_region_held3 (fun w' => w'.cell? ⟨w.heap.size, 0, none⟩ = some (.int .i64 pl) ∧ w'.cell? ⟨w.heap.size, 1, none⟩ = some (.int .i64 bl) ∧ w'.cell? ⟨w.heap.size, 2, none⟩ = some (.int .i64 pg) ∧ w'.cell? ⟨w.heap.size, 3, none⟩ = some (.int .i64 cs) ∧ w'.cell? ⟨w.heap.size, 4, none⟩ = some (.int .i64 ck) ∧ w'.cell? ⟨w.heap.size, 5, none⟩ = some (.int .i64 rg) ∧ w'.cell? ⟨w.heap.size, 6, none⟩ = some (.int .i64 pt) ∧ w'.cell? ⟨w.heap.size, 7, none⟩ = some (.int .i64 sec) ∧ w'.cell? ⟨w.heap.size, 8, none⟩ = some (.int .i64 spr) ∧ w'.cell? ⟨w.heap.size, 9, none⟩ = some (.int .i64 thr) ∧ w'.cell? ⟨w.heap.size, 10, none⟩ = some (.int .i64 b) ∧ w'.cell? ⟨w.heap.size, 11, none⟩ = some (.int .i64 buf)) (go_keep) (first | (go_at_call 69; refine (bDrain_ok h.out hD _).mono ?_; rintro e w1 ⟨rfl, hb1⟩; (first | replace HB := chainC (by simp) HB hb1 | replace HB := chainC (by simp) HB.drew hb1); clear hb1; (try clear hcA); have hcA := boxC HB))
  go_wp2
  go_ret
  exact ⟨rfl, boxDone _ HB⟩
set_option maxHeartbeats 2000000 in
theorem bOp_okx {pl bl pg cs ck rg pt sec spr thr b buf R D kind : Int} (h : Hid (Valid pl bl pg cs ck rg pt sec spr thr b buf)) (hR : Hid (R = rdv rg b (cs * (ck + 2) + 31))) (hD : Hid (D = drv pl bl pg rg b (cs * (ck + 2) + 31))) (f1 : 1 ≤ buf) (f2 : buf ≤ 64) (d1 : 0 ≤ D) (d2 : D ≤ 200000000000000) (k1 : (kind == 1) = false) (k2 : (kind == 2) = false) (k3 : (kind == 3) = false) (k4 : (kind == 4) = false) (w : World) : Calls Try.prog 73 #[.agg #[.int .i64 pl, .int .i64 bl, .int .i64 pg, .int .i64 cs, .int .i64 ck, .int .i64 rg, .int .i64 pt, .int .i64 sec, .int .i64 spr, .int .i64 thr, .int .i64 b, .int .i64 buf], .int .i64 kind] w fun e w' => e = .returned (.int .i64 (0)) ∧ Below w.heap.size w w' := by
  have HB := Below.refl (w.heap.size + 1) (w.alloc (.cells #[.int .i64 pl, .int .i64 bl, .int .i64 pg, .int .i64 cs, .int .i64 ck, .int .i64 rg, .int .i64 pt, .int .i64 sec, .int .i64 spr, .int .i64 thr, .int .i64 b, .int .i64 buf] 106))
  go_enter Try.func73, Try.ntmps73
  go_wp2_with (first | (go_at_call 69; refine (bDrain_ok h.out hD _).mono ?_; rintro e w1 ⟨rfl, hb1⟩; replace HB := chainC (by simp) HB hb1; clear hb1; (try clear hcA); have hcA := boxC HB) | (go_at_call 67; refine (bRead_ok h.out hR _).mono ?_; rintro e w1 ⟨rfl, hb1⟩; replace HB := chainC (by simp) HB hb1; clear hb1; (try clear hcA); have hcA := boxC HB))
  go_ret
  exact ⟨rfl, boxDone _ HB⟩
set_option maxHeartbeats 2000000 in
theorem bOp_no1 {pl bl pg cs ck rg pt sec spr thr b buf R D : Int} (h : Hid (¬ Valid pl bl pg cs ck rg pt sec spr thr b buf))  (w : World) : Calls Try.prog 73 #[.agg #[.int .i64 pl, .int .i64 bl, .int .i64 pg, .int .i64 cs, .int .i64 ck, .int .i64 rg, .int .i64 pt, .int .i64 sec, .int .i64 spr, .int .i64 thr, .int .i64 b, .int .i64 buf], .int .i64 1] w fun e w' => e = .returned (.int .i64 (0)) ∧ Below w.heap.size w w' := by
  have HB := Below.refl (w.heap.size + 1) (w.alloc (.cells #[.int .i64 pl, .int .i64 bl, .int .i64 pg, .int .i64 cs, .int .i64 ck, .int .i64 rg, .int .i64 pt, .int .i64 sec, .int .i64 spr, .int .i64 thr, .int .i64 b, .int .i64 buf] 106))
  go_enter Try.func73, Try.ntmps73
  go_wp2_with (first | (go_at_call 69; refine (bDrain_no h.out _).mono ?_; rintro e w1 ⟨rfl, hb1⟩; replace HB := chainC (by simp) HB hb1; clear hb1; (try clear hcA); have hcA := boxC HB) | (go_at_call 67; refine (bRead_no h.out _).mono ?_; rintro e w1 ⟨rfl, hb1⟩; replace HB := chainC (by simp) HB hb1; clear hb1; (try clear hcA); have hcA := boxC HB))
  go_ret
  exact ⟨rfl, boxDone _ HB⟩
set_option maxHeartbeats 2000000 in
theorem bOp_no2 {pl bl pg cs ck rg pt sec spr thr b buf R D : Int} (h : Hid (¬ Valid pl bl pg cs ck rg pt sec spr thr b buf))  (w : World) : Calls Try.prog 73 #[.agg #[.int .i64 pl, .int .i64 bl, .int .i64 pg, .int .i64 cs, .int .i64 ck, .int .i64 rg, .int .i64 pt, .int .i64 sec, .int .i64 spr, .int .i64 thr, .int .i64 b, .int .i64 buf], .int .i64 2] w fun e w' => e = .returned (.int .i64 (0)) ∧ Below w.heap.size w w' := by
  have HB := Below.refl (w.heap.size + 1) (w.alloc (.cells #[.int .i64 pl, .int .i64 bl, .int .i64 pg, .int .i64 cs, .int .i64 ck, .int .i64 rg, .int .i64 pt, .int .i64 sec, .int .i64 spr, .int .i64 thr, .int .i64 b, .int .i64 buf] 106))
  go_enter Try.func73, Try.ntmps73
  go_wp2_with (first | (go_at_call 69; refine (bDrain_no h.out _).mono ?_; rintro e w1 ⟨rfl, hb1⟩; replace HB := chainC (by simp) HB hb1; clear hb1; (try clear hcA); have hcA := boxC HB) | (go_at_call 67; refine (bRead_no h.out _).mono ?_; rintro e w1 ⟨rfl, hb1⟩; replace HB := chainC (by simp) HB hb1; clear hb1; (try clear hcA); have hcA := boxC HB))
  go_ret
  exact ⟨rfl, boxDone _ HB⟩
set_option maxHeartbeats 2000000 in
theorem bOp_no3 {pl bl pg cs ck rg pt sec spr thr b buf R D : Int} (h : Hid (¬ Valid pl bl pg cs ck rg pt sec spr thr b buf))  (w : World) : Calls Try.prog 73 #[.agg #[.int .i64 pl, .int .i64 bl, .int .i64 pg, .int .i64 cs, .int .i64 ck, .int .i64 rg, .int .i64 pt, .int .i64 sec, .int .i64 spr, .int .i64 thr, .int .i64 b, .int .i64 buf], .int .i64 3] w fun e w' => e = .returned (.int .i64 (0)) ∧ Below w.heap.size w w' := by
  have HB := Below.refl (w.heap.size + 1) (w.alloc (.cells #[.int .i64 pl, .int .i64 bl, .int .i64 pg, .int .i64 cs, .int .i64 ck, .int .i64 rg, .int .i64 pt, .int .i64 sec, .int .i64 spr, .int .i64 thr, .int .i64 b, .int .i64 buf] 106))
  go_enter Try.func73, Try.ntmps73
  go_wp2_with (first | (go_at_call 69; refine (bDrain_no h.out _).mono ?_; rintro e w1 ⟨rfl, hb1⟩; replace HB := chainC (by simp) HB hb1; clear hb1; (try clear hcA); have hcA := boxC HB) | (go_at_call 67; refine (bRead_no h.out _).mono ?_; rintro e w1 ⟨rfl, hb1⟩; replace HB := chainC (by simp) HB hb1; clear hb1; (try clear hcA); have hcA := boxC HB))
  go_ret
  exact ⟨rfl, boxDone _ HB⟩
set_option maxHeartbeats 2000000 in
theorem bOp_no4 {pl bl pg cs ck rg pt sec spr thr b buf R D : Int} (h : Hid (¬ Valid pl bl pg cs ck rg pt sec spr thr b buf))  (w : World) : Calls Try.prog 73 #[.agg #[.int .i64 pl, .int .i64 bl, .int .i64 pg, .int .i64 cs, .int .i64 ck, .int .i64 rg, .int .i64 pt, .int .i64 sec, .int .i64 spr, .int .i64 thr, .int .i64 b, .int .i64 buf], .int .i64 4] w fun e w' => e = .returned (.int .i64 (0)) ∧ Below w.heap.size w w' := by
  have hwr : IntKind.i64.wrap (buf * 0) = 0 := by simp; decide
  have HB := Below.refl (w.heap.size + 1) (w.alloc (.cells #[.int .i64 pl, .int .i64 bl, .int .i64 pg, .int .i64 cs, .int .i64 ck, .int .i64 rg, .int .i64 pt, .int .i64 sec, .int .i64 spr, .int .i64 thr, .int .i64 b, .int .i64 buf] 106))
  go_enter Try.func73, Try.ntmps73
  go_wp2_with (first | (go_at_call 69; refine (bDrain_no h.out _).mono ?_; rintro e w1 ⟨rfl, hb1⟩; replace HB := chainC (by simp) HB hb1; clear hb1; (try clear hcA); have hcA := boxC HB) | (go_at_call 67; refine (bRead_no h.out _).mono ?_; rintro e w1 ⟨rfl, hb1⟩; replace HB := chainC (by simp) HB hb1; clear hb1; (try clear hcA); have hcA := boxC HB))
  go_region_held3 (fun w' => w'.cell? ⟨w.heap.size, 0, none⟩ = some (.int .i64 pl) ∧ w'.cell? ⟨w.heap.size, 1, none⟩ = some (.int .i64 bl) ∧ w'.cell? ⟨w.heap.size, 2, none⟩ = some (.int .i64 pg) ∧ w'.cell? ⟨w.heap.size, 3, none⟩ = some (.int .i64 cs) ∧ w'.cell? ⟨w.heap.size, 4, none⟩ = some (.int .i64 ck) ∧ w'.cell? ⟨w.heap.size, 5, none⟩ = some (.int .i64 rg) ∧ w'.cell? ⟨w.heap.size, 6, none⟩ = some (.int .i64 pt) ∧ w'.cell? ⟨w.heap.size, 7, none⟩ = some (.int .i64 sec) ∧ w'.cell? ⟨w.heap.size, 8, none⟩ = some (.int .i64 spr) ∧ w'.cell? ⟨w.heap.size, 9, none⟩ = some (.int .i64 thr) ∧ w'.cell? ⟨w.heap.size, 10, none⟩ = some (.int .i64 b) ∧ w'.cell? ⟨w.heap.size, 11, none⟩ = some (.int .i64 buf)) (go_keep) (first | (go_at_call 69; refine (bDrain_no h.out _).mono ?_; rintro e w1 ⟨rfl, hb1⟩; (first | replace HB := chainC (by simp) HB hb1 | replace HB := chainC (by simp) HB.drew hb1); clear hb1; (try clear hcA); have hcA := boxC HB))
  go_wp2
  go_ret
  exact ⟨rfl, boxDone _ HB⟩
set_option maxHeartbeats 2000000 in
theorem bOp_nox {pl bl pg cs ck rg pt sec spr thr b buf R D kind : Int} (h : Hid (¬ Valid pl bl pg cs ck rg pt sec spr thr b buf)) (k1 : (kind == 1) = false) (k2 : (kind == 2) = false) (k3 : (kind == 3) = false) (k4 : (kind == 4) = false) (w : World) : Calls Try.prog 73 #[.agg #[.int .i64 pl, .int .i64 bl, .int .i64 pg, .int .i64 cs, .int .i64 ck, .int .i64 rg, .int .i64 pt, .int .i64 sec, .int .i64 spr, .int .i64 thr, .int .i64 b, .int .i64 buf], .int .i64 kind] w fun e w' => e = .returned (.int .i64 (0)) ∧ Below w.heap.size w w' := by
  have HB := Below.refl (w.heap.size + 1) (w.alloc (.cells #[.int .i64 pl, .int .i64 bl, .int .i64 pg, .int .i64 cs, .int .i64 ck, .int .i64 rg, .int .i64 pt, .int .i64 sec, .int .i64 spr, .int .i64 thr, .int .i64 b, .int .i64 buf] 106))
  go_enter Try.func73, Try.ntmps73
  go_wp2_with (first | (go_at_call 69; refine (bDrain_no h.out _).mono ?_; rintro e w1 ⟨rfl, hb1⟩; replace HB := chainC (by simp) HB hb1; clear hb1; (try clear hcA); have hcA := boxC HB) | (go_at_call 67; refine (bRead_no h.out _).mono ?_; rintro e w1 ⟨rfl, hb1⟩; replace HB := chainC (by simp) HB hb1; clear hb1; (try clear hcA); have hcA := boxC HB))
  go_ret
  exact ⟨rfl, boxDone _ HB⟩
end Go.Proofs.Ytkcpohplgdndkaa
