import Derived.Test.YtkcpohplgdndkaaBoundS
namespace Go.Proofs.Ytkcpohplgdndkaa
open Go.RowKit Go.Proofs.Ytkcpohplgdndkaa.QB Go.Proofs.YtkcpohplgdndkaaW.PrintWords
set_option linter.unusedVariables false
theorem blkNew {g : Nat} (w : World) (o : Obj) (h : g = w.heap.size) : (w.alloc o).heap[g]? = some o := by
  subst h; show (w.heap.push o)[w.heap.size]? = some o; simp
/-- Behind a call over a world with one more block (and draws). -/
theorem blkCall {B : Nat} {a w w2 : World} {cs : Array Value} {t : TypeId} (hB : B ≤ a.heap.size) (HB : Below B a w) (hb : Below (w.alloc (.cells cs t)).heap.size (w.alloc (.cells cs t)) w2) : Below B a w2 ∧ w2.heap[w.heap.size]? = some (.cells cs t (0, 0)) :=
  ⟨(HB.alloc (Nat.le_trans hB HB.size) _).trans (hb.mono (Nat.le_trans (Nat.le_trans hB HB.size) (by simp))), (hb.block w.heap.size (by simp)).trans (blkNew w _ rfl)⟩
theorem awake37_ok (w : World) : Calls Try.prog 65 #[] w fun e w' => e = .returned (.bool true) ∧ Below w.heap.size w w' := by
  have hv : Valid 1 8 4 2 8 2 1 6 0 4 5 2 := by unfold Valid; decide +kernel
  have HV := Lib.hid hv
  clear hv
  have hx : (7 : Int) = 5 + 2 := rfl
  have HX := Lib.hid hx
  clear hx
  have HB := Below.refl w.heap.size w
  go_enter Try.func65, Try.ntmps65
  go_wp2_with (first | (go_at_call 100; refine (incunablelaw33_Plain.calls 1 8 4 2 8 2 1 6 0 4 5 2 _ rfl).mono ?_; rintro e w1 ⟨rfl, hb1⟩; replace HB := HB.trans (hb1.mono HB.size); clear hb1) | (go_at_call 66; refine (bReset_ok HV.out HX _).mono ?_; rintro e w1 ⟨rfl, hb1⟩; replace HB := HB.trans (hb1.mono HB.size); clear hb1))
  go_ret
  exact ⟨rfl, HB⟩

set_option maxHeartbeats 8000000 in
set_option maxRecDepth 100000 in
theorem bt_no {pl bl pg cs ck rg pt sec spr thr b buf n kind : Int} (h : ¬ Valid pl bl pg cs ck rg pt sec spr thr b buf) (w : World) : Calls Try.prog 14 #[.agg #[.int .i64 pl, .int .i64 bl, .int .i64 pg, .int .i64 cs, .int .i64 ck, .int .i64 rg, .int .i64 pt, .int .i64 sec, .int .i64 spr, .int .i64 thr, .int .i64 b, .int .i64 buf], .int .i64 n, .int .i64 kind] w fun e w' => e = .returned (.bool true) ∧ Below w.heap.size w w' := by
  have HV := Lib.hid h
  clear h
  have HB := Below.refl (w.heap.size + 1) (w.alloc (.cells #[.int .i64 pl, .int .i64 bl, .int .i64 pg, .int .i64 cs, .int .i64 ck, .int .i64 rg, .int .i64 pt, .int .i64 sec, .int .i64 spr, .int .i64 thr, .int .i64 b, .int .i64 buf] 106))
  go_enter Try.func14, Try.ntmps14
  go_wp2_with (first | (go_at_call 65; refine (awake37_ok _).mono ?_; rintro e w1 ⟨rfl, hb1⟩; replace HB := chainC (by simp) HB hb1; clear hb1; (try clear hcA); have hcA := boxC HB))
  go_region_held3 (fun w' => w'.cell? ⟨w.heap.size, 0, none⟩ = some (.int .i64 pl) ∧ w'.cell? ⟨w.heap.size, 1, none⟩ = some (.int .i64 bl) ∧ w'.cell? ⟨w.heap.size, 2, none⟩ = some (.int .i64 pg) ∧ w'.cell? ⟨w.heap.size, 3, none⟩ = some (.int .i64 cs) ∧ w'.cell? ⟨w.heap.size, 4, none⟩ = some (.int .i64 ck) ∧ w'.cell? ⟨w.heap.size, 5, none⟩ = some (.int .i64 rg) ∧ w'.cell? ⟨w.heap.size, 6, none⟩ = some (.int .i64 pt) ∧ w'.cell? ⟨w.heap.size, 7, none⟩ = some (.int .i64 sec) ∧ w'.cell? ⟨w.heap.size, 8, none⟩ = some (.int .i64 spr) ∧ w'.cell? ⟨w.heap.size, 9, none⟩ = some (.int .i64 thr) ∧ w'.cell? ⟨w.heap.size, 10, none⟩ = some (.int .i64 b) ∧ w'.cell? ⟨w.heap.size, 11, none⟩ = some (.int .i64 buf)) (go_keep) (first | (go_at_call 66; refine (bReset_no HV.out _).mono ?_; rintro e w1 ⟨rfl, hb1⟩; (first | replace HB := chainC (by simp) HB hb1 | replace HB := chainC (by simp) HB.drew hb1); clear hb1; (try clear hcA); have hcA := boxC HB) | (go_at_call 67; refine (bRead_no HV.out _).mono ?_; rintro e w1 ⟨rfl, hb1⟩; (first | replace HB := chainC (by simp) HB hb1 | replace HB := chainC (by simp) HB.drew hb1); clear hb1; (try clear hcA); have hcA := boxC HB) | (go_at_call 68; refine (bPut_no HV.out _).mono ?_; rintro e w1 ⟨rfl, hb1⟩; (first | replace HB := chainC (by simp) HB hb1 | replace HB := chainC (by simp) HB.drew hb1); clear hb1; (try clear hcA); have hcA := boxC HB) | (go_at_call 69; refine (bDrain_no HV.out _).mono ?_; rintro e w1 ⟨rfl, hb1⟩; (first | replace HB := chainC (by simp) HB hb1 | replace HB := chainC (by simp) HB.drew hb1); clear hb1; (try clear hcA); have hcA := boxC HB) | (go_at_call 70; refine (bMount_no HV.out _).mono ?_; rintro e w1 ⟨rfl, hb1⟩; (first | replace HB := chainC (by simp) HB hb1 | replace HB := chainC (by simp) HB.drew hb1); clear hb1; (try clear hcA); have hcA := boxC HB))
  go_wp2_with fail
  refine (scheck_no HV.out _).mono ?_
  rintro e w2 ⟨rfl, hb1⟩
  obtain ⟨HB2, hL⟩ := blkCall (by simp) HB (⟨hb1.os, hb1.tape, hb1.output, hb1.size, hb1.block⟩ : Below (w1.alloc (.cells #[.int .i64 0, .int .i64 0, .int .i64 0, .int .i64 0, .int .i64 0] 3)).heap.size (w1.alloc (.cells #[.int .i64 0, .int .i64 0, .int .i64 0, .int .i64 0, .int .i64 0] 3)) w2)
  clear HB hb1 hcA
  have q0 : w2.cell? ⟨w1.heap.size, 0, none⟩ = some (.int .i64 0) := (blk_cell hL 0).trans rfl
  have q1 : w2.cell? ⟨w1.heap.size, 1, none⟩ = some (.int .i64 0) := (blk_cell hL 1).trans rfl
  have q2 : w2.cell? ⟨w1.heap.size, 2, none⟩ = some (.int .i64 0) := (blk_cell hL 2).trans rfl
  have q3 : w2.cell? ⟨w1.heap.size, 3, none⟩ = some (.int .i64 0) := (blk_cell hL 3).trans rfl
  have q4 : w2.cell? ⟨w1.heap.size, 4, none⟩ = some (.int .i64 0) := (blk_cell hL 4).trans rfl
  have hcA := boxC HB2
  go_wp2_with fail
  go_loop [40] (fun i => ∃ k : Nat, k ≤ 5 ∧ i = .int .i64 k) (fun i => 5 - (intOf i).toNat)
  case atStart => exact ⟨0, by omega, rfl⟩
  case round =>
    obtain ⟨k, hk, rfl⟩ := hrel
    have hk5 : k = 0 ∨ k = 1 ∨ k = 2 ∨ k = 3 ∨ k = 4 ∨ k = 5 := by omega
    rcases hk5 with rfl | rfl | rfl | rfl | rfl | rfl
    · go_wp2
      go_round
      case rel => exact ⟨1, by omega, rfl⟩
      case measure => simp [intOf]
    · go_wp2
      go_round
      case rel => exact ⟨2, by omega, rfl⟩
      case measure => simp [intOf]
    · go_wp2
      go_round
      case rel => exact ⟨3, by omega, rfl⟩
      case measure => simp [intOf]
    · go_wp2
      go_round
      case rel => exact ⟨4, by omega, rfl⟩
      case measure => simp [intOf]
    · go_wp2
      go_round
      case rel => exact ⟨5, by omega, rfl⟩
      case measure => simp [intOf]
    · clear q0 q1 q2 q3 q4 hL
      have HB := HB2
      clear HB2
      go_wp2_with (first | (go_at_call 72; refine (bOrder_no HV.out _).mono ?_; rintro e w1 ⟨rfl, hb1⟩; replace HB := chainC (by simp) HB hb1; clear hb1; (try clear hcA); have hcA := boxC HB) | (go_at_call_of 73 (Value.int .i64 1); refine (bOp_no1 (R := 0) (D := 0) HV _).mono ?_; rintro e w1 ⟨rfl, hb1⟩; replace HB := chainC (by simp) HB hb1; clear hb1; (try clear hcA); have hcA := boxC HB) | (go_at_call_of 73 (Value.int .i64 3); refine (bOp_no3 (R := 0) (D := 0) HV _).mono ?_; rintro e w1 ⟨rfl, hb1⟩; replace HB := chainC (by simp) HB hb1; clear hb1; (try clear hcA); have hcA := boxC HB) | (go_at_call_of 73 (Value.int .i64 4); refine (bOp_no4 (R := 0) (D := 0) HV _).mono ?_; rintro e w1 ⟨rfl, hb1⟩; replace HB := chainC (by simp) HB hb1; clear hb1; (try clear hcA); have hcA := boxC HB))
      go_ret
      exact ⟨rfl, boxDone _ HB⟩

end Go.Proofs.Ytkcpohplgdndkaa
