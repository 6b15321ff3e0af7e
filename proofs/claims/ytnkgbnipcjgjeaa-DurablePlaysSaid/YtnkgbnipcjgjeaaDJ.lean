import Derived.Test.YtnkgbnipcjgjeaaDI
namespace Go.Proofs.Ytnkgbnipcjgjeaa
open Go.RowKit Go.Shelf Go.Sort Go.Lib Go.Proofs.YtnkgbnipcjgjeaaW.PrintWords Go.Proofs.YtnkgbnipcjgjeaaW.PrintLast Go.Proofs.YtnkgbnipcjgjeaaW.PrintMore
set_option linter.unusedVariables false
theorem okI0 : okI 0 := okI_of (by omega) (by omega)
theorem c_b1 (w : World) (x : Int) : kB.C (w.alloc (.cells #[.int .u8 x] 5)) (some ⟨w.heap.size, 0, none⟩) [x].length [x] := c_one1 (enc := Value.int .u8) (h1 := fun _ => rfl) (blk_new w _)
theorem isB1 {x : Int} (h0 : 0 ≤ x) (h1 : x < 256) : isB [x] := fun y hy => by rw [List.mem_singleton.1 hy]; exact ⟨h0, h1⟩
theorem alloc_below (w : World) (o : Obj) : Below w.heap.size w (w.alloc o) := (Below.refl _ _).alloc (Nat.le_refl _) o
set_option maxHeartbeats 4000000 in
set_option maxRecDepth 100000 in
theorem dawake_ok (w : World) : Calls Try.prog 53 #[] w fun e w' => e = .returned (.bool true) ∧ Below w.heap.size w w' := by
  go_enter Try.func53, Try.ntmps53
  go_wp2_with fail
  refine (dnew_ok 1 1 _ (by omega) (by omega) (by omega) (by omega)).mono ?_
  rintro e w1 ⟨⟨g, b, rfl, hr, hgs, hbs⟩, hb1⟩
  have HB := Lib.hid hb1
  have HBS := Lib.hid hbs
  have hW := dwrite_ok 0 [1] (some ⟨w1.heap.size, 0, none⟩) 1 (hr.below (alloc_below w1 (.cells #[.int .u8 1] 5))) okI0 (c_b1 w1 1) (Nat.le_refl _) (isB1 (by omega) (by omega)) (by omega) rfl (by decide)
  have HW := Lib.hid hW
  have HBA := Lib.hid (chainC (Nat.le_refl _) hb1 (alloc_below w1 (.cells #[.int .u8 1] 5)))
  clear hr hgs hbs hb1 hW
  go_wp2_with fail
  refine (HW.out).mono ?_
  rintro e w2 ⟨rfl, hr2, hm2⟩
  rw [show mput ([] : Rec) 0 (ofV [] 1 0 ++ [[1]]) = [(0, [[0], [1]])] from rfl] at hr2
  have HB2 := Lib.hid (Mods.toBelow HBA.out hm2 HBA.out.size (fun i e => by rw [e]; exact HBS.out))
  have HF := Lib.hid (dflush_ok hr2 (by omega) (by decide))
  clear hr2 hm2
  go_wp2_with fail
  refine (HF.out).mono ?_
  rintro e w3 ⟨rfl, hr3, hm3⟩
  rw [show flL [(0, [[0], [1]])] = [(0, [[1]])] from rfl] at hr3
  have HB3 := Lib.hid (Mods.toBelow HB2.out hm3 HB2.out.size (fun i e => by rw [e]; exact HBS.out))
  have hW4 := dwrite_ok 0 [2] (some ⟨w3.heap.size, 0, none⟩) 1 (hr3.below (alloc_below w3 (.cells #[.int .u8 2] 5))) okI0 (c_b1 w3 2) (Nat.le_refl _) (isB1 (by omega) (by omega)) (by omega) rfl (by decide)
  have HW4 := Lib.hid hW4
  have HBA4 := Lib.hid (chainC (Nat.le_refl _) HB3.out (alloc_below w3 (.cells #[.int .u8 2] 5)))
  clear hr3 hm3 hW4
  go_wp2_with fail
  refine (HW4.out).mono ?_
  rintro e w4 ⟨rfl, hr4, hm4⟩
  rw [show mput ([(0, [[1]])] : Rec) 0 (ofV [(0, [[1]])] 1 0 ++ [[2]]) = [(0, [[1], [2]])] from rfl] at hr4
  have HB4 := Lib.hid (Mods.toBelow HBA4.out hm4 HBA4.out.size (fun i e => by rw [e]; exact HBS.out))
  have hM5 := dmay_ok 0 [1] (some ⟨w4.heap.size, 0, none⟩) 1 (hr4.below (alloc_below w4 (.cells #[.int .u8 1] 5))) okI0 (c_b1 w4 1) (Nat.le_refl _) (isB1 (by omega) (by omega)) (by decide)
  rw [decide_eq_true (by decide)] at hM5
  have HM5 := Lib.hid hM5
  have HR4 := Lib.hid hr4
  clear hr4 hm4 hM5
  go_wp2_with fail
  refine (HM5.out).mono ?_
  rintro e w5 ⟨rfl, hb5⟩
  have hb5' := chainC (Nat.le_refl _) (alloc_below w4 (.cells #[.int .u8 1] 5)) hb5
  have hr5 := HR4.out.below hb5'
  have HB5 := Lib.hid (chainC (Nat.le_refl _) HB4.out hb5')
  have hM6 := dmay_ok 0 [2] (some ⟨w5.heap.size, 0, none⟩) 1 (hr5.below (alloc_below w5 (.cells #[.int .u8 2] 5))) okI0 (c_b1 w5 2) (Nat.le_refl _) (isB1 (by omega) (by omega)) (by decide)
  rw [decide_eq_true (by decide)] at hM6
  have HM6 := Lib.hid hM6
  have HR5 := Lib.hid hr5
  clear hr5 hb5 hb5' hM6
  go_wp2_with fail
  refine (HM6.out).mono ?_
  rintro e w6 ⟨rfl, hb6⟩
  have hb6' := chainC (Nat.le_refl _) (alloc_below w5 (.cells #[.int .u8 2] 5)) hb6
  have hr6 := HR5.out.below hb6'
  have HB6 := Lib.hid (chainC (Nat.le_refl _) HB5.out hb6')
  have hM7 := dmay_ok 0 [0] (some ⟨w6.heap.size, 0, none⟩) 1 (hr6.below (alloc_below w6 (.cells #[.int .u8 0] 5))) okI0 (c_b1 w6 0) (Nat.le_refl _) (isB1 (by omega) (by omega)) (by decide)
  rw [decide_eq_false (by decide)] at hM7
  have HM7 := Lib.hid hM7
  have HR6 := Lib.hid hr6
  clear hr6 hb6 hb6' hM7
  go_wp2_with fail
  refine (HM7.out).mono ?_
  rintro e w7 ⟨rfl, hb7⟩
  have hb7' := chainC (Nat.le_refl _) (alloc_below w6 (.cells #[.int .u8 0] 5)) hb7
  have hr7 := HR6.out.below hb7'
  have HB7 := Lib.hid (chainC (Nat.le_refl _) HB6.out hb7')
  have hO := dopen_ok hr7 (by omega) (by decide)
  rw [show openN [(0, [[1], [2]])] = 1 from rfl] at hO
  have HO := Lib.hid hO
  clear hr7 hb7 hb7' hO
  go_wp2_with fail
  refine (HO.out).mono ?_
  rintro e w8 ⟨rfl, hb8⟩
  have HB8 := Lib.hid (chainC (Nat.le_refl _) HB7.out hb8)
  clear hb8
  go_wp2_with fail
  go_ret
  exact ⟨rfl, HB8.out⟩
end Go.Proofs.Ytnkgbnipcjgjeaa
