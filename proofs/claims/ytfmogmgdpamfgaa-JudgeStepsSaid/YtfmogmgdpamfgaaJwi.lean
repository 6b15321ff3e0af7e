import Derived.Test.YtfmogmgdpamfgaaJwh
import Derived.Test.YtfmogmgdpamfgaaQKx1
namespace Go.Proofs.Ytfmogmgdpamfgaa.Jd
open Go.RowKit Go.Proofs.Ytfmogmgdpamfgaa.QK Go.Proofs.YtfmogmgdpamfgaaW.PrintWords Go.Proofs.YtfmogmgdpamfgaaW.PrintLast Go.Proofs.YtfmogmgdpamfgaaW.PrintMore
set_option linter.unusedVariables false
set_option linter.unusedSimpArgs false
def gP : Ge := ⟨1, 2, 4, 1, 4, 1, 1⟩
theorem gP_ok : gP.ok := by unfold Ge.ok gP; decide
theorem gP_two : takeN gP (newP gP) [(1, 255), (1, 112)] = 2 := by decide +kernel
theorem gP_one : takeN gP (newP gP) [(1, 112)] = 0 := by decide +kernel
theorem cy_two {W : World} {b : Nat} {x y : Int × Int} (h : W.heap[b]? = some (.cells #[.int .i64 x.1, .int .u8 x.2, .int .i64 y.1, .int .u8 y.2] 33 (0, 0))) : Kd.C kCy W (some ⟨b, 0, none⟩) 2 [x, y] := by
  refine ⟨rfl, by decide, fun _ => ⟨⟨b, 0, none⟩, rfl, fun j p hp => ?_⟩⟩
  match j, hp with
  | 0, hp =>
    obtain rfl := Option.some.inj hp
    refine ⟨[.int .i64 x.1, .int .u8 x.2], rfl, ⟨[_], [_], rfl, rfl, rfl⟩, fun i u hu => ?_⟩
    match i, hu with
    | 0, hu => obtain rfl := Option.some.inj hu; exact blk_cell h 0
    | 1, hu => obtain rfl := Option.some.inj hu; exact blk_cell h 1
    | i + 2, hu => simp at hu
  | 1, hp =>
    obtain rfl := Option.some.inj hp
    refine ⟨[.int .i64 y.1, .int .u8 y.2], rfl, ⟨[_], [_], rfl, rfl, rfl⟩, fun i u hu => ?_⟩
    match i, hu with
    | 0, hu => obtain rfl := Option.some.inj hu; exact blk_cell h 2
    | 1, hu => obtain rfl := Option.some.inj hu; exact blk_cell h 3
    | i + 2, hu => simp at hu
  | j + 2, hp => simp at hp
theorem cy_one {W : World} {b : Nat} {x : Int × Int} (h : W.heap[b]? = some (.cells #[.int .i64 x.1, .int .u8 x.2] 33 (0, 0))) : Kd.C kCy W (some ⟨b, 0, none⟩) 1 [x] := by
  refine ⟨rfl, by decide, fun _ => ⟨⟨b, 0, none⟩, rfl, fun j p hp => ?_⟩⟩
  match j, hp with
  | 0, hp =>
    obtain rfl := Option.some.inj hp
    refine ⟨[.int .i64 x.1, .int .u8 x.2], rfl, ⟨[_], [_], rfl, rfl, rfl⟩, fun i u hu => ?_⟩
    match i, hu with
    | 0, hu => obtain rfl := Option.some.inj hu; exact blk_cell h 0
    | 1, hu => obtain rfl := Option.some.inj hu; exact blk_cell h 1
    | i + 2, hu => simp at hu
  | j + 1, hp => simp at hp
theorem plain_ok (w : World) : Calls Try.prog 53 #[] w fun e w' => e = .returned (.agg #[.int .i64 1, .int .i64 2, .int .i64 4, .int .i64 1, .int .i64 4, .int .i64 1, .int .i64 1]) ∧ Below w.heap.size w w' :=
  (incunablelaw15_plain.calls 1 2 4 1 4 1 1 w rfl).mono fun _ _ h => h
set_option maxHeartbeats 4000000 in
set_option maxRecDepth 100000 in
theorem awake_ok (w : World) : Calls Try.prog 11 #[] w fun e w' => e = .returned (.bool true) ∧ Below w.heap.size w w' := by
  have r2 : ∀ W : World, Calls Try.prog 19 #[.agg #[.int .i64 1, .int .i64 2, .int .i64 4, .int .i64 1, .int .i64 4, .int .i64 1, .int .i64 1], .slice (some ⟨W.heap.size, 0, none⟩) 2 2] (W.alloc (.cells #[.int .i64 1, .int .u8 255, .int .i64 1, .int .u8 112] 33)) fun e w' => e = .returned (.tuple #[.int .i64 2, .bool true]) ∧ Below W.heap.size W w' := fun W => by
    have h := run_ok (g := gP) gP_ok (some ⟨W.heap.size, 0, none⟩) 2 [(1, 255), (1, 112)] (W.alloc (.cells #[.int .i64 1, .int .u8 255, .int .i64 1, .int .u8 112] 33)) (by decide) (by decide) (cy_two (blk_new W _)) (by decide)
    rw [gP_two] at h
    refine h.mono ?_
    rintro e w' ⟨rfl, hb⟩
    exact ⟨rfl, chainC (Nat.le_refl _) (alloc_below W _) hb⟩
  have r1 : ∀ W : World, Calls Try.prog 19 #[.agg #[.int .i64 1, .int .i64 2, .int .i64 4, .int .i64 1, .int .i64 4, .int .i64 1, .int .i64 1], .slice (some ⟨W.heap.size, 0, none⟩) 1 1] (W.alloc (.cells #[.int .i64 1, .int .u8 112] 33)) fun e w' => e = .returned (.tuple #[.int .i64 0, .bool false]) ∧ Below W.heap.size W w' := fun W => by
    have h := run_ok (g := gP) gP_ok (some ⟨W.heap.size, 0, none⟩) 1 [(1, 112)] (W.alloc (.cells #[.int .i64 1, .int .u8 112] 33)) (by decide) (by decide) (cy_one (blk_new W _)) (by decide)
    rw [gP_one] at h
    refine h.mono ?_
    rintro e w' ⟨rfl, hb⟩
    exact ⟨rfl, chainC (Nat.le_refl _) (alloc_below W _) hb⟩
  have R2 := Lib.hid r2
  have R1 := Lib.hid r1
  clear r1 r2
  go_enter Try.func11, Try.ntmps11
  go_upto_region 2 with (first | (go_at_call 53; refine (plain_ok _).mono ?_; rintro e w1 ⟨rfl, hb1⟩; have HB1 := Lib.hid hb1; clear hb1) | (go_at_call 19; (refine (R2.out _).mono ?_; rintro e w2 ⟨rfl, hb2⟩; have HB2 := Lib.hid (chainC (Nat.le_refl _) HB1.out hb2); clear hb2)))
  go_wp2_with (first | (go_at_call 53; refine (plain_ok _).mono ?_; rintro e w3 ⟨rfl, hb1⟩; have HB3 := Lib.hid (chainC (Nat.le_refl _) HB2.out hb1); clear hb1) | (go_at_call 19; (refine (R1.out _).mono ?_; rintro e w4 ⟨rfl, hb2⟩; have HB4 := Lib.hid (chainC (Nat.le_refl _) HB3.out hb2); clear hb2)))
  go_ret
  exact ⟨rfl, HB4.out⟩
end Go.Proofs.Ytfmogmgdpamfgaa.Jd
