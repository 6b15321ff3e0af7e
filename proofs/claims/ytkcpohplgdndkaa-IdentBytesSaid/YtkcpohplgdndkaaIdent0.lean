import Derived.Test.YtkcpohplgdndkaaWalkGeomRows
import Derived.Test.YtkcpohplgdndkaaPureGeomPairs
import Derived.Deep.RegionHeld3
namespace Go.Proofs.Ytkcpohplgdndkaa
open Go.RowKit Go.Proofs.Ytkcpohplgdndkaa.QG Go.Proofs.YtkcpohplgdndkaaW.PrintWords
set_option linter.unusedVariables false

set_option maxHeartbeats 2000000 in
set_option maxRecDepth 100000 in
theorem fields_any (g : Nat) (w : World) : Calls Try.prog 83 #[.pointer (some ⟨g, 0, none⟩)] w fun e w' => e = .returned (.agg #[.pointer (some ⟨g, 0, none⟩), .pointer (some ⟨g, 1, none⟩), .pointer (some ⟨g, 2, none⟩), .pointer (some ⟨g, 3, none⟩), .pointer (some ⟨g, 4, none⟩), .pointer (some ⟨g, 5, none⟩), .pointer (some ⟨g, 6, none⟩)]) ∧ Below w.heap.size w w' := by
  go_enter Try.func83, Try.ntmps83
  go_wp2
  go_region
  go_wp2
  exact bodyPost_ret (v := .agg #[.pointer (some ⟨g, 0, none⟩), .pointer (some ⟨g, 1, none⟩), .pointer (some ⟨g, 2, none⟩), .pointer (some ⟨g, 3, none⟩), .pointer (some ⟨g, 4, none⟩), .pointer (some ⟨g, 5, none⟩), .pointer (some ⟨g, 6, none⟩)]) (by simp [results, Try.results83, go_sem]) rfl ⟨rfl, ((Below.refl _ _).alloc (Nat.le_refl _) _).drew⟩
theorem address_ok (k : Int) (w : World) : Calls Try.prog 25 #[.int .i64 k] w fun e w' => ∃ A c, e = .returned (.slice A 2 c) ∧ 2 ≤ c ∧ Kd.C (Kd.int .u8) w' A 2 [k % 256, k / 256 % 256] ∧ Below w.heap.size w w' := by
  refine (geom_Address.calls k [k % 256, k / 256 % 256] w rfl).mono ?_
  rintro e w' ⟨v, rfl, hR, hb⟩
  obtain ⟨A, c, rfl, hl, hC⟩ := Kd.R_reads hR
  exact ⟨A, c, rfl, hl, hC, hb⟩
def gbytes (pl bl pg cs ck rg pt : Int) : List Int := [pl % 256, pl / 256 % 256, bl % 256, bl / 256 % 256, pg % 256, pg / 256 % 256, cs % 256, cs / 256 % 256, ck % 256, ck / 256 % 256, rg % 256, rg / 256 % 256, pt % 256, pt / 256 % 256]
theorem info5 : (Try.prog.info? 5).map (fun i => (i.zero, i.size, i.bytes)) = some (some (.int .u8 0), 1, 1) := by kernel_rfl

set_option maxHeartbeats 4000000 in
set_option maxRecDepth 100000 in
theorem put_ok {pl bl pg cs ck rg pt : Int} (h : Right pl bl pg cs ck rg pt) (w : World) :
    Calls Try.prog 33 #[.agg #[.int .i64 pl, .int .i64 bl, .int .i64 pg, .int .i64 cs, .int .i64 ck, .int .i64 rg, .int .i64 pt]] w fun e w' => ∃ A c, e = .returned (.tuple #[.slice A 14 c, .int .i64 0]) ∧ 14 ≤ c ∧ Kd.C (Kd.int .u8) w' A 14 (gbytes pl bl pg cs ck rg pt) ∧ Below w.heap.size w w' := by
  have HH := Lib.hid h
  clear h
  have i0 : ∀ W : World, (Instr.index 121 (.agg #[.pointer (some ⟨w.heap.size, 0, none⟩), .pointer (some ⟨w.heap.size, 1, none⟩), .pointer (some ⟨w.heap.size, 2, none⟩), .pointer (some ⟨w.heap.size, 3, none⟩), .pointer (some ⟨w.heap.size, 4, none⟩), .pointer (some ⟨w.heap.size, 5, none⟩), .pointer (some ⟨w.heap.size, 6, none⟩)]) (.int .i64 0)).run Try.prog W = .ok (.pointer (some ⟨w.heap.size, 0, none⟩)) W := fun _ => by kernel_rfl
  have i1 : ∀ W : World, (Instr.index 121 (.agg #[.pointer (some ⟨w.heap.size, 0, none⟩), .pointer (some ⟨w.heap.size, 1, none⟩), .pointer (some ⟨w.heap.size, 2, none⟩), .pointer (some ⟨w.heap.size, 3, none⟩), .pointer (some ⟨w.heap.size, 4, none⟩), .pointer (some ⟨w.heap.size, 5, none⟩), .pointer (some ⟨w.heap.size, 6, none⟩)]) (.int .i64 1)).run Try.prog W = .ok (.pointer (some ⟨w.heap.size, 1, none⟩)) W := fun _ => by kernel_rfl
  have i2 : ∀ W : World, (Instr.index 121 (.agg #[.pointer (some ⟨w.heap.size, 0, none⟩), .pointer (some ⟨w.heap.size, 1, none⟩), .pointer (some ⟨w.heap.size, 2, none⟩), .pointer (some ⟨w.heap.size, 3, none⟩), .pointer (some ⟨w.heap.size, 4, none⟩), .pointer (some ⟨w.heap.size, 5, none⟩), .pointer (some ⟨w.heap.size, 6, none⟩)]) (.int .i64 2)).run Try.prog W = .ok (.pointer (some ⟨w.heap.size, 2, none⟩)) W := fun _ => by kernel_rfl
  have i3 : ∀ W : World, (Instr.index 121 (.agg #[.pointer (some ⟨w.heap.size, 0, none⟩), .pointer (some ⟨w.heap.size, 1, none⟩), .pointer (some ⟨w.heap.size, 2, none⟩), .pointer (some ⟨w.heap.size, 3, none⟩), .pointer (some ⟨w.heap.size, 4, none⟩), .pointer (some ⟨w.heap.size, 5, none⟩), .pointer (some ⟨w.heap.size, 6, none⟩)]) (.int .i64 3)).run Try.prog W = .ok (.pointer (some ⟨w.heap.size, 3, none⟩)) W := fun _ => by kernel_rfl
  have i4 : ∀ W : World, (Instr.index 121 (.agg #[.pointer (some ⟨w.heap.size, 0, none⟩), .pointer (some ⟨w.heap.size, 1, none⟩), .pointer (some ⟨w.heap.size, 2, none⟩), .pointer (some ⟨w.heap.size, 3, none⟩), .pointer (some ⟨w.heap.size, 4, none⟩), .pointer (some ⟨w.heap.size, 5, none⟩), .pointer (some ⟨w.heap.size, 6, none⟩)]) (.int .i64 4)).run Try.prog W = .ok (.pointer (some ⟨w.heap.size, 4, none⟩)) W := fun _ => by kernel_rfl
  have i5 : ∀ W : World, (Instr.index 121 (.agg #[.pointer (some ⟨w.heap.size, 0, none⟩), .pointer (some ⟨w.heap.size, 1, none⟩), .pointer (some ⟨w.heap.size, 2, none⟩), .pointer (some ⟨w.heap.size, 3, none⟩), .pointer (some ⟨w.heap.size, 4, none⟩), .pointer (some ⟨w.heap.size, 5, none⟩), .pointer (some ⟨w.heap.size, 6, none⟩)]) (.int .i64 5)).run Try.prog W = .ok (.pointer (some ⟨w.heap.size, 5, none⟩)) W := fun _ => by kernel_rfl
  have i6 : ∀ W : World, (Instr.index 121 (.agg #[.pointer (some ⟨w.heap.size, 0, none⟩), .pointer (some ⟨w.heap.size, 1, none⟩), .pointer (some ⟨w.heap.size, 2, none⟩), .pointer (some ⟨w.heap.size, 3, none⟩), .pointer (some ⟨w.heap.size, 4, none⟩), .pointer (some ⟨w.heap.size, 5, none⟩), .pointer (some ⟨w.heap.size, 6, none⟩)]) (.int .i64 6)).run Try.prog W = .ok (.pointer (some ⟨w.heap.size, 6, none⟩)) W := fun _ => by kernel_rfl
  have HB := Below.refl (w.heap.size + 1) (w.alloc (.cells #[.int .i64 pl, .int .i64 bl, .int .i64 pg, .int .i64 cs, .int .i64 ck, .int .i64 rg, .int .i64 pt] 23))
  go_enter Try.func33, Try.ntmps33
  go_wp2_with (first | (go_at_call 18; refine (check_ok HH.out _).mono ?_; rintro e w1 ⟨rfl, hb1⟩; replace HB := chainB (by simp) HB hb1; clear hb1; (try clear hcA); have hcA := boxes1 HB) | (go_at_call 83; refine (fields_any _ _).mono ?_; rintro e w1 ⟨rfl, hb1⟩; replace HB := chainB (by simp) HB hb1; clear hb1; (try clear hcA); have hcA := boxes1 HB))
  go_loopw [11, 4] (fun i v wr => ∃ (k : Nat) (xs : List Int), k ≤ 7 ∧ i = .int .i64 k ∧ xs.length ≤ 2 * k ∧ Hid (xs = (gbytes pl bl pg cs ck rg pt).take (2 * k)) ∧ wr.ownsRow (w.heap.size + 1) 5 1 v xs.length (nums .u8 xs) ∧ Below (w.heap.size + 1) (w.alloc (.cells #[.int .i64 pl, .int .i64 bl, .int .i64 pg, .int .i64 cs, .int .i64 ck, .int .i64 rg, .int .i64 pt] 23)) wr) (fun i _ _ => 7 - (intOf i).toNat)
  case atStart => exact ⟨0, [], by omega, rfl, by simp, Lib.hid rfl, own_nil _ _ _ _, HB⟩
  case round =>
    clear HB hcA
    obtain ⟨k, xs, hk, rfl, hx, HX, hown, HB⟩ := hrel
    have hcA := boxes1 HB
    have hk7 : k = 0 ∨ k = 1 ∨ k = 2 ∨ k = 3 ∨ k = 4 ∨ k = 5 ∨ k = 6 ∨ k = 7 := by omega
    rcases hk7 with rfl | rfl | rfl | rfl | rfl | rfl | rfl | rfl
    · go_wp2_with (first | (go_at_call 25; refine (address_ok _ _).mono ?_; rintro e w1 ⟨A, c, rfl, hl, hC, hb1⟩; replace hown := pw_own_below hown hb1; replace HB := chainB (by simp) HB hb1; clear hb1; (try clear hcA); have hcA := boxes1 HB) | (at_builtin; refine print_append_row (w0 := (w.alloc (.cells #[.int .i64 pl, .int .i64 bl, .int .i64 pg, .int .i64 cs, .int .i64 ck, .int .i64 rg, .int .i64 pt] 23))) (w.heap.size + 1) rfl _ _ 33 5 .u8 1 rfl Try.underlying33 info5 (by decide) _ xs _ A 2 c rfl rfl hown (Kd.reads_of_C (d := (0 : Int)) (h1 := fun _ => rfl) hC) HB (by have := HB.size; simpa using this) (by omega) ?_; intro v1 w2 hown2 hb2 hg2 hat2))
      go_roundw
      case rel => exact ⟨1, _, by omega, rfl, by rw [List.length_append]; show xs.length + 2 ≤ _; omega, Lib.hid (by rw [HX.out]; rfl), hown2, hb2⟩
      case measure => simp [intOf]
    · go_wp2_with (first | (go_at_call 25; refine (address_ok _ _).mono ?_; rintro e w1 ⟨A, c, rfl, hl, hC, hb1⟩; replace hown := pw_own_below hown hb1; replace HB := chainB (by simp) HB hb1; clear hb1; (try clear hcA); have hcA := boxes1 HB) | (at_builtin; refine print_append_row (w0 := (w.alloc (.cells #[.int .i64 pl, .int .i64 bl, .int .i64 pg, .int .i64 cs, .int .i64 ck, .int .i64 rg, .int .i64 pt] 23))) (w.heap.size + 1) rfl _ _ 33 5 .u8 1 rfl Try.underlying33 info5 (by decide) _ xs _ A 2 c rfl rfl hown (Kd.reads_of_C (d := (0 : Int)) (h1 := fun _ => rfl) hC) HB (by have := HB.size; simpa using this) (by omega) ?_; intro v1 w2 hown2 hb2 hg2 hat2))
      go_roundw
      case rel => exact ⟨2, _, by omega, rfl, by rw [List.length_append]; show xs.length + 2 ≤ _; omega, Lib.hid (by rw [HX.out]; rfl), hown2, hb2⟩
      case measure => simp [intOf]
    · go_wp2_with (first | (go_at_call 25; refine (address_ok _ _).mono ?_; rintro e w1 ⟨A, c, rfl, hl, hC, hb1⟩; replace hown := pw_own_below hown hb1; replace HB := chainB (by simp) HB hb1; clear hb1; (try clear hcA); have hcA := boxes1 HB) | (at_builtin; refine print_append_row (w0 := (w.alloc (.cells #[.int .i64 pl, .int .i64 bl, .int .i64 pg, .int .i64 cs, .int .i64 ck, .int .i64 rg, .int .i64 pt] 23))) (w.heap.size + 1) rfl _ _ 33 5 .u8 1 rfl Try.underlying33 info5 (by decide) _ xs _ A 2 c rfl rfl hown (Kd.reads_of_C (d := (0 : Int)) (h1 := fun _ => rfl) hC) HB (by have := HB.size; simpa using this) (by omega) ?_; intro v1 w2 hown2 hb2 hg2 hat2))
      go_roundw
      case rel => exact ⟨3, _, by omega, rfl, by rw [List.length_append]; show xs.length + 2 ≤ _; omega, Lib.hid (by rw [HX.out]; rfl), hown2, hb2⟩
      case measure => simp [intOf]
    · go_wp2_with (first | (go_at_call 25; refine (address_ok _ _).mono ?_; rintro e w1 ⟨A, c, rfl, hl, hC, hb1⟩; replace hown := pw_own_below hown hb1; replace HB := chainB (by simp) HB hb1; clear hb1; (try clear hcA); have hcA := boxes1 HB) | (at_builtin; refine print_append_row (w0 := (w.alloc (.cells #[.int .i64 pl, .int .i64 bl, .int .i64 pg, .int .i64 cs, .int .i64 ck, .int .i64 rg, .int .i64 pt] 23))) (w.heap.size + 1) rfl _ _ 33 5 .u8 1 rfl Try.underlying33 info5 (by decide) _ xs _ A 2 c rfl rfl hown (Kd.reads_of_C (d := (0 : Int)) (h1 := fun _ => rfl) hC) HB (by have := HB.size; simpa using this) (by omega) ?_; intro v1 w2 hown2 hb2 hg2 hat2))
      go_roundw
      case rel => exact ⟨4, _, by omega, rfl, by rw [List.length_append]; show xs.length + 2 ≤ _; omega, Lib.hid (by rw [HX.out]; rfl), hown2, hb2⟩
      case measure => simp [intOf]
    · go_wp2_with (first | (go_at_call 25; refine (address_ok _ _).mono ?_; rintro e w1 ⟨A, c, rfl, hl, hC, hb1⟩; replace hown := pw_own_below hown hb1; replace HB := chainB (by simp) HB hb1; clear hb1; (try clear hcA); have hcA := boxes1 HB) | (at_builtin; refine print_append_row (w0 := (w.alloc (.cells #[.int .i64 pl, .int .i64 bl, .int .i64 pg, .int .i64 cs, .int .i64 ck, .int .i64 rg, .int .i64 pt] 23))) (w.heap.size + 1) rfl _ _ 33 5 .u8 1 rfl Try.underlying33 info5 (by decide) _ xs _ A 2 c rfl rfl hown (Kd.reads_of_C (d := (0 : Int)) (h1 := fun _ => rfl) hC) HB (by have := HB.size; simpa using this) (by omega) ?_; intro v1 w2 hown2 hb2 hg2 hat2))
      go_roundw
      case rel => exact ⟨5, _, by omega, rfl, by rw [List.length_append]; show xs.length + 2 ≤ _; omega, Lib.hid (by rw [HX.out]; rfl), hown2, hb2⟩
      case measure => simp [intOf]
    · go_wp2_with (first | (go_at_call 25; refine (address_ok _ _).mono ?_; rintro e w1 ⟨A, c, rfl, hl, hC, hb1⟩; replace hown := pw_own_below hown hb1; replace HB := chainB (by simp) HB hb1; clear hb1; (try clear hcA); have hcA := boxes1 HB) | (at_builtin; refine print_append_row (w0 := (w.alloc (.cells #[.int .i64 pl, .int .i64 bl, .int .i64 pg, .int .i64 cs, .int .i64 ck, .int .i64 rg, .int .i64 pt] 23))) (w.heap.size + 1) rfl _ _ 33 5 .u8 1 rfl Try.underlying33 info5 (by decide) _ xs _ A 2 c rfl rfl hown (Kd.reads_of_C (d := (0 : Int)) (h1 := fun _ => rfl) hC) HB (by have := HB.size; simpa using this) (by omega) ?_; intro v1 w2 hown2 hb2 hg2 hat2))
      go_roundw
      case rel => exact ⟨6, _, by omega, rfl, by rw [List.length_append]; show xs.length + 2 ≤ _; omega, Lib.hid (by rw [HX.out]; rfl), hown2, hb2⟩
      case measure => simp [intOf]
    · go_wp2_with (first | (go_at_call 25; refine (address_ok _ _).mono ?_; rintro e w1 ⟨A, c, rfl, hl, hC, hb1⟩; replace hown := pw_own_below hown hb1; replace HB := chainB (by simp) HB hb1; clear hb1; (try clear hcA); have hcA := boxes1 HB) | (at_builtin; refine print_append_row (w0 := (w.alloc (.cells #[.int .i64 pl, .int .i64 bl, .int .i64 pg, .int .i64 cs, .int .i64 ck, .int .i64 rg, .int .i64 pt] 23))) (w.heap.size + 1) rfl _ _ 33 5 .u8 1 rfl Try.underlying33 info5 (by decide) _ xs _ A 2 c rfl rfl hown (Kd.reads_of_C (d := (0 : Int)) (h1 := fun _ => rfl) hC) HB (by have := HB.size; simpa using this) (by omega) ?_; intro v1 w2 hown2 hb2 hg2 hat2))
      go_roundw
      case rel => exact ⟨7, _, by omega, rfl, by rw [List.length_append]; show xs.length + 2 ≤ _; omega, Lib.hid (by rw [HX.out]; rfl), hown2, hb2⟩
      case measure => simp [intOf]
    · obtain ⟨v, hv⟩ : ∃ v, v = u4 := ⟨_, rfl⟩
      have hx14 : xs = gbytes pl bl pg cs ck rg pt := by rw [HX.out]; rfl
      have hR : (Kd.int .u8).R 5 wr (w.heap.size + 1) (fun _ => True) u4 (gbytes pl bl pg cs ck rg pt) := by
        rw [← hx14]; exact Kd.R_of_own hown (fun _ _ => trivial)
      obtain ⟨A, c, he, hl, hC⟩ := Kd.R_reads hR
      clear hv hx14 hown HX
      subst he
      go_wp2
      go_ret2
      exact ⟨A, c, rfl, hl, hC, chain1 _ HB⟩
end Go.Proofs.Ytkcpohplgdndkaa
