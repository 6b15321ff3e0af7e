import Derived.Test.YtkcpohplgdndkaaGeom0
import Derived.Test.YtkcpohplgdndkaaBits
import Derived.Deep.QuietTactic
import Derived.BigQuiet
namespace Go.Proofs.Ytkcpohplgdndkaa
open Go.RowKit

theorem check_ok {pl bl pg cs ck rg pt : Int} (h : Right pl bl pg cs ck rg pt) (w : World) :
    Calls Try.prog 18 #[.agg #[.int .i64 pl, .int .i64 bl, .int .i64 pg, .int .i64 cs, .int .i64 ck, .int .i64 rg, .int .i64 pt]] w fun e w' => e = .returned (.int .i64 0) ∧ Below w.heap.size w w' :=
  (check_any pl bl pg cs ck rg pt w).mono fun _ _ ⟨he, hb⟩ => ⟨by rw [he, chk_ok h], hb⟩
theorem check_no {pl bl pg cs ck rg pt : Int} (h : ¬ Right pl bl pg cs ck rg pt) (w : World) :
    Calls Try.prog 18 #[.agg #[.int .i64 pl, .int .i64 bl, .int .i64 pg, .int .i64 cs, .int .i64 ck, .int .i64 rg, .int .i64 pt]] w fun e w' => e = .returned (.int .i64 2) ∧ Below w.heap.size w w' :=
  (check_any pl bl pg cs ck rg pt w).mono fun _ _ ⟨he, hb⟩ => ⟨by rw [he, chk_no h], hb⟩

theorem within_yes (n m : Int) (h0 : 0 ≤ n) (h1 : n < m) (w : World) : Calls Try.prog 80 #[.int .i64 n, .int .i64 m] w fun e w' => e = .returned (.bool true) ∧ w = w' := by
  go_enter Try.func80, Try.ntmps80
  go_wp2
  go_ret
  exact ⟨rfl, rfl⟩
theorem within_no (n m : Int) (h : ¬ (0 ≤ n ∧ n < m)) (w : World) : Calls Try.prog 80 #[.int .i64 n, .int .i64 m] w fun e w' => e = .returned (.bool false) ∧ w = w' := by
  by_cases c : 0 ≤ n
  · have c2 : ¬ n < m := fun h2 => h ⟨c, h2⟩
    clear h
    go_enter Try.func80, Try.ntmps80
    go_wp2
    go_ret
    exact ⟨rfl, rfl⟩
  · clear h
    have c2 : n < 0 := by omega
    clear c
    go_enter Try.func80, Try.ntmps80
    go_wp2
    go_ret
    exact ⟨rfl, rfl⟩

theorem chain1 {w : World} (o : Obj) {w1 : World} (h : Below (w.heap.size + 1) (w.alloc o) w1) : Below w.heap.size w w1 :=
  ((Below.refl _ _).alloc (Nat.le_refl _) _).trans (h.mono (by omega))
theorem chain1' {w : World} (o : Obj) {w1 : World} (h : Below (w.alloc o).heap.size (w.alloc o) w1) : Below w.heap.size w w1 := chain1 o (by simpa using h)




theorem b_drewN {B : Nat} {w W : World} (h : Below B w W) (n : Nat) : Below B w (W.drewN n) := ⟨h.os, h.tape, h.output, h.size, h.block⟩

set_option maxHeartbeats 800000 in
theorem data_ok {pl bl pg cs ck rg pt : Int}  (h : Right pl bl pg cs ck rg pt) (w : World) :
    Calls Try.prog 29 #[.agg #[.int .i64 pl, .int .i64 bl, .int .i64 pg, .int .i64 cs, .int .i64 ck, .int .i64 rg, .int .i64 pt]] w fun e w' => e = .returned (.int .i64 (cs * ck)) ∧ Below w.heap.size w w' := by
  obtain ⟨⟨a1, a2⟩, ⟨b1, b2⟩, ⟨c1, c2⟩, ⟨d1, d2⟩, ⟨e1, e2⟩, ⟨f1, f2⟩, ⟨g1, g2⟩, h1, h2⟩ := id h
  have HH := Lib.hid h
  clear h h1 h2
  have hm : 0 ≤ cs * ck ∧ cs * ck ≤ 8192 := ⟨Int.mul_nonneg (by omega) (by omega), Int.le_trans (Int.mul_le_mul_of_nonneg_right d2 (by omega)) (by omega)⟩
  obtain ⟨m1, m2⟩ := hm
  go_enter Try.func29, Try.ntmps29
  go_wp2_with (first | (go_at_call 18; refine (check_ok HH.out _).mono ?_; rintro e w1 ⟨rfl, hb1⟩; obtain ⟨hc1, hf1⟩ := bcell hb1) )
  go_ret
  exact ⟨rfl, chain1' _ hb1⟩
set_option maxHeartbeats 800000 in
theorem data_no {pl bl pg cs ck rg pt : Int}  (h : ¬ Right pl bl pg cs ck rg pt) (w : World) :
    Calls Try.prog 29 #[.agg #[.int .i64 pl, .int .i64 bl, .int .i64 pg, .int .i64 cs, .int .i64 ck, .int .i64 rg, .int .i64 pt]] w fun e w' => e = .returned (.int .i64 0) ∧ Below w.heap.size w w' := by
  have HH := Lib.hid h
  clear h
  go_enter Try.func29, Try.ntmps29
  go_wp2_with (first | (go_at_call 18; refine (check_no HH.out _).mono ?_; rintro e w1 ⟨rfl, hb1⟩))
  go_ret
  exact ⟨rfl, chain1' _ hb1⟩
set_option maxHeartbeats 800000 in
theorem raw_ok {pl bl pg cs ck rg pt : Int}  (h : Right pl bl pg cs ck rg pt) (w : World) :
    Calls Try.prog 30 #[.agg #[.int .i64 pl, .int .i64 bl, .int .i64 pg, .int .i64 cs, .int .i64 ck, .int .i64 rg, .int .i64 pt]] w fun e w' => e = .returned (.int .i64 (cs * (ck + 2) + 31)) ∧ Below w.heap.size w w' := by
  obtain ⟨⟨a1, a2⟩, ⟨b1, b2⟩, ⟨c1, c2⟩, ⟨d1, d2⟩, ⟨e1, e2⟩, ⟨f1, f2⟩, ⟨g1, g2⟩, h1, h2⟩ := id h
  have HH := Lib.hid h
  clear h h1 h2
  have hm : 0 ≤ cs * (ck + 2) ∧ cs * (ck + 2) ≤ 8224 := ⟨Int.mul_nonneg (by omega) (by omega), Int.le_trans (Int.mul_le_mul_of_nonneg_right d2 (by omega)) (by omega)⟩
  obtain ⟨m1, m2⟩ := hm
  go_enter Try.func30, Try.ntmps30
  go_wp2_with (first | (go_at_call 18; refine (check_ok HH.out _).mono ?_; rintro e w1 ⟨rfl, hb1⟩; obtain ⟨hc1, hf1⟩ := bcell hb1) )
  go_ret
  exact ⟨ret_int (by omega), chain1' _ hb1⟩
set_option maxHeartbeats 800000 in
theorem raw_no {pl bl pg cs ck rg pt : Int}  (h : ¬ Right pl bl pg cs ck rg pt) (w : World) :
    Calls Try.prog 30 #[.agg #[.int .i64 pl, .int .i64 bl, .int .i64 pg, .int .i64 cs, .int .i64 ck, .int .i64 rg, .int .i64 pt]] w fun e w' => e = .returned (.int .i64 0) ∧ Below w.heap.size w w' := by
  have HH := Lib.hid h
  clear h
  go_enter Try.func30, Try.ntmps30
  go_wp2_with (first | (go_at_call 18; refine (check_no HH.out _).mono ?_; rintro e w1 ⟨rfl, hb1⟩))
  go_ret
  exact ⟨rfl, chain1' _ hb1⟩
set_option maxHeartbeats 800000 in
theorem row_ok {pl bl pg cs ck rg pt : Int} {b p : Int} (h : Right pl bl pg cs ck rg pt) (hb0 : 0 ≤ b) (hb1 : b < bl) (hp0 : 0 ≤ p) (hp1 : p < pg) (w : World) :
    Calls Try.prog 19 #[.agg #[.int .i64 pl, .int .i64 bl, .int .i64 pg, .int .i64 cs, .int .i64 ck, .int .i64 rg, .int .i64 pt], .int .i64 b, .int .i64 p] w fun e w' => e = .returned (.tuple #[.int .i64 (b * pg + p), .bool true]) ∧ Below w.heap.size w w' := by
  obtain ⟨⟨a1, a2⟩, ⟨b1, b2⟩, ⟨c1, c2⟩, ⟨d1, d2⟩, ⟨e1, e2⟩, ⟨f1, f2⟩, ⟨g1, g2⟩, h1, h2⟩ := id h
  have HH := Lib.hid h
  clear h h1 h2
  have hm : 0 ≤ b * pg ∧ b * pg ≤ 16384 := ⟨Int.mul_nonneg (by omega) (by omega), Int.le_trans (Int.mul_le_mul_of_nonneg_right (by omega : b ≤ 256) (by omega)) (by omega)⟩
  obtain ⟨m1, m2⟩ := hm
  go_enter Try.func19, Try.ntmps19
  go_wp2_with (first | (go_at_call 18; refine (check_ok HH.out _).mono ?_; rintro e w1 ⟨rfl, hb1⟩; obtain ⟨hc1, hf1⟩ := bcell hb1) | (go_at_call 80; refine (within_yes _ _ (by omega) (by omega) _).mono ?_; rintro e w2 ⟨rfl, rfl⟩))
  go_ret2
  exact ⟨rfl, chain1' _ hb1⟩
set_option maxHeartbeats 800000 in
theorem row_no1 {pl bl pg cs ck rg pt : Int} {b p : Int} (h : ¬ Right pl bl pg cs ck rg pt) (w : World) :
    Calls Try.prog 19 #[.agg #[.int .i64 pl, .int .i64 bl, .int .i64 pg, .int .i64 cs, .int .i64 ck, .int .i64 rg, .int .i64 pt], .int .i64 b, .int .i64 p] w fun e w' => e = .returned (.tuple #[.int .i64 0, .bool false]) ∧ Below w.heap.size w w' := by
  have HH := Lib.hid h
  clear h
  go_enter Try.func19, Try.ntmps19
  go_wp2_with (first | (go_at_call 18; refine (check_no HH.out _).mono ?_; rintro e w1 ⟨rfl, hb1⟩))
  go_ret2
  exact ⟨rfl, chain1' _ hb1⟩
set_option maxHeartbeats 800000 in
theorem row_no2 {pl bl pg cs ck rg pt : Int} {b p : Int} (h : Right pl bl pg cs ck rg pt) (hb : ¬ (0 ≤ b ∧ b < bl)) (w : World) :
    Calls Try.prog 19 #[.agg #[.int .i64 pl, .int .i64 bl, .int .i64 pg, .int .i64 cs, .int .i64 ck, .int .i64 rg, .int .i64 pt], .int .i64 b, .int .i64 p] w fun e w' => e = .returned (.tuple #[.int .i64 0, .bool false]) ∧ Below w.heap.size w w' := by
  obtain ⟨⟨a1, a2⟩, ⟨b1, b2⟩, ⟨c1, c2⟩, ⟨d1, d2⟩, ⟨e1, e2⟩, ⟨f1, f2⟩, ⟨g1, g2⟩, h1, h2⟩ := id h
  have HH := Lib.hid h
  clear h h1 h2
  have HB := Lib.hid hb
  clear hb
  go_enter Try.func19, Try.ntmps19
  go_wp2_with (first | (go_at_call 18; refine (check_ok HH.out _).mono ?_; rintro e w1 ⟨rfl, hb1⟩; obtain ⟨hc1, hf1⟩ := bcell hb1) | (go_at_call 80; refine (within_no _ _ HB.out _).mono ?_; rintro e w2 ⟨rfl, rfl⟩))
  go_ret2
  exact ⟨rfl, chain1' _ hb1⟩
set_option maxHeartbeats 800000 in
theorem row_no3 {pl bl pg cs ck rg pt : Int} {b p : Int} (h : Right pl bl pg cs ck rg pt) (hb0 : 0 ≤ b) (hb1 : b < bl) (hb : ¬ (0 ≤ p ∧ p < pg)) (w : World) :
    Calls Try.prog 19 #[.agg #[.int .i64 pl, .int .i64 bl, .int .i64 pg, .int .i64 cs, .int .i64 ck, .int .i64 rg, .int .i64 pt], .int .i64 b, .int .i64 p] w fun e w' => e = .returned (.tuple #[.int .i64 0, .bool false]) ∧ Below w.heap.size w w' := by
  obtain ⟨⟨a1, a2⟩, ⟨b1, b2⟩, ⟨c1, c2⟩, ⟨d1, d2⟩, ⟨e1, e2⟩, ⟨f1, f2⟩, ⟨g1, g2⟩, h1, h2⟩ := id h
  have HH := Lib.hid h
  clear h h1 h2
  have HB := Lib.hid hb
  clear hb
  go_enter Try.func19, Try.ntmps19
  go_wp2_with (first | (go_at_call 18; refine (check_ok HH.out _).mono ?_; rintro e w1 ⟨rfl, hb1⟩; obtain ⟨hc1, hf1⟩ := bcell hb1) | (go_at_call 80; refine (within_yes b bl (by omega) (by omega) _).mono ?_; rintro e w2 ⟨rfl, rfl⟩; go_wp2_with (go_at_call 80; refine (within_no p pg HB.out _).mono ?_; rintro e w3 ⟨rfl, rfl⟩)))
  go_ret2
  exact ⟨rfl, chain1' _ hb1⟩
set_option maxHeartbeats 800000 in
theorem split_ok {pl bl pg cs ck rg pt : Int} {r : Int} (h : Right pl bl pg cs ck rg pt) (hb0 : 0 ≤ r) (hb1 : r < bl * pg) (w : World) :
    Calls Try.prog 20 #[.agg #[.int .i64 pl, .int .i64 bl, .int .i64 pg, .int .i64 cs, .int .i64 ck, .int .i64 rg, .int .i64 pt], .int .i64 r] w fun e w' => e = .returned (.tuple #[.int .i64 (r / pg), .int .i64 (r % pg), .bool true]) ∧ Below w.heap.size w w' := by
  obtain ⟨⟨a1, a2⟩, ⟨b1, b2⟩, ⟨c1, c2⟩, ⟨d1, d2⟩, ⟨e1, e2⟩, ⟨f1, f2⟩, ⟨g1, g2⟩, h1, h2⟩ := id h
  have HH := Lib.hid h
  clear h h1 h2
  have hm : 4 ≤ bl * pg ∧ bl * pg ≤ 16384 := ⟨by have := Int.mul_le_mul b1 c1 (by omega) (by omega); omega, Int.le_trans (Int.mul_le_mul_of_nonneg_right b2 (by omega)) (by omega)⟩
  obtain ⟨m1, m2⟩ := hm
  go_enter Try.func20, Try.ntmps20
  go_wp2_with (first | (go_at_call 18; refine (check_ok HH.out _).mono ?_; rintro e w1 ⟨rfl, hb1⟩; obtain ⟨hc1, hf1⟩ := bcell hb1) | (go_at_call 80; refine (within_yes _ _ (by omega) (by omega) _).mono ?_; rintro e w2 ⟨rfl, rfl⟩))
  go_quiet (fail)
  go_wp2
  go_ret3
  exact ⟨rfl, b_drewN (chain1' _ hb1) _⟩
set_option maxHeartbeats 800000 in
theorem split_no1 {pl bl pg cs ck rg pt : Int} {r : Int} (h : ¬ Right pl bl pg cs ck rg pt) (w : World) :
    Calls Try.prog 20 #[.agg #[.int .i64 pl, .int .i64 bl, .int .i64 pg, .int .i64 cs, .int .i64 ck, .int .i64 rg, .int .i64 pt], .int .i64 r] w fun e w' => e = .returned (.tuple #[.int .i64 0, .int .i64 0, .bool false]) ∧ Below w.heap.size w w' := by
  have HH := Lib.hid h
  clear h
  go_enter Try.func20, Try.ntmps20
  go_wp2_with (first | (go_at_call 18; refine (check_no HH.out _).mono ?_; rintro e w1 ⟨rfl, hb1⟩))
  go_ret3
  exact ⟨rfl, chain1' _ hb1⟩
set_option maxHeartbeats 800000 in
theorem split_no2 {pl bl pg cs ck rg pt : Int} {r : Int} (h : Right pl bl pg cs ck rg pt) (hb : ¬ (0 ≤ r ∧ r < bl * pg)) (w : World) :
    Calls Try.prog 20 #[.agg #[.int .i64 pl, .int .i64 bl, .int .i64 pg, .int .i64 cs, .int .i64 ck, .int .i64 rg, .int .i64 pt], .int .i64 r] w fun e w' => e = .returned (.tuple #[.int .i64 0, .int .i64 0, .bool false]) ∧ Below w.heap.size w w' := by
  obtain ⟨⟨a1, a2⟩, ⟨b1, b2⟩, ⟨c1, c2⟩, ⟨d1, d2⟩, ⟨e1, e2⟩, ⟨f1, f2⟩, ⟨g1, g2⟩, h1, h2⟩ := id h
  have HH := Lib.hid h
  clear h h1 h2
  have hm : 4 ≤ bl * pg ∧ bl * pg ≤ 16384 := ⟨by have := Int.mul_le_mul b1 c1 (by omega) (by omega); omega, Int.le_trans (Int.mul_le_mul_of_nonneg_right b2 (by omega)) (by omega)⟩
  obtain ⟨m1, m2⟩ := hm
  have HB := Lib.hid hb
  clear hb
  go_enter Try.func20, Try.ntmps20
  go_wp2_with (first | (go_at_call 18; refine (check_ok HH.out _).mono ?_; rintro e w1 ⟨rfl, hb1⟩; obtain ⟨hc1, hf1⟩ := bcell hb1) | (go_at_call 80; refine (within_no _ _ HB.out _).mono ?_; rintro e w2 ⟨rfl, rfl⟩))
  go_ret3
  exact ⟨rfl, chain1' _ hb1⟩
set_option maxHeartbeats 800000 in
theorem plane_ok {pl bl pg cs ck rg pt : Int} {b : Int} (h : Right pl bl pg cs ck rg pt) (hb0 : 0 ≤ b) (hb1 : b < bl) (w : World) :
    Calls Try.prog 28 #[.agg #[.int .i64 pl, .int .i64 bl, .int .i64 pg, .int .i64 cs, .int .i64 ck, .int .i64 rg, .int .i64 pt], .int .i64 b] w fun e w' => e = .returned (.tuple #[.int .i64 (b % pl), .bool true]) ∧ Below w.heap.size w w' := by
  obtain ⟨⟨a1, a2⟩, ⟨b1, b2⟩, ⟨c1, c2⟩, ⟨d1, d2⟩, ⟨e1, e2⟩, ⟨f1, f2⟩, ⟨g1, g2⟩, h1, h2⟩ := id h
  have HH := Lib.hid h
  clear h h1 h2
  go_enter Try.func28, Try.ntmps28
  go_wp2_with (first | (go_at_call 18; refine (check_ok HH.out _).mono ?_; rintro e w1 ⟨rfl, hb1⟩; obtain ⟨hc1, hf1⟩ := bcell hb1) | (go_at_call 80; refine (within_yes _ _ (by omega) (by omega) _).mono ?_; rintro e w2 ⟨rfl, rfl⟩))
  go_ret2
  exact ⟨rfl, chain1' _ hb1⟩
set_option maxHeartbeats 800000 in
theorem plane_no1 {pl bl pg cs ck rg pt : Int} {b : Int} (h : ¬ Right pl bl pg cs ck rg pt) (w : World) :
    Calls Try.prog 28 #[.agg #[.int .i64 pl, .int .i64 bl, .int .i64 pg, .int .i64 cs, .int .i64 ck, .int .i64 rg, .int .i64 pt], .int .i64 b] w fun e w' => e = .returned (.tuple #[.int .i64 0, .bool false]) ∧ Below w.heap.size w w' := by
  have HH := Lib.hid h
  clear h
  go_enter Try.func28, Try.ntmps28
  go_wp2_with (first | (go_at_call 18; refine (check_no HH.out _).mono ?_; rintro e w1 ⟨rfl, hb1⟩))
  go_ret2
  exact ⟨rfl, chain1' _ hb1⟩
set_option maxHeartbeats 800000 in
theorem plane_no2 {pl bl pg cs ck rg pt : Int} {b : Int} (h : Right pl bl pg cs ck rg pt) (hb : ¬ (0 ≤ b ∧ b < bl)) (w : World) :
    Calls Try.prog 28 #[.agg #[.int .i64 pl, .int .i64 bl, .int .i64 pg, .int .i64 cs, .int .i64 ck, .int .i64 rg, .int .i64 pt], .int .i64 b] w fun e w' => e = .returned (.tuple #[.int .i64 0, .bool false]) ∧ Below w.heap.size w w' := by
  obtain ⟨⟨a1, a2⟩, ⟨b1, b2⟩, ⟨c1, c2⟩, ⟨d1, d2⟩, ⟨e1, e2⟩, ⟨f1, f2⟩, ⟨g1, g2⟩, h1, h2⟩ := id h
  have HH := Lib.hid h
  clear h h1 h2
  have HB := Lib.hid hb
  clear hb
  go_enter Try.func28, Try.ntmps28
  go_wp2_with (first | (go_at_call 18; refine (check_ok HH.out _).mono ?_; rintro e w1 ⟨rfl, hb1⟩; obtain ⟨hc1, hf1⟩ := bcell hb1) | (go_at_call 80; refine (within_no _ _ HB.out _).mono ?_; rintro e w2 ⟨rfl, rfl⟩))
  go_ret2
  exact ⟨rfl, chain1' _ hb1⟩
end Go.Proofs.Ytkcpohplgdndkaa
