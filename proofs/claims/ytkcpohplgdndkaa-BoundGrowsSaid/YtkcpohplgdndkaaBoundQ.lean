import Derived.Test.YtkcpohplgdndkaaBoundP
namespace Go.Proofs.Ytkcpohplgdndkaa
open Go.RowKit Go.Proofs.Ytkcpohplgdndkaa.QB Go.Proofs.YtkcpohplgdndkaaW.PrintWords
set_option linter.unusedVariables false
structure Okay (pl bl pg rg b buf raw : Int) : Prop where
  pl1 : 1 ≤ pl
  pl2 : pl ≤ 4
  bl1 : 2 ≤ bl
  bl2 : bl ≤ 256
  pg1 : 4 ≤ pg
  pg2 : pg ≤ 64
  rg1 : 1 ≤ rg
  rg2 : rg ≤ 8
  b1 : 1 ≤ b
  b2 : b ≤ 65536
  f1 : 1 ≤ buf
  f2 : buf ≤ 64
  r1 : 0 ≤ raw
  r2 : raw ≤ 8255
theorem mul_le2 {x y X Y : Int} (hx0 : 0 ≤ x) (hx : x ≤ X) (hy0 : 0 ≤ y) (hy : y ≤ Y) : 0 ≤ x * y ∧ x * y ≤ X * Y :=
  ⟨Int.mul_nonneg hx0 hy0, Int.mul_le_mul hx hy hy0 (by omega)⟩
theorem ord_bd {b n : Int} (b1 : 1 ≤ b) (b2 : b ≤ 65536) (n0 : 0 ≤ n) (n1 : n ≤ 16777216) : 0 ≤ ord b n ∧ ord b n ≤ n + 196613 := by unfold ord; omega
theorem rdv_bd {pl bl pg rg b buf raw : Int} (h : Okay pl bl pg rg b buf raw) : 0 ≤ rdv rg b raw ∧ rdv rg b raw ≤ 4000000 := by
  obtain ⟨pl1, pl2, bl1, bl2, pg1, pg2, rg1, rg2, b1, b2, f1, f2, r1, r2⟩ := h
  have o := ord_bd (n := 6) b1 b2 (by omega) (by omega)
  have m := mul_le2 (x := rg) (X := 8) (y := ord b 6 + ord b 6 + raw + 1 + (b + 2)) (Y := 500000) (by omega) rg2 (by omega) (by omega)
  unfold rdv; omega
theorem svv_bd {pl bl pg rg b buf raw : Int} (h : Okay pl bl pg rg b buf raw) : 0 ≤ svv pl b raw ∧ svv pl b raw ≤ 2000000 := by
  obtain ⟨pl1, pl2, bl1, bl2, pg1, pg2, rg1, rg2, b1, b2, f1, f2, r1, r2⟩ := h
  have o := ord_bd (n := 4) b1 b2 (by omega) (by omega)
  have o2 := ord_bd (n := raw + 6) b1 b2 (by omega) (by omega)
  have m := mul_le2 (x := pl) (X := 4) (y := ord b 4 + ord b (raw + 6)) (Y := 500000) (by omega) pl2 (by omega) (by omega)
  unfold svv; omega
theorem ptv_bd {pl bl pg rg b buf raw : Int} (h : Okay pl bl pg rg b buf raw) : 0 ≤ ptv pl bl b raw ∧ ptv pl bl b raw ≤ 1285000000 := by
  have s := svv_bd h
  obtain ⟨pl1, pl2, bl1, bl2, pg1, pg2, rg1, rg2, b1, b2, f1, f2, r1, r2⟩ := h
  have o := ord_bd (n := 4) b1 b2 (by omega) (by omega)
  have o2 := ord_bd (n := raw + 6) b1 b2 (by omega) (by omega)
  have m := mul_le2 (x := bl + 1) (X := 257) (y := ord b 4 + 2 * ord b (raw + 6) + 2 * svv pl b raw) (Y := 5000000) (by omega) (by omega) (by omega) (by omega)
  unfold ptv; omega
theorem clv_bd {pl bl pg rg b buf raw : Int} (h : Okay pl bl pg rg b buf raw) : 0 ≤ clv pl bl pg rg b raw ∧ clv pl bl pg rg b raw ≤ 83200000000 := by
  have s := rdv_bd h
  have t := ptv_bd h
  obtain ⟨pl1, pl2, bl1, bl2, pg1, pg2, rg1, rg2, b1, b2, f1, f2, r1, r2⟩ := h
  have m := mul_le2 (x := pg) (X := 64) (y := rdv rg b raw + ptv pl bl b raw) (Y := 1300000000) (by omega) pg2 (by omega) (by omega)
  unfold clv; omega
theorem drv_bd {pl bl pg rg b buf raw : Int} (h : Okay pl bl pg rg b buf raw) : 0 ≤ drv pl bl pg rg b raw ∧ drv pl bl pg rg b raw ≤ 200000000000000 ∧ 0 ≤ (8 * bl + 8) * clv pl bl pg rg b raw ∧ (8 * bl + 8) * clv pl bl pg rg b raw ≤ 180000000000000 := by
  have s := clv_bd h
  have t := ptv_bd h
  obtain ⟨pl1, pl2, bl1, bl2, pg1, pg2, rg1, rg2, b1, b2, f1, f2, r1, r2⟩ := h
  have m := mul_le2 (x := 8 * bl + 8) (X := 2056) (y := clv pl bl pg rg b raw) (Y := 83200000000) (by omega) (by omega) (by omega) (by omega)
  unfold drv; omega
theorem mtv_bd {pl bl pg rg b buf raw : Int} (h : Okay pl bl pg rg b buf raw) : 0 ≤ mtv pl bl pg rg b raw ∧ mtv pl bl pg rg b raw ≤ 100000000000 ∧ 0 ≤ bl * pg ∧ bl * pg ≤ 16384 ∧ 0 ≤ (bl * pg + bl + pl) * rdv rg b raw ∧ (bl * pg + bl + pl) * rdv rg b raw ≤ 70000000000 := by
  have s := rdv_bd h
  have t := svv_bd h
  obtain ⟨pl1, pl2, bl1, bl2, pg1, pg2, rg1, rg2, b1, b2, f1, f2, r1, r2⟩ := h
  have m1 := mul_le2 (x := bl) (X := 256) (y := pg) (Y := 64) (by omega) (by omega) (by omega) (by omega)
  have m := mul_le2 (x := bl * pg + bl + pl) (X := 17000) (y := rdv rg b raw) (Y := 4000000) (by omega) (by omega) (by omega) (by omega)
  unfold mtv; omega
theorem nn4 {a b c d : Int} (h0 : 0 ≤ a) (h1 : 0 ≤ b) (h2 : 0 ≤ c) (h3 : 0 ≤ d) : ∀ x ∈ [a, b, c, d], 0 ≤ x := by
  intro x hx
  simp only [List.mem_cons, List.not_mem_nil, or_false] at hx
  rcases hx with rfl | rfl | rfl | rfl <;> assumption
theorem nn2 {a b : Int} (h0 : 0 ≤ a) (h1 : 0 ≤ b) : ∀ x ∈ [a, b], 0 ≤ x := by
  intro x hx
  simp only [List.mem_cons, List.not_mem_nil, or_false] at hx
  rcases hx with rfl | rfl <;> assumption
theorem nn3 {a b c : Int} (h0 : 0 ≤ a) (h1 : 0 ≤ b) (h2 : 0 ≤ c) : ∀ x ∈ [a, b, c], 0 ≤ x := by
  intro x hx
  simp only [List.mem_cons, List.not_mem_nil, or_false] at hx
  rcases hx with rfl | rfl | rfl <;> assumption
theorem nn5 {a b c d e : Int} (h0 : 0 ≤ a) (h1 : 0 ≤ b) (h2 : 0 ≤ c) (h3 : 0 ≤ d) (h4 : 0 ≤ e) : ∀ x ∈ [a, b, c, d, e], 0 ≤ x := by
  intro x hx
  simp only [List.mem_cons, List.not_mem_nil, or_false] at hx
  rcases hx with rfl | rfl | rfl | rfl | rfl <;> assumption
theorem order_f {pl bl pg cs ck rg pt sec spr thr b buf raw : Int} (k : Nat) (hk : 10 ≤ k) (b1 : 1 ≤ b) (b2 : b ≤ 65536) {n : Int} (n0 : 0 ≤ n) (n1 : n ≤ 16777216) : bound_sizes_order.f k pl bl pg cs ck rg pt sec spr thr b buf raw n = some (ord b n) := by
  unfold bound_sizes_order.f bound_sizes_reset.f
  simp only [Option.bind_some]
  rw [QG.w64 (b + 2) (by omega) (by omega), QG.w64 (2 * (b + 2)) (by omega) (by omega), sum_f k _ (by simp) (by simp; omega) (nn4 n0 (by omega) (by omega) (by omega)) (by simp; omega)]
  simp only [Option.bind_some, List.sum_cons, List.sum_nil]
  unfold ord; congr 1; omega
theorem read_f {pl bl pg cs ck rg pt sec spr thr b buf raw : Int} (h : Okay pl bl pg rg b buf raw) (k : Nat) (hk : 10 ≤ k) : bound_sizes_read.f k pl bl pg cs ck rg pt sec spr thr b buf raw = some (rdv rg b raw) := by
  have q := rdv_bd h
  obtain ⟨pl1, pl2, bl1, bl2, pg1, pg2, rg1, rg2, b1, b2, f1, f2, r1, r2⟩ := h
  have o := ord_bd (n := 6) b1 b2 (by omega) (by omega)
  unfold bound_sizes_read.f
  rw [order_f k hk b1 b2 (by omega) (by omega)]
  unfold bound_sizes_reset.f
  simp only [Option.bind_some]
  rw [QG.w64 (b + 2) (by omega) (by omega), sum_f k _ (by simp) (by simp; omega) (nn5 o.1 o.1 r1 (by omega) (by omega)) (by simp; omega)]
  simp only [Option.bind_some, List.sum_cons, List.sum_nil]
  have e : ord b 6 + (ord b 6 + (raw + (1 + (b + 2 + 0)))) = ord b 6 + ord b 6 + raw + 1 + (b + 2) := by omega
  rw [e]
  show some (wrap64 (rdv rg b raw)) = _
  rw [QG.w64 _ (by omega) (by omega)]
theorem save_f {pl bl pg cs ck rg pt sec spr thr b buf raw : Int} (h : Okay pl bl pg rg b buf raw) (k : Nat) (hk : 10 ≤ k) : bound_sizes_save.f k pl bl pg cs ck rg pt sec spr thr b buf raw = some (svv pl b raw) := by
  have q := svv_bd h
  obtain ⟨pl1, pl2, bl1, bl2, pg1, pg2, rg1, rg2, b1, b2, f1, f2, r1, r2⟩ := h
  have o := ord_bd (n := 4) b1 b2 (by omega) (by omega)
  have o2 := ord_bd (n := raw + 6) b1 b2 (by omega) (by omega)
  unfold bound_sizes_save.f
  rw [QG.w64 (raw + 6) (by omega) (by omega), order_f k hk b1 b2 (by omega) (by omega), order_f k hk b1 b2 (by omega) (by omega)]
  simp only [Option.bind_some]
  rw [sum_f k _ (by simp) (by simp; omega) (nn2 o.1 o2.1) (by simp; omega)]
  simp only [Option.bind_some, List.sum_cons, List.sum_nil, Int.add_zero]
  show some (wrap64 (svv pl b raw)) = _
  rw [QG.w64 _ (by omega) (by omega)]
theorem put_f {pl bl pg cs ck rg pt sec spr thr b buf raw : Int} (h : Okay pl bl pg rg b buf raw) (k : Nat) (hk : 10 ≤ k) : bound_sizes_put.f k pl bl pg cs ck rg pt sec spr thr b buf raw = some (ptv pl bl b raw) := by
  have q := ptv_bd h
  have s := svv_bd h
  have hs := @save_f pl bl pg cs ck rg pt sec spr thr b buf raw h k hk
  obtain ⟨pl1, pl2, bl1, bl2, pg1, pg2, rg1, rg2, b1, b2, f1, f2, r1, r2⟩ := h
  have o := ord_bd (n := 4) b1 b2 (by omega) (by omega)
  have o2 := ord_bd (n := raw + 6) b1 b2 (by omega) (by omega)
  unfold bound_sizes_put.f
  rw [QG.w64 (raw + 6) (by omega) (by omega), order_f k hk b1 b2 (by omega) (by omega), order_f k hk b1 b2 (by omega) (by omega), hs]
  simp only [Option.bind_some]
  rw [QG.w64 (2 * ord b (raw + 6)) (by omega) (by omega), QG.w64 (2 * svv pl b raw) (by omega) (by omega), sum_f k _ (by simp) (by simp; omega) (nn3 o.1 (by omega) (by omega)) (by simp; omega)]
  simp only [Option.bind_some, List.sum_cons, List.sum_nil]
  have e : ord b 4 + (2 * ord b (raw + 6) + (2 * svv pl b raw + 0)) = ord b 4 + 2 * ord b (raw + 6) + 2 * svv pl b raw := by omega
  rw [e, QG.w64 (bl + 1) (by omega) (by omega)]
  show some (wrap64 (ptv pl bl b raw)) = _
  rw [QG.w64 _ (by omega) (by omega)]
theorem collect_f {pl bl pg cs ck rg pt sec spr thr b buf raw : Int} (h : Okay pl bl pg rg b buf raw) (k : Nat) (hk : 10 ≤ k) : bound_sizes_collect.f k pl bl pg cs ck rg pt sec spr thr b buf raw = some (clv pl bl pg rg b raw) := by
  have q := clv_bd h
  have q1 := rdv_bd h
  have q2 := ptv_bd h
  unfold bound_sizes_collect.f
  rw [read_f h k hk, put_f h k hk]
  simp only [Option.bind_some]
  rw [sum_f k _ (by simp) (by simp; omega) (nn2 q1.1 q2.1) (by simp; omega)]
  simp only [Option.bind_some, List.sum_cons, List.sum_nil, Int.add_zero]
  show some (wrap64 (clv pl bl pg rg b raw)) = _
  rw [QG.w64 _ (by omega) (by omega)]
theorem drain_f {pl bl pg cs ck rg pt sec spr thr b buf raw : Int} (hv : Valid pl bl pg cs ck rg pt sec spr thr b buf) (h : Okay pl bl pg rg b buf raw) (k : Nat) (hk : 10 ≤ k) : bound_sizes_drain.f k pl bl pg cs ck rg pt sec spr thr b buf raw = some (drv pl bl pg rg b raw) := by
  have q := drv_bd h
  have q2 := ptv_bd h
  have hc := @collect_f pl bl pg cs ck rg pt sec spr thr b buf raw h k hk
  have hp := @put_f pl bl pg cs ck rg pt sec spr thr b buf raw h k hk
  obtain ⟨pl1, pl2, bl1, bl2, pg1, pg2, rg1, rg2, b1, b2, f1, f2, r1, r2⟩ := h
  unfold bound_sizes_drain.f store_Rounds.f
  rw [hv, hc, hp]
  simp only [Option.bind_some, if_true]
  rw [QG.w64 (8 * bl) (by omega) (by omega), QG.w64 (8 * bl + 8) (by omega) (by omega), QG.w64 ((8 * bl + 8) * _) (by omega) (by omega)]
  show some (wrap64 (drv pl bl pg rg b raw)) = _
  rw [QG.w64 _ (by omega) (by omega)]
theorem mount_f {pl bl pg cs ck rg pt sec spr thr b buf raw : Int} (h : Okay pl bl pg rg b buf raw) (k : Nat) (hk : 10 ≤ k) : bound_Mount_1.f k pl bl pg cs ck rg pt sec spr thr b buf raw = some (mtv pl bl pg rg b raw) := by
  have q := mtv_bd h
  have q1 := rdv_bd h
  have q2 := svv_bd h
  have hr := @read_f pl bl pg cs ck rg pt sec spr thr b buf raw h k hk
  have hs := @save_f pl bl pg cs ck rg pt sec spr thr b buf raw h k hk
  obtain ⟨pl1, pl2, bl1, bl2, pg1, pg2, rg1, rg2, b1, b2, f1, f2, r1, r2⟩ := h
  unfold bound_Mount_1.f bound_sizes_reset.f
  rw [hr, hs]
  simp only [Option.bind_some]
  rw [QG.w64 (b + 2) (by omega) (by omega), QG.w64 (2 * svv pl b raw) (by omega) (by omega), QG.w64 (bl * pg) (by omega) (by omega), QG.w64 (bl * pg + bl) (by omega) (by omega), QG.w64 (bl * pg + bl + pl) (by omega) (by omega), QG.w64 ((bl * pg + bl + pl) * _) (by omega) (by omega)]
  rw [sum_f k _ (by simp) (by simp; omega) (nn5 (by omega) (by omega) (by omega) (by omega) (by omega)) (by simp; omega)]
  simp only [Option.bind_some, List.sum_cons, List.sum_nil]
  unfold mtv; congr 1; omega
end Go.Proofs.Ytkcpohplgdndkaa
