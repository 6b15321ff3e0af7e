import Derived.Test.YtkcpohplgdndkaaBoundT
namespace Go.Proofs.Ytkcpohplgdndkaa
open Go.RowKit
set_option linter.unusedVariables false
theorem ord_mono {b b' n : Int} (h : b ≤ b') : ord b n ≤ ord b' n := by unfold ord; omega
theorem rdv_mono {rg b b' raw : Int} (hr : 0 ≤ rg) (h : b ≤ b') : rdv rg b raw ≤ rdv rg b' raw := by
  unfold rdv
  have := ord_mono (n := 6) h
  exact Int.mul_le_mul_of_nonneg_left (by omega) hr
theorem svv_mono {pl b b' raw : Int} (hp : 0 ≤ pl) (h : b ≤ b') : svv pl b raw ≤ svv pl b' raw := by
  unfold svv
  have := ord_mono (n := 4) h
  have := ord_mono (n := raw + 6) h
  exact Int.mul_le_mul_of_nonneg_left (by omega) hp
theorem ptv_mono {pl bl b b' raw : Int} (hp : 0 ≤ pl) (hb : 0 ≤ bl) (h : b ≤ b') : ptv pl bl b raw ≤ ptv pl bl b' raw := by
  unfold ptv
  have := ord_mono (n := 4) h
  have := ord_mono (n := raw + 6) h
  have := svv_mono (raw := raw) hp h
  exact Int.mul_le_mul_of_nonneg_left (by omega) (by omega)
theorem clv_mono {pl bl pg rg b b' raw : Int} (hp : 0 ≤ pl) (hb : 0 ≤ bl) (hg : 0 ≤ pg) (hr : 0 ≤ rg) (h : b ≤ b') : clv pl bl pg rg b raw ≤ clv pl bl pg rg b' raw := by
  unfold clv
  have := rdv_mono (raw := raw) hr h
  have := ptv_mono (raw := raw) hp hb h
  exact Int.mul_le_mul_of_nonneg_left (by omega) hg
theorem drv_mono {pl bl pg rg b b' raw : Int} (hp : 0 ≤ pl) (hb : 0 ≤ bl) (hg : 0 ≤ pg) (hr : 0 ≤ rg) (h : b ≤ b') : drv pl bl pg rg b raw ≤ drv pl bl pg rg b' raw := by
  unfold drv
  have h1 := clv_mono (raw := raw) hp hb hg hr h
  have h2 := ptv_mono (raw := raw) hp hb h
  have := Int.mul_le_mul_of_nonneg_left h1 (by omega : 0 ≤ 8 * bl + 8)
  omega
theorem mtv_mono {pl bl pg rg b b' raw : Int} (hp : 0 ≤ pl) (hb : 0 ≤ bl) (hg : 0 ≤ pg) (hr : 0 ≤ rg) (h : b ≤ b') : mtv pl bl pg rg b raw ≤ mtv pl bl pg rg b' raw := by
  unfold mtv
  have h1 := rdv_mono (raw := raw) hr h
  have h2 := svv_mono (raw := raw) hp h
  have := Int.mul_nonneg hb hg
  have := Int.mul_le_mul_of_nonneg_left h1 (by omega : 0 ≤ bl * pg + bl + pl)
  omega
/-- All are above 0; a pair's above an order's, a drain's above a pair's. -/
theorem values_pos {pl bl pg rg b buf raw : Int} (ok : Okay pl bl pg rg b buf raw) : 0 < ord b 6 ∧ 0 < rdv rg b raw ∧ 0 < mtv pl bl pg rg b raw ∧ ord b 6 < ptv pl bl b raw ∧ ptv pl bl b raw < drv pl bl pg rg b raw := by
  have rb := rdv_bd ok
  have sb := svv_bd ok
  have pb := ptv_bd ok
  have cb := clv_bd ok
  have mb := mtv_bd ok
  obtain ⟨pl1, pl2, bl1, bl2, pg1, pg2, rg1, rg2, b1, b2, f1, f2, r1, r2⟩ := ok
  have o1 : 10 < ord b 6 := by unfold ord; omega
  have o2 : rdv rg b raw = rg * (ord b 6 + ord b 6 + raw + 1 + (b + 2)) := rfl
  have o3 : 1 * (ord b 6 + ord b 6 + raw + 1 + (b + 2)) ≤ rg * (ord b 6 + ord b 6 + raw + 1 + (b + 2)) := Int.mul_le_mul_of_nonneg_right rg1 (by omega)
  have p1 : ptv pl bl b raw = (bl + 1) * (ord b 4 + 2 * ord b (raw + 6) + 2 * svv pl b raw) := rfl
  have q1 : ord b 4 = ord b 6 - 2 := by unfold ord; omega
  have q2 : ord b 6 ≤ ord b (raw + 6) := by unfold ord; omega
  have p2 : 1 * (ord b 4 + 2 * ord b (raw + 6) + 2 * svv pl b raw) ≤ (bl + 1) * (ord b 4 + 2 * ord b (raw + 6) + 2 * svv pl b raw) := Int.mul_le_mul_of_nonneg_right (by omega) (by omega)
  have c1 : clv pl bl pg rg b raw = pg * (rdv rg b raw + ptv pl bl b raw) := rfl
  have c2 : 1 * (rdv rg b raw + ptv pl bl b raw) ≤ pg * (rdv rg b raw + ptv pl bl b raw) := Int.mul_le_mul_of_nonneg_right (by omega) (by omega)
  have d1 : drv pl bl pg rg b raw = (8 * bl + 8) * clv pl bl pg rg b raw + ptv pl bl b raw := rfl
  have d2 : 1 * clv pl bl pg rg b raw ≤ (8 * bl + 8) * clv pl bl pg rg b raw := Int.mul_le_mul_of_nonneg_right (by omega) (by omega)
  have m1 : mtv pl bl pg rg b raw = (b + 2) + 35 + b + 2 * svv pl b raw + (bl * pg + bl + pl) * rdv rg b raw := rfl
  refine ⟨by omega, by omega, by omega, by omega, by omega⟩
end Go.Proofs.Ytkcpohplgdndkaa
