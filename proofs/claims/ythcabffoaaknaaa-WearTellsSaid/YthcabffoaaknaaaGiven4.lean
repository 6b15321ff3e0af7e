import Derived.Test.YthcabffoaaknaaaGiven3
import Derived.Shelf.SlSortCmp.NoneTotal
import Derived.Shelf.SlicesG.Cmp
import Derived.Deep.RegionHeld3
namespace Go.Proofs.Ythcabffoaaknaaa
open Go.RowKit Go.Shelf Go.Sort Go.Lib Go.Proofs.YthcabffoaaknaaaW.PrintWords Go.Proofs.YthcabffoaaknaaaW.PrintLast Go.Proofs.YthcabffoaaknaaaW.PrintMore
set_option linter.unusedVariables false
def lay21_ren : Go.Shelf.Ren := ⟨fun | 6 => 21 | 15 => 29 | 14 => 28 | 28 => 40 | 29 => 41 | 20 => 32 | 21 => 33 | 22 => 34 | 23 => 35 | 24 => 36 | 25 => 37 | 26 => 38 | 27 => 39 | 46 => 42 | 47 => 43 | 48 => 44 | 49 => 45 | 50 => 46 | 57 => 47 | n => n, fun | 22 => 22 | 24 => 3 | 25 => 44 | 3 => 3 | 39 => 51 | 0 => 0 | 53 => 61 | 55 => 63 | 4 => 4 | 46 => 55 | 45 => 54 | 50 => 45 | 5 => 5 | 9 => 9 | 66 => 64 | 70 => 68 | 76 => 70 | 77 => 37 | n => n, fun | n => n⟩
theorem lay21 : Go.Proofs.SlLaysF.n6 Try.prog lay21_ren := {
  mixed := by kernel_rfl,
  f6 := ⟨Try.f21.name, by decide, Try.func21.trans (congrArg some (by kernel_rfl))⟩,
  f14 := ⟨Try.f28.name, by decide, Try.func28.trans (congrArg some (by kernel_rfl))⟩,
  f15 := Try.func29.trans (congrArg some (by kernel_rfl)),
  f20 := ⟨Try.f32.name, by decide, Try.func32.trans (congrArg some (by kernel_rfl))⟩,
  f21 := ⟨Try.f33.name, by decide, Try.func33.trans (congrArg some (by kernel_rfl))⟩,
  f22 := ⟨Try.f34.name, by decide, Try.func34.trans (congrArg some (by kernel_rfl))⟩,
  f23 := ⟨Try.f35.name, by decide, Try.func35.trans (congrArg some (by kernel_rfl))⟩,
  f24 := ⟨Try.f36.name, by decide, Try.func36.trans (congrArg some (by kernel_rfl))⟩,
  f25 := ⟨Try.f37.name, by decide, Try.func37.trans (congrArg some (by kernel_rfl))⟩,
  f26 := ⟨Try.f38.name, by decide, Try.func38.trans (congrArg some (by kernel_rfl))⟩,
  f27 := ⟨Try.f39.name, by decide, Try.func39.trans (congrArg some (by kernel_rfl))⟩,
  f28 := Try.func40.trans (congrArg some (by kernel_rfl)),
  f29 := Try.func41.trans (congrArg some (by kernel_rfl)),
  f46 := ⟨Try.f42.name, by decide, Try.func42.trans (congrArg some (by kernel_rfl))⟩,
  f47 := Try.func43.trans (congrArg some (by kernel_rfl)),
  f48 := Try.func44.trans (congrArg some (by kernel_rfl)),
  f49 := ⟨Try.f45.name, by decide, Try.func45.trans (congrArg some (by kernel_rfl))⟩,
  f50 := ⟨Try.f46.name, by decide, Try.func46.trans (congrArg some (by kernel_rfl))⟩,
  f57 := ⟨Try.f47.name, by decide, Try.func47.trans (congrArg some (by kernel_rfl))⟩,
  t0 := Try.underlying0,
  a0 := Try.isAgg0,
  z0 := Try.sizeOf0,
  v0 := Try.zeroValue0,
  t3 := Try.underlying3,
  a3 := Try.isAgg3,
  z3 := Try.sizeOf3,
  v3 := Try.zeroValue3,
  t4 := Try.underlying4,
  a4 := Try.isAgg4,
  z4 := Try.sizeOf4,
  v4 := Try.zeroValue4,
  t5 := Try.underlying5,
  a5 := Try.isAgg5,
  z5 := Try.sizeOf5,
  v5 := Try.zeroValue5,
  t9 := Try.underlying9,
  a9 := Try.isAgg9,
  z9 := Try.sizeOf9,
  v9 := Try.zeroValue9,
  t22 := Try.underlying22,
  a22 := Try.isAgg22,
  z22 := Try.sizeOf22,
  v22 := Try.zeroValue22,
  a24 := Try.isAgg3,
  z24 := Try.sizeOf3,
  t25 := Try.underlying44,
  a25 := Try.isAgg44,
  z25 := Try.sizeOf44,
  v25 := Try.zeroValue44,
  t39 := Try.underlying51,
  a39 := Try.isAgg51,
  z39 := Try.sizeOf51,
  v39 := Try.zeroValue51,
  t45 := Try.underlying54,
  a45 := Try.isAgg54,
  z45 := Try.sizeOf54,
  v45 := Try.zeroValue54,
  t46 := Try.underlying55,
  a46 := Try.isAgg55,
  z46 := Try.sizeOf55,
  v46 := Try.zeroValue55,
  t50 := Try.underlying45,
  a50 := Try.isAgg45,
  z50 := Try.sizeOf45,
  v50 := Try.zeroValue45,
  t53 := Try.underlying61,
  a53 := Try.isAgg61,
  z53 := Try.sizeOf61,
  v53 := Try.zeroValue61,
  t55 := Try.underlying63,
  a55 := Try.isAgg63,
  z55 := Try.sizeOf63,
  v55 := Try.zeroValue63,
  t66 := Try.underlying64,
  a66 := Try.isAgg64,
  z66 := Try.sizeOf64,
  v66 := Try.zeroValue64,
  t70 := Try.underlying68,
  a70 := Try.isAgg68,
  z70 := Try.sizeOf68,
  v70 := Try.zeroValue68,
  t76 := Try.underlying70,
  a76 := Try.isAgg70,
  z76 := Try.sizeOf70,
  v76 := Try.zeroValue70,
  t77 := Try.underlying37,
  a77 := Try.isAgg37,
  z77 := Try.sizeOf37,
  v77 := Try.zeroValue37 }

def lay24_ren : Go.Shelf.Ren := ⟨fun | 5 => 24 | 7 => 30 | n => n, fun | 22 => 3 | 3 => 3 | 4 => 4 | n => n, fun | n => n⟩
theorem lay24 : Go.Proofs.SlLaysC2.n5 Try.prog lay24_ren := {
  mixed := by kernel_rfl,
  f5 := ⟨Try.f24.name, by decide, Try.func24.trans (congrArg some (by kernel_rfl))⟩,
  f7 := ⟨Try.f30.name, by decide, Try.func30.trans (congrArg some (by kernel_rfl))⟩,
  t3 := Try.underlying3,
  a3 := Try.isAgg3,
  z3 := Try.sizeOf3,
  v3 := Try.zeroValue3,
  t4 := Try.underlying4,
  a4 := Try.isAgg4,
  z4 := Try.sizeOf4,
  v4 := Try.zeroValue4,
  t22 := Try.underlying3,
  a22 := Try.isAgg3,
  z22 := Try.sizeOf3,
  v22 := Try.zeroValue3 }

def orI (a b : Int) : Int := if a = 0 then b else a
set_option maxHeartbeats 2000000 in
theorem or_ok (c1 c2 : Int) (g : Nat) (W : World) (h1 : W.cell? ⟨g, 0, none⟩ = some (.int .i64 c1)) (h2 : W.cell? ⟨g, 1, none⟩ = some (.int .i64 c2)) :
    Calls Try.prog 23 #[.slice (some ⟨g, 0, none⟩) 2 2] W fun e w' => e = .returned (.int .i64 (orI c1 c2)) ∧ w' = W := by
  obtain ⟨r, hr⟩ : ∃ r, r = orI c1 c2 := ⟨_, rfl⟩
  have HR := Lib.hid hr
  rw [← hr]
  clear hr
  go_enter Try.func23, Try.ntmps23
  go_wp2
  go_loop [8] (fun i => ∃ k : Nat, k ≤ 2 ∧ i = .int .i64 k ∧ (1 ≤ k → c1 = 0) ∧ (2 ≤ k → c2 = 0)) (fun i => 2 - (intOf i).toNat)
  case atStart => exact ⟨0, by omega, rfl, by omega, by omega⟩
  case round =>
    obtain ⟨k, hk, rfl, q1, q2⟩ := hrel
    have hk2 : k = 0 ∨ k = 1 ∨ k = 2 := by omega
    rcases hk2 with rfl | rfl | rfl
    · by_cases c : c1 = 0
      · have c' : (c1 != 0) = false := by simp [c]
        go_wp2
        go_round
        case rel => exact ⟨1, by omega, by go_num, fun _ => c, by omega⟩
        case measure => simp [intOf]
      · have c' : (c1 != 0) = true := by simp [c]
        have hr : r = c1 := by rw [HR.out]; unfold orI; rw [if_neg c]
        subst hr
        clear q1 q2
        go_wp2
        go_ret
        exact ⟨rfl, rfl⟩
    · have c0 := q1 (Nat.le_refl _)
      by_cases c : c2 = 0
      · have c' : (c2 != 0) = false := by simp [c]
        go_wp2
        go_round
        case rel => exact ⟨2, by omega, by go_num, fun _ => c0, fun _ => c⟩
        case measure => simp [intOf]
      · have c' : (c2 != 0) = true := by simp [c]
        have hr : r = c2 := by rw [HR.out]; unfold orI; rw [if_pos c0]
        subst hr
        clear q1 q2
        go_wp2
        go_ret
        exact ⟨rfl, rfl⟩
    · have c0 := q1 (by omega)
      have c1' := q2 (by omega)
      have hr : r = 0 := by rw [HR.out]; unfold orI; rw [if_pos c0, c1']
      subst hr
      clear q1 q2
      go_wp2
      go_ret
      exact ⟨rfl, rfl⟩
theorem cmp_ok (x y : Int) (W : World) : Calls Try.prog 24 #[.int .i64 x, .int .i64 y] W fun e w' => e = .returned (.int .i64 (Lib.compareInt x y)) ∧ w' = W := AnyG.cmp_Compare_int lay24 x y W
/-- How two places of l0 come. -/
def cfL (l0 : List Int) (a b : Nat) : Int := orI (Lib.compareInt (l0.getD a 0) (l0.getD b 0)) (Lib.compareInt a b)
set_option maxHeartbeats 4000000 in
theorem clos22 {l0 : List Int} {bl g off c0 n : Nat} (W : World) (hx : W.cell? ⟨bl, 0, none⟩ = some (.slice (some ⟨g, off, none⟩) n c0)) {a b : Nat} (ha : a < n) (hb : b < n)
    (h1 : W.cell? ⟨g, off + a, none⟩ = some (.int .i64 (l0.getD a 0))) (h2 : W.cell? ⟨g, off + b, none⟩ = some (.int .i64 (l0.getD b 0))) :
    Calls Try.prog 22 #[.int .i64 (a : Int), .int .i64 (b : Int), .pointer (some ⟨bl, 0, none⟩)] W fun e w' => e = .returned (.int .i64 (cfL l0 a b)) ∧ ∃ q os', w' = grow (W.drewN q) os' := by
  unfold cfL
  generalize l0.getD a 0 = x at h1 ⊢
  generalize l0.getD b 0 = y at h2 ⊢
  have k1 := fun W => cmp_ok x y W
  have k2 := fun W => cmp_ok (a : Int) (b : Int) W
  generalize Lib.compareInt x y = c1 at k1 ⊢
  generalize Lib.compareInt (a : Int) (b : Int) = c2 at k2 ⊢
  go_enter Try.func22, Try.ntmps22
  go_wp2_with fail
  go_region_held3 (fun w' => w'.cell? ⟨bl, 0, none⟩ = some (.slice (some ⟨g, off, none⟩) n c0) ∧ w'.cell? ⟨g, off + a, none⟩ = some (.int .i64 x) ∧ w'.cell? ⟨g, off + b, none⟩ = some (.int .i64 y)) (go_keep) (first | (go_at_call_of 24 (Value.int .i64 x); refine (k1 _).mono ?_; rintro e w3 ⟨rfl, rfl⟩) | (go_at_call_of 24 (Value.int .i64 (a : Int)); refine (k2 _).mono ?_; rintro e w3 ⟨rfl, rfl⟩) | (go_at_call 23; refine (or_ok c1 c2 _ _ (by simp) (by simp)).mono ?_; rintro e w4 ⟨rfl, rfl⟩))
  go_wp2
  go_ret
  exact ⟨rfl, 1, #[.cells #[.int .i64 c1, .int .i64 c2] 3], by rw [← alloc_eq_grow]; rfl⟩
end Go.Proofs.Ythcabffoaaknaaa
