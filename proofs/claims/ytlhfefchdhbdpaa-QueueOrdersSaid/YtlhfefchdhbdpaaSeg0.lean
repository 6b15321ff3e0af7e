import Derived.Test.YtlhfefchdhbdpaaSegP
import Derived.Shelf.SlSortCmp.NoneTotal
import Derived.Shelf.SlicesG.Cmp
import Derived.Deep.RegionHeld3
namespace Go.Proofs.Ytlhfefchdhbdpaa
open Go.RowKit Go.Shelf Go.Sort Go.Lib Go.Proofs.Ytlhfefchdhbdpaa.QW Go.Proofs.YtlhfefchdhbdpaaW.PrintWords Go.Proofs.YtlhfefchdhbdpaaW.PrintLast Go.Proofs.YtlhfefchdhbdpaaW.PrintMore
set_option linter.unusedVariables false
def lay21_ren : Go.Shelf.Ren := ⟨fun | 6 => 21 | 15 => 28 | 14 => 27 | 28 => 38 | 29 => 39 | 20 => 30 | 21 => 31 | 22 => 32 | 23 => 33 | 24 => 34 | 25 => 35 | 26 => 36 | 27 => 37 | 46 => 40 | 47 => 41 | 48 => 42 | 49 => 43 | 50 => 44 | 57 => 45 | n => n, fun | 22 => 25 | 24 => 3 | 25 => 46 | 3 => 3 | 39 => 50 | 0 => 0 | 53 => 61 | 55 => 63 | 4 => 4 | 46 => 54 | 45 => 53 | 50 => 58 | 5 => 5 | 9 => 9 | 66 => 64 | 70 => 68 | 76 => 70 | 77 => 71 | n => n, fun | n => n⟩
theorem lay21 : Go.Proofs.SlLaysF.n6 Try.prog lay21_ren := {
  mixed := by kernel_rfl,
  f6 := ⟨Try.f21.name, by decide, Try.func21.trans (congrArg some (by kernel_rfl))⟩,
  f14 := ⟨Try.f27.name, by decide, Try.func27.trans (congrArg some (by kernel_rfl))⟩,
  f15 := Try.func28.trans (congrArg some (by kernel_rfl)),
  f20 := ⟨Try.f30.name, by decide, Try.func30.trans (congrArg some (by kernel_rfl))⟩,
  f21 := ⟨Try.f31.name, by decide, Try.func31.trans (congrArg some (by kernel_rfl))⟩,
  f22 := ⟨Try.f32.name, by decide, Try.func32.trans (congrArg some (by kernel_rfl))⟩,
  f23 := ⟨Try.f33.name, by decide, Try.func33.trans (congrArg some (by kernel_rfl))⟩,
  f24 := ⟨Try.f34.name, by decide, Try.func34.trans (congrArg some (by kernel_rfl))⟩,
  f25 := ⟨Try.f35.name, by decide, Try.func35.trans (congrArg some (by kernel_rfl))⟩,
  f26 := ⟨Try.f36.name, by decide, Try.func36.trans (congrArg some (by kernel_rfl))⟩,
  f27 := ⟨Try.f37.name, by decide, Try.func37.trans (congrArg some (by kernel_rfl))⟩,
  f28 := Try.func38.trans (congrArg some (by kernel_rfl)),
  f29 := Try.func39.trans (congrArg some (by kernel_rfl)),
  f46 := ⟨Try.f40.name, by decide, Try.func40.trans (congrArg some (by kernel_rfl))⟩,
  f47 := Try.func41.trans (congrArg some (by kernel_rfl)),
  f48 := Try.func42.trans (congrArg some (by kernel_rfl)),
  f49 := ⟨Try.f43.name, by decide, Try.func43.trans (congrArg some (by kernel_rfl))⟩,
  f50 := ⟨Try.f44.name, by decide, Try.func44.trans (congrArg some (by kernel_rfl))⟩,
  f57 := ⟨Try.f45.name, by decide, Try.func45.trans (congrArg some (by kernel_rfl))⟩,
  t0 := Try.underlying0,
  a0 := Try.isAgg0,
  z0 := Try.sizeOf0,
  v0 := Try.zeroValue0,
  t3 := Try.underlying3,
  a3 := Try.isAgg3,
  z3 := Try.sizeOf3,
  v3 := Try.zeroValue3,
  t4 := Try.underlying4,
  a4 := Try.isAgg4,
  z4 := Try.sizeOf4,
  v4 := Try.zeroValue4,
  t5 := Try.underlying5,
  a5 := Try.isAgg5,
  z5 := Try.sizeOf5,
  v5 := Try.zeroValue5,
  t9 := Try.underlying9,
  a9 := Try.isAgg9,
  z9 := Try.sizeOf9,
  v9 := Try.zeroValue9,
  t22 := Try.underlying25,
  a22 := Try.isAgg25,
  z22 := Try.sizeOf25,
  v22 := Try.zeroValue25,
  a24 := Try.isAgg3,
  z24 := Try.sizeOf3,
  t25 := Try.underlying46,
  a25 := Try.isAgg46,
  z25 := Try.sizeOf46,
  v25 := Try.zeroValue46,
  t39 := Try.underlying50,
  a39 := Try.isAgg50,
  z39 := Try.sizeOf50,
  v39 := Try.zeroValue50,
  t45 := Try.underlying53,
  a45 := Try.isAgg53,
  z45 := Try.sizeOf53,
  v45 := Try.zeroValue53,
  t46 := Try.underlying54,
  a46 := Try.isAgg54,
  z46 := Try.sizeOf54,
  v46 := Try.zeroValue54,
  t50 := Try.underlying58,
  a50 := Try.isAgg58,
  z50 := Try.sizeOf58,
  v50 := Try.zeroValue58,
  t53 := Try.underlying61,
  a53 := Try.isAgg61,
  z53 := Try.sizeOf61,
  v53 := Try.zeroValue61,
  t55 := Try.underlying63,
  a55 := Try.isAgg63,
  z55 := Try.sizeOf63,
  v55 := Try.zeroValue63,
  t66 := Try.underlying64,
  a66 := Try.isAgg64,
  z66 := Try.sizeOf64,
  v66 := Try.zeroValue64,
  t70 := Try.underlying68,
  a70 := Try.isAgg68,
  z70 := Try.sizeOf68,
  v70 := Try.zeroValue68,
  t76 := Try.underlying70,
  a76 := Try.isAgg70,
  z76 := Try.sizeOf70,
  v76 := Try.zeroValue70,
  t77 := Try.underlying71,
  a77 := Try.isAgg71,
  z77 := Try.sizeOf71,
  v77 := Try.zeroValue71 }

def lay24_ren : Go.Shelf.Ren := ⟨fun | 5 => 24 | 7 => 29 | n => n, fun | 22 => 3 | 3 => 3 | 4 => 4 | n => n, fun | n => n⟩
theorem lay24 : Go.Proofs.SlLaysC2.n5 Try.prog lay24_ren := {
  mixed := by kernel_rfl,
  f5 := ⟨Try.f24.name, by decide, Try.func24.trans (congrArg some (by kernel_rfl))⟩,
  f7 := ⟨Try.f29.name, by decide, Try.func29.trans (congrArg some (by kernel_rfl))⟩,
  t3 := Try.underlying3,
  a3 := Try.isAgg3,
  z3 := Try.sizeOf3,
  v3 := Try.zeroValue3,
  t4 := Try.underlying4,
  a4 := Try.isAgg4,
  z4 := Try.sizeOf4,
  v4 := Try.zeroValue4,
  t22 := Try.underlying3,
  a22 := Try.isAgg3,
  z22 := Try.sizeOf3,
  v22 := Try.zeroValue3 }

def orI (a b : Int) : Int := if a = 0 then b else a
set_option maxHeartbeats 2000000 in
theorem or_ok (c1 c2 : Int) (g : Nat) (W : World) (h1 : W.cell? ⟨g, 0, none⟩ = some (.int .i64 c1)) (h2 : W.cell? ⟨g, 1, none⟩ = some (.int .i64 c2)) :
    Calls Try.prog 23 #[.slice (some ⟨g, 0, none⟩) 2 2] W fun e w' => e = .returned (.int .i64 (orI c1 c2)) ∧ w' = W := by
  obtain ⟨r, hr⟩ : ∃ r, r = orI c1 c2 := ⟨_, rfl⟩
  have HR := Lib.hid hr
  rw [← hr]
  clear hr
  go_enter Try.func23, Try.ntmps23
  go_wp2
  go_loop [8] (fun i => ∃ k : Nat, k ≤ 2 ∧ i = .int .i64 k ∧ (1 ≤ k → c1 = 0) ∧ (2 ≤ k → c2 = 0)) (fun i => 2 - (intOf i).toNat)
  case atStart => exact ⟨0, by omega, rfl, by omega, by omega⟩
  case round =>
    obtain ⟨k, hk, rfl, q1, q2⟩ := hrel
    have hk2 : k = 0 ∨ k = 1 ∨ k = 2 := by omega
    rcases hk2 with rfl | rfl | rfl
    · by_cases c : c1 = 0
      · have c' : (c1 != 0) = false := by simp [c]
        go_wp2
        go_round
        case rel => exact ⟨1, by omega, by go_num, fun _ => c, by omega⟩
        case measure => simp [intOf]
      · have c' : (c1 != 0) = true := by simp [c]
        have hr : r = c1 := by rw [HR.out]; unfold orI; rw [if_neg c]
        subst hr
        clear q1 q2
        go_wp2
        go_ret
        exact ⟨rfl, rfl⟩
    · have c0 := q1 (Nat.le_refl _)
      by_cases c : c2 = 0
      · have c' : (c2 != 0) = false := by simp [c]
        go_wp2
        go_round
        case rel => exact ⟨2, by omega, by go_num, fun _ => c0, fun _ => c⟩
        case measure => simp [intOf]
      · have c' : (c2 != 0) = true := by simp [c]
        have hr : r = c2 := by rw [HR.out]; unfold orI; rw [if_pos c0]
        subst hr
        clear q1 q2
        go_wp2
        go_ret
        exact ⟨rfl, rfl⟩
    · have c0 := q1 (by omega)
      have c1' := q2 (by omega)
      have hr : r = 0 := by rw [HR.out]; unfold orI; rw [if_pos c0, c1']
      subst hr
      clear q1 q2
      go_wp2
      go_ret
      exact ⟨rfl, rfl⟩
theorem cmp_ok (x y : Int) (W : World) : Calls Try.prog 24 #[.int .i64 x, .int .i64 y] W fun e w' => e = .returned (.int .i64 (Lib.compareInt x y)) ∧ w' = W := AnyG.cmp_Compare_int lay24 x y W

/-- How two places of l0 come: by sector, then by place. -/
def cfS (l0 : List S36) (a b : Nat) : Int := orI (Lib.compareInt (l0.getD a z36).f1 (l0.getD b z36).f1) (Lib.compareInt a b)
set_option maxHeartbeats 4000000 in
theorem closS {l0 : List S36} {bl g off c0 n : Nat} (W : World) (hx : W.cell? ⟨bl, 0, none⟩ = some (.slice (some ⟨g, off, none⟩) n c0)) {a b : Nat} (ha : a < n) (hb : b < n)
    (h1 : W.cell? ⟨g, off + a * 3 + 1, none⟩ = some (.int .i64 (l0.getD a z36).f1)) (h2 : W.cell? ⟨g, off + b * 3 + 1, none⟩ = some (.int .i64 (l0.getD b z36).f1)) :
    Calls Try.prog 22 #[.int .i64 (a : Int), .int .i64 (b : Int), .pointer (some ⟨bl, 0, none⟩)] W fun e w' => e = .returned (.int .i64 (cfS l0 a b)) ∧ ∃ q os', w' = grow (W.drewN q) os' := by
  unfold cfS
  generalize (l0.getD a z36).f1 = x at h1 ⊢
  generalize (l0.getD b z36).f1 = y at h2 ⊢
  have k1 := fun W => cmp_ok x y W
  have k2 := fun W => cmp_ok (a : Int) (b : Int) W
  generalize Lib.compareInt x y = c1 at k1 ⊢
  generalize Lib.compareInt (a : Int) (b : Int) = c2 at k2 ⊢
  go_enter Try.func22, Try.ntmps22
  go_wp2_with fail
  go_region_held3 (fun w' => w'.cell? ⟨bl, 0, none⟩ = some (.slice (some ⟨g, off, none⟩) n c0) ∧ w'.cell? ⟨g, off + a * 3 + 1, none⟩ = some (.int .i64 x) ∧ w'.cell? ⟨g, off + b * 3 + 1, none⟩ = some (.int .i64 y)) (go_keep) (first | (go_at_call_of 24 (Value.int .i64 x); refine (k1 _).mono ?_; rintro e w3 ⟨rfl, rfl⟩) | (go_at_call_of 24 (Value.int .i64 (a : Int)); refine (k2 _).mono ?_; rintro e w3 ⟨rfl, rfl⟩) | (go_at_call 23; refine (or_ok c1 c2 _ _ (by simp) (by simp)).mono ?_; rintro e w4 ⟨rfl, rfl⟩))
  go_wp2
  go_ret
  exact ⟨rfl, 1, #[.cells #[.int .i64 c1, .int .i64 c2] 3], by rw [← alloc_eq_grow]; rfl⟩
end Go.Proofs.Ytlhfefchdhbdpaa
