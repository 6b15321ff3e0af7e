import Derived.Test.YtnkgbnipcjgjeaaSegP
import Derived.Test.YtnkgbnipcjgjeaaFA
import Derived.Shelf.SlSortCmp.NoneTotal
import Derived.Shelf.SlicesG.Cmp
import Derived.Deep.RegionHeld3
namespace Go.Proofs.Ytnkgbnipcjgjeaa.Qu
open Go.RowKit Go.Shelf Go.Sort Go.Lib Go.Proofs.Ytnkgbnipcjgjeaa.QW Go.Proofs.YtnkgbnipcjgjeaaW.PrintWords Go.Proofs.YtnkgbnipcjgjeaaW.PrintLast Go.Proofs.YtnkgbnipcjgjeaaW.PrintMore
set_option linter.unusedVariables false
def orI (a b : Int) : Int := if a = 0 then b else a
set_option maxHeartbeats 2000000 in
theorem or_ok (c1 c2 : Int) (g : Nat) (W : World) (h1 : W.cell? ⟨g, 0, none⟩ = some (.int .i64 c1)) (h2 : W.cell? ⟨g, 1, none⟩ = some (.int .i64 c2)) :
    Calls Try.prog 85 #[.slice (some ⟨g, 0, none⟩) 2 2] W fun e w' => e = .returned (.int .i64 (orI c1 c2)) ∧ w' = W := by
  obtain ⟨r, hr⟩ : ∃ r, r = orI c1 c2 := ⟨_, rfl⟩
  have HR := Lib.hid hr
  rw [← hr]
  clear hr
  go_enter Try.func85, Try.ntmps85
  go_wp2
  go_loop [8] (fun i => ∃ k : Nat, k ≤ 2 ∧ i = .int .i64 k ∧ (1 ≤ k → c1 = 0) ∧ (2 ≤ k → c2 = 0)) (fun i => 2 - (intOf i).toNat)
  case atStart => exact ⟨0, by omega, rfl, by omega, by omega⟩
  case round =>
    obtain ⟨k, hk, rfl, q1, q2⟩ := hrel
    have hk2 : k = 0 ∨ k = 1 ∨ k = 2 := by omega
    rcases hk2 with rfl | rfl | rfl
    · by_cases c : c1 = 0
      · have c' : (c1 != 0) = false := by simp [c]
        go_wp2
        go_round
        case rel => exact ⟨1, by omega, by go_num, fun _ => c, by omega⟩
        case measure => simp [intOf]
      · have c' : (c1 != 0) = true := by simp [c]
        have hr : r = c1 := by rw [HR.out]; unfold orI; rw [if_neg c]
        subst hr
        clear q1 q2
        go_wp2
        go_ret
        exact ⟨rfl, rfl⟩
    · have c0 := q1 (Nat.le_refl _)
      by_cases c : c2 = 0
      · have c' : (c2 != 0) = false := by simp [c]
        go_wp2
        go_round
        case rel => exact ⟨2, by omega, by go_num, fun _ => c0, fun _ => c⟩
        case measure => simp [intOf]
      · have c' : (c2 != 0) = true := by simp [c]
        have hr : r = c2 := by rw [HR.out]; unfold orI; rw [if_pos c0]
        subst hr
        clear q1 q2
        go_wp2
        go_ret
        exact ⟨rfl, rfl⟩
    · have c0 := q1 (by omega)
      have c1' := q2 (by omega)
      have hr : r = 0 := by rw [HR.out]; unfold orI; rw [if_pos c0, c1']
      subst hr
      clear q1 q2
      go_wp2
      go_ret
      exact ⟨rfl, rfl⟩
theorem cmp_ok (x y : Int) (W : World) : Calls Try.prog 86 #[.int .i64 x, .int .i64 y] W fun e w' => e = .returned (.int .i64 (Lib.compareInt x y)) ∧ w' = W := AnyG.cmp_Compare_int lay86 x y W

/-- How two places of l0 come: by sector, then by place. -/
def cfS (l0 : List S116) (a b : Nat) : Int := orI (Lib.compareInt (l0.getD a z116).f1 (l0.getD b z116).f1) (Lib.compareInt a b)
set_option maxHeartbeats 4000000 in
theorem closS {l0 : List S116} {bl g off c0 n : Nat} (W : World) (hx : W.cell? ⟨bl, 0, none⟩ = some (.slice (some ⟨g, off, none⟩) n c0)) {a b : Nat} (ha : a < n) (hb : b < n)
    (h1 : W.cell? ⟨g, off + a * 3 + 1, none⟩ = some (.int .i64 (l0.getD a z116).f1)) (h2 : W.cell? ⟨g, off + b * 3 + 1, none⟩ = some (.int .i64 (l0.getD b z116).f1)) :
    Calls Try.prog 136 #[.int .i64 (a : Int), .int .i64 (b : Int), .pointer (some ⟨bl, 0, none⟩)] W fun e w' => e = .returned (.int .i64 (cfS l0 a b)) ∧ ∃ q os', w' = grow (W.drewN q) os' := by
  unfold cfS
  generalize (l0.getD a z116).f1 = x at h1 ⊢
  generalize (l0.getD b z116).f1 = y at h2 ⊢
  have k1 := fun W => cmp_ok x y W
  have k2 := fun W => cmp_ok (a : Int) (b : Int) W
  generalize Lib.compareInt x y = c1 at k1 ⊢
  generalize Lib.compareInt (a : Int) (b : Int) = c2 at k2 ⊢
  go_enter Try.func136, Try.ntmps136
  go_wp2_with fail
  go_region_held3 (fun w' => w'.cell? ⟨bl, 0, none⟩ = some (.slice (some ⟨g, off, none⟩) n c0) ∧ w'.cell? ⟨g, off + a * 3 + 1, none⟩ = some (.int .i64 x) ∧ w'.cell? ⟨g, off + b * 3 + 1, none⟩ = some (.int .i64 y)) (go_keep) (first | (go_at_call_of 86 (Value.int .i64 x); refine (k1 _).mono ?_; rintro e w3 ⟨rfl, rfl⟩) | (go_at_call_of 86 (Value.int .i64 (a : Int)); refine (k2 _).mono ?_; rintro e w3 ⟨rfl, rfl⟩) | (go_at_call 85; refine (or_ok c1 c2 _ _ (by simp) (by simp)).mono ?_; rintro e w4 ⟨rfl, rfl⟩))
  go_wp2
  go_ret
  exact ⟨rfl, 1, #[.cells #[.int .i64 c1, .int .i64 c2] 3], by rw [← alloc_eq_grow]; rfl⟩
end Go.Proofs.Ytnkgbnipcjgjeaa.Qu
