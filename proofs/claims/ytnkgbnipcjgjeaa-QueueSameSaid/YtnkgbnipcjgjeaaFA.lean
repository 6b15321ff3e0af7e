import Derived.Test.YtnkgbnipcjgjeaaProg
import Derived.Test.YtnkgbnipcjgjeaaCK
import Derived.Deep.RegionHeld3
import Derived.Deep.QuietTactic
import Derived.BigQuiet
import Derived.WalkSpells
namespace Go.Proofs.Ytnkgbnipcjgjeaa
open Go.RowKit Go.Shelf Go.Sort Go.Lib Go.Proofs.YtnkgbnipcjgjeaaW.PrintWords Go.Proofs.YtnkgbnipcjgjeaaW.PrintLast Go.Proofs.YtnkgbnipcjgjeaaW.PrintMore
set_option linter.unusedVariables false
def lay121_ren : Go.Shelf.Ren := ⟨fun | 6 => 121 | 15 => 141 | 14 => 143 | 28 => 154 | 29 => 155 | 20 => 156 | 21 => 157 | 22 => 158 | 23 => 159 | 24 => 160 | 25 => 161 | 26 => 162 | 27 => 163 | 46 => 169 | 47 => 165 | 48 => 166 | 49 => 170 | 50 => 171 | 57 => 173 | n => n, fun | 22 => 32 | 24 => 3 | 25 => 40 | 3 => 3 | 39 => 195 | 0 => 0 | 53 => 210 | 55 => 212 | 4 => 4 | 46 => 204 | 45 => 203 | 50 => 47 | 5 => 5 | 9 => 9 | 66 => 218 | 70 => 222 | 76 => 226 | 77 => 84 | n => n, fun | n => n⟩
theorem lay121 : Go.Proofs.SlLaysF.n6 Try.prog lay121_ren := {
  mixed := by kernel_rfl,
  f6 := ⟨Try.f121.name, by decide, Try.func121.trans (congrArg some (by kernel_rfl))⟩,
  f14 := ⟨Try.f143.name, by decide, Try.func143.trans (congrArg some (by kernel_rfl))⟩,
  f15 := Try.func141.trans (congrArg some (by kernel_rfl)),
  f20 := ⟨Try.f156.name, by decide, Try.func156.trans (congrArg some (by kernel_rfl))⟩,
  f21 := ⟨Try.f157.name, by decide, Try.func157.trans (congrArg some (by kernel_rfl))⟩,
  f22 := ⟨Try.f158.name, by decide, Try.func158.trans (congrArg some (by kernel_rfl))⟩,
  f23 := ⟨Try.f159.name, by decide, Try.func159.trans (congrArg some (by kernel_rfl))⟩,
  f24 := ⟨Try.f160.name, by decide, Try.func160.trans (congrArg some (by kernel_rfl))⟩,
  f25 := ⟨Try.f161.name, by decide, Try.func161.trans (congrArg some (by kernel_rfl))⟩,
  f26 := ⟨Try.f162.name, by decide, Try.func162.trans (congrArg some (by kernel_rfl))⟩,
  f27 := ⟨Try.f163.name, by decide, Try.func163.trans (congrArg some (by kernel_rfl))⟩,
  f28 := Try.func154.trans (congrArg some (by kernel_rfl)),
  f29 := Try.func155.trans (congrArg some (by kernel_rfl)),
  f46 := ⟨Try.f169.name, by decide, Try.func169.trans (congrArg some (by kernel_rfl))⟩,
  f47 := Try.func165.trans (congrArg some (by kernel_rfl)),
  f48 := Try.func166.trans (congrArg some (by kernel_rfl)),
  f49 := ⟨Try.f170.name, by decide, Try.func170.trans (congrArg some (by kernel_rfl))⟩,
  f50 := ⟨Try.f171.name, by decide, Try.func171.trans (congrArg some (by kernel_rfl))⟩,
  f57 := ⟨Try.f173.name, by decide, Try.func173.trans (congrArg some (by kernel_rfl))⟩,
  t0 := Try.underlying0,
  a0 := Try.isAgg0,
  z0 := Try.sizeOf0,
  v0 := Try.zeroValue0,
  t3 := Try.underlying3,
  a3 := Try.isAgg3,
  z3 := Try.sizeOf3,
  v3 := Try.zeroValue3,
  t4 := Try.underlying4,
  a4 := Try.isAgg4,
  z4 := Try.sizeOf4,
  v4 := Try.zeroValue4,
  t5 := Try.underlying5,
  a5 := Try.isAgg5,
  z5 := Try.sizeOf5,
  v5 := Try.zeroValue5,
  t9 := Try.underlying9,
  a9 := Try.isAgg9,
  z9 := Try.sizeOf9,
  v9 := Try.zeroValue9,
  t22 := Try.underlying32,
  a22 := Try.isAgg32,
  z22 := Try.sizeOf32,
  v22 := Try.zeroValue32,
  a24 := Try.isAgg3,
  z24 := Try.sizeOf3,
  t25 := Try.underlying40,
  a25 := Try.isAgg40,
  z25 := Try.sizeOf40,
  v25 := Try.zeroValue40,
  t39 := Try.underlying195,
  a39 := Try.isAgg195,
  z39 := Try.sizeOf195,
  v39 := Try.zeroValue195,
  t45 := Try.underlying203,
  a45 := Try.isAgg203,
  z45 := Try.sizeOf203,
  v45 := Try.zeroValue203,
  t46 := Try.underlying204,
  a46 := Try.isAgg204,
  z46 := Try.sizeOf204,
  v46 := Try.zeroValue204,
  t50 := Try.underlying47,
  a50 := Try.isAgg47,
  z50 := Try.sizeOf47,
  v50 := Try.zeroValue47,
  t53 := Try.underlying210,
  a53 := Try.isAgg210,
  z53 := Try.sizeOf210,
  v53 := Try.zeroValue210,
  t55 := Try.underlying212,
  a55 := Try.isAgg212,
  z55 := Try.sizeOf212,
  v55 := Try.zeroValue212,
  t66 := Try.underlying218,
  a66 := Try.isAgg218,
  z66 := Try.sizeOf218,
  v66 := Try.zeroValue218,
  t70 := Try.underlying222,
  a70 := Try.isAgg222,
  z70 := Try.sizeOf222,
  v70 := Try.zeroValue222,
  t76 := Try.underlying226,
  a76 := Try.isAgg226,
  z76 := Try.sizeOf226,
  v76 := Try.zeroValue226,
  t77 := Try.underlying84,
  a77 := Try.isAgg84,
  z77 := Try.sizeOf84,
  v77 := Try.zeroValue84 }

def lay86_ren : Go.Shelf.Ren := ⟨fun | 5 => 86 | 7 => 123 | n => n, fun | 22 => 3 | 3 => 3 | 4 => 4 | n => n, fun | n => n⟩
theorem lay86 : Go.Proofs.SlLaysC2.n5 Try.prog lay86_ren := {
  mixed := by kernel_rfl,
  f5 := ⟨Try.f86.name, by decide, Try.func86.trans (congrArg some (by kernel_rfl))⟩,
  f7 := ⟨Try.f123.name, by decide, Try.func123.trans (congrArg some (by kernel_rfl))⟩,
  t3 := Try.underlying3,
  a3 := Try.isAgg3,
  z3 := Try.sizeOf3,
  v3 := Try.zeroValue3,
  t4 := Try.underlying4,
  a4 := Try.isAgg4,
  z4 := Try.sizeOf4,
  v4 := Try.zeroValue4,
  t22 := Try.underlying3,
  a22 := Try.isAgg3,
  z22 := Try.sizeOf3,
  v22 := Try.zeroValue3 }

def lay83_ren : Go.Shelf.Ren := ⟨fun | 7 => 83 | 10 => 122 | n => n, fun | 23 => 46 | 26 => 3 | 3 => 3 | 28 => 139 | 0 => 0 | 27 => 138 | 33 => 35 | 4 => 4 | n => n, fun | n => n⟩
theorem lay83 : Go.Proofs.SlLaysZI.n7 Try.prog lay83_ren := {
  mixed := by kernel_rfl,
  f7 := ⟨Try.f83.name, by decide, Try.func83.trans (congrArg some (by kernel_rfl))⟩,
  f10 := ⟨Try.f122.name, by decide, Try.func122.trans (congrArg some (by kernel_rfl))⟩,
  t0 := Try.underlying0,
  a0 := Try.isAgg0,
  z0 := Try.sizeOf0,
  v0 := Try.zeroValue0,
  t4 := Try.underlying4,
  a4 := Try.isAgg4,
  z4 := Try.sizeOf4,
  v4 := Try.zeroValue4,
  t23 := Try.underlying46,
  a23 := Try.isAgg46,
  z23 := Try.sizeOf46,
  v23 := Try.zeroValue46,
  t26 := Try.underlying3,
  a26 := Try.isAgg3,
  z26 := Try.sizeOf3,
  v26 := Try.zeroValue3,
  t27 := Try.underlying138,
  a27 := Try.isAgg138,
  z27 := Try.sizeOf138,
  v27 := Try.zeroValue138,
  t28 := Try.underlying139,
  a28 := Try.isAgg139,
  z28 := Try.sizeOf139,
  v28 := Try.zeroValue139,
  t33 := Try.underlying35,
  a33 := Try.isAgg35,
  z33 := Try.sizeOf35,
  v33 := Try.zeroValue35 }

def lay120_ren : Go.Shelf.Ren := ⟨fun | 8 => 120 | 11 => 142 | n => n, fun | 26 => 3 | 28 => 139 | 24 => 32 | 0 => 0 | 33 => 35 | 4 => 4 | n => n, fun | n => n⟩
theorem lay120 : Go.Proofs.SlLaysZI.n8 Try.prog lay120_ren := {
  mixed := by kernel_rfl,
  f8 := ⟨Try.f120.name, by decide, Try.func120.trans (congrArg some (by kernel_rfl))⟩,
  f11 := ⟨Try.f142.name, by decide, Try.func142.trans (congrArg some (by kernel_rfl))⟩,
  t0 := Try.underlying0,
  a0 := Try.isAgg0,
  z0 := Try.sizeOf0,
  v0 := Try.zeroValue0,
  t24 := Try.underlying32,
  a24 := Try.isAgg32,
  z24 := Try.sizeOf32,
  v24 := Try.zeroValue32,
  t26 := Try.underlying3,
  a26 := Try.isAgg3,
  z26 := Try.sizeOf3,
  v26 := Try.zeroValue3,
  t28 := Try.underlying139,
  a28 := Try.isAgg139,
  z28 := Try.sizeOf139,
  v28 := Try.zeroValue139,
  i26 := by kernel_rfl }

set_option maxHeartbeats 2000000 in
theorem or_ok (c1 c2 : Int) (g : Nat) (W : World) (h1 : W.cell? ⟨g, 0, none⟩ = some (.int .i64 c1)) (h2 : W.cell? ⟨g, 1, none⟩ = some (.int .i64 c2)) :
    Calls Try.prog 85 #[.slice (some ⟨g, 0, none⟩) 2 2] W fun e w' => e = .returned (.int .i64 (orI c1 c2)) ∧ w' = W := by
  obtain ⟨r, hr⟩ : ∃ r, r = orI c1 c2 := ⟨_, rfl⟩
  have HR := Lib.hid hr
  rw [← hr]
  clear hr
  go_enter Try.func85, Try.ntmps85
  go_wp2
  go_loop [8] (fun i => ∃ k : Nat, k ≤ 2 ∧ i = .int .i64 k ∧ (1 ≤ k → c1 = 0) ∧ (2 ≤ k → c2 = 0)) (fun i => 2 - (intOf i).toNat)
  case atStart => exact ⟨0, by omega, rfl, by omega, by omega⟩
  case round =>
    obtain ⟨k, hk, rfl, q1, q2⟩ := hrel
    have hk2 : k = 0 ∨ k = 1 ∨ k = 2 := by omega
    rcases hk2 with rfl | rfl | rfl
    · by_cases c : c1 = 0
      · have c' : (c1 != 0) = false := by simp [c]
        go_wp2
        go_round
        case rel => exact ⟨1, by omega, by go_num, fun _ => c, by omega⟩
        case measure => simp [intOf]
      · have c' : (c1 != 0) = true := by simp [c]
        have hr : r = c1 := by rw [HR.out]; unfold orI; rw [if_neg c]
        subst hr
        clear q1 q2
        go_wp2
        go_ret
        exact ⟨rfl, rfl⟩
    · have c0 := q1 (Nat.le_refl _)
      by_cases c : c2 = 0
      · have c' : (c2 != 0) = false := by simp [c]
        go_wp2
        go_round
        case rel => exact ⟨2, by omega, by go_num, fun _ => c0, fun _ => c⟩
        case measure => simp [intOf]
      · have c' : (c2 != 0) = true := by simp [c]
        have hr : r = c2 := by rw [HR.out]; unfold orI; rw [if_pos c0]
        subst hr
        clear q1 q2
        go_wp2
        go_ret
        exact ⟨rfl, rfl⟩
    · have c0 := q1 (by omega)
      have c1' := q2 (by omega)
      have hr : r = 0 := by rw [HR.out]; unfold orI; rw [if_pos c0, c1']
      subst hr
      clear q1 q2
      go_wp2
      go_ret
      exact ⟨rfl, rfl⟩
theorem cmp_ok (x y : Int) (W : World) : Calls Try.prog 86 #[.int .i64 x, .int .i64 y] W fun e w' => e = .returned (.int .i64 (Lib.compareInt x y)) ∧ w' = W := AnyG.cmp_Compare_int lay86 x y W


theorem keI : KEnc Try.prog 3 kI okI := kencI Try.underlying3
/-- Pointer g is a pool: block b is its map, l its entries (block, erases). -/
def PoolIs (w : World) (g b : Nat) (l : List (Int × Int)) : Prop := w.heap[g]? = some (.cells #[.map (some b)] 136 (0, 0)) ∧ MapIs kI okI w b (mapII l) ∧ ∀ p ∈ l, 0 ≤ p.1 ∧ p.1 < 256 ∧ 0 ≤ p.2 ∧ p.2 ≤ 2147483648
theorem PoolIs.at_ {w w' : World} {g b : Nat} {l : List (Int × Int)} (h : PoolIs w g b l) (h1 : w'.heap[g]? = w.heap[g]?) (h2 : w'.heap[b]? = w.heap[b]?) : PoolIs w' g b l := ⟨h1.trans h.1, h.2.1.at_ h2, h.2.2⟩
theorem PoolIs.ltg {w : World} {g b : Nat} {l : List (Int × Int)} (h : PoolIs w g b l) : g < w.heap.size := blk_lt h.1
theorem PoolIs.ltb {w : World} {g b : Nat} {l : List (Int × Int)} (h : PoolIs w g b l) : b < w.heap.size := h.2.1.lt
theorem PoolIs.ne {w : World} {g b : Nat} {l : List (Int × Int)} (h : PoolIs w g b l) : g ≠ b := by
  rintro rfl
  obtain ⟨h1, ⟨es, c, h2, _⟩, _⟩ := h
  rw [h1] at h2
  cases h2
theorem PoolIs.below {w w' : World} {g b : Nat} {l : List (Int × Int)} (h : PoolIs w g b l) (hb : Below w.heap.size w w') : PoolIs w' g b l := h.at_ (hb.block g h.ltg) (hb.block b h.ltb)
theorem PoolIs.drewN {w : World} {g b : Nat} {l : List (Int × Int)} (h : PoolIs w g b l) (n : Nat) : PoolIs (w.drewN n) g b l := h
theorem PoolIs.mods {w w' : World} {g b : Nat} {l : List (Int × Int)} {S : Nat → Prop} (h : PoolIs w g b l) (hm : Mods w w' S) (h1 : ¬ S g) (h2 : ¬ S b) : PoolIs w' g b l := h.at_ (hm.block g h.ltg h1) (hm.block b h.ltb h2)
theorem PoolIs.cell {w : World} {g b : Nat} {l : List (Int × Int)} (h : PoolIs w g b l) : w.cell? ⟨g, 0, none⟩ = some (.map (some b)) := blk_cell h.1 0
theorem PoolIs.nodup {w : World} {g b : Nat} {l : List (Int × Int)} (h : PoolIs w g b l) : (l.map (·.1)).Nodup := by
  have := h.2.1.nodup
  unfold mapII at this
  rw [List.map_map] at this
  exact this
theorem okI_of {x : Int} (h0 : 0 ≤ x) (h1 : x ≤ 4294967296) : okI x := by
  have e : (Lit.int .i64 x).wf = (decide ((-9223372036854775808 : Int) ≤ x) && decide (x ≤ 9223372036854775807)) := rfl
  show (Lit.int .i64 x).wf = true
  rw [e, Bool.and_eq_true, decide_eq_true_eq, decide_eq_true_eq]; omega
end Go.Proofs.Ytnkgbnipcjgjeaa
