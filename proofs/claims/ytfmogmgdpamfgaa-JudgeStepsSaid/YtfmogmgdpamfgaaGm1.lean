import Derived.Test.YtfmogmgdpamfgaaProg
import Derived.WalkKit
import Derived.WalkSpells
import Derived.WalkLawsBesides
import Derived.Lib.Hide
import Derived.Deep.QuietTactic
import Derived.BigQuiet
namespace Go.Proofs.Ytfmogmgdpamfgaa
open Go.RowKit

theorem bcell {W w1 : World} (hb : Below W.heap.size W w1) : (∀ b o, b < W.heap.size → w1.cell? ⟨b, o, none⟩ = W.cell? ⟨b, o, none⟩) ∧ (∀ b o, b < W.heap.size → w1.frozen? ⟨b, o, none⟩ = W.frozen? ⟨b, o, none⟩) :=
  ⟨fun b o h => hb.cell (p := ⟨b, o, none⟩) h, fun b o h => hb.frozen (p := ⟨b, o, none⟩) h⟩

def Right (pl bl pg cs ck rg pt : Int) : Prop := (1 ≤ pl ∧ pl ≤ 4) ∧ (2 ≤ bl ∧ bl ≤ 256) ∧ (4 ≤ pg ∧ pg ≤ 64) ∧ (1 ≤ cs ∧ cs ≤ 16) ∧ (4 ≤ ck ∧ ck ≤ 512) ∧ (1 ≤ rg ∧ rg ≤ 8) ∧ (1 ≤ pt ∧ pt ≤ 8) ∧ bl % pl = 0 ∧ pg % 2 = 0
instance instRight (pl bl pg cs ck rg pt : Int) : Decidable (Right pl bl pg cs ck rg pt) := by unfold Right; infer_instance
def chk (pl bl pg cs ck rg pt : Int) : Int := if Right pl bl pg cs ck rg pt then 0 else 2
theorem chk_ok {pl bl pg cs ck rg pt : Int} (h : Right pl bl pg cs ck rg pt) : chk pl bl pg cs ck rg pt = 0 := if_pos h
theorem chk_no {pl bl pg cs ck rg pt : Int} (h : ¬ Right pl bl pg cs ck rg pt) : chk pl bl pg cs ck rg pt = 2 := if_neg h
theorem ret_int {k : IntKind} {a b : Int} (h : a = b) : Ending.returned (.int k a) = .returned (.int k b) := by rw [h]

set_option maxHeartbeats 2000000 in
set_option maxRecDepth 100000 in
theorem check_any (pl bl pg cs ck rg pt : Int) (w : World) :
    Calls Try.prog 56 #[.agg #[.int .i64 pl, .int .i64 bl, .int .i64 pg, .int .i64 cs, .int .i64 ck, .int .i64 rg, .int .i64 pt]] w fun e w' => e = .returned (.int .i64 (chk pl bl pg cs ck rg pt)) ∧ Below w.heap.size w w' := by
  have i0 : ∀ w : World, (Instr.index 126 (.agg #[.int .i64 pl, .int .i64 1, .int .i64 4, .int .i64 bl, .int .i64 2, .int .i64 256, .int .i64 pg, .int .i64 4, .int .i64 64, .int .i64 cs, .int .i64 1, .int .i64 16, .int .i64 ck, .int .i64 4, .int .i64 512, .int .i64 rg, .int .i64 1, .int .i64 8, .int .i64 pt, .int .i64 1, .int .i64 8]) (.int .i64 0)).run Try.prog w = .ok (.agg #[.int .i64 pl, .int .i64 1, .int .i64 4]) w := fun _ => by kernel_rfl
  have i1 : ∀ w : World, (Instr.index 126 (.agg #[.int .i64 pl, .int .i64 1, .int .i64 4, .int .i64 bl, .int .i64 2, .int .i64 256, .int .i64 pg, .int .i64 4, .int .i64 64, .int .i64 cs, .int .i64 1, .int .i64 16, .int .i64 ck, .int .i64 4, .int .i64 512, .int .i64 rg, .int .i64 1, .int .i64 8, .int .i64 pt, .int .i64 1, .int .i64 8]) (.int .i64 1)).run Try.prog w = .ok (.agg #[.int .i64 bl, .int .i64 2, .int .i64 256]) w := fun _ => by kernel_rfl
  have i2 : ∀ w : World, (Instr.index 126 (.agg #[.int .i64 pl, .int .i64 1, .int .i64 4, .int .i64 bl, .int .i64 2, .int .i64 256, .int .i64 pg, .int .i64 4, .int .i64 64, .int .i64 cs, .int .i64 1, .int .i64 16, .int .i64 ck, .int .i64 4, .int .i64 512, .int .i64 rg, .int .i64 1, .int .i64 8, .int .i64 pt, .int .i64 1, .int .i64 8]) (.int .i64 2)).run Try.prog w = .ok (.agg #[.int .i64 pg, .int .i64 4, .int .i64 64]) w := fun _ => by kernel_rfl
  have i3 : ∀ w : World, (Instr.index 126 (.agg #[.int .i64 pl, .int .i64 1, .int .i64 4, .int .i64 bl, .int .i64 2, .int .i64 256, .int .i64 pg, .int .i64 4, .int .i64 64, .int .i64 cs, .int .i64 1, .int .i64 16, .int .i64 ck, .int .i64 4, .int .i64 512, .int .i64 rg, .int .i64 1, .int .i64 8, .int .i64 pt, .int .i64 1, .int .i64 8]) (.int .i64 3)).run Try.prog w = .ok (.agg #[.int .i64 cs, .int .i64 1, .int .i64 16]) w := fun _ => by kernel_rfl
  have i4 : ∀ w : World, (Instr.index 126 (.agg #[.int .i64 pl, .int .i64 1, .int .i64 4, .int .i64 bl, .int .i64 2, .int .i64 256, .int .i64 pg, .int .i64 4, .int .i64 64, .int .i64 cs, .int .i64 1, .int .i64 16, .int .i64 ck, .int .i64 4, .int .i64 512, .int .i64 rg, .int .i64 1, .int .i64 8, .int .i64 pt, .int .i64 1, .int .i64 8]) (.int .i64 4)).run Try.prog w = .ok (.agg #[.int .i64 ck, .int .i64 4, .int .i64 512]) w := fun _ => by kernel_rfl
  have i5 : ∀ w : World, (Instr.index 126 (.agg #[.int .i64 pl, .int .i64 1, .int .i64 4, .int .i64 bl, .int .i64 2, .int .i64 256, .int .i64 pg, .int .i64 4, .int .i64 64, .int .i64 cs, .int .i64 1, .int .i64 16, .int .i64 ck, .int .i64 4, .int .i64 512, .int .i64 rg, .int .i64 1, .int .i64 8, .int .i64 pt, .int .i64 1, .int .i64 8]) (.int .i64 5)).run Try.prog w = .ok (.agg #[.int .i64 rg, .int .i64 1, .int .i64 8]) w := fun _ => by kernel_rfl
  have i6 : ∀ w : World, (Instr.index 126 (.agg #[.int .i64 pl, .int .i64 1, .int .i64 4, .int .i64 bl, .int .i64 2, .int .i64 256, .int .i64 pg, .int .i64 4, .int .i64 64, .int .i64 cs, .int .i64 1, .int .i64 16, .int .i64 ck, .int .i64 4, .int .i64 512, .int .i64 rg, .int .i64 1, .int .i64 8, .int .i64 pt, .int .i64 1, .int .i64 8]) (.int .i64 6)).run Try.prog w = .ok (.agg #[.int .i64 pt, .int .i64 1, .int .i64 8]) w := fun _ => by kernel_rfl
  go_enter Try.func56, Try.ntmps56
  go_wp2
  go_loopw [27] (fun i wr => ∃ k : Nat, k ≤ 7 ∧ i = .int .i64 k ∧ (1 ≤ k → 1 ≤ pl ∧ pl ≤ 4) ∧ (2 ≤ k → 2 ≤ bl ∧ bl ≤ 256) ∧ (3 ≤ k → 4 ≤ pg ∧ pg ≤ 64) ∧ (4 ≤ k → 1 ≤ cs ∧ cs ≤ 16) ∧ (5 ≤ k → 4 ≤ ck ∧ ck ≤ 512) ∧ (6 ≤ k → 1 ≤ rg ∧ rg ≤ 8) ∧ (7 ≤ k → 1 ≤ pt ∧ pt ≤ 8) ∧
      Below (w.heap.size + 1) (w.alloc (.cells #[.int .i64 pl, .int .i64 bl, .int .i64 pg, .int .i64 cs, .int .i64 ck, .int .i64 rg, .int .i64 pt] 23)) wr) (fun i _ => 7 - (intOf i).toNat)
  case atStart => exact ⟨0, by omega, rfl, by omega, by omega, by omega, by omega, by omega, by omega, by omega, Below.refl _ _⟩
  case round =>
    obtain ⟨k, hk, rfl, q0, q1, q2, q3, q4, q5, q6, hb⟩ := hrel
    have hsz := hb.size
    have hk7 : k = 0 ∨ k = 1 ∨ k = 2 ∨ k = 3 ∨ k = 4 ∨ k = 5 ∨ k = 6 ∨ k = 7 := by omega
    rcases hk7 with rfl | rfl | rfl | rfl | rfl | rfl | rfl | rfl
    · skip
      by_cases c1 : pl < 1
      · have hn : chk pl bl pg cs ck rg pt = 2 := chk_no (by unfold Right; omega)
        have HN := Lib.hid hn; clear hn q0 q1 q2 q3 q4 q5 q6
        go_wp2
        go_ret
        exact ⟨ret_int HN.out.symm, ((Below.refl _ _).alloc (Nat.le_refl _) _).trans ((hb.mono (by omega)).alloc (by simp at hsz; omega) _)⟩
      · by_cases c2 : 4 < pl
        · have hn : chk pl bl pg cs ck rg pt = 2 := chk_no (by unfold Right; omega)
          have HN := Lib.hid hn; clear hn q0 q1 q2 q3 q4 q5 q6
          go_wp2
          go_ret
          exact ⟨ret_int HN.out.symm, ((Below.refl _ _).alloc (Nat.le_refl _) _).trans ((hb.mono (by omega)).alloc (by simp at hsz; omega) _)⟩
        · go_wp2
          go_roundw
          case rel => exact ⟨1, by omega, rfl, by omega, by omega, by omega, by omega, by omega, by omega, by omega, hb.alloc (by simpa using hsz) _⟩
          case measure => simp [intOf]
    · skip
      by_cases c1 : bl < 2
      · have hn : chk pl bl pg cs ck rg pt = 2 := chk_no (by unfold Right; omega)
        have HN := Lib.hid hn; clear hn q0 q1 q2 q3 q4 q5 q6
        go_wp2
        go_ret
        exact ⟨ret_int HN.out.symm, ((Below.refl _ _).alloc (Nat.le_refl _) _).trans ((hb.mono (by omega)).alloc (by simp at hsz; omega) _)⟩
      · by_cases c2 : 256 < bl
        · have hn : chk pl bl pg cs ck rg pt = 2 := chk_no (by unfold Right; omega)
          have HN := Lib.hid hn; clear hn q0 q1 q2 q3 q4 q5 q6
          go_wp2
          go_ret
          exact ⟨ret_int HN.out.symm, ((Below.refl _ _).alloc (Nat.le_refl _) _).trans ((hb.mono (by omega)).alloc (by simp at hsz; omega) _)⟩
        · go_wp2
          go_roundw
          case rel => exact ⟨2, by omega, rfl, by omega, by omega, by omega, by omega, by omega, by omega, by omega, hb.alloc (by simpa using hsz) _⟩
          case measure => simp [intOf]
    · skip
      by_cases c1 : pg < 4
      · have hn : chk pl bl pg cs ck rg pt = 2 := chk_no (by unfold Right; omega)
        have HN := Lib.hid hn; clear hn q0 q1 q2 q3 q4 q5 q6
        go_wp2
        go_ret
        exact ⟨ret_int HN.out.symm, ((Below.refl _ _).alloc (Nat.le_refl _) _).trans ((hb.mono (by omega)).alloc (by simp at hsz; omega) _)⟩
      · by_cases c2 : 64 < pg
        · have hn : chk pl bl pg cs ck rg pt = 2 := chk_no (by unfold Right; omega)
          have HN := Lib.hid hn; clear hn q0 q1 q2 q3 q4 q5 q6
          go_wp2
          go_ret
          exact ⟨ret_int HN.out.symm, ((Below.refl _ _).alloc (Nat.le_refl _) _).trans ((hb.mono (by omega)).alloc (by simp at hsz; omega) _)⟩
        · go_wp2
          go_roundw
          case rel => exact ⟨3, by omega, rfl, by omega, by omega, by omega, by omega, by omega, by omega, by omega, hb.alloc (by simpa using hsz) _⟩
          case measure => simp [intOf]
    · skip
      by_cases c1 : cs < 1
      · have hn : chk pl bl pg cs ck rg pt = 2 := chk_no (by unfold Right; omega)
        have HN := Lib.hid hn; clear hn q0 q1 q2 q3 q4 q5 q6
        go_wp2
        go_ret
        exact ⟨ret_int HN.out.symm, ((Below.refl _ _).alloc (Nat.le_refl _) _).trans ((hb.mono (by omega)).alloc (by simp at hsz; omega) _)⟩
      · by_cases c2 : 16 < cs
        · have hn : chk pl bl pg cs ck rg pt = 2 := chk_no (by unfold Right; omega)
          have HN := Lib.hid hn; clear hn q0 q1 q2 q3 q4 q5 q6
          go_wp2
          go_ret
          exact ⟨ret_int HN.out.symm, ((Below.refl _ _).alloc (Nat.le_refl _) _).trans ((hb.mono (by omega)).alloc (by simp at hsz; omega) _)⟩
        · go_wp2
          go_roundw
          case rel => exact ⟨4, by omega, rfl, by omega, by omega, by omega, by omega, by omega, by omega, by omega, hb.alloc (by simpa using hsz) _⟩
          case measure => simp [intOf]
    · skip
      by_cases c1 : ck < 4
      · have hn : chk pl bl pg cs ck rg pt = 2 := chk_no (by unfold Right; omega)
        have HN := Lib.hid hn; clear hn q0 q1 q2 q3 q4 q5 q6
        go_wp2
        go_ret
        exact ⟨ret_int HN.out.symm, ((Below.refl _ _).alloc (Nat.le_refl _) _).trans ((hb.mono (by omega)).alloc (by simp at hsz; omega) _)⟩
      · by_cases c2 : 512 < ck
        · have hn : chk pl bl pg cs ck rg pt = 2 := chk_no (by unfold Right; omega)
          have HN := Lib.hid hn; clear hn q0 q1 q2 q3 q4 q5 q6
          go_wp2
          go_ret
          exact ⟨ret_int HN.out.symm, ((Below.refl _ _).alloc (Nat.le_refl _) _).trans ((hb.mono (by omega)).alloc (by simp at hsz; omega) _)⟩
        · go_wp2
          go_roundw
          case rel => exact ⟨5, by omega, rfl, by omega, by omega, by omega, by omega, by omega, by omega, by omega, hb.alloc (by simpa using hsz) _⟩
          case measure => simp [intOf]
    · skip
      by_cases c1 : rg < 1
      · have hn : chk pl bl pg cs ck rg pt = 2 := chk_no (by unfold Right; omega)
        have HN := Lib.hid hn; clear hn q0 q1 q2 q3 q4 q5 q6
        go_wp2
        go_ret
        exact ⟨ret_int HN.out.symm, ((Below.refl _ _).alloc (Nat.le_refl _) _).trans ((hb.mono (by omega)).alloc (by simp at hsz; omega) _)⟩
      · by_cases c2 : 8 < rg
        · have hn : chk pl bl pg cs ck rg pt = 2 := chk_no (by unfold Right; omega)
          have HN := Lib.hid hn; clear hn q0 q1 q2 q3 q4 q5 q6
          go_wp2
          go_ret
          exact ⟨ret_int HN.out.symm, ((Below.refl _ _).alloc (Nat.le_refl _) _).trans ((hb.mono (by omega)).alloc (by simp at hsz; omega) _)⟩
        · go_wp2
          go_roundw
          case rel => exact ⟨6, by omega, rfl, by omega, by omega, by omega, by omega, by omega, by omega, by omega, hb.alloc (by simpa using hsz) _⟩
          case measure => simp [intOf]
    · skip
      by_cases c1 : pt < 1
      · have hn : chk pl bl pg cs ck rg pt = 2 := chk_no (by unfold Right; omega)
        have HN := Lib.hid hn; clear hn q0 q1 q2 q3 q4 q5 q6
        go_wp2
        go_ret
        exact ⟨ret_int HN.out.symm, ((Below.refl _ _).alloc (Nat.le_refl _) _).trans ((hb.mono (by omega)).alloc (by simp at hsz; omega) _)⟩
      · by_cases c2 : 8 < pt
        · have hn : chk pl bl pg cs ck rg pt = 2 := chk_no (by unfold Right; omega)
          have HN := Lib.hid hn; clear hn q0 q1 q2 q3 q4 q5 q6
          go_wp2
          go_ret
          exact ⟨ret_int HN.out.symm, ((Below.refl _ _).alloc (Nat.le_refl _) _).trans ((hb.mono (by omega)).alloc (by simp at hsz; omega) _)⟩
        · go_wp2
          go_roundw
          case rel => exact ⟨7, by omega, rfl, by omega, by omega, by omega, by omega, by omega, by omega, by omega, hb.alloc (by simpa using hsz) _⟩
          case measure => simp [intOf]
    · have P1 := q0 (by omega)
      have P2 := q1 (by omega)
      have P3 := q2 (by omega)
      have P4 := q3 (by omega)
      have P5 := q4 (by omega)
      have P6 := q5 (by omega)
      have P7 := q6 (by omega)
      have k0 : wr.cell? ⟨w.heap.size, 0, none⟩ = some (.int .i64 pl) := (hb.cell (p := ⟨w.heap.size, 0, none⟩) (by simp)).trans (by simp [World.cell?_alloc_new])
      have k1 : wr.cell? ⟨w.heap.size, 1, none⟩ = some (.int .i64 bl) := (hb.cell (p := ⟨w.heap.size, 1, none⟩) (by simp)).trans (by simp [World.cell?_alloc_new])
      have k2 : wr.cell? ⟨w.heap.size, 2, none⟩ = some (.int .i64 pg) := (hb.cell (p := ⟨w.heap.size, 2, none⟩) (by simp)).trans (by simp [World.cell?_alloc_new])
      have hbel : Below w.heap.size w wr := ((Below.refl _ _).alloc (Nat.le_refl _) _).trans (hb.mono (by omega))
      have hn : chk pl bl pg cs ck rg pt = if bl % pl = 0 ∧ pg % 2 = 0 then 0 else 2 := by
        by_cases hc : bl % pl = 0 ∧ pg % 2 = 0
        · rw [if_pos hc]
          exact chk_ok ⟨P1, P2, P3, P4, P5, P6, P7, hc.1, hc.2⟩
        · rw [if_neg hc]
          exact chk_no (fun h => hc ⟨h.2.2.2.2.2.2.2.1, h.2.2.2.2.2.2.2.2⟩)
      have HN := Lib.hid hn
      clear hn q0 q1 q2 q3 q4 q5 q6 hb hsz
      by_cases c1 : bl % pl = 0
      · have C1 : (bl % pl != 0) = false := by simp [c1]
        by_cases c2 : pg % 2 = 0
        · have C2 : (pg % 2 != 0) = false := by simp [c2]
          have HN2 := Lib.hid (HN.out.trans (if_pos ⟨c1, c2⟩))
          clear c1 c2 HN
          go_wp2
          go_ret
          exact ⟨ret_int HN2.out.symm, hbel⟩
        · have C2 : (pg % 2 != 0) = true := by simp [c2]
          have HN2 := Lib.hid (HN.out.trans (if_neg (fun h => c2 h.2)))
          clear c1 c2 HN
          go_wp2
          go_ret
          exact ⟨ret_int HN2.out.symm, hbel⟩
      · have C1 : (bl % pl != 0) = true := by simp [c1]
        have HN2 := Lib.hid (HN.out.trans (if_neg (fun h => c1 h.1)))
        clear c1 HN
        go_wp2
        go_ret
        exact ⟨ret_int HN2.out.symm, hbel⟩
end Go.Proofs.Ytfmogmgdpamfgaa

namespace Go.Proofs.Ytfmogmgdpamfgaa
open Go.RowKit

theorem check_ok {pl bl pg cs ck rg pt : Int} (h : Right pl bl pg cs ck rg pt) (w : World) :
    Calls Try.prog 56 #[.agg #[.int .i64 pl, .int .i64 bl, .int .i64 pg, .int .i64 cs, .int .i64 ck, .int .i64 rg, .int .i64 pt]] w fun e w' => e = .returned (.int .i64 0) ∧ Below w.heap.size w w' :=
  (check_any pl bl pg cs ck rg pt w).mono fun _ _ ⟨he, hb⟩ => ⟨by rw [he, chk_ok h], hb⟩
theorem check_no {pl bl pg cs ck rg pt : Int} (h : ¬ Right pl bl pg cs ck rg pt) (w : World) :
    Calls Try.prog 56 #[.agg #[.int .i64 pl, .int .i64 bl, .int .i64 pg, .int .i64 cs, .int .i64 ck, .int .i64 rg, .int .i64 pt]] w fun e w' => e = .returned (.int .i64 2) ∧ Below w.heap.size w w' :=
  (check_any pl bl pg cs ck rg pt w).mono fun _ _ ⟨he, hb⟩ => ⟨by rw [he, chk_no h], hb⟩

theorem within_yes (n m : Int) (h0 : 0 ≤ n) (h1 : n < m) (w : World) : Calls Try.prog 93 #[.int .i64 n, .int .i64 m] w fun e w' => e = .returned (.bool true) ∧ w = w' := by
  go_enter Try.func93, Try.ntmps93
  go_wp2
  go_ret
  exact ⟨rfl, rfl⟩
theorem within_no (n m : Int) (h : ¬ (0 ≤ n ∧ n < m)) (w : World) : Calls Try.prog 93 #[.int .i64 n, .int .i64 m] w fun e w' => e = .returned (.bool false) ∧ w = w' := by
  by_cases c : 0 ≤ n
  · have c2 : ¬ n < m := fun h2 => h ⟨c, h2⟩
    clear h
    go_enter Try.func93, Try.ntmps93
    go_wp2
    go_ret
    exact ⟨rfl, rfl⟩
  · clear h
    have c2 : n < 0 := by omega
    clear c
    go_enter Try.func93, Try.ntmps93
    go_wp2
    go_ret
    exact ⟨rfl, rfl⟩

theorem chain1 {w : World} (o : Obj) {w1 : World} (h : Below (w.heap.size + 1) (w.alloc o) w1) : Below w.heap.size w w1 :=
  ((Below.refl _ _).alloc (Nat.le_refl _) _).trans (h.mono (by omega))
theorem chain1' {w : World} (o : Obj) {w1 : World} (h : Below (w.alloc o).heap.size (w.alloc o) w1) : Below w.heap.size w w1 := chain1 o (by simpa using h)




theorem b_drewN {B : Nat} {w W : World} (h : Below B w W) (n : Nat) : Below B w (W.drewN n) := ⟨h.os, h.tape, h.output, h.size, h.block⟩

set_option maxHeartbeats 800000 in
theorem raw_ok {pl bl pg cs ck rg pt : Int}  (h : Right pl bl pg cs ck rg pt) (w : World) :
    Calls Try.prog 108 #[.agg #[.int .i64 pl, .int .i64 bl, .int .i64 pg, .int .i64 cs, .int .i64 ck, .int .i64 rg, .int .i64 pt]] w fun e w' => e = .returned (.int .i64 (cs * (ck + 2) + 31)) ∧ Below w.heap.size w w' := by
  obtain ⟨⟨a1, a2⟩, ⟨b1, b2⟩, ⟨c1, c2⟩, ⟨d1, d2⟩, ⟨e1, e2⟩, ⟨f1, f2⟩, ⟨g1, g2⟩, h1, h2⟩ := id h
  have HH := Lib.hid h
  clear h h1 h2
  have hm : 0 ≤ cs * (ck + 2) ∧ cs * (ck + 2) ≤ 8224 := ⟨Int.mul_nonneg (by omega) (by omega), Int.le_trans (Int.mul_le_mul_of_nonneg_right d2 (by omega)) (by omega)⟩
  obtain ⟨m1, m2⟩ := hm
  go_enter Try.func108, Try.ntmps108
  go_wp2_with (first | (go_at_call 56; refine (check_ok HH.out _).mono ?_; rintro e w1 ⟨rfl, hb1⟩; obtain ⟨hc1, hf1⟩ := bcell hb1) )
  go_ret
  exact ⟨ret_int (by omega), chain1' _ hb1⟩
set_option maxHeartbeats 800000 in
theorem raw_no {pl bl pg cs ck rg pt : Int}  (h : ¬ Right pl bl pg cs ck rg pt) (w : World) :
    Calls Try.prog 108 #[.agg #[.int .i64 pl, .int .i64 bl, .int .i64 pg, .int .i64 cs, .int .i64 ck, .int .i64 rg, .int .i64 pt]] w fun e w' => e = .returned (.int .i64 0) ∧ Below w.heap.size w w' := by
  have HH := Lib.hid h
  clear h
  go_enter Try.func108, Try.ntmps108
  go_wp2_with (first | (go_at_call 56; refine (check_no HH.out _).mono ?_; rintro e w1 ⟨rfl, hb1⟩))
  go_ret
  exact ⟨rfl, chain1' _ hb1⟩
set_option maxHeartbeats 800000 in
theorem row_ok {pl bl pg cs ck rg pt : Int} {b p : Int} (h : Right pl bl pg cs ck rg pt) (hb0 : 0 ≤ b) (hb1 : b < bl) (hp0 : 0 ≤ p) (hp1 : p < pg) (w : World) :
    Calls Try.prog 144 #[.agg #[.int .i64 pl, .int .i64 bl, .int .i64 pg, .int .i64 cs, .int .i64 ck, .int .i64 rg, .int .i64 pt], .int .i64 b, .int .i64 p] w fun e w' => e = .returned (.tuple #[.int .i64 (b * pg + p), .bool true]) ∧ Below w.heap.size w w' := by
  obtain ⟨⟨a1, a2⟩, ⟨b1, b2⟩, ⟨c1, c2⟩, ⟨d1, d2⟩, ⟨e1, e2⟩, ⟨f1, f2⟩, ⟨g1, g2⟩, h1, h2⟩ := id h
  have HH := Lib.hid h
  clear h h1 h2
  have hm : 0 ≤ b * pg ∧ b * pg ≤ 16384 := ⟨Int.mul_nonneg (by omega) (by omega), Int.le_trans (Int.mul_le_mul_of_nonneg_right (by omega : b ≤ 256) (by omega)) (by omega)⟩
  obtain ⟨m1, m2⟩ := hm
  go_enter Try.func144, Try.ntmps144
  go_wp2_with (first | (go_at_call 56; refine (check_ok HH.out _).mono ?_; rintro e w1 ⟨rfl, hb1⟩; obtain ⟨hc1, hf1⟩ := bcell hb1) | (go_at_call 93; refine (within_yes _ _ (by omega) (by omega) _).mono ?_; rintro e w2 ⟨rfl, rfl⟩))
  go_ret2
  exact ⟨rfl, chain1' _ hb1⟩
set_option maxHeartbeats 800000 in
theorem row_no1 {pl bl pg cs ck rg pt : Int} {b p : Int} (h : ¬ Right pl bl pg cs ck rg pt) (w : World) :
    Calls Try.prog 144 #[.agg #[.int .i64 pl, .int .i64 bl, .int .i64 pg, .int .i64 cs, .int .i64 ck, .int .i64 rg, .int .i64 pt], .int .i64 b, .int .i64 p] w fun e w' => e = .returned (.tuple #[.int .i64 0, .bool false]) ∧ Below w.heap.size w w' := by
  have HH := Lib.hid h
  clear h
  go_enter Try.func144, Try.ntmps144
  go_wp2_with (first | (go_at_call 56; refine (check_no HH.out _).mono ?_; rintro e w1 ⟨rfl, hb1⟩))
  go_ret2
  exact ⟨rfl, chain1' _ hb1⟩
set_option maxHeartbeats 800000 in
theorem row_no2 {pl bl pg cs ck rg pt : Int} {b p : Int} (h : Right pl bl pg cs ck rg pt) (hb : ¬ (0 ≤ b ∧ b < bl)) (w : World) :
    Calls Try.prog 144 #[.agg #[.int .i64 pl, .int .i64 bl, .int .i64 pg, .int .i64 cs, .int .i64 ck, .int .i64 rg, .int .i64 pt], .int .i64 b, .int .i64 p] w fun e w' => e = .returned (.tuple #[.int .i64 0, .bool false]) ∧ Below w.heap.size w w' := by
  obtain ⟨⟨a1, a2⟩, ⟨b1, b2⟩, ⟨c1, c2⟩, ⟨d1, d2⟩, ⟨e1, e2⟩, ⟨f1, f2⟩, ⟨g1, g2⟩, h1, h2⟩ := id h
  have HH := Lib.hid h
  clear h h1 h2
  have HB := Lib.hid hb
  clear hb
  go_enter Try.func144, Try.ntmps144
  go_wp2_with (first | (go_at_call 56; refine (check_ok HH.out _).mono ?_; rintro e w1 ⟨rfl, hb1⟩; obtain ⟨hc1, hf1⟩ := bcell hb1) | (go_at_call 93; refine (within_no _ _ HB.out _).mono ?_; rintro e w2 ⟨rfl, rfl⟩))
  go_ret2
  exact ⟨rfl, chain1' _ hb1⟩
set_option maxHeartbeats 800000 in
theorem row_no3 {pl bl pg cs ck rg pt : Int} {b p : Int} (h : Right pl bl pg cs ck rg pt) (hb0 : 0 ≤ b) (hb1 : b < bl) (hb : ¬ (0 ≤ p ∧ p < pg)) (w : World) :
    Calls Try.prog 144 #[.agg #[.int .i64 pl, .int .i64 bl, .int .i64 pg, .int .i64 cs, .int .i64 ck, .int .i64 rg, .int .i64 pt], .int .i64 b, .int .i64 p] w fun e w' => e = .returned (.tuple #[.int .i64 0, .bool false]) ∧ Below w.heap.size w w' := by
  obtain ⟨⟨a1, a2⟩, ⟨b1, b2⟩, ⟨c1, c2⟩, ⟨d1, d2⟩, ⟨e1, e2⟩, ⟨f1, f2⟩, ⟨g1, g2⟩, h1, h2⟩ := id h
  have HH := Lib.hid h
  clear h h1 h2
  have HB := Lib.hid hb
  clear hb
  go_enter Try.func144, Try.ntmps144
  go_wp2_with (first | (go_at_call 56; refine (check_ok HH.out _).mono ?_; rintro e w1 ⟨rfl, hb1⟩; obtain ⟨hc1, hf1⟩ := bcell hb1) | (go_at_call 93; refine (within_yes b bl (by omega) (by omega) _).mono ?_; rintro e w2 ⟨rfl, rfl⟩; go_wp2_with (go_at_call 93; refine (within_no p pg HB.out _).mono ?_; rintro e w3 ⟨rfl, rfl⟩)))
  go_ret2
  exact ⟨rfl, chain1' _ hb1⟩
set_option maxHeartbeats 800000 in
theorem split_ok {pl bl pg cs ck rg pt : Int} {r : Int} (h : Right pl bl pg cs ck rg pt) (hb0 : 0 ≤ r) (hb1 : r < bl * pg) (w : World) :
    Calls Try.prog 59 #[.agg #[.int .i64 pl, .int .i64 bl, .int .i64 pg, .int .i64 cs, .int .i64 ck, .int .i64 rg, .int .i64 pt], .int .i64 r] w fun e w' => e = .returned (.tuple #[.int .i64 (r / pg), .int .i64 (r % pg), .bool true]) ∧ Below w.heap.size w w' := by
  obtain ⟨⟨a1, a2⟩, ⟨b1, b2⟩, ⟨c1, c2⟩, ⟨d1, d2⟩, ⟨e1, e2⟩, ⟨f1, f2⟩, ⟨g1, g2⟩, h1, h2⟩ := id h
  have HH := Lib.hid h
  clear h h1 h2
  have hm : 4 ≤ bl * pg ∧ bl * pg ≤ 16384 := ⟨by have := Int.mul_le_mul b1 c1 (by omega) (by omega); omega, Int.le_trans (Int.mul_le_mul_of_nonneg_right b2 (by omega)) (by omega)⟩
  obtain ⟨m1, m2⟩ := hm
  go_enter Try.func59, Try.ntmps59
  go_wp2_with (first | (go_at_call 56; refine (check_ok HH.out _).mono ?_; rintro e w1 ⟨rfl, hb1⟩; obtain ⟨hc1, hf1⟩ := bcell hb1) | (go_at_call 93; refine (within_yes _ _ (by omega) (by omega) _).mono ?_; rintro e w2 ⟨rfl, rfl⟩))
  go_quiet (fail)
  go_wp2
  go_ret3
  exact ⟨rfl, b_drewN (chain1' _ hb1) _⟩
set_option maxHeartbeats 800000 in
theorem split_no1 {pl bl pg cs ck rg pt : Int} {r : Int} (h : ¬ Right pl bl pg cs ck rg pt) (w : World) :
    Calls Try.prog 59 #[.agg #[.int .i64 pl, .int .i64 bl, .int .i64 pg, .int .i64 cs, .int .i64 ck, .int .i64 rg, .int .i64 pt], .int .i64 r] w fun e w' => e = .returned (.tuple #[.int .i64 0, .int .i64 0, .bool false]) ∧ Below w.heap.size w w' := by
  have HH := Lib.hid h
  clear h
  go_enter Try.func59, Try.ntmps59
  go_wp2_with (first | (go_at_call 56; refine (check_no HH.out _).mono ?_; rintro e w1 ⟨rfl, hb1⟩))
  go_ret3
  exact ⟨rfl, chain1' _ hb1⟩
set_option maxHeartbeats 800000 in
theorem split_no2 {pl bl pg cs ck rg pt : Int} {r : Int} (h : Right pl bl pg cs ck rg pt) (hb : ¬ (0 ≤ r ∧ r < bl * pg)) (w : World) :
    Calls Try.prog 59 #[.agg #[.int .i64 pl, .int .i64 bl, .int .i64 pg, .int .i64 cs, .int .i64 ck, .int .i64 rg, .int .i64 pt], .int .i64 r] w fun e w' => e = .returned (.tuple #[.int .i64 0, .int .i64 0, .bool false]) ∧ Below w.heap.size w w' := by
  obtain ⟨⟨a1, a2⟩, ⟨b1, b2⟩, ⟨c1, c2⟩, ⟨d1, d2⟩, ⟨e1, e2⟩, ⟨f1, f2⟩, ⟨g1, g2⟩, h1, h2⟩ := id h
  have HH := Lib.hid h
  clear h h1 h2
  have hm : 4 ≤ bl * pg ∧ bl * pg ≤ 16384 := ⟨by have := Int.mul_le_mul b1 c1 (by omega) (by omega); omega, Int.le_trans (Int.mul_le_mul_of_nonneg_right b2 (by omega)) (by omega)⟩
  obtain ⟨m1, m2⟩ := hm
  have HB := Lib.hid hb
  clear hb
  go_enter Try.func59, Try.ntmps59
  go_wp2_with (first | (go_at_call 56; refine (check_ok HH.out _).mono ?_; rintro e w1 ⟨rfl, hb1⟩; obtain ⟨hc1, hf1⟩ := bcell hb1) | (go_at_call 93; refine (within_no _ _ HB.out _).mono ?_; rintro e w2 ⟨rfl, rfl⟩))
  go_ret3
  exact ⟨rfl, chain1' _ hb1⟩
end Go.Proofs.Ytfmogmgdpamfgaa

