import Derived.Test.YtnkgbnipcjgjeaaTA
namespace Go.Proofs.Ytnkgbnipcjgjeaa
open Go.RowKit Go.Shelf Go.Sort Go.Lib Go.Proofs.YtnkgbnipcjgjeaaW.PrintWords Go.Proofs.YtnkgbnipcjgjeaaW.PrintLast Go.Proofs.YtnkgbnipcjgjeaaW.PrintMore
set_option linter.unusedVariables false
/-- Numbers that rise above one, up to another. -/
def riseB (hi : Int) : Int → List Int → Bool
  | _, [] => true
  | last, x :: r => decide (last < x) && decide (x ≤ hi) && riseB hi x r
set_option maxHeartbeats 2000000 in
theorem rising_ok (A : Option Addr) (c : Nat) (xs : List Int) (hi : Int) (w : World) (hC : Kd.C (Kd.int .i64) w A xs.length xs) (hl : xs.length ≤ 100000) :
    Calls Try.prog 132 #[.slice A xs.length c, .int .i64 hi] w fun e w' => e = .returned (.bool (riseB hi (-1) xs)) ∧ w' = w := by
  obtain ⟨T, hT⟩ : ∃ T, T = riseB hi (-1) xs := ⟨_, rfl⟩
  have HT : Hid (T = riseB hi (-1) (xs.drop 0)) := Lib.hid hT
  rw [← hT]
  obtain ⟨m, hm⟩ : ∃ m, m = xs.length := ⟨_, rfl⟩
  rw [← hm] at hC hl ⊢
  have HC := Lib.hid hC
  have HM := Lib.hid hm
  have hm2 : (m : Int) ≤ 100000 := by omega
  clear hT hC hm hl
  go_enter Try.func132, Try.ntmps132
  go_wp2_with fail
  go_loop [5, 10] (fun la i => ∃ (k : Nat) (last : Int), k ≤ m ∧ i = .int .i64 k ∧ la = .int .i64 last ∧ Hid (T = riseB hi last (xs.drop k))) (fun _ i => m - (intOf i).toNat)
  case atStart => exact ⟨0, -1, by omega, rfl, rfl, HT⟩
  case round =>
    clear HT
    obtain ⟨k, last, hk, rfl, rfl, HG⟩ := hrel
    by_cases hkm : k < m
    · have hkx : k < xs.length := by rw [← HM.out]; exact hkm
      have hC := HC.out
      rw [HM.out] at hC
      obtain ⟨b, off, rfl, _, hcell⟩ := row_of_C hC (by omega)
      have e0 := hcell k hkx
      have hg := HG.out
      rw [List.drop_eq_getElem_cons hkx] at hg
      rw [List.getD_eq_getElem?_getD, List.getElem?_eq_getElem hkx, Option.getD_some] at e0
      generalize xs[k] = x at hg e0
      have hk0 : (k : Int) < (m : Int) := by omega
      have h1 : riseB hi last (x :: xs.drop (k + 1)) = (decide (last < x) && decide (x ≤ hi) && riseB hi x (xs.drop (k + 1))) := rfl
      rw [h1] at hg
      by_cases c1 : x ≤ last
      · rw [decide_eq_false (by omega)] at hg
        have hT : T = false := hg
        subst hT
        clear hg h1 hcell hC hkx
        go_wp2_with fail
        go_ret
        exact ⟨rfl, rfl⟩
      · by_cases c2 : hi < x
        · rw [decide_eq_false (show ¬ x ≤ hi by omega), Bool.and_false] at hg
          have hT : T = false := hg
          subst hT
          clear hg h1 hcell hC hkx
          go_wp2_with fail
          go_ret
          exact ⟨rfl, rfl⟩
        · rw [decide_eq_true (show last < x by omega), decide_eq_true (show x ≤ hi by omega)] at hg
          have HG2 := Lib.hid (show T = riseB hi x (xs.drop (k + 1)) from hg)
          clear hg h1 hcell hC hkx HG
          go_wp2_with fail
          go_round
          case rel => exact ⟨k + 1, x, hkm, by go_num, rfl, HG2⟩
          case measure => exact step_measure hkm
    · have hk2 : k = m := by omega
      subst hk2
      have hg := HG.out
      rw [HM.out, List.drop_length] at hg
      have hT : T = true := hg
      subst hT
      clear hg hkm
      go_wp2_with fail
      go_ret
      exact ⟨rfl, rfl⟩
/-- Where the first one is, from k on; -1: nowhere. -/
def idxP (p : Nat → Bool) : Nat → Nat → Int
  | 0, _ => -1
  | d + 1, k => if p k then (k : Int) else idxP p d (k + 1)
theorem idxP_any {α : Type} (f : α → Bool) (z : α) (xs : List α) : ∀ d k, k + d = xs.length → decide (0 ≤ idxP (fun j => f (xs.getD j z)) d k) = (xs.drop k).any f := by
  intro d
  induction d with
  | zero =>
    intro k hk
    rw [List.drop_of_length_le (by omega)]
    rfl
  | succ d ih =>
    intro k hk
    have hl : k < xs.length := by omega
    unfold idxP
    rw [List.drop_eq_getElem_cons hl, List.any_cons, List.getD_eq_getElem?_getD, List.getElem?_eq_getElem hl, Option.getD_some]
    cases hf : f xs[k] with
    | true => rw [if_pos rfl, decide_eq_true (by omega)]; rfl
    | false => rw [if_neg (by simp), ih (k + 1) (by omega)]; rfl
set_option maxHeartbeats 2000000 in
theorem idx144_ok (A : Option Addr) (c : Nat) (xs : List Int) (w : World) (hC : Kd.C (Kd.int .i64) w A xs.length xs) (hl : xs.length ≤ 100000) :
    Calls Try.prog 144 #[.slice A xs.length c, .func (.func 128) #[] #[]] w fun e w' => e = .returned (.int .i64 (idxP (fun j => !inB 0 65536 (xs.getD j 0)) xs.length 0)) ∧ w' = w := by
  obtain ⟨T, hT⟩ : ∃ T, T = idxP (fun j => !inB 0 65536 (xs.getD j 0)) xs.length 0 := ⟨_, rfl⟩
  rw [← hT]
  obtain ⟨m, hm⟩ : ∃ m, m = xs.length := ⟨_, rfl⟩
  rw [← hm] at hC hl hT ⊢
  have HT := Lib.hid hT
  have HC := Lib.hid hC
  have HM := Lib.hid hm
  have hm2 : (m : Int) ≤ 100000 := by omega
  clear hT hC hm hl
  go_enter Try.func144, Try.ntmps144
  go_wp2_with fail
  go_loop [8] (fun i => ∃ (k : Nat), k ≤ m ∧ i = .int .i64 k ∧ Hid (T = idxP (fun j => !inB 0 65536 (xs.getD j 0)) (m - k) k)) (fun i => m - (intOf i).toNat)
  case atStart => exact ⟨0, by omega, rfl, HT⟩
  case round =>
    clear HT
    obtain ⟨k, hk, rfl, HG⟩ := hrel
    by_cases hkm : k < m
    · have hkx : k < xs.length := by rw [← HM.out]; exact hkm
      have hC := HC.out
      rw [HM.out] at hC
      obtain ⟨b, off, rfl, _, hcell⟩ := row_of_C hC (by omega)
      have e0 := hcell k hkx
      have hg := HG.out
      obtain ⟨d, hd⟩ : ∃ d, m - k = d + 1 := ⟨m - k - 1, by omega⟩
      have hd2 : m - (k + 1) = d := by omega
      rw [hd] at hg
      have h1 : idxP (fun j => !inB 0 65536 (xs.getD j 0)) (d + 1) k = if (!inB 0 65536 (xs.getD k 0)) = true then (k : Int) else idxP (fun j => !inB 0 65536 (xs.getD j 0)) d (k + 1) := rfl
      rw [h1] at hg
      generalize xs.getD k 0 = x at hg e0
      have HCL := Lib.hid (clos128_ok x)
      have hk0 : (k : Int) < (m : Int) := by omega
      cases hb : inB 0 65536 x with
      | false =>
        rw [hb, if_pos (by decide)] at hg
        rw [hb] at HCL
        subst hg
        clear hb h1 hcell hC hkx hd hd2 HG
        go_wp2_with (go_at_call 128; refine (HCL.out _).mono ?_; rintro e w' ⟨rfl, rfl⟩)
        go_ret
        exact ⟨rfl, rfl⟩
      | true =>
        rw [hb, if_neg (by decide)] at hg
        rw [hb] at HCL
        rw [← hd2] at hg
        have HG2 := Lib.hid hg
        clear hg hb h1 hcell hC hkx hd hd2 HG
        go_wp2_with (go_at_call 128; refine (HCL.out _).mono ?_; rintro e w' ⟨rfl, rfl⟩)
        go_round
        case rel => exact ⟨k + 1, hkm, by go_num, HG2⟩
        case measure => exact step_measure hkm
    · have hk2 : k = m := by omega
      subst hk2
      have hg := HG.out
      rw [Nat.sub_self] at hg
      have hT : T = -1 := hg
      subst hT
      clear hg hkm
      go_wp2_with fail
      go_ret
      exact ⟨rfl, rfl⟩
theorem has127_ok (A : Option Addr) (c : Nat) (xs : List Int) (w : World) (hC : Kd.C (Kd.int .i64) w A xs.length xs) (hl : xs.length ≤ 100000) :
    Calls Try.prog 127 #[.slice A xs.length c, .func (.func 128) #[] #[]] w fun e w' => e = .returned (.bool (xs.any fun x => !inB 0 65536 x)) ∧ w' = w := by
  have HI := Lib.hid (idx144_ok A c xs w hC hl)
  have hT := idxP_any (fun x => !inB 0 65536 x) 0 xs xs.length 0 (by omega)
  rw [List.drop_zero] at hT
  rw [← hT]
  generalize idxP (fun j => !inB 0 65536 (xs.getD j 0)) xs.length 0 = T at HI ⊢
  clear hC hl hT
  go_enter Try.func127, Try.ntmps127
  go_wp2_with (go_at_call 144; refine (HI.out).mono ?_; rintro e w' ⟨rfl, rfl⟩)
  go_ret
  exact ⟨rfl, rfl⟩
end Go.Proofs.Ytnkgbnipcjgjeaa
