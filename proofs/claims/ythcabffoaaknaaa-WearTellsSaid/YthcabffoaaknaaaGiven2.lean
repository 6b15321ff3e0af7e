import Derived.Test.YthcabffoaaknaaaGiven1
import Derived.Test.YthcabffoaaknaaaWLast
import Derived.Test.YthcabffoaaknaaaWMore
import Derived.Lib.Hide
import Derived.LoopTactic
import Derived.IntWalk
namespace Go.Proofs.Ythcabffoaaknaaa
open Go.RowKit Go.Shelf Go.Proofs.YthcabffoaaknaaaW.PrintWords Go.Proofs.YthcabffoaaknaaaW.PrintLast Go.Proofs.YthcabffoaaknaaaW.PrintMore
set_option linter.unusedVariables false
def foldFrom (f : Int → Int → Int) : Int → List Int → Int
  | a, [] => a
  | a, x :: xs => foldFrom f (f a x) xs
theorem foldFrom_step (f : Int → Int → Int) (a : Int) (l : List Int) (k : Nat) (h : k < l.length) : foldFrom f a (l.drop k) = foldFrom f (f a (l.getD k 0)) (l.drop (k + 1)) := by
  rw [List.drop_eq_getElem_cons h, foldFrom, List.getD_eq_getElem?_getD, List.getElem?_eq_getElem h]
  rfl
theorem foldFrom_end (f : Int → Int → Int) (a : Int) (l : List Int) (k : Nat) (h : l.length ≤ k) : foldFrom f a (l.drop k) = a := by
  rw [List.drop_eq_nil_of_le h, foldFrom]
def addW (a x : Int) : Int := wrap64 (a + x)
def totL (l : List Int) : Int := foldFrom addW 0 l
def minL (l : List Int) : Int := foldFrom mn (l.getD 0 0) (l.drop 1)
def maxL (l : List Int) : Int := foldFrom mx (l.getD 0 0) (l.drop 1)
set_option maxHeartbeats 2000000 in
theorem total_ok (A0 : Option Addr) (c0 : Nat) (l0 : List Int) (w : World) (hr0 : Kd.C (Kd.int .i64) w A0 l0.length l0) (hl : l0.length ≤ 1000) :
    Calls Try.prog 20 #[.slice A0 l0.length c0] w fun e w' => e = .returned (.int .i64 (totL l0)) ∧ w' = w := by
  have hrow := fun h => row_of_C (w := w) hr0 h
  clear hr0
  obtain ⟨T, hT⟩ : ∃ T, T = totL l0 := ⟨_, rfl⟩
  have HT := Lib.hid hT
  rw [← hT]
  clear hT
  obtain ⟨n, hn⟩ : ∃ n, n = l0.length := ⟨_, rfl⟩
  rw [← hn] at hrow hl ⊢
  have HN := Lib.hid hn
  clear hn
  go_enter Try.func20, Try.ntmps20
  go_wp2
  go_loop [3, 8] (fun s i => ∃ (k : Nat) (m : Int), k ≤ n ∧ i = .int .i64 k ∧ s = .int .i64 m ∧ Hid (foldFrom addW m (l0.drop k) = T)) (fun _ i => n - (intOf i).toNat)
  case atStart => exact ⟨0, 0, by omega, rfl, rfl, Lib.hid (by rw [HT.out]; rfl)⟩
  case round =>
    obtain ⟨k, m, hk, rfl, rfl, HF⟩ := hrel
    by_cases hlt : k < n
    · obtain ⟨b, off, rfl, hb, hc⟩ := hrow (by omega)
      have hck := hc k hlt
      obtain ⟨x, hx⟩ : ∃ x, x = l0.getD k 0 := ⟨_, rfl⟩
      have HX := Lib.hid hx
      rw [← hx] at hck
      clear hx hc hrow
      go_wp2
      go_round
      case rel => exact ⟨k + 1, _, by omega, by go_num, rfl, Lib.hid (by have h1 := HF.out; rw [foldFrom_step _ _ _ _ (by rw [← HN.out]; exact hlt), ← HX.out] at h1; exact h1)⟩
      case measure => simp [intOf]; omega
    · have hk2 : k = n := by omega
      subst hk2
      have h1 := HF.out
      rw [foldFrom_end _ _ _ _ (by rw [← HN.out]; exact Nat.le_refl _)] at h1
      have H1 := Lib.hid h1
      clear h1 hrow
      go_wp2
      go_ret
      exact ⟨by rw [H1.out]; rfl, rfl⟩
attribute [local go_sem] max2_int min2_int max_two min_two
set_option maxHeartbeats 2000000 in
theorem smin_ok (A0 : Option Addr) (c0 : Nat) (l0 : List Int) (w : World) (hr0 : Kd.C (Kd.int .i64) w A0 l0.length l0) (hl : l0.length ≤ 1000) (hp : 0 < l0.length) :
    Calls Try.prog 18 #[.slice A0 l0.length c0] w fun e w' => e = .returned (.int .i64 (minL l0)) ∧ w' = w := by
  have hrow := row_of_C (w := w) hr0 hp
  clear hr0
  obtain ⟨T, hT⟩ : ∃ T, T = minL l0 := ⟨_, rfl⟩
  have HT := Lib.hid hT
  rw [← hT]
  clear hT
  obtain ⟨n, hn⟩ : ∃ n, n = l0.length := ⟨_, rfl⟩
  rw [← hn] at hrow hl hp ⊢
  have HN := Lib.hid hn
  clear hn
  obtain ⟨b, off, rfl, hb, hc⟩ := hrow
  have hc0 := hc 0 hp
  rw [Nat.add_zero] at hc0
  obtain ⟨x0, hx0⟩ : ∃ x, x = l0.getD 0 0 := ⟨_, rfl⟩
  have HX0 := Lib.hid hx0
  rw [← hx0] at hc0
  clear hx0
  have HC := Lib.hid hc
  clear hc
  go_enter Try.func18, Try.ntmps18
  go_wp2
  go_loop [3, 4] (fun s i => ∃ (k : Nat) (m : Int), 1 ≤ k ∧ k ≤ n ∧ i = .int .i64 k ∧ s = .int .i64 m ∧ Hid (foldFrom mn m (l0.drop k) = T)) (fun _ i => n - (intOf i).toNat)
  case atStart => exact ⟨1, x0, by omega, by omega, rfl, rfl, Lib.hid (by rw [HT.out, HX0.out]; rfl)⟩
  case round =>
    clear hc0
    obtain ⟨k, m, hk1, hk, rfl, rfl, HF⟩ := hrel
    by_cases hlt : k < n
    · have hck := HC.out k hlt
      obtain ⟨x, hx⟩ : ∃ x, x = l0.getD k 0 := ⟨_, rfl⟩
      have HX := Lib.hid hx
      rw [← hx] at hck
      clear hx
      by_cases hmx : x < m
      · go_wp2
        go_round
        case rel => exact ⟨k + 1, _, by omega, by omega, by go_num, rfl, Lib.hid (by have h1 := HF.out; rw [foldFrom_step _ _ _ _ (by rw [← HN.out]; exact hlt), ← HX.out] at h1; unfold mn at h1; rw [if_pos hmx] at h1; exact h1)⟩
        case measure => simp [intOf]; omega
      · go_wp2
        go_round
        case rel => exact ⟨k + 1, _, by omega, by omega, by go_num, rfl, Lib.hid (by have h1 := HF.out; rw [foldFrom_step _ _ _ _ (by rw [← HN.out]; exact hlt), ← HX.out] at h1; unfold mn at h1; rw [if_neg hmx] at h1; exact h1)⟩
        case measure => simp [intOf]; omega
    · have hk2 : k = n := by omega
      subst hk2
      have h1 := HF.out
      rw [foldFrom_end _ _ _ _ (by rw [← HN.out]; exact Nat.le_refl _)] at h1
      have H1 := Lib.hid h1
      clear h1
      go_wp2
      go_ret
      exact ⟨by rw [H1.out]; rfl, rfl⟩
set_option maxHeartbeats 2000000 in
theorem smax_ok (A0 : Option Addr) (c0 : Nat) (l0 : List Int) (w : World) (hr0 : Kd.C (Kd.int .i64) w A0 l0.length l0) (hl : l0.length ≤ 1000) (hp : 0 < l0.length) :
    Calls Try.prog 19 #[.slice A0 l0.length c0] w fun e w' => e = .returned (.int .i64 (maxL l0)) ∧ w' = w := by
  have hrow := row_of_C (w := w) hr0 hp
  clear hr0
  obtain ⟨T, hT⟩ : ∃ T, T = maxL l0 := ⟨_, rfl⟩
  have HT := Lib.hid hT
  rw [← hT]
  clear hT
  obtain ⟨n, hn⟩ : ∃ n, n = l0.length := ⟨_, rfl⟩
  rw [← hn] at hrow hl hp ⊢
  have HN := Lib.hid hn
  clear hn
  obtain ⟨b, off, rfl, hb, hc⟩ := hrow
  have hc0 := hc 0 hp
  rw [Nat.add_zero] at hc0
  obtain ⟨x0, hx0⟩ : ∃ x, x = l0.getD 0 0 := ⟨_, rfl⟩
  have HX0 := Lib.hid hx0
  rw [← hx0] at hc0
  clear hx0
  have HC := Lib.hid hc
  clear hc
  go_enter Try.func19, Try.ntmps19
  go_wp2
  go_loop [3, 4] (fun s i => ∃ (k : Nat) (m : Int), 1 ≤ k ∧ k ≤ n ∧ i = .int .i64 k ∧ s = .int .i64 m ∧ Hid (foldFrom mx m (l0.drop k) = T)) (fun _ i => n - (intOf i).toNat)
  case atStart => exact ⟨1, x0, by omega, by omega, rfl, rfl, Lib.hid (by rw [HT.out, HX0.out]; rfl)⟩
  case round =>
    clear hc0
    obtain ⟨k, m, hk1, hk, rfl, rfl, HF⟩ := hrel
    by_cases hlt : k < n
    · have hck := HC.out k hlt
      obtain ⟨x, hx⟩ : ∃ x, x = l0.getD k 0 := ⟨_, rfl⟩
      have HX := Lib.hid hx
      rw [← hx] at hck
      clear hx
      by_cases hmx : m < x
      · go_wp2
        go_round
        case rel => exact ⟨k + 1, _, by omega, by omega, by go_num, rfl, Lib.hid (by have h1 := HF.out; rw [foldFrom_step _ _ _ _ (by rw [← HN.out]; exact hlt), ← HX.out] at h1; unfold mx at h1; rw [if_pos hmx] at h1; exact h1)⟩
        case measure => simp [intOf]; omega
      · go_wp2
        go_round
        case rel => exact ⟨k + 1, _, by omega, by omega, by go_num, rfl, Lib.hid (by have h1 := HF.out; rw [foldFrom_step _ _ _ _ (by rw [← HN.out]; exact hlt), ← HX.out] at h1; unfold mx at h1; rw [if_neg hmx] at h1; exact h1)⟩
        case measure => simp [intOf]; omega
    · have hk2 : k = n := by omega
      subst hk2
      have h1 := HF.out
      rw [foldFrom_end _ _ _ _ (by rw [← HN.out]; exact Nat.le_refl _)] at h1
      have H1 := Lib.hid h1
      clear h1
      go_wp2
      go_ret
      exact ⟨by rw [H1.out]; rfl, rfl⟩
def slices_Min_int_int.f (l0 : List Int) : Option Int := if 0 < l0.length ∧ l0.length ≤ 1000 then some (minL l0) else none
theorem slices_Min_int_int.calls (A0 : Option Addr) (c0 : Nat) (l0 : List Int) (r : Int) (w : World) (hr0 : Kd.C (Kd.int .i64) w A0 l0.length l0) (hc0 : l0.length ≤ c0) (h : slices_Min_int_int.f l0 = some r) :
    Calls Try.prog 18 #[.slice A0 l0.length c0] w fun e w' => e = .returned (.int .i64 r) ∧ Drawn0 w w' := by
  unfold slices_Min_int_int.f at h
  split at h
  · rename_i hh
    obtain rfl := Option.some.inj h
    refine (smin_ok A0 c0 l0 w hr0 hh.2 hh.1).mono ?_
    rintro e w' ⟨rfl, rfl⟩
    exact ⟨rfl, Drawn0.refl _⟩
  · simp at h
def slices_Max_int_int.f (l0 : List Int) : Option Int := if 0 < l0.length ∧ l0.length ≤ 1000 then some (maxL l0) else none
theorem slices_Max_int_int.calls (A0 : Option Addr) (c0 : Nat) (l0 : List Int) (r : Int) (w : World) (hr0 : Kd.C (Kd.int .i64) w A0 l0.length l0) (hc0 : l0.length ≤ c0) (h : slices_Max_int_int.f l0 = some r) :
    Calls Try.prog 19 #[.slice A0 l0.length c0] w fun e w' => e = .returned (.int .i64 r) ∧ Drawn0 w w' := by
  unfold slices_Max_int_int.f at h
  split at h
  · rename_i hh
    obtain rfl := Option.some.inj h
    refine (smax_ok A0 c0 l0 w hr0 hh.2 hh.1).mono ?_
    rintro e w' ⟨rfl, rfl⟩
    exact ⟨rfl, Drawn0.refl _⟩
  · simp at h
end Go.Proofs.Ythcabffoaaknaaa
