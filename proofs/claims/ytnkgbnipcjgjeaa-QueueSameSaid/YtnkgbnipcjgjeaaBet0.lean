import Derived.Test.YtnkgbnipcjgjeaaCov
import Derived.Test.YtnkgbnipcjgjeaaQRx1
namespace Go.Proofs.Ytnkgbnipcjgjeaa.Qu
open Go.RowKit Go.Proofs.Ytnkgbnipcjgjeaa.QW Go.Proofs.YtnkgbnipcjgjeaaW.PrintWords Go.Proofs.YtnkgbnipcjgjeaaW.PrintLast Go.Proofs.YtnkgbnipcjgjeaaW.PrintMore
set_option linter.unusedVariables false
/-- Is an op right (its kind, its sector, how many bytes)? -/
def rightV (a b : Int) (n : Nat) : Bool :=
  if a = 1 then decide (0 ≤ b ∧ b ≤ 2147483648 ∧ 1 ≤ n ∧ n ≤ 8192)
  else if a = 2 ∨ a = 3 then decide (0 ≤ b ∧ b ≤ 2147483648 ∧ n = 0)
  else if a = 4 then decide (b = 0 ∧ n = 0) else false
theorem right_f (a b : Int) (l : List Int) : QR.op_Right.f 3 a b l = some (rightV a b l.length) := by
  unfold QR.op_Right.f rightV
  simp only [QR.op_Right.j0, QR.op_Right.j1]
  generalize l.length = n
  by_cases h1 : a = 1
  · subst h1
    by_cases hb : 0 ≤ b <;> by_cases hb2 : b ≤ 2147483648 <;> by_cases hn : (1 : Int) ≤ (n : Int) <;> by_cases hn2 : (n : Int) ≤ 8192 <;> simp [hb, hb2, hn, hn2] <;> omega
  · by_cases h2 : a = 2
    · subst h2
      by_cases hb : 0 ≤ b <;> by_cases hb2 : b ≤ 2147483648 <;> by_cases hn : n = 0 <;> simp [hb, hb2, hn]
    · by_cases h3 : a = 3
      · subst h3
        by_cases hb : 0 ≤ b <;> by_cases hb2 : b ≤ 2147483648 <;> by_cases hn : n = 0 <;> simp [hb, hb2, hn]
      · by_cases h4 : a = 4
        · subst h4
          by_cases hb0 : b = 0
          · subst hb0; by_cases hn : n = 0 <;> simp [hn]
          · by_cases hb : 0 ≤ b <;> simp [hb, hb0]
        · by_cases hb : 0 ≤ b <;> simp [h1, h2, h3, h4, hb]
theorem wrong_f (a b : Int) (l : List Int) : QR.queue_Better_1.f 3 a b l = some (!rightV a b l.length) := by
  unfold QR.queue_Better_1.f
  rw [right_f]; rfl
/-- The first op that is not right, from k on. -/
def wrongAt (l : List S116) : Nat → Int → Int
  | 0, _ => -1
  | d + 1, k => if rightV (l.getD k.toNat z116).f0 (l.getD k.toNat z116).f1 (l.getD k.toNat z116).f2.length then wrongAt l d (k + 1) else k
theorem wrong_step (l : List S116) (d k : Nat) {x : S116} (hx : x = l.getD k z116) : wrongAt l (d + 1) k = if rightV x.f0 x.f1 x.f2.length = true then wrongAt l d ((k + 1 : Nat) : Int) else (k : Int) := by
  subst hx
  simp only [wrongAt, Int.toNat_natCast]
  rfl
set_option maxHeartbeats 8000000 in
set_option maxRecDepth 100000 in
theorem idx_ok (A0 : Option Addr) (c0 : Nat) (l0 : List S116) (w : World) (hr0 : Kd.C k116 w A0 l0.length l0) (hl : l0.length ≤ 100000) :
    Calls Try.prog 135 #[.slice A0 l0.length c0, .func (.func 107) #[] #[]] w fun e w' => e = .returned (.int .i64 (wrongAt l0 l0.length 0)) ∧ Below w.heap.size w w' := by
  obtain ⟨T, hT⟩ : ∃ T, T = wrongAt l0 l0.length 0 := ⟨_, rfl⟩
  rw [← hT]
  have HT := Lib.hid hT
  have HR := Lib.hid hr0
  have HL := Lib.hid hl
  have HBB := Lib.hid (Below.refl w.heap.size w)
  clear hT hr0 hl
  obtain ⟨n, hn⟩ : ∃ n, n = l0.length := ⟨_, rfl⟩
  rw [← hn]
  have HN := Lib.hid hn
  have hn2 : (n : Int) ≤ 100000 := by have := HL.out; omega
  clear hn
  have hu116 := Try.underlying116
  have hu22 := Try.underlying108
  have ha36 := Try.isAgg116
  go_enter Try.func135, Try.ntmps135
  go_wp2_with fail
  go_loopw [8] (fun i wr => ∃ k : Nat, k ≤ n ∧ i = .int .i64 k ∧ Hid (wrongAt l0 (n - k) k = T) ∧ Hid (Below w.heap.size w wr)) (fun i _ => n - (intOf i).toNat)
  case atStart => exact ⟨0, by omega, rfl, Lib.hid (by have := HT.out; rw [this, HN.out]; rfl), HBB⟩
  case round =>
    clear HBB
    obtain ⟨k, hk, rfl, HG, HB⟩ := hrel
    by_cases hkn : k < n
    · have hlen : k < l0.length := by rw [← HN.out]; exact hkn
      have hCk : Kd.C k116 wr A0 l0.length l0 := Kd.C_below HR.out HB.out
      obtain ⟨b, off, rfl, hbb, hcell⟩ := row116 hCk (by omega)
      obtain ⟨A2, c2, e0, e1, e2, e3, e4⟩ := hcell k hlen
      have hgT := HG.out
      obtain ⟨x, hx⟩ : ∃ x, x = l0.getD k z116 := ⟨_, rfl⟩
      rw [show n - k = (n - (k + 1)) + 1 by omega, wrong_step l0 _ k hx] at hgT
      rw [← hx] at e0 e1 e2 e3 e4
      have hcl := QR.queue_Better_1.calls 3 x.f0 x.f1 A2 c2 x.f2 _ wr e4 e3 (wrong_f x.f0 x.f1 x.f2)
      obtain ⟨rv, hrv⟩ : ∃ v, v = rightV x.f0 x.f1 x.f2.length := ⟨_, rfl⟩
      rw [← hrv] at hcl hgT
      have hk0 : (k : Int) < (n : Int) := by omega
      have HCL := Lib.hid hcl
      have HGT := Lib.hid hgT
      have hwk : wrap64 ((k : Int) + 1) = (k : Int) + 1 := by unfold wrap64; omega
      clear hcl hgT hrv e3 e4 hx hcell hCk hlen hbb
      cases rv with
      | true =>
        have hgN := HGT.out
        rw [if_pos rfl] at hgN
        have HGN := Lib.hid hgN
        clear hgN HGT
        go_wp2_with (go_at_call 107; refine (HCL.out).mono ?_; rintro e w2 ⟨rfl, hb⟩)
        have HB2 := Lib.hid (chainC (Nat.le_refl _) HB.out hb)
        clear hb
        go_wp2_with fail
        go_roundw
        case rel => exact ⟨k + 1, Nat.succ_le_of_lt hkn, by first | rfl | exact congrArg (Value.int .i64) hwk, HGN, HB2⟩
        case measure =>
          try rw [hwk]
          exact step_measure hkn
      | false =>
        have hgN := HGT.out
        rw [if_neg (by decide)] at hgN
        subst hgN
        clear HGT
        go_wp2_with (go_at_call 107; refine (HCL.out).mono ?_; rintro e w2 ⟨rfl, hb⟩)
        have HB2 := Lib.hid (chainC (Nat.le_refl _) HB.out hb)
        clear hb
        go_wp2_with fail
        go_ret
        exact ⟨rfl, HB2.out⟩
    · have hk2 : k = n := by omega
      subst hk2
      have hgT := HG.out
      rw [Nat.sub_self] at hgT
      have hTf : T = -1 := hgT.symm
      subst hTf
      clear hgT hkn
      go_wp2_with fail
      go_ret
      exact ⟨rfl, HB.out⟩
theorem wrongAt_ge (l : List S116) : ∀ (d : Nat) (k : Int), 0 ≤ k → -1 ≤ wrongAt l d k ∧ (wrongAt l d k < 0 ↔ ∀ j : Nat, k ≤ j → (j : Int) < k + d → rightV (l.getD j z116).f0 (l.getD j z116).f1 (l.getD j z116).f2.length = true)
  | 0, k, hk => by simp [wrongAt]; intro j h1 h2; omega
  | d + 1, k, hk => by
    have ih := wrongAt_ge l d (k + 1) (by omega)
    unfold wrongAt
    cases hr : rightV (l.getD k.toNat z116).f0 (l.getD k.toNat z116).f1 (l.getD k.toNat z116).f2.length with
    | true =>
      rw [if_pos rfl]
      refine ⟨ih.1, ih.2.trans ⟨fun h j h1 h2 => ?_, fun h j h1 h2 => h j (by omega) (by omega)⟩⟩
      by_cases e : (j : Int) = k
      · have : k.toNat = j := by omega
        rw [← this]; exact hr
      · exact h j (by omega) (by omega)
    | false =>
      rw [if_neg (by decide)]
      refine ⟨by omega, ⟨fun h => by omega, fun h => ?_⟩⟩
      have := h k.toNat (by omega) (by omega)
      rw [hr] at this
      cases this
/-- Is some op not right? -/
def anyWrong (l : List S116) : Bool := decide (wrongAt l l.length 0 ≥ 0)
set_option maxHeartbeats 8000000 in
theorem any_ok (A0 : Option Addr) (c0 : Nat) (l0 : List S116) (w : World) (hr0 : Kd.C k116 w A0 l0.length l0) (hl : l0.length ≤ 100000) :
    Calls Try.prog 106 #[.slice A0 l0.length c0, .func (.func 107) #[] #[]] w fun e w' => e = .returned (.bool (anyWrong l0)) ∧ Below w.heap.size w w' := by
  have h := idx_ok A0 c0 l0 w hr0 hl
  unfold anyWrong
  generalize wrongAt l0 l0.length 0 = t at h ⊢
  have H := Lib.hid h
  clear h hr0 hl
  generalize l0.length = n at H ⊢
  go_enter Try.func106, Try.ntmps106
  go_wp2_with (go_at_call 135; refine (H.out).mono ?_; rintro e w2 ⟨rfl, hb⟩)
  go_ret
  exact ⟨rfl, hb⟩
end Go.Proofs.Ytnkgbnipcjgjeaa.Qu
