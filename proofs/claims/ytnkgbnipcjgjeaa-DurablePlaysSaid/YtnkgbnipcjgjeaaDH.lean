import Derived.Test.YtnkgbnipcjgjeaaDG
namespace Go.Proofs.Ytnkgbnipcjgjeaa
open Go.RowKit Go.Shelf Go.Sort Go.Lib Go.Proofs.YtnkgbnipcjgjeaaW.PrintWords Go.Proofs.YtnkgbnipcjgjeaaW.PrintLast Go.Proofs.YtnkgbnipcjgjeaaW.PrintMore
set_option linter.unusedVariables false
/-- How many places below n are met and good. -/
def cntS (Q S : Nat → Bool) : Nat → Nat
  | 0 => 0
  | n + 1 => cntS Q S n + if S n && Q n then 1 else 0
theorem cntS_none (Q : Nat → Bool) : ∀ n, cntS Q (fun _ => false) n = 0
  | 0 => rfl
  | n + 1 => by unfold cntS; rw [cntS_none Q n]; rfl
theorem cntS_far (Q S : Nat → Bool) (j : Nat) : ∀ n, n ≤ j → cntS Q (fun i => S i || i == j) n = cntS Q S n
  | 0, _ => rfl
  | n + 1, h => by
    unfold cntS
    rw [cntS_far Q S j n (by omega), show (n == j) = false from by rw [beq_eq_false_iff_ne]; omega, Bool.or_false]
theorem cntS_more (Q S : Nat → Bool) (j : Nat) (hS : S j = false) : ∀ n, j < n → cntS Q (fun i => S i || i == j) n = cntS Q S n + if Q j then 1 else 0
  | 0, h => by omega
  | n + 1, h => by
    unfold cntS
    by_cases e : n = j
    · subst e
      rw [cntS_far Q S n n (Nat.le_refl _), hS]
      simp
    · rw [cntS_more Q S j hS n (by omega), show (n == j) = false from by rw [beq_eq_false_iff_ne]; exact e, Bool.or_false]
      omega
theorem cntS_le (Q S : Nat → Bool) : ∀ n, cntS Q S n ≤ n
  | 0 => Nat.le_refl _
  | n + 1 => by unfold cntS; have := cntS_le Q S n; split <;> omega
theorem cntS_all (Q S : Nat → Bool) : ∀ n, (∀ i, i < n → S i = true) → cntS Q S n = cntS Q (fun _ => true) n
  | 0, _ => rfl
  | n + 1, h => by
    unfold cntS
    rw [cntS_all Q S n (fun i hi => h i (by omega)), h n (by omega)]
/-- How many sectors have more than one value. -/
def bigQ (l : Rec) (i : Nat) : Bool := decide (1 < (l.getD i (0, [])).2.length)
def openN (l : Rec) : Nat := cntS (bigQ l) (fun _ => true) l.length
set_option maxHeartbeats 8000000 in
set_option maxRecDepth 100000 in
theorem dopen_ok {w : World} {g b n sz : Nat} {F : Nat → Prop} {l : Rec} (h : RecIs w g b n sz F l) (hn : 1 ≤ n) (hll : l.length ≤ 100000) :
    Calls Try.prog 62 #[.pointer (some ⟨g, 0, none⟩)] w fun e w' => e = .returned (.int .i64 (openN l)) ∧ Below w.heap.size w w' := by
  have hmay := may_ok 0 h
  unfold mayE at hmay
  rw [if_pos (by omega)] at hmay
  obtain ⟨vs, hm, hst⟩ := h.map
  have c0 := h.cell
  have HMAY := Lib.hid hmay
  have HM := Lib.hid hm
  have HST := Lib.hid hst
  have hlb := h.ltb
  obtain ⟨T, hT⟩ : ∃ T, T = openN l := ⟨_, rfl⟩
  rw [← hT]
  have HT := Lib.hid hT
  have hTl : (T : Int) ≤ 100000 := by have := cntS_le (bigQ l) (fun _ => true) l.length; unfold openN at hT; omega
  clear h hmay hm hst hn hT
  go_enter Try.func62, Try.ntmps62
  go_wp2_with (first | (go_at_call 99; refine (HMAY.out).mono ?_; rintro e w' ⟨rfl, rfl⟩) | (at_range; refine wp_range rfl (.tmp 12) rfl Try.underlying156 rfl HM.out ?_; intro w0 hrg0 hb0 hs0))
  go_frame
  obtain ⟨r, hr⟩ : ∃ r, r = w'.heap.size := ⟨_, rfl⟩
  rw [← hr] at hrg0 ⊢
  have HR := Lib.hid hr
  have HRG := Lib.hid hrg0
  have HB := Lib.hid hb0
  clear hrg0 hb0 hs0 hr
  go_loopw [3] (fun c wr => ∃ (S : Nat → Bool) (k : Nat), c = .int .i64 k ∧ k ≤ 100000 ∧ Hid (k = cntS (bigQ l) S l.length) ∧ Hid (RngIs kI okI wr b r vs S) ∧ Hid (Below w'.heap.size w' wr)) (fun _ wr => wr.rangeLeft b r)
  case atStart => exact ⟨fun _ => false, 0, rfl, by omega, Lib.hid (cntS_none _ _).symm, HRG, HB⟩
  case round =>
    clear HRG HB
    obtain ⟨S, k, rfl, hk, HK, HRG, HB⟩ := hrel
    go_wp2_with (at_next; refine wp_next rfl (.tmp 13) rfl rfl HRG.out ?_ ?_)
    · intro hall
      obtain rfl : T = k := by rw [HT.out, HK.out]; unfold openN; rw [cntS_all (bigQ l) S _ (fun i hi => hall i (by rw [All2.len HST.out]; exact hi))]
      clear hall
      go_wp2_with fail
      go_ret
      exact ⟨rfl, HB.out⟩
    · intro j x v w1 hj hSj hrg1 hlt hg1 hs1 hen
      obtain ⟨⟨qx, rows⟩, hq, hq1, A, c, hh, hv, hc, _, _⟩ := All2.get HST.out hj
      obtain rfl : v = .slice A rows.length c := hv
      have hjl := (List.getElem?_eq_some_iff.1 hq).1
      have hQ : bigQ l j = decide (1 < rows.length) := by unfold bigQ; rw [List.getD_eq_getElem?_getD, hq]; rfl
      have hmore := cntS_more (bigQ l) S j hSj l.length hjl
      rw [hQ] at hmore
      have hle := cntS_le (bigQ l) (fun i => S i || i == j) l.length
      have HRG1 := Lib.hid hrg1
      have HB1 := Lib.hid (HB.out.grown hg1 HB.out.size (fun k e => by injection e with e; rw [← e, HR.out]; exact Nat.le_refl _))
      have HLT := Lib.hid hlt
      generalize rows.length = m at hmore hen ⊢
      by_cases hbig : 1 < m
      · have hd : decide (1 < (m : Int)) = true := decide_eq_true (by omega)
        rw [decide_eq_true hbig, if_pos rfl] at hmore
        have HK1 : Hid (k + 1 = cntS (bigQ l) (fun i => S i || i == j) l.length) := Lib.hid (by rw [hmore, HK.out])
        have hk1 : k + 1 ≤ 100000 := by have := HK1.out; omega
        clear hj hSj hrg1 hlt hg1 hs1 hq hc hjl hQ hmore hle hbig
        go_wp2_with fail
        go_roundw
        case rel => exact ⟨_, k + 1, by go_num, hk1, HK1, HRG1, HB1⟩
        case measure => exact HLT.out
      · have hd : decide (1 < (m : Int)) = false := decide_eq_false (by omega)
        rw [decide_eq_false hbig, if_neg (by decide)] at hmore
        have HK1 : Hid (k = cntS (bigQ l) (fun i => S i || i == j) l.length) := Lib.hid (by rw [hmore, HK.out]; rfl)
        clear hj hSj hrg1 hlt hg1 hs1 hq hc hjl hQ hmore hle hbig
        go_wp2_with fail
        go_roundw
        case rel => exact ⟨_, k, rfl, hk, HK1, HRG1, HB1⟩
        case measure => exact HLT.out
end Go.Proofs.Ytnkgbnipcjgjeaa
