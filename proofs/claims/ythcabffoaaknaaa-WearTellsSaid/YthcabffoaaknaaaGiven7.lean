import Derived.Test.YthcabffoaaknaaaGiven6
namespace Go.Proofs.Ythcabffoaaknaaa
open Go.RowKit Go.Shelf Go.Proofs.YthcabffoaaknaaaW.PrintWords Go.Proofs.YthcabffoaaknaaaW.PrintLast Go.Proofs.YthcabffoaaknaaaW.PrintMore
set_option linter.unusedVariables false
theorem ext_getD {l l' : List Int} (hl : l.length = l'.length) (h : ∀ j, j < l.length → l.getD j 0 = l'.getD j 0) : l = l' := by
  apply List.ext_getElem hl
  intro j h1 h2
  have := h j h1
  rwa [List.getD_eq_getElem?_getD, List.getD_eq_getElem?_getD, List.getElem?_eq_getElem h1, List.getElem?_eq_getElem h2] at this
set_option maxHeartbeats 4000000 in
set_option maxRecDepth 100000 in
theorem ints_ok (A0 : Option Addr) (c0 : Nat) (l0 : List Int) (A1 : Option Addr) (c1 : Nat) (l1 : List Int) (w : World) (hr0 : Kd.C (Kd.int .i64) w A0 l0.length l0) (hr1 : Kd.C (Kd.int .i64) w A1 l1.length l1) (hl : l0.length ≤ 5000) (hl1 : l1.length ≤ 5000) :
    Calls Try.prog 13 #[.slice A0 l0.length c0, .slice A1 l1.length c1] w fun e w' => e = .returned (.bool (decide (l0 = l1))) ∧ ∃ q, w' = w.drewN q := by
  have HR0 := Lib.hid hr0
  have HR1 := Lib.hid hr1
  clear hr0 hr1
  obtain ⟨n, hn⟩ : ∃ n, n = l0.length := ⟨_, rfl⟩
  obtain ⟨m, hm⟩ : ∃ m, m = l1.length := ⟨_, rfl⟩
  obtain ⟨r, hr⟩ : ∃ r, r = decide (l0 = l1) := ⟨_, rfl⟩
  rw [← hr, ← hn, ← hm]
  have HN := Lib.hid hn
  have HM := Lib.hid hm
  have HR := Lib.hid hr
  have HL := Lib.hid hl
  clear hn hm hr hl hl1
  by_cases hnm : n = m
  · subst hnm
    have hb : ((n : Int) != (n : Int)) = false := by simp
    go_enter Try.func13, Try.ntmps13
    go_wp2
    go_loopw [5] (fun i wr => ∃ (k q : Nat), k ≤ n ∧ i = .int .i64 k ∧ wr = w.drewN q ∧ Hid (∀ j, j < k → l0.getD j 0 = l1.getD j 0)) (fun i _ => n - (intOf i).toNat)
    case atStart => exact ⟨0, 0, by omega, rfl, rfl, Lib.hid (fun j hj => absurd hj (Nat.not_lt_zero j))⟩
    case round =>
      obtain ⟨k, q, hk, rfl, rfl, HE⟩ := hrel
      have hl : n ≤ 5000 := by rw [HN.out]; exact HL.out
      by_cases hkn : k < n
      · obtain ⟨b, off, rfl, hb, hc⟩ := row_of_C HR0.out (by rw [← HN.out]; omega)
        obtain ⟨b1, off1, rfl, hb1, hc1⟩ := row_of_C HR1.out (by rw [← HM.out]; omega)
        have ha := hc k (by rw [← HN.out]; omega)
        have ha1 := hc1 k (by rw [← HM.out]; omega)
        obtain ⟨x, hx⟩ : ∃ x, x = l0.getD k 0 := ⟨_, rfl⟩
        obtain ⟨y, hy⟩ : ∃ y, y = l1.getD k 0 := ⟨_, rfl⟩
        rw [← hx] at ha
        rw [← hy] at ha1
        have HX := Lib.hid hx
        have HY := Lib.hid hy
        clear hx hy hc hc1
        have hw : IntKind.i64.wrap ((k : Int) + 1) = (k : Int) + 1 := IntWalk.i64_in _ (by omega)
        by_cases hxy : x = y
        · have hd : (x != y) = false := by simp [hxy]
          go_upto_region 6 with fail
          go_quiet (fail)
          go_wp2
          go_roundw
          case rel => exact ⟨k + 1, _, by omega, by go_num, rfl, Lib.hid (fun j hj => by
            by_cases e : j = k
            · subst e; rw [← HX.out, ← HY.out, hxy]
            · exact HE.out j (by omega))⟩
          case measure => simp [intOf]; omega
        · have hd : (x != y) = true := by simp [hxy]
          have hrf : r = false := by
            rw [HR.out]
            exact decide_eq_false (fun e => hxy (by rw [HX.out, HY.out, e]))
          subst hrf
          go_upto_region 6 with fail
          go_quiet (fail)
          go_wp2
          go_ret
          exact ⟨rfl, _, World.drewN_drewN ..⟩
      · have hk2 : k = n := by omega
        subst hk2
        have hrt : r = true := by
          rw [HR.out]
          exact decide_eq_true (ext_getD (by rw [← HN.out, ← HM.out]) (fun j hj => HE.out j (by rw [HN.out]; exact hj)))
        subst hrt
        go_wp2
        go_ret
        exact ⟨rfl, _, rfl⟩
  · have hb : ((n : Int) != (m : Int)) = true := by simp; omega
    have hrf : r = false := by
      rw [HR.out]
      exact decide_eq_false (fun e => hnm (by rw [HN.out, HM.out, e]))
    subst hrf
    go_enter Try.func13, Try.ntmps13
    go_wp2
    go_ret
    exact ⟨rfl, 0, rfl⟩
theorem row3 (W : World) (a b c : Int) : Kd.C (Kd.int .i64) (W.alloc (.cells #[.int .i64 a, .int .i64 b, .int .i64 c] 3)) (some ⟨W.heap.size, 0, none⟩) 3 [a, b, c] := by
  refine C_mk (xs := [a, b, c]) (by show 3 ≤ _; decide) (fun j hj => ?_)
  rw [blk_cell (blk_new W _) j]
  rcases j with _ | _ | _ | j
  · rfl
  · rfl
  · rfl
  · exact absurd hj (by show ¬ (j + 1 + 1 + 1 < 3); omega)
set_option maxHeartbeats 8000000 in
set_option maxRecDepth 100000 in
theorem awake_ok (w : World) : Calls Try.prog 6 #[] w fun e w' => e = .returned (.bool true) ∧ Below w.heap.size w w' := by
  have hof := of_ok (some ⟨w.heap.size, 0, none⟩) 3 [3, 1, 3] (w.alloc (.cells #[.int .i64 3, .int .i64 1, .int .i64 3] 3)) (row3 w 3 1 3) (by decide) (by decide) (by decide +kernel) (by decide) (lo := 1) (hi := 3) (sm := 7) (by decide +kernel) (by decide +kernel) (by decide +kernel) (by decide) (by decide) (by decide) (Lib.hid (by decide))
  have hbl : barsL 1 3 [3, 1, 3] = [1, 0, 2] := by decide +kernel
  rw [hbl] at hof
  have HB := (Below.refl w.heap.size w).alloc (Nat.le_refl _) (.cells #[.int .i64 3, .int .i64 1, .int .i64 3] 3)
  have HOF := Lib.hid hof
  clear hof hbl
  go_enter Try.func6, Try.ntmps6
  go_upto_region 2 with (go_at_call 7; refine (HOF.out).mono ?_; rintro e w1 ⟨A, c, rfl, hc, hC, hb1⟩)
  replace HB := (chainC (by simp) HB hb1).alloc (by have := (chainC (by simp) HB hb1).size; exact this) (.cells #[.int .i64 1, .int .i64 3, .int .i64 7, .int .i64 3, .slice A 3 c] 25)
  have hS := blk_new w1 (.cells #[.int .i64 1, .int .i64 3, .int .i64 7, .int .i64 3, .slice A 3 c] 25)
  have hC2 := Kd.C_alloc hC (.cells #[.int .i64 1, .int .i64 3, .int .i64 7, .int .i64 3, .slice A 3 c] 25)
  obtain ⟨g, hg⟩ : ∃ g, g = w1.heap.size := ⟨_, rfl⟩
  rw [← hg] at hS ⊢
  generalize (w1.alloc (.cells #[.int .i64 1, .int .i64 3, .int .i64 7, .int .i64 3, .slice A 3 c] 25)) = w2 at HB hS hC2 ⊢
  have c0 : w2.cell? ⟨g, 0, none⟩ = some (.int .i64 1) := blk_cell hS 0
  have c1 : w2.cell? ⟨g, 1, none⟩ = some (.int .i64 3) := blk_cell hS 1
  have c2 : w2.cell? ⟨g, 2, none⟩ = some (.int .i64 7) := blk_cell hS 2
  have c4 : w2.cell? ⟨g, 4, none⟩ = some (.slice A 3 c) := blk_cell hS 4
  have hin := ints_ok A c [1, 0, 2] (some ⟨w2.heap.size, 0, none⟩) 3 [1, 0, 2] (w2.alloc (.cells #[.int .i64 1, .int .i64 0, .int .i64 2] 3)) (Kd.C_alloc hC2 _) (row3 w2 1 0 2) (by decide) (by decide)
  rw [show decide (([1, 0, 2] : List Int) = [1, 0, 2]) = true from by decide] at hin
  have HIN := Lib.hid hin
  have HB2 := HB.alloc HB.size (.cells #[.int .i64 1, .int .i64 0, .int .i64 2] 3)
  clear hin hC hC2 hb1 hg hc hS HB HOF
  go_wp2_with (go_at_call 13; refine (HIN.out).mono ?_; rintro e w3 ⟨rfl, q, rfl⟩)
  go_ret
  exact ⟨rfl, b_drewN HB2 q⟩
def incunablelaw38_awake.f : Option Bool := some true
theorem incunablelaw38_awake.calls (r : Bool) (w : World) (h : incunablelaw38_awake.f = some r) : Calls Try.prog 6 #[] w fun e w' => e = .returned (.bool r) ∧ Below w.heap.size w w' := by
  obtain rfl := Option.some.inj h
  exact awake_ok w
end Go.Proofs.Ythcabffoaaknaaa
