import Derived.Test.YtnkgbnipcjgjeaaBS
namespace Go.Proofs.Ytnkgbnipcjgjeaa
open Go.RowKit Go.Lib Go.Proofs.YtnkgbnipcjgjeaaW.PrintWords Go.Proofs.YtnkgbnipcjgjeaaW.PrintLast Go.Proofs.YtnkgbnipcjgjeaaW.PrintMore
set_option linter.unusedVariables false
set_option maxHeartbeats 8000000 in
set_option maxRecDepth 100000 in
/-- No buffer. -/
theorem bplays_bad (x0 x1 : Int) (v : Value) (w : World) (h : x0 < 1 ∨ 1024 < x0 ∨ x1 < 1 ∨ 8192 < x1) : Calls Try.prog 7 #[.int .i64 x0, .int .i64 x1, v] w fun e w' => e = .returned (.bool true) ∧ Below w.heap.size w w' := by
  have HN := Lib.hid (fun W => bnew_bad x0 x1 W h)
  by_cases h1 : x0 < 1
  · skip
    clear h
    go_enter Try.func7, Try.ntmps7
    go_wp2_with fail
    refine (bawake_ok _).mono ?_
    rintro e w1 ⟨rfl, hb⟩
    go_wp2_with (go_at_call 31; refine (HN.out _).mono ?_; rintro e w' ⟨rfl, rfl⟩)
    go_ret
    exact ⟨rfl, hb⟩
  · by_cases h2 : 1024 < x0
    · skip
      clear h
      go_enter Try.func7, Try.ntmps7
      go_wp2_with fail
      refine (bawake_ok _).mono ?_
      rintro e w1 ⟨rfl, hb⟩
      go_wp2_with (go_at_call 31; refine (HN.out _).mono ?_; rintro e w' ⟨rfl, rfl⟩)
      go_ret
      exact ⟨rfl, hb⟩
    · by_cases h3 : x1 < 1
      · skip
        clear h
        go_enter Try.func7, Try.ntmps7
        go_wp2_with fail
        refine (bawake_ok _).mono ?_
        rintro e w1 ⟨rfl, hb⟩
        go_wp2_with (go_at_call 31; refine (HN.out _).mono ?_; rintro e w' ⟨rfl, rfl⟩)
        go_ret
        exact ⟨rfl, hb⟩
      · have h4 : 8192 < x1 := by omega
        clear h
        go_enter Try.func7, Try.ntmps7
        go_wp2_with fail
        refine (bawake_ok _).mono ?_
        rintro e w1 ⟨rfl, hb⟩
        go_wp2_with (go_at_call 31; refine (HN.out _).mono ?_; rintro e w' ⟨rfl, rfl⟩)
        go_ret
        exact ⟨rfl, hb⟩
set_option maxHeartbeats 8000000 in
set_option maxRecDepth 100000 in
/-- Too much for a play. -/
theorem bplays_much (n sz m : Nat) (A : Option Addr) (c : Nat) (w : World) (h1 : 1 ≤ n) (h2 : n ≤ 1024) (h3 : 1 ≤ sz) (h4 : sz ≤ 8192) (hm : 60 < m) : Calls Try.prog 7 #[.int .i64 n, .int .i64 sz, .slice A m c] w fun e w' => e = .returned (.bool true) ∧ Below w.heap.size w w' := by
  have HN := Lib.hid (fun W hN => bnew_ok n sz W w.heap.size hN h1 h2 h3 h4)
  have b1 : decide ((n : Int) < 1) = false := decide_eq_false (by omega)
  have b2 : decide (1024 < (n : Int)) = false := decide_eq_false (by omega)
  have b3 : decide ((sz : Int) < 1) = false := decide_eq_false (by omega)
  have b4 : decide (8192 < (sz : Int)) = false := decide_eq_false (by omega)
  have b7 : decide (60 < (m : Int)) = true := decide_eq_true (by omega)
  clear hm h1 h2 h3 h4
  go_enter Try.func7, Try.ntmps7
  go_wp2_with fail
  refine (bawake_ok _).mono ?_
  rintro e w1 ⟨rfl, hb⟩
  have HB1 := Lib.hid hb
  clear hb
  go_wp2_with fail
  refine (HN.out _ HB1.out.size).mono ?_
  rintro e w2 ⟨⟨g, rfl, hB, hg⟩, hb2⟩
  have HB := Lib.hid (chainC (Nat.le_refl _) HB1.out hb2)
  clear hB hg hb2
  go_wp2_with fail
  go_ret
  exact ⟨rfl, HB.out⟩
theorem bufferPlays_walk (w : World) (x0 : Int) (hw0 : (Lit.int .i64 x0).wf = true) (x1 : Int) (hw1 : (Lit.int .i64 x1).wf = true) (x2 : (List (Int × (Int × Int × (List Int)) × (List Int)))) {A2_0 : Option Addr} {c2_0 : Nat} (l2_0 : x2.length ≤ c2_0) (g2_0 : Kd.C (Kd.pair (Kd.int .i64) (Kd.pair (Kd.pair (Kd.int .i64) (Kd.pair (Kd.int .i64) (Kd.slice 5 (Kd.int .u8)))) (Kd.slice 3 (Kd.int .i64)))) w A2_0 x2.length x2) (hw2 : (∀ z0 ∈ x2, ((Lit.int .i64 z0.1).wf = true ∧ ((Lit.int .i64 z0.2.1.1).wf = true ∧ (Lit.int .i64 z0.2.1.2.1).wf = true ∧ (∀ z1 ∈ z0.2.1.2.2, (Lit.int .u8 z1).wf = true)) ∧ (∀ z1 ∈ z0.2.2, (Lit.int .i64 z1).wf = true)))) :
    Calls Try.prog 7 #[.int .i64 x0, .int .i64 x1, .slice A2_0 x2.length c2_0] w fun e w' => e = .returned (.bool true) ∧ Below w.heap.size w w' := by
  by_cases h : x0 < 1 ∨ 1024 < x0 ∨ x1 < 1 ∨ 8192 < x1
  · exact bplays_bad x0 x1 _ w h
  · obtain ⟨n, rfl⟩ := Int.eq_ofNat_of_zero_le (show 0 ≤ x0 by omega)
    obtain ⟨sz, rfl⟩ := Int.eq_ofNat_of_zero_le (show 0 ≤ x1 by omega)
    by_cases hm : 60 < x2.length
    · exact bplays_much n sz x2.length A2_0 c2_0 w (by omega) (by omega) (by omega) (by omega) hm
    · exact bplays_main w n sz (by omega) (by omega) (by omega) (by omega) x2 (by omega) g2_0 (fun z hz => (hw2 z hz).2.2)
end Go.Proofs.Ytnkgbnipcjgjeaa
