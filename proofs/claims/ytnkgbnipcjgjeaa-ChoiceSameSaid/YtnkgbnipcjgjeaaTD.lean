import Derived.Test.YtnkgbnipcjgjeaaTC
namespace Go.Proofs.Ytnkgbnipcjgjeaa
open Go.RowKit Go.Shelf Go.Sort Go.Lib Go.Proofs.YtnkgbnipcjgjeaaW.PrintWords Go.Proofs.YtnkgbnipcjgjeaaW.PrintLast Go.Proofs.YtnkgbnipcjgjeaaW.PrintMore
set_option linter.unusedVariables false
theorem two_new2 (w : World) (A B : Array Value) (TA TB : TypeId) : ((w.alloc (.cells A TA)).alloc (.cells B TB)).heap[w.heap.size]? = some (.cells A TA (0, 0)) ∧ ((w.alloc (.cells A TA)).alloc (.cells B TB)).heap[w.heap.size + 1]? = some (.cells B TB (0, 0)) := by
  have h1 := blk_new w (.cells A TA)
  have h2 := blk_new (w.alloc (.cells A TA)) (.cells B TB)
  rw [World.size_alloc] at h2
  exact ⟨(Below.heap_alloc _ (.cells B TB) _ (blk_lt h1)).trans h1, h2⟩
/-- A script. -/
structure Sc where
  busy : List Int
  fails : List Int
  turns : List Tu
  cut : Int
  torn : List Int
  marked : List Int
/-- A script's headers. -/
structure Sh where
  a1 : Option Addr
  n1 : Nat
  c1 : Nat
  a2 : Option Addr
  n2 : Nat
  c2 : Nat
  a3 : Option Addr
  n3 : Nat
  c3 : Nat
  cut : Int
  a4 : Option Addr
  n4 : Nat
  c4 : Nat
  a5 : Option Addr
  n5 : Nat
  c5 : Nat
abbrev scC (h : Sh) : Array Value := #[.slice h.a1 h.n1 h.c1, .slice h.a2 h.n2 h.c2, .slice h.a3 h.n3 h.c3, .int .i64 h.cut, .slice h.a4 h.n4 h.c4, .slice h.a5 h.n5 h.c5]
/-- The headers read as the script. -/
structure ScR (w : World) (s : Sc) (h : Sh) : Prop where
  e1 : h.n1 = s.busy.length
  e2 : h.n2 = s.fails.length
  e3 : h.n3 = s.turns.length
  e4 : h.n4 = s.torn.length
  e5 : h.n5 = s.marked.length
  ec : h.cut = s.cut
  r1 : Kd.C (Kd.int .i64) w h.a1 h.n1 s.busy
  r2 : Kd.C (Kd.int .i64) w h.a2 h.n2 s.fails
  r3 : Kd.C kTu w h.a3 h.n3 s.turns
  r4 : kB.C w h.a4 h.n4 s.torn
  r5 : Kd.C (Kd.int .i64) w h.a5 h.n5 s.marked
  k1 : h.n1 ≤ h.c1
  k2 : h.n2 ≤ h.c2
  k4 : h.n4 ≤ h.c4
theorem ScR.below {w w' : World} {s : Sc} {h : Sh} (hr : ScR w s h) (hb : Below w.heap.size w w') : ScR w' s h :=
  ⟨hr.e1, hr.e2, hr.e3, hr.e4, hr.e5, hr.ec, Kd.C_below hr.r1 hb, Kd.C_below hr.r2 hb, Kd.C_below hr.r3 hb, Kd.C_below hr.r4 hb, Kd.C_below hr.r5 hb, hr.k1, hr.k2, hr.k4⟩
theorem ScR.drewN {w : World} {s : Sc} {h : Sh} (hr : ScR w s h) (q : Nat) : ScR (w.drewN q) s h := hr.below (pw_below_drewN (Below.refl _ _) q)
def FewH (h : Sh) : Prop := h.n1 ≤ 200 ∧ h.n2 ≤ 50 ∧ h.n3 ≤ 100 ∧ h.n4 ≤ 200 ∧ h.n5 ≤ 50
set_option maxHeartbeats 4000000 in
set_option maxRecDepth 100000 in
theorem few_yes (h : Sh) (w : World) (hf : FewH h) : Calls Try.prog 44 #[.agg (scC h)] w fun e w' => e = .returned (.bool true) ∧ Below w.heap.size w w' := by
  obtain ⟨a1, n1, c1, a2, n2, c2, a3, n3, c3, cut, a4, n4, c4, a5, n5, c5⟩ := h
  obtain ⟨f1, f2, f3, f4, f5⟩ := hf
  simp only at f1 f2 f3 f4 f5
  show Calls Try.prog 44 #[.agg #[.slice a1 n1 c1, .slice a2 n2 c2, .slice a3 n3 c3, .int .i64 cut, .slice a4 n4 c4, .slice a5 n5 c5]] w _
  have b1 : decide ((n1 : Int) ≤ 200) = true := decide_eq_true (by omega)
  have b2 : decide ((n2 : Int) ≤ 50) = true := decide_eq_true (by omega)
  have b3 : decide ((n3 : Int) ≤ 100) = true := decide_eq_true (by omega)
  have b4 : decide ((n4 : Int) ≤ 200) = true := decide_eq_true (by omega)
  have b5 : decide ((n5 : Int) ≤ 50) = true := decide_eq_true (by omega)
  clear f1 f2 f3 f4 f5
  go_enter Try.func44, Try.ntmps44
  go_wp2_with fail
  go_ret
  exact ⟨rfl, alloc_below w _⟩
set_option maxHeartbeats 4000000 in
set_option maxRecDepth 100000 in
theorem few_no (h : Sh) (w : World) (hf : ¬ FewH h) : Calls Try.prog 44 #[.agg (scC h)] w fun e w' => e = .returned (.bool false) ∧ Below w.heap.size w w' := by
  obtain ⟨a1, n1, c1, a2, n2, c2, a3, n3, c3, cut, a4, n4, c4, a5, n5, c5⟩ := h
  unfold FewH at hf
  simp only at hf
  show Calls Try.prog 44 #[.agg #[.slice a1 n1 c1, .slice a2 n2 c2, .slice a3 n3 c3, .int .i64 cut, .slice a4 n4 c4, .slice a5 n5 c5]] w _
  by_cases f1 : n1 ≤ 200
  · have b1 : decide ((n1 : Int) ≤ 200) = true := decide_eq_true (by omega)
    by_cases f2 : n2 ≤ 50
    · have b2 : decide ((n2 : Int) ≤ 50) = true := decide_eq_true (by omega)
      by_cases f3 : n3 ≤ 100
      · have b3 : decide ((n3 : Int) ≤ 100) = true := decide_eq_true (by omega)
        by_cases f4 : n4 ≤ 200
        · have b4 : decide ((n4 : Int) ≤ 200) = true := decide_eq_true (by omega)
          have b5 : decide ((n5 : Int) ≤ 50) = false := decide_eq_false (by omega)
          clear f1 f2 f3 f4 hf
          go_enter Try.func44, Try.ntmps44
          go_wp2_with fail
          go_ret
          exact ⟨rfl, alloc_below w _⟩
        · have b4 : decide ((n4 : Int) ≤ 200) = false := decide_eq_false (by omega)
          clear f1 f2 f3 f4 hf
          go_enter Try.func44, Try.ntmps44
          go_wp2_with fail
          go_ret
          exact ⟨rfl, alloc_below w _⟩
      · have b3 : decide ((n3 : Int) ≤ 100) = false := decide_eq_false (by omega)
        clear f1 f2 f3 hf
        go_enter Try.func44, Try.ntmps44
        go_wp2_with fail
        go_ret
        exact ⟨rfl, alloc_below w _⟩
    · have b2 : decide ((n2 : Int) ≤ 50) = false := decide_eq_false (by omega)
      clear f1 f2 hf
      go_enter Try.func44, Try.ntmps44
      go_wp2_with fail
      go_ret
      exact ⟨rfl, alloc_below w _⟩
  · have b1 : decide ((n1 : Int) ≤ 200) = false := decide_eq_false (by omega)
    clear f1 hf
    go_enter Try.func44, Try.ntmps44
    go_wp2_with fail
    go_ret
    exact ⟨rfl, alloc_below w _⟩
def rightB (s : Sc) : Bool := !(s.busy.any fun x => !inB 0 65536 x) && !(s.turns.any fun x => !okT x) && riseB 4611686018427387904 (-1) s.fails && riseB 3 (-1) s.marked && inB (-1) 16777216 s.cut
set_option maxHeartbeats 8000000 in
set_option maxRecDepth 100000 in
theorem right_ok (s : Sc) (h : Sh) (w : World) (hr : ScR w s h) (hf : FewH h) : Calls Try.prog 93 #[plainV, .agg (scC h)] w fun e w' => e = .returned (.bool (rightB s)) ∧ Below w.heap.size w w' := by
  have e1 := hr.e1
  have e2 := hr.e2
  have e3 := hr.e3
  have e5 := hr.e5
  have ec := hr.ec
  have hr1 := fun W (hb : Below w.heap.size w W) => has127_ok h.a1 h.c1 s.busy W (e1 ▸ Kd.C_below hr.r1 hb) (by have := hf.1; omega)
  have hr2 := fun W (hb : Below w.heap.size w W) gb (hg : GeomAt W gb) => has129_ok h.a3 h.c3 s.turns gb W hg (e3 ▸ Kd.C_below hr.r3 hb) (by have := hf.2.2.1; omega)
  have hr3 := fun W (hb : Below w.heap.size w W) => rising_ok h.a2 h.c2 s.fails 4611686018427387904 W (e2 ▸ Kd.C_below hr.r2 hb) (by have := hf.2.1; omega)
  have hr4 := fun W (hb : Below w.heap.size w W) => rising_ok h.a5 h.c5 s.marked 3 W (e5 ▸ Kd.C_below hr.r5 hb) (by have := hf.2.2.2.2; omega)
  have hr5 := within_ok h.cut (-1) 16777216
  have hT : rightB s = (!(s.busy.any fun x => !inB 0 65536 x) && !(s.turns.any fun x => !okT x) && riseB 4611686018427387904 (-1) s.fails && riseB 3 (-1) s.marked && inB (-1) 16777216 h.cut) := by rw [ec]; rfl
  rw [hT]
  rw [← e1] at hr1
  rw [← e3] at hr2
  rw [← e2] at hr3
  rw [← e5] at hr4
  clear e1 e2 e3 e5 ec hT hr
  obtain ⟨a1, n1, c1, a2, n2, c2, a3, n3, c3, cut, a4, n4, c4, a5, n5, c5⟩ := h
  obtain ⟨f1, f2, f3, f4, f5⟩ := hf
  simp only at f1 f2 f3 f4 f5 hr1 hr2 hr3 hr4 hr5 ⊢
  show Calls Try.prog 93 #[.agg #[.int .i64 1, .int .i64 4, .int .i64 4, .int .i64 1, .int .i64 4, .int .i64 2, .int .i64 1], .agg #[.slice a1 n1 c1, .slice a2 n2 c2, .slice a3 n3 c3, .int .i64 cut, .slice a4 n4 c4, .slice a5 n5 c5]] w _
  generalize (s.busy.any fun x => !inB 0 65536 x) = q1 at hr1 ⊢
  generalize (s.turns.any fun x => !okT x) = q2 at hr2 ⊢
  generalize riseB 4611686018427387904 (-1) s.fails = q3 at hr3 ⊢
  generalize riseB 3 (-1) s.marked = q4 at hr4 ⊢
  generalize inB (-1) 16777216 cut = q5 at hr5 ⊢
  have H1 := Lib.hid hr1
  have H2 := Lib.hid hr2
  have H3 := Lib.hid hr3
  have H4 := Lib.hid hr4
  have H5 := Lib.hid hr5
  have b1 : decide (4096 < (n1 : Int)) = false := decide_eq_false (by omega)
  have b2 : decide (4096 < (n2 : Int)) = false := decide_eq_false (by omega)
  have b3 : decide (4096 < (n3 : Int)) = false := decide_eq_false (by omega)
  have b4 : decide (4096 < (n4 : Int)) = false := decide_eq_false (by omega)
  have b5 : decide (4096 < (n5 : Int)) = false := decide_eq_false (by omega)
  have i0 : ∀ w : World, (Instr.index 182 (.agg #[.int .i64 n1, .int .i64 n2, .int .i64 n3, .int .i64 n4, .int .i64 n5]) (.int .i64 0)).run Try.prog w = .ok (.int .i64 n1) w := fun _ => by kernel_rfl
  have i1 : ∀ w : World, (Instr.index 182 (.agg #[.int .i64 n1, .int .i64 n2, .int .i64 n3, .int .i64 n4, .int .i64 n5]) (.int .i64 1)).run Try.prog w = .ok (.int .i64 n2) w := fun _ => by kernel_rfl
  have i2 : ∀ w : World, (Instr.index 182 (.agg #[.int .i64 n1, .int .i64 n2, .int .i64 n3, .int .i64 n4, .int .i64 n5]) (.int .i64 2)).run Try.prog w = .ok (.int .i64 n3) w := fun _ => by kernel_rfl
  have i3 : ∀ w : World, (Instr.index 182 (.agg #[.int .i64 n1, .int .i64 n2, .int .i64 n3, .int .i64 n4, .int .i64 n5]) (.int .i64 3)).run Try.prog w = .ok (.int .i64 n4) w := fun _ => by kernel_rfl
  have i4 : ∀ w : World, (Instr.index 182 (.agg #[.int .i64 n1, .int .i64 n2, .int .i64 n3, .int .i64 n4, .int .i64 n5]) (.int .i64 4)).run Try.prog w = .ok (.int .i64 n5) w := fun _ => by kernel_rfl
  clear hr1 hr2 hr3 hr4 hr5 f1 f2 f3 f4 f5
  go_enter Try.func93, Try.ntmps93
  go_wp2_with fail
  refine (pcheck_ok _).mono ?_
  rintro e w2 ⟨rfl, hb2⟩
  have hal := chainC (Nat.le_refl _) (alloc_below w (.cells #[.int .i64 1, .int .i64 4, .int .i64 4, .int .i64 1, .int .i64 4, .int .i64 2, .int .i64 1] 79)) (alloc_below (w.alloc (.cells #[.int .i64 1, .int .i64 4, .int .i64 4, .int .i64 1, .int .i64 4, .int .i64 2, .int .i64 1] 79)) (.cells #[.slice a1 n1 c1, .slice a2 n2 c2, .slice a3 n3 c3, .int .i64 cut, .slice a4 n4 c4, .slice a5 n5 c5] 73))
  obtain ⟨hg0, hs0⟩ := two_new2 w #[.int .i64 1, .int .i64 4, .int .i64 4, .int .i64 1, .int .i64 4, .int .i64 2, .int .i64 1] #[.slice a1 n1 c1, .slice a2 n2 c2, .slice a3 n3 c3, .int .i64 cut, .slice a4 n4 c4, .slice a5 n5 c5] 79 73
  have HGB : Hid (GeomAt w2 w.heap.size) := Lib.hid ((hb2.block _ (blk_lt hg0)).trans hg0)
  have hs2 := (hb2.block _ (blk_lt hs0)).trans hs0
  have HBW := Lib.hid (chainC (Nat.le_refl _) hal hb2)
  have s0 := blk_cell hs2 0
  have s1 := blk_cell hs2 1
  have s2 := blk_cell hs2 2
  have s3 := blk_cell hs2 3
  have s4 := blk_cell hs2 4
  have s5 := blk_cell hs2 5
  have HS2 := Lib.hid hs2
  clear hb2 hal hg0 hs0 hs2
  go_wp2_with fail
  go_loop [27] (fun i => ∃ k : Nat, k ≤ 5 ∧ i = .int .i64 k) (fun i => 5 - (intOf i).toNat)
  case atStart => exact ⟨0, by omega, rfl⟩
  case round =>
    obtain ⟨k, hk, rfl⟩ := hrel
    have hk5 : k = 0 ∨ k = 1 ∨ k = 2 ∨ k = 3 ∨ k = 4 ∨ k = 5 := by omega
    rcases hk5 with rfl | rfl | rfl | rfl | rfl | rfl
    · go_wp2_with fail
      go_round
      case rel => exact ⟨1, by omega, rfl⟩
      case measure => simp [intOf]
    · go_wp2_with fail
      go_round
      case rel => exact ⟨2, by omega, rfl⟩
      case measure => simp [intOf]
    · go_wp2_with fail
      go_round
      case rel => exact ⟨3, by omega, rfl⟩
      case measure => simp [intOf]
    · go_wp2_with fail
      go_round
      case rel => exact ⟨4, by omega, rfl⟩
      case measure => simp [intOf]
    · go_wp2_with fail
      go_round
      case rel => exact ⟨5, by omega, rfl⟩
      case measure => simp [intOf]
    · clear i0 i1 i2 i3 i4 b1 b2 b3 b4 b5 hk
      go_wp2_with fail
      refine (H1.out _ HBW.out).mono ?_
      rintro e w3 ⟨rfl, rfl⟩
      cases q1 with
      | true =>
        go_wp2_with fail
        go_ret
        exact ⟨rfl, HBW.out⟩
      | false =>
        go_wp2_with fail
        refine (H2.out _ HBW.out _ HGB.out).mono ?_
        rintro e w4 ⟨rfl, hb4⟩
        have HB4 := Lib.hid (chainC (Nat.le_refl _) HBW.out hb4)
        have HG4 := HGB.out.below hb4
        have HS4 := (hb4.block _ (blk_lt HS2.out)).trans HS2.out
        have t1 := blk_cell HS4 1
        have t3 := blk_cell HS4 3
        have t5 := blk_cell HS4 5
        have u1 := blk_cell HG4 1
        clear s0 s1 s2 s3 s4 s5 hb4 HG4 HS4 HGB HBW HS2
        cases q2 with
        | true =>
          go_wp2_with fail
          go_ret
          exact ⟨rfl, HB4.out⟩
        | false =>
          go_wp2_with fail
          refine (H3.out _ HB4.out).mono ?_
          rintro e w5 ⟨rfl, rfl⟩
          cases q3 with
          | false =>
            go_wp2_with fail
            go_ret
            exact ⟨rfl, HB4.out⟩
          | true =>
            go_wp2_with fail
            refine (H4.out _ HB4.out).mono ?_
            rintro e w6 ⟨rfl, rfl⟩
            cases q4 with
            | false =>
              go_wp2_with fail
              go_ret
              exact ⟨rfl, HB4.out⟩
            | true =>
              go_wp2_with fail
              refine (H5.out _).mono ?_
              rintro e w7 ⟨rfl, rfl⟩
              go_wp2_with fail
              go_ret
              exact ⟨rfl, HB4.out⟩
end Go.Proofs.Ytnkgbnipcjgjeaa
