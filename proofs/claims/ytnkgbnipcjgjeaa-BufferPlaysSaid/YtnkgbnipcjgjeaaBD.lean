import Derived.Test.YtnkgbnipcjgjeaaBC
namespace Go.Proofs.Ytnkgbnipcjgjeaa
open Go.RowKit Go.Lib Go.Proofs.YtnkgbnipcjgjeaaW.PrintWords Go.Proofs.YtnkgbnipcjgjeaaW.PrintLast Go.Proofs.YtnkgbnipcjgjeaaW.PrintMore
set_option linter.unusedVariables false
def RightP (sz : Nat) (s k : Int) (n : Nat) : Prop := 0 ≤ s ∧ s ≤ 2147483648 ∧ (k = 1 ∧ n = sz ∨ k = 2 ∧ n = 0)
instance (sz : Nat) (s k : Int) (n : Nat) : Decidable (RightP sz s k n) := by unfold RightP; infer_instance
section
variable {w : World} {N0 g : Nat} {v : Value} {es : List Ent} {most size : Nat}
set_option maxHeartbeats 4000000 in
theorem bright_ok (h : BufIs w N0 g v es most size) (s k : Int) (A : Option Addr) (n c : Nat) :
    Calls Try.prog 88 #[.pointer (some ⟨g, 0, none⟩), .agg #[.int .i64 s, .int .i64 k, .slice A n c]] w fun e w' => e = .returned (.bool (decide (RightP size s k n))) ∧ Below w.heap.size w w' := by
  have c2 := h.c2
  have hlg := h.ltg
  clear h
  have HB := Lib.hid ((Below.refl w.heap.size w).alloc (Nat.le_refl _) (.cells #[.int .i64 s, .int .i64 k, .slice A n c] 54))
  by_cases h1 : s < 0
  · rw [decide_eq_false (fun h : RightP size s k n => by have := h.1; omega)]
    go_enter Try.func88, Try.ntmps88
    go_wp2_with fail
    go_ret
    exact ⟨rfl, HB.out⟩
  · by_cases h2 : 2147483648 < s
    · rw [decide_eq_false (fun h : RightP size s k n => by have := h.2.1; omega)]
      go_enter Try.func88, Try.ntmps88
      go_wp2_with fail
      go_ret
      exact ⟨rfl, HB.out⟩
    · by_cases h3 : k = 1
      · subst h3
        by_cases h4 : n = size
        · rw [decide_eq_true (show RightP size s 1 n from ⟨by omega, by omega, .inl ⟨rfl, h4⟩⟩)]
          subst h4
          have b1 : ((n : Int) == (n : Int)) = true := beq_self_eq_true _
          go_enter Try.func88, Try.ntmps88
          go_wp2_with fail
          go_quiet (fail)
          go_wp2_with fail
          go_ret
          exact ⟨rfl, pw_below_drewN HB.out _⟩
        · rw [decide_eq_false (fun h : RightP size s 1 n => by rcases h.2.2 with h | h <;> omega)]
          have b1 : ((n : Int) == (size : Int)) = false := by rw [beq_eq_false_iff_ne]; omega
          clear h4
          go_enter Try.func88, Try.ntmps88
          go_wp2_with fail
          go_quiet (fail)
          go_wp2_with fail
          go_ret
          exact ⟨rfl, pw_below_drewN HB.out _⟩
      · have b3 : (k == (1 : Int)) = false := by rw [beq_eq_false_iff_ne]; exact h3
        by_cases h5 : k = 2
        · subst h5
          by_cases h4 : n = 0
          · subst h4
            rw [decide_eq_true (show RightP size s 2 0 from ⟨by omega, by omega, .inr ⟨rfl, rfl⟩⟩)]
            clear h3
            go_enter Try.func88, Try.ntmps88
            go_wp2_with fail
            go_quiet (fail)
            go_wp2_with fail
            go_ret
            exact ⟨rfl, pw_below_drewN HB.out _⟩
          · rw [decide_eq_false (fun h : RightP size s 2 n => by rcases h.2.2 with h | h <;> omega)]
            have b1 : ((n : Int) == (0 : Int)) = false := by rw [beq_eq_false_iff_ne]; omega
            clear h3
            go_enter Try.func88, Try.ntmps88
            go_wp2_with fail
            go_quiet (fail)
            go_wp2_with fail
            go_ret
            exact ⟨rfl, pw_below_drewN HB.out _⟩
        · rw [decide_eq_false (fun h : RightP size s k n => by rcases h.2.2 with h | h <;> omega)]
          have b5 : (k == (2 : Int)) = false := by rw [beq_eq_false_iff_ne]; exact h5
          clear h3 h5
          go_enter Try.func88, Try.ntmps88
          go_wp2_with fail
          go_quiet (fail)
          go_wp2_with fail
          go_ret
          exact ⟨rfl, pw_below_drewN HB.out _⟩
end
/-- The first entry of a sector, from place k on; -1: there is none. -/
def plc (s : Int) : List Ent → Nat → Int
  | [], _ => -1
  | e :: r, k => if e.1 = s then (k : Int) else plc s r (k + 1)
set_option maxHeartbeats 2000000 in
theorem bclos_ok (x y : Int) (v : Value) (bx : Nat) (s : Int) (w : World) (hb : w.cell? ⟨bx, 0, none⟩ = some (.int .i64 s)) (A : Option Addr) (n c : Nat) :
    Calls Try.prog 125 #[.agg #[.int .i64 x, .int .i64 y, .slice A n c], .pointer (some ⟨bx, 0, none⟩)] w fun e w' => e = .returned (.bool (x == s)) ∧ Below w.heap.size w w' := by
  have hl : bx < w.heap.size := World.block_lt_of_cell? w ⟨bx, 0, none⟩ hb
  have HB := Lib.hid ((Below.refl w.heap.size w).alloc (Nat.le_refl _) (.cells #[.int .i64 x, .int .i64 y, .slice A n c] 54))
  go_enter Try.func125, Try.ntmps125
  go_wp2_with fail
  go_ret
  exact ⟨rfl, HB.out⟩
theorem plc_nil (s : Int) (k : Nat) : plc s [] k = -1 := rfl
set_option maxHeartbeats 4000000 in
/-- slices.IndexFunc over entries, asked for a sector. -/
theorem bidx_ok (A : Option Addr) (c : Nat) (hs : List Eh) (es : List Ent) (bx : Nat) (s : Int) (N0 : Nat) (w : World) (hr : Kd.C kEh w A hs.length hs) (hE : EAll w N0 hs es) (hb : w.cell? ⟨bx, 0, none⟩ = some (.int .i64 s)) (hl : hs.length ≤ 1000000) :
    Calls Try.prog 124 #[.slice A hs.length c, .func (.func 125) #[] #[.pointer (some ⟨bx, 0, none⟩)]] w fun e w' => e = .returned (.int .i64 (plc s es 0)) ∧ Below w.heap.size w w' := by
  have HE := Lib.hid hE
  have HR := Lib.hid hr
  have HBX := Lib.hid hb
  have HLE := Lib.hid (All2.len hE)
  obtain ⟨T, hT⟩ : ∃ T, T = plc s es 0 := ⟨_, rfl⟩
  have HT : Hid (T = plc s (es.drop 0) 0) := Lib.hid (by rw [List.drop_zero]; exact hT)
  rw [← hT]
  obtain ⟨m, hm⟩ : ∃ m, m = hs.length := ⟨_, rfl⟩
  rw [← hm] at hl ⊢
  have HM := Lib.hid hm
  have hm2 : (m : Int) ≤ 1000000 := by omega
  clear hE hr hb hT hm hl
  go_enter Try.func124, Try.ntmps124
  go_wp2_with fail
  go_loopw [8] (fun i wr => ∃ (k : Nat), k ≤ m ∧ i = .int .i64 k ∧ Hid (T = plc s (es.drop k) k) ∧ Hid (Below w.heap.size w wr)) (fun i _ => m - (intOf i).toNat)
  case atStart => exact ⟨0, by omega, rfl, HT, Lib.hid (Below.refl _ _)⟩
  case round =>
    clear HT
    obtain ⟨k, hk, rfl, HG, HB⟩ := hrel
    by_cases hkn : k < m
    · have hks : k < hs.length := by rw [← HM.out]; exact hkn
      have hC := Kd.C_below HR.out HB.out
      obtain ⟨b, off, rfl, _, hcell⟩ := rowE_of_C hC (by omega)
      have hh := List.getElem?_eq_getElem hks
      obtain ⟨en, he1, he2⟩ := All2.get HE.out hh
      have hke : k < es.length := (List.getElem?_eq_some_iff.1 he1).1
      obtain ⟨e0, e1, e2⟩ := hcell k _ hh
      have hg := HG.out
      rw [List.drop_eq_getElem_cons hke] at hg
      have hek : es[k] = en := by rw [List.getElem?_eq_getElem hke] at he1; exact Option.some.inj he1
      rw [hek, plc, ← he2.1] at hg
      generalize hs[k] = x at e0 e1 e2 hg
      obtain ⟨x1, x2, xA, xn, xc⟩ := x
      have hbx := (HB.out.cell (p := ⟨bx, 0, none⟩) (World.block_lt_of_cell? w _ HBX.out)).trans HBX.out
      have HCL := Lib.hid (bclos_ok x1 x2 (.bool true) bx s wr hbx xA xn xc)
      have hk0 : (k : Int) < (m : Int) := by omega
      by_cases e : x1 = s
      · have hT1 : T = (k : Int) := by rw [hg, if_pos e]
        have bb : (x1 == s) = true := beq_iff_eq.2 e
        subst hT1
        clear hg hcell hh hek he1 he2 hke hks hC hbx e
        go_wp2_with (go_at_call 125; refine (HCL.out).mono ?_; rintro e w2 ⟨rfl, hb2⟩)
        go_ret
        exact ⟨rfl, chainC' HB.out hb2⟩
      · have HG2 : Hid (T = plc s (es.drop (k + 1)) (k + 1)) := Lib.hid (by rw [hg, if_neg e])
        have bb : (x1 == s) = false := beq_eq_false_iff_ne.2 e
        clear hg hcell hh hek he1 he2 hke hks hC hbx e
        go_wp2_with (go_at_call 125; refine (HCL.out).mono ?_; rintro e w2 ⟨rfl, hb2⟩)
        go_roundw
        case rel => exact ⟨k + 1, hkn, by go_num, HG2, Lib.hid (chainC' HB.out hb2)⟩
        case measure => exact step_measure hkn
    · have hk2 : k = m := by omega
      subst hk2
      have hg := HG.out
      rw [HM.out, HLE.out, List.drop_length] at hg
      have : T = -1 := hg
      subst this
      clear hg hkn
      go_wp2_with fail
      go_ret
      exact ⟨rfl, HB.out⟩
section
variable {w : World} {N0 g : Nat} {v : Value} {es : List Ent} {most size : Nat}
set_option maxHeartbeats 4000000 in
theorem bplace_ok (h : BufIs w N0 g v es most size) (s : Int) :
    Calls Try.prog 89 #[.pointer (some ⟨g, 0, none⟩), .int .i64 s] w fun e w' => e = .returned (.int .i64 (plc s es 0)) ∧ Below w.heap.size w w' := by
  have hb1 : Below w.heap.size w (w.alloc (.cells #[.int .i64 s] 3)) := (Below.refl w.heap.size w).alloc (Nat.le_refl _) _
  have h1 := h.below hb1
  have HI := Lib.hid (bis_ok h1)
  obtain ⟨A, c, hs, rfl, hl, _, hC, hE⟩ := h1.form
  have c0 := h1.c0
  have HX := Lib.hid (bidx_ok A c hs es w.heap.size s N0 _ hC hE (blk_cell (blk_new w _) 0) (by have := h.fit; have := h.small; omega))
  rw [hl] at HX
  have HB := Lib.hid hb1
  clear h h1 hC hE hl hb1
  go_enter Try.func89, Try.ntmps89
  go_wp2_with (first | (go_at_call 87; refine (HI.out).mono ?_; rintro e w' ⟨rfl, rfl⟩) | (go_at_call 124; refine (HX.out).mono ?_; rintro e w' ⟨rfl, hb2⟩))
  go_ret
  exact ⟨rfl, chainC' HB.out hb2⟩
end
end Go.Proofs.Ytnkgbnipcjgjeaa
