import Derived.Test.YtfmogmgdpamfgaaJwi
import Derived.Test.YtfmogmgdpamfgaaGr
namespace Go.Proofs.Ytfmogmgdpamfgaa.Jd
open Go.RowKit Go.Proofs.YtfmogmgdpamfgaaW.PrintWords Go.Proofs.YtfmogmgdpamfgaaW.PrintLast Go.Proofs.YtfmogmgdpamfgaaW.PrintMore
set_option linter.unusedVariables false
set_option linter.unusedSimpArgs false
/-- A boxed geometry. -/
def GBox (W : World) (b0 : Nat) (g : Ge) : Prop := W.heap[b0]? = some (.cells #[.int .i64 g.pl, .int .i64 g.bl, .int .i64 g.pg, .int .i64 g.ch, .int .i64 g.ck, .int .i64 g.ru, .int .i64 g.pa] 23 (0, 0))
theorem GBox.below {w w' : World} {b0 : Nat} {g : Ge} (h : GBox w b0 g) (hb : Below w.heap.size w w') : GBox w' b0 g := (hb.block b0 (blk_lt h)).trans h
theorem GBox.drew {w : World} {b0 : Nat} {g : Ge} (h : GBox w b0 g) : GBox w.drew b0 g := h
theorem GBox.c {W : World} {b0 : Nat} {g : Ge} (h : GBox W b0 g) : W.cell? ⟨b0, 0, none⟩ = some (.int .i64 g.pl) ∧ W.cell? ⟨b0, 1, none⟩ = some (.int .i64 g.bl) ∧ W.cell? ⟨b0, 2, none⟩ = some (.int .i64 g.pg) ∧ W.cell? ⟨b0, 3, none⟩ = some (.int .i64 g.ch) ∧ W.cell? ⟨b0, 4, none⟩ = some (.int .i64 g.ck) ∧ W.cell? ⟨b0, 5, none⟩ = some (.int .i64 g.ru) ∧ W.cell? ⟨b0, 6, none⟩ = some (.int .i64 g.pa) := ⟨blk_cell h 0, blk_cell h 1, blk_cell h 2, blk_cell h 3, blk_cell h 4, blk_cell h 5, blk_cell h 6⟩
theorem GBox.new (w : World) (g : Ge) : GBox (w.alloc (.cells #[.int .i64 g.pl, .int .i64 g.bl, .int .i64 g.pg, .int .i64 g.ch, .int .i64 g.ck, .int .i64 g.ru, .int .i64 g.pa] 23)) w.heap.size g := blk_new w _
section
variable {g : Ge}
set_option maxHeartbeats 8000000 in
set_option maxRecDepth 100000 in
theorem jfits_much (w : World) (l : List (Int × Int)) {A : Option Addr} {c : Nat} (k : Int) (B : Bool) (hsm : ∀ w, Calls Try.prog 12 #[g.v] w fun e w' => e = .returned (.bool B) ∧ Below w.heap.size w w') (hno : B = false ∨ 800 < l.length) : Calls Try.prog 5 #[g.v, .slice A l.length c, .int .u16 k] w fun e w' => e = .returned (.bool true) ∧ Below w.heap.size w w' := by
  have HSM := Lib.hid hsm
  clear hsm
  have hab := alloc_below w (.cells #[.int .i64 g.pl, .int .i64 g.bl, .int .i64 g.pg, .int .i64 g.ch, .int .i64 g.ck, .int .i64 g.ru, .int .i64 g.pa] 23)
  have hgb := GBox.new w g
  have HB0 := Lib.hid hab
  have HG0 := Lib.hid hgb
  obtain ⟨m, hm⟩ : ∃ m, m = l.length := ⟨_, rfl⟩
  have HM := Lib.hid hm
  rw [← hm]
  clear hab hgb hm
  unfold Ge.v
  go_enter Try.func5, Try.ntmps5
  go_upto_region 1 with fail
  generalize w.alloc (.cells #[.int .i64 g.pl, .int .i64 g.bl, .int .i64 g.pg, .int .i64 g.ch, .int .i64 g.ck, .int .i64 g.ru, .int .i64 g.pa] 23) = w0 at HB0 HG0 ⊢
  generalize hb0 : w.heap.size = b0 at HG0 ⊢
  have HBE := Lib.hid hb0
  clear hb0
  go_upto_region 7 with (first | (go_at_call 11; refine (awake_ok _).mono ?_; rintro e w1 ⟨rfl, hb1⟩; have HB1 := Lib.hid (chainC (Nat.le_refl _) HB0.out hb1); have HG1 := Lib.hid (HG0.out.below hb1); clear hb1) | (go_at_call 22; refine (power_nil _).mono ?_; rintro e wx ⟨rfl, rfl⟩) | (go_at_call 16; (refine (step_nil _ _ _).mono ?_; rintro e w2 ⟨rfl, hb2⟩; have HB2 := Lib.hid (chainC (Nat.le_refl _) HB1.out hb2); have HG2 := Lib.hid (HG1.out.below hb2); clear hb2)) | (go_at_call 17; refine (busy_nil _).mono ?_; rintro e wx ⟨rfl, rfl⟩) | (go_at_call 18; refine (can_nil _ _).mono ?_; rintro e wx ⟨rfl, rfl⟩))
  clear HB0 HB1 HG0 HG1
  obtain ⟨c0, c1, c2, c3, c4, c5, c6⟩ := HG2.out.c
  cases B with
  | false =>
    clear hno
    go_wp2_with (go_at_call 12; refine (HSM.out _).mono ?_; rintro e w3 ⟨rfl, hb3⟩; have HB3 := Lib.hid (chainC (Nat.le_refl _) HB2.out hb3); clear hb3)
    go_ret
    exact ⟨rfl, HBE.out ▸ HB3.out⟩
  | true =>
    have hlong : decide ((800 : Int) < (m : Int)) = true := decide_eq_true (by rcases hno with h | h; cases h; have := HM.out; omega)
    clear hno
    go_wp2_with (go_at_call 12; refine (HSM.out _).mono ?_; rintro e w3 ⟨rfl, hb3⟩; have HB3 := Lib.hid (chainC (Nat.le_refl _) HB2.out hb3); clear hb3)
    go_ret
    exact ⟨rfl, HBE.out ▸ HB3.out⟩
theorem info33 : (Try.prog.info? 33).map (fun i => (i.zero, i.size, i.bytes)) = some (some (.agg #[.int .i64 0, .int .u8 0]), 2, 16) := by kernel_rfl
theorem cy_take (A : Option Addr) (m c j : Nat) (h : j ≤ c) (W : World) : (Instr.slice 38 (.slice A m c) none (some (.int .i64 (j : Int))) none).run Try.prog W = .ok (.slice A j c) W := by
  obtain ⟨i0, hi, hz⟩ := Option.map_eq_some_iff.1 info33
  simp only [Prod.mk.injEq] at hz
  have hel : Try.prog.elem 38 = 33 := by simp [Program.elem, Try.underlying38]
  have hu : Try.prog.underlying 38 = some (.slice (Try.prog.elem 38)) := by rw [hel]; exact Try.underlying38
  have ha : (A.map fun x => x.add 0) = A := by cases A <;> simp [Addr.add]
  rw [run_slice_h W 38 A m c hu .i64 (j : Int) (by omega) (by omega), hel, Int.toNat_natCast]
  simp [sizeOf, typeInfo, hi, hz.2.1, sliced, Result.andThen, ha]
set_option maxHeartbeats 8000000 in
set_option maxRecDepth 100000 in
theorem jfits_bad (hg : ¬ g.ok) (w : World) (l : List (Int × Int)) {A : Option Addr} {c : Nat} (k : Int) (hsm : ∀ w, Calls Try.prog 12 #[g.v] w fun e w' => e = .returned (.bool true) ∧ Below w.heap.size w w') (hll : l.length ≤ 800) (hlc : l.length ≤ c) : Calls Try.prog 5 #[g.v, .slice A l.length c, .int .u16 k] w fun e w' => e = .returned (.bool true) ∧ Below w.heap.size w w' := by
  have HSM := Lib.hid hsm
  have HLL := Lib.hid hll
  have HLC := Lib.hid hlc
  have HRU := Lib.hid (fun A m c W => run_bad hg A m c W)
  have HRI := Lib.hid (gright_no hg)
  have HNW := Lib.hid (jnew_bad hg)
  clear hsm hll hlc hg
  have hab := alloc_below w (.cells #[.int .i64 g.pl, .int .i64 g.bl, .int .i64 g.pg, .int .i64 g.ch, .int .i64 g.ck, .int .i64 g.ru, .int .i64 g.pa] 23)
  have hgb := GBox.new w g
  have HB0 := Lib.hid hab
  have HG0 := Lib.hid hgb
  obtain ⟨m, hm⟩ : ∃ m, m = l.length := ⟨_, rfl⟩
  have HM := Lib.hid hm
  rw [← hm]
  clear hab hgb hm
  unfold Ge.v
  go_enter Try.func5, Try.ntmps5
  go_upto_region 1 with fail
  generalize w.alloc (.cells #[.int .i64 g.pl, .int .i64 g.bl, .int .i64 g.pg, .int .i64 g.ch, .int .i64 g.ck, .int .i64 g.ru, .int .i64 g.pa] 23) = w0 at HB0 HG0 ⊢
  generalize hb0 : w.heap.size = b0 at HG0 ⊢
  have HBE := Lib.hid hb0
  clear hb0
  go_upto_region 7 with (first | (go_at_call 11; refine (awake_ok _).mono ?_; rintro e w1 ⟨rfl, hb1⟩; have HB1 := Lib.hid (chainC (Nat.le_refl _) HB0.out hb1); have HG1 := Lib.hid (HG0.out.below hb1); clear hb1) | (go_at_call 22; refine (power_nil _).mono ?_; rintro e wx ⟨rfl, rfl⟩) | (go_at_call 16; (refine (step_nil _ _ _).mono ?_; rintro e w2 ⟨rfl, hb2⟩; have HB2 := Lib.hid (chainC (Nat.le_refl _) HB1.out hb2); have HG2 := Lib.hid (HG1.out.below hb2); clear hb2)) | (go_at_call 17; refine (busy_nil _).mono ?_; rintro e wx ⟨rfl, rfl⟩) | (go_at_call 18; refine (can_nil _ _).mono ?_; rintro e wx ⟨rfl, rfl⟩))
  clear HB0 HB1 HG0 HG1
  obtain ⟨c0, c1, c2, c3, c4, c5, c6⟩ := HG2.out.c
  have hlong : decide ((800 : Int) < (m : Int)) = false := decide_eq_false (by have := HLL.out; have := HM.out; omega)
  go_upto_region 9 with (go_at_call 12; refine (HSM.out _).mono ?_; rintro e w3 ⟨rfl, hb3⟩; have HB3 := Lib.hid (chainC (Nat.le_refl _) HB2.out hb3); have HG3 := Lib.hid (HG2.out.below hb3); clear hb3)
  clear c0 c1 c2 c3 c4 c5 c6 HB2 HG2 hlong
  obtain ⟨c0, c1, c2, c3, c4, c5, c6⟩ := HG3.out.c
  go_upto_region 10 with (go_at_call 19; refine (HRU.out _ _ _ _).mono ?_; rintro e w4 ⟨rfl, hb4⟩; have HB4 := Lib.hid (chainC (Nat.le_refl _) HB3.out hb4); have HG4 := Lib.hid (HG3.out.below hb4); clear hb4)
  clear c0 c1 c2 c3 c4 c5 c6 HB3 HG3
  obtain ⟨c0, c1, c2, c3, c4, c5, c6⟩ := HG4.out.c
  have hk0 := cy_take A m c 0 (Nat.zero_le _)
  have hk1 : ∀ W : World, (Instr.slice 38 (.slice A m c) none (some (.int .i64 0)) none).run Try.prog W = .ok (.slice A 0 c) W := hk0
  clear hk0
  have hmz : m = 0 ∨ ((0 : Int) == (m : Int)) = false := by
    rcases Nat.eq_zero_or_pos m with h | h
    · exact .inl h
    · exact .inr (beq_f (by omega))
  rcases hmz with hmz | hmz
  · as_aux_lemma =>
    subst hmz
    go_upto_region 15 with (go_at_call 13; refine (HRI.out _).mono ?_; rintro e w5 ⟨rfl, hb5⟩; have HB5 := Lib.hid (chainC (Nat.le_refl _) HB4.out hb5); have HG5 := Lib.hid (HG4.out.below hb5); clear hb5)
    clear c0 c1 c2 c3 c4 c5 c6
    obtain ⟨c0, c1, c2, c3, c4, c5, c6⟩ := HG5.out.c
    go_region_held3 (fun W => W.cell? ⟨b0, 0, none⟩ = some (.int .i64 g.pl) ∧ W.cell? ⟨b0, 1, none⟩ = some (.int .i64 g.bl) ∧ W.cell? ⟨b0, 2, none⟩ = some (.int .i64 g.pg) ∧ W.cell? ⟨b0, 3, none⟩ = some (.int .i64 g.ch) ∧ W.cell? ⟨b0, 4, none⟩ = some (.int .i64 g.ck) ∧ W.cell? ⟨b0, 5, none⟩ = some (.int .i64 g.ru) ∧ W.cell? ⟨b0, 6, none⟩ = some (.int .i64 g.pa)) (first | exact ⟨c0, c1, c2, c3, c4, c5, c6⟩ | exact ⟨f0, f1, f2, f3, f4, f5, f6⟩) (first | (go_at_call 19; refine (HRU.out _ _ _ _).mono ?_; rintro e w6 ⟨rfl, hb6⟩; have f0 := pw_cell_below hb6 c0; have f1 := pw_cell_below hb6 c1; have f2 := pw_cell_below hb6 c2; have f3 := pw_cell_below hb6 c3; have f4 := pw_cell_below hb6 c4; have f5 := pw_cell_below hb6 c5; have f6 := pw_cell_below hb6 c6; have HB6 := Lib.hid (chainC (Nat.le_refl _) (below_drew HB5.out) hb6); have HG6 : Hid (GBox w6 b0 g) := Lib.hid (HG5.out.drew.below hb6); clear hb6))
    all_goals
      clear c0 c1 c2 c3 c4 c5 c6
      go_upto_region 18 with (go_at_call 13; refine (HRI.out _).mono ?_; rintro e w7 ⟨rfl, hb7⟩; have HB7 := Lib.hid (chainC (Nat.le_refl _) HB6.out hb7); have HG7 := Lib.hid (HG6.out.below hb7); clear hb7)
      clear f0 f1 f2 f3 f4 f5 f6
      obtain ⟨c0, c1, c2, c3, c4, c5, c6⟩ := HG7.out.c
      go_wp2_with (go_at_call 14; refine (HNW.out _).mono ?_; rintro e w8 ⟨rfl, hb8⟩; have HB8 := Lib.hid (chainC (Nat.le_refl _) HB7.out hb8); clear hb8)
      all_goals
        go_ret
        exact ⟨rfl, HBE.out ▸ HB8.out⟩
  · as_aux_lemma =>
    go_upto_region 15 with fail
    clear c0 c1 c2 c3 c4 c5 c6
    obtain ⟨c0, c1, c2, c3, c4, c5, c6⟩ := HG4.out.c
    go_region_held3 (fun W => W.cell? ⟨b0, 0, none⟩ = some (.int .i64 g.pl) ∧ W.cell? ⟨b0, 1, none⟩ = some (.int .i64 g.bl) ∧ W.cell? ⟨b0, 2, none⟩ = some (.int .i64 g.pg) ∧ W.cell? ⟨b0, 3, none⟩ = some (.int .i64 g.ch) ∧ W.cell? ⟨b0, 4, none⟩ = some (.int .i64 g.ck) ∧ W.cell? ⟨b0, 5, none⟩ = some (.int .i64 g.ru) ∧ W.cell? ⟨b0, 6, none⟩ = some (.int .i64 g.pa)) (first | exact ⟨c0, c1, c2, c3, c4, c5, c6⟩ | exact ⟨f0, f1, f2, f3, f4, f5, f6⟩) (first | (go_at_call 19; refine (HRU.out _ _ _ _).mono ?_; rintro e w6 ⟨rfl, hb6⟩; have f0 := pw_cell_below hb6 c0; have f1 := pw_cell_below hb6 c1; have f2 := pw_cell_below hb6 c2; have f3 := pw_cell_below hb6 c3; have f4 := pw_cell_below hb6 c4; have f5 := pw_cell_below hb6 c5; have f6 := pw_cell_below hb6 c6; have HB6 := Lib.hid (chainC (Nat.le_refl _) (below_drew HB4.out) hb6); have HG6 : Hid (GBox w6 b0 g) := Lib.hid (HG4.out.drew.below hb6); clear hb6))
    all_goals
      clear c0 c1 c2 c3 c4 c5 c6
      go_upto_region 18 with (go_at_call 13; refine (HRI.out _).mono ?_; rintro e w7 ⟨rfl, hb7⟩; have HB7 := Lib.hid (chainC (Nat.le_refl _) HB6.out hb7); have HG7 := Lib.hid (HG6.out.below hb7); clear hb7)
      clear f0 f1 f2 f3 f4 f5 f6
      obtain ⟨c0, c1, c2, c3, c4, c5, c6⟩ := HG7.out.c
      go_wp2_with (go_at_call 14; refine (HNW.out _).mono ?_; rintro e w8 ⟨rfl, hb8⟩; have HB8 := Lib.hid (chainC (Nat.le_refl _) HB7.out hb8); clear hb8)
      all_goals
        go_ret
        exact ⟨rfl, HBE.out ▸ HB8.out⟩
end
end Go.Proofs.Ytfmogmgdpamfgaa.Jd
