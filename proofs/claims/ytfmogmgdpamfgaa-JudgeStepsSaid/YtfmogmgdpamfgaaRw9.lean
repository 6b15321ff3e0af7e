import Derived.Test.YtfmogmgdpamfgaaRw7
import Derived.Test.YtfmogmgdpamfgaaQJx1
namespace Go.Proofs.Ytfmogmgdpamfgaa.Jd
open Go.RowKit Go.Proofs.Ytfmogmgdpamfgaa.QJ Go.Proofs.YtfmogmgdpamfgaaW.PrintWords Go.Proofs.YtfmogmgdpamfgaaW.PrintLast Go.Proofs.YtfmogmgdpamfgaaW.PrintMore
set_option linter.unusedVariables false
set_option linter.unusedSimpArgs false
/-- What a page takes, of the document. -/
theorem rgraw {g : Ge} (hg : g.ok) (w : World) : Calls Try.prog 135 #[g.v] w fun e w' => e = .returned (.int .i64 g.raw) ∧ Below w.heap.size w w' := by
  refine incunableref04_Raw.calls _ _ _ _ _ _ _ _ w ?_
  unfold incunableref04_Raw.f
  obtain ⟨_, _, _, hch, hck, _⟩ := hg
  have h1 : 0 ≤ g.ch * g.ck := Int.mul_nonneg (by omega) (by omega)
  have h2 : g.ch * g.ck ≤ 16 * 512 := Int.mul_le_mul hch.2 hck.2 (by omega) (by decide)
  have h3 : g.ch * (g.ck + 2) = g.ch * g.ck + g.ch * 2 := Int.mul_add ..
  have e1 : wrap64 (g.ch * g.ck) = g.ch * g.ck := w64i _ (by omega) (by omega)
  have e2 : wrap64 (2 * g.ch) = 2 * g.ch := w64i _ (by omega) (by omega)
  rw [e1, e2, w64i (g.ch * g.ck + 2 * g.ch) (by omega) (by omega), w64i _ (by omega) (by omega)]
  unfold Ge.raw
  rw [h3]
  congr 1
  omega
theorem isB_snoc {l : List Int} {b : Int} (h : IsB l) (hb : 0 ≤ b ∧ b ≤ 255) : IsB (l ++ [b]) := fun x hx => by
  rcases List.mem_append.1 hx with hx | hx
  · exact h x hx
  · rw [List.mem_singleton.1 hx]; exact hb
theorem op9_casesR (op : Int) : op = 2 ∨ op = 4 ∨ op = 3 ∨ op = 5 ∨ op = 8 ∨ op = 7 ∨ op = 9 ∨ (op ≠ 2 ∧ op ≠ 4 ∧ op ≠ 3 ∧ op ≠ 5 ∧ op ≠ 8 ∧ op ≠ 7 ∧ op ≠ 9) := by omega
section
variable {w w' : World} {p : Nat} {g : Ge} {t t' : Nat → Nat} {s : RS} {H : HR}
set_option maxHeartbeats 16000000 in
set_option maxRecDepth 100000 in
theorem raddress_ok (b : Int) (hb : 0 ≤ b ∧ b ≤ 255) (hw : Wr g s) (h : RAt w p g t s H) : Calls Try.prog 98 #[.pointer (some ⟨p, 0, none⟩), .int .i64 b] w (OutR p g t w (addressR g s b)) := by
  have HG := Lib.hid hw.hg
  have HJ := Lib.hid h
  have HLB := Lib.hid (isB_snoc hw.lb hb)
  have c11 := h.c11
  have HC11 := Lib.hid h.c11
  have hl4 := hw.l4
  obtain ⟨A11, m11, q11⟩ := h.l11
  rw [q11] at c11
  clear q11 hw h
  obtain ⟨n, hn⟩ : ∃ n, n = s.listed.length := ⟨_, rfl⟩
  rw [← hn] at c11 hl4
  have HN := Lib.hid hn
  clear hn
  obtain ⟨op, hop⟩ : ∃ op, op = s.op := ⟨_, rfl⟩
  have HOP := Lib.hid hop
  clear hop hb
  go_enter Try.func98, Try.ntmps98
  go_upto_region 2 with fail
  clear c11
  have c11 := HC11.out
  have HZ : Hid ((s.listed.length + 1) * 8 ≤ 140737488355328) := Lib.hid (by have := HN.out; omega)
  have HR := Lib.hid HJ.out.r11
  go_upto_region 3 with (at_builtin; refine Kd.R_append (Kd.int .i64) 0 rfl (.tmp 15) (.tmp 17) 44 3 _ 8 rfl Try.underlying44 info3r rfl (by decide) (by decide) H.a s.listed b [.int .i64 b] _ (fun _ => False) rfl rfl rfl (fun _ h => h.elim) (fun _ _ => trivial) HR.out (Below.refl _ _) (Nat.zero_le _) HZ.out ?_; intro v1 w6 hr1 _ hg1 hat1; obtain ⟨A1, c1, rfl⟩ := Kd.R_slice hr1; generalize hn1 : (s.listed ++ [b]).length = n1 at hr1 hg1 hat1 ⊢; have HN1 := Lib.hid hn1; clear hn1; obtain ⟨e11, hz6, hj6, hn6⟩ := HJ.out.app11 hr1 hg1 hat1; have HJ6 := Lib.hid hj6; have HX6 := Lib.hid hn6; clear hr1 hg1 hat1 hj6 hn6)
  generalize hw7 : World.setCell _ ⟨p, 11, none⟩ _ = w7 at HJ6 HX6 ⊢
  clear hw7 e11 hz6 c11 HR HZ
  generalize hT7 : retag t 3 _ = t7 at HJ6 HX6
  clear hT7
  have HNN : Hid (n1 = n + 1) := Lib.hid (by rw [← HN1.out, HN.out, List.length_append]; rfl)
  obtain ⟨l, hl⟩ : ∃ l, l = s.listed ++ [b] := ⟨_, rfl⟩
  rw [← hl] at HJ6 HLB HN1
  have HLL := Lib.hid hl
  clear hl HJ
  have c10 := HJ6.out.c10
  change w7.cell? ⟨p, 10, none⟩ = some (.int .i64 s.op) at c10
  rw [← HOP.out] at c10
  rcases op9_casesR op with rfl | rfl | rfl | rfl | rfl | rfl | rfl | ⟨n2, n4, n3, n5, n8, n7, n9⟩
  · by_cases h0 : n = 0
    · subst h0
      by_cases hb0 : b = 0
      · subst hb0
        have HE := Lib.hid (show addressR g s 0 = ({ s with listed := l }, true) from by unfold addressR; simp [← HOP.out, ← HN.out, ← HLL.out])
        go_wp2_with fail
        go_ret
        exact ⟨by rw [HE.out]; rfl, _, ⟨_, by rw [HE.out]; exact HJ6.out⟩, HX6.out⟩
      · have o1 := beq_f hb0
        have HE := Lib.hid (show addressR g s b = ({ s with listed := l }, false) from by unfold addressR; simp [← HOP.out, ← HN.out, ← HLL.out, hb0])
        clear hb0
        go_wp2_with fail
        go_ret
        exact ⟨by rw [HE.out]; rfl, _, ⟨_, by rw [HE.out]; exact HJ6.out⟩, HX6.out⟩
    · have o1 : ((n : Int) == 0) = false := beq_f (by omega)
      have h0L : s.listed ≠ [] := fun e => h0 (by rw [HN.out, e]; rfl)
      have HE := Lib.hid (show addressR g s b = ({ s with listed := l }, false) from by unfold addressR; simp [← HOP.out, ← HN.out, ← HLL.out, h0, h0L])
      clear h0 h0L
      go_wp2_with fail
      go_ret
      exact ⟨by rw [HE.out]; rfl, _, ⟨_, by rw [HE.out]; exact HJ6.out⟩, HX6.out⟩
  · by_cases h0 : n = 0
    · subst h0
      by_cases hb0 : b = 137
      · subst hb0
        have HE := Lib.hid (show addressR g s 137 = ({ s with listed := l }, true) from by unfold addressR; simp [← HOP.out, ← HN.out, ← HLL.out])
        go_wp2_with fail
        go_ret
        exact ⟨by rw [HE.out]; rfl, _, ⟨_, by rw [HE.out]; exact HJ6.out⟩, HX6.out⟩
      · have o1 := beq_f hb0
        have HE := Lib.hid (show addressR g s b = ({ s with listed := l }, false) from by unfold addressR; simp [← HOP.out, ← HN.out, ← HLL.out, hb0])
        clear hb0
        go_wp2_with fail
        go_ret
        exact ⟨by rw [HE.out]; rfl, _, ⟨_, by rw [HE.out]; exact HJ6.out⟩, HX6.out⟩
    · have o1 : ((n : Int) == 0) = false := beq_f (by omega)
      have h0L : s.listed ≠ [] := fun e => h0 (by rw [HN.out, e]; rfl)
      have HE := Lib.hid (show addressR g s b = ({ s with listed := l }, false) from by unfold addressR; simp [← HOP.out, ← HN.out, ← HLL.out, h0, h0L])
      clear h0 h0L
      go_wp2_with fail
      go_ret
      exact ⟨by rw [HE.out]; rfl, _, ⟨_, by rw [HE.out]; exact HJ6.out⟩, HX6.out⟩
  · by_cases h0 : n = 0
    · subst h0
      by_cases hb0 : b = 0
      · subst hb0
        have HE := Lib.hid (show addressR g s 0 = (startR { s with listed := l, col := 0, data := true }, true) from by unfold addressR; simp [← HOP.out, ← HN.out, ← HLL.out])
        have d18 := HJ6.out.c18
        have d17 := HJ6.out.c17
        have hz := HJ6.out.z
        have HX7 := Lib.hid (HX6.out.trans (HJ6.out.n [(18, .int .i64 0), (17, .bool true)]))
        have HS := Lib.hid (rstart_ok ((HJ6.out.s18 0).s17 true))
        go_wp2_with (go_at_call 94; refine (HS.out).mono ?_; rintro e w2 ⟨rfl, hj2, hn2⟩; have HJ2 := Lib.hid hj2; have HX2 := Lib.hid (HX7.out.trans hn2); clear hj2 hn2)
        go_ret
        exact ⟨by rw [HE.out]; rfl, _, ⟨_, by rw [HE.out]; exact HJ2.out⟩, HX2.out⟩
      · have o1 := (bne_iff_ne.2 hb0 : (b != 0) = true)
        have HE := Lib.hid (show addressR g s b = ({ s with listed := l }, false) from by unfold addressR; simp [← HOP.out, ← HN.out, ← HLL.out, hb0])
        clear hb0
        go_wp2_with fail
        go_ret
        exact ⟨by rw [HE.out]; rfl, _, ⟨_, by rw [HE.out]; exact HJ6.out⟩, HX6.out⟩
    · have o1 : decide (0 < n) = true := decide_eq_true (by omega)
      have h0L : s.listed ≠ [] := fun e => h0 (by rw [HN.out, e]; rfl)
      have h0K : 0 < n := by omega
      have HE := Lib.hid (show addressR g s b = ({ s with listed := l }, false) from by unfold addressR; simp [← HOP.out, ← HN.out, ← HLL.out, h0, h0K, h0L])
      clear h0 h0L h0K
      go_wp2_with fail
      go_ret
      exact ⟨by rw [HE.out]; rfl, _, ⟨_, by rw [HE.out]; exact HJ6.out⟩, HX6.out⟩
  · by_cases h3 : n = 3
    · subst h3
      have hn4 : l.length = 4 := by rw [HN1.out, HNN.out]
      obtain ⟨x0, hx0⟩ : ∃ x0, x0 = num l 0 := ⟨_, rfl⟩
      obtain ⟨x2, hx2⟩ : ∃ x2, x2 = num l 2 := ⟨_, rfl⟩
      have HE := Lib.hid (show addressR g s b = ({ s with listed := l, data := false, col := x0 }, decide (x2 < (s.pr.length : Int) ∧ x0 < g.raw)) from by unfold addressR; simp [← HOP.out, ← HN.out, ← HLL.out, hx0, hx2])
      have HJ7 := Lib.hid (HJ6.out.s17 false)
      have HX7 := Lib.hid (HX6.out.trans (HJ6.out.n [(17, .bool false)]))
      simp only [sets] at HX7
      have d17 := HJ6.out.c17
      have hz := HJ6.out.z
      have HT := Lib.hid (rtwo_ok 0 HJ7.out (by show 0 + 2 ≤ l.length; omega) (by show l.length ≤ 1000; omega) HLB.out)
      have HL4 := Lib.hid hn4
      clear hn4
      change Hid (Calls _ _ _ _ (fun e w' => e = .returned (.int .i64 (num l 0)) ∧ _)) at HT
      rw [← hx0] at HT
      have HX2E := Lib.hid hx2
      clear hx0 hx2
      go_upto_region 19 with (go_at_call 133; refine (HT.out).mono ?_; rintro e w1 ⟨rfl, hb1⟩; have hj1 := HJ7.out.below hb1; have HX8 := Lib.hid ((HX7.out.below hb1).trans (hj1.n [(18, .int .i64 x0)])); have d18 := hj1.c18; have hz2 := hj1.z; have HJ8 := Lib.hid (hj1.s18 x0); clear hb1 hj1)
      simp only [sets] at HX8
      generalize hw9 : World.setCell _ ⟨p, 18, none⟩ _ = w9 at HJ8 HX8 ⊢
      clear hw9 d18 hz2 HT HJ7 HX7 HJ6 HX6 c10 d17 hz
      have HT2 := rtwo_ok 2 HJ8.out.drew (by show 2 + 2 ≤ l.length; have := HL4.out; omega) (by show l.length ≤ 1000; have := HL4.out; omega) HLB.out
      change Calls _ _ _ _ (fun e w' => e = .returned (.int .i64 (num l 2)) ∧ _) at HT2
      rw [← HX2E.out] at HT2
      have HT := Lib.hid HT2
      clear HT2
      have HRW := Lib.hid (fun W => rgraw HG.out W)
      have c9 := HJ8.out.c9
      have c18 := HJ8.out.c18
      obtain ⟨A9, m9, q9⟩ := HJ8.out.l9
      rw [q9] at c9
      change w9.cell? ⟨p, 9, none⟩ = some (.slice A9 s.pr.length m9) at c9
      change w9.cell? ⟨p, 18, none⟩ = some (.int .i64 x0) at c18
      clear q9
      have c0 := HJ8.out.c0; have c1 := HJ8.out.c1; have c2 := HJ8.out.c2; have c3 := HJ8.out.c3; have c4 := HJ8.out.c4; have c5 := HJ8.out.c5; have c6 := HJ8.out.c6
      generalize s.pr.length = npr at *
      by_cases hx : x2 < (npr : Int)
      · have o1 : decide (x2 < (npr : Int)) = true := decide_eq_true hx
        have HF := Lib.hid (show decide (x2 < (npr : Int) ∧ x0 < g.raw) = decide (x0 < g.raw) from by simp [hx])
        clear hx
        go_region_held3 (fun W => W.cell? ⟨p, 9, none⟩ = some (.slice A9 npr m9) ∧ W.cell? ⟨p, 18, none⟩ = some (.int .i64 x0) ∧ W.cell? ⟨p, 0, none⟩ = some (.int .i64 g.pl) ∧ W.cell? ⟨p, 1, none⟩ = some (.int .i64 g.bl) ∧ W.cell? ⟨p, 2, none⟩ = some (.int .i64 g.pg) ∧ W.cell? ⟨p, 3, none⟩ = some (.int .i64 g.ch) ∧ W.cell? ⟨p, 4, none⟩ = some (.int .i64 g.ck) ∧ W.cell? ⟨p, 5, none⟩ = some (.int .i64 g.ru) ∧ W.cell? ⟨p, 6, none⟩ = some (.int .i64 g.pa)) (first | exact ⟨c9, c18, c0, c1, c2, c3, c4, c5, c6⟩ | exact ⟨f9, f18, f0, f1, f2, f3, f4, f5, f6⟩ | exact ⟨k9, k18, k0, k1, k2, k3, k4, k5, k6⟩) (first | (go_at_call 133; refine (HT.out).mono ?_; rintro e w1 ⟨rfl, hb1⟩; have f9 := pw_cell_below hb1 c9; have f18 := pw_cell_below hb1 c18; have f0 := pw_cell_below hb1 c0; have f1 := pw_cell_below hb1 c1; have f2 := pw_cell_below hb1 c2; have f3 := pw_cell_below hb1 c3; have f4 := pw_cell_below hb1 c4; have f5 := pw_cell_below hb1 c5; have f6 := pw_cell_below hb1 c6; have HJA := Lib.hid (HJ8.out.drew.below hb1); have HXA := Lib.hid (HX8.out.drew.below hb1); clear hb1) | (go_at_call 135; refine (HRW.out _).mono ?_; rintro e w2 ⟨rfl, hb2⟩; have k9 := pw_cell_below hb2 f9; have k18 := pw_cell_below hb2 f18; have k0 := pw_cell_below hb2 f0; have k1 := pw_cell_below hb2 f1; have k2 := pw_cell_below hb2 f2; have k3 := pw_cell_below hb2 f3; have k4 := pw_cell_below hb2 f4; have k5 := pw_cell_below hb2 f5; have k6 := pw_cell_below hb2 f6; have HJB := Lib.hid (HJA.out.below hb2); have HXB := Lib.hid (HXA.out.below hb2); clear hb2))
        all_goals
          go_wp2_with fail
          go_ret
          exact ⟨by rw [HE.out]; show _ = Ending.returned (.bool (decide _)); rw [HF.out]; rfl, _, ⟨_, by rw [HE.out]; exact HJB.out⟩, HXB.out⟩
      · have o1 : decide (x2 < (npr : Int)) = false := decide_eq_false hx
        have HF := Lib.hid (show decide (x2 < (npr : Int) ∧ x0 < g.raw) = false from by simp [hx])
        clear hx
        have HS0 : Hid (w9.drew.cell? ⟨p, 9, none⟩ = some (.slice A9 npr m9)) := Lib.hid c9
        refine wp_region_noPanic ?_
        refine start_ (n := 21) (S := fun W => W.cell? ⟨p, 9, none⟩ = some (.slice A9 npr m9)) (ds := []) #[false, false, false, false, false, false, false, false, false, false, false, false, false, false, false, false, false, false, false, false, false] (by kernel_rfl) rfl rfl HS0.out (fun hHeld => ?_)
        refine pure_ (i := 0) (N := some 89) (v := ?_) (a' := ?_) #[true, false, false, false, false, false, false, false, false, false, false, false, false, false, false, false, false, false, false, false, false] rfl rfl (by kernel_rfl) (fun _ _ _ h => h) (Or.inl ⟨by rfl, ?_⟩) ?_ ?_
        rotate_left
        · intro w'
          go_simp
          with_reducible rfl
        rotate_left
        · simp only [Act.put, List.setIfInBounds_toArray, List.set_cons_zero, List.set_cons_succ]
          rfl
        refine pure_ (i := 2) (N := some 91) (v := ?_) (a' := ?_) #[true, false, true, false, false, false, false, false, false, false, false, false, false, false, false, false, false, false, false, false, false] rfl rfl (by kernel_rfl) (fun _ _ _ h => h) (Or.inl ⟨by rfl, ?_⟩) ?_ ?_
        rotate_left
        · intro w'
          go_simp
          with_reducible rfl
        rotate_left
        · simp only [Act.put, List.setIfInBounds_toArray, List.set_cons_zero, List.set_cons_succ]
          rfl
        refine pure_ (i := 3) (N := some 92) (v := ?_) (a' := ?_) #[true, false, true, true, false, false, false, false, false, false, false, false, false, false, false, false, false, false, false, false, false] rfl rfl (by kernel_rfl) (fun _ _ _ h => h) (Or.inl ⟨by rfl, ?_⟩) ?_ ?_
        rotate_left
        · intro w'
          go_simp
          with_reducible rfl
        rotate_left
        · simp only [Act.put, List.setIfInBounds_toArray, List.set_cons_zero, List.set_cons_succ]
          rfl
        refine pure_ (i := 4) (N := some 93) (v := ?_) (a' := ?_) #[true, false, true, true, true, false, false, false, false, false, false, false, false, false, false, false, false, false, false, false, false] rfl rfl (by kernel_rfl) (fun _ _ _ h => h) (Or.inl ⟨by rfl, ?_⟩) ?_ ?_
        rotate_left
        · intro w'
          go_simp
          with_reducible rfl
        rotate_left
        · simp only [Act.put, List.setIfInBounds_toArray, List.set_cons_zero, List.set_cons_succ]
          rfl
        refine take_ (i := 5) (N := some 94) (v := ?_) (a' := ?_) #[true, false, true, true, true, true, false, false, false, false, false, false, false, false, false, false, false, false, false, false, false] rfl rfl (by kernel_rfl) (fun _ _ _ h => h) (Or.inl ⟨by rfl, ?_⟩) hHeld ?_ ?_
        rotate_left
        · intro w' s0
          go_simp
          with_reducible rfl
        rotate_left
        · simp only [Act.put, List.setIfInBounds_toArray, List.set_cons_zero, List.set_cons_succ]
          rfl
        refine pure_ (i := 6) (N := some 95) (v := ?_) (a' := ?_) #[true, false, true, true, true, true, true, false, false, false, false, false, false, false, false, false, false, false, false, false, false] rfl rfl (by kernel_rfl) (fun _ _ _ h => h) (Or.inl ⟨by rfl, ?_⟩) ?_ ?_
        rotate_left
        · intro w'
          go_simp
          with_reducible rfl
        rotate_left
        · simp only [Act.put, List.setIfInBounds_toArray, List.set_cons_zero, List.set_cons_succ]
          rfl
        refine one_ (i := 1) (N := some 90) #[true, true, true, true, true, true, true, false, false, false, false, false, false, false, false, false, false, false, false, false, false] rfl rfl (by kernel_rfl) (by decide) (fun K hK => ?_)
        refine goes_ (N := some 90) Try.func133 (by kernel_rfl) rfl #[.pointer (some ⟨p, 0, none⟩), .int .i64 2] (by rfl) rfl rfl (by simp only [List.map_toArray, List.map_cons, List.map_nil]; rfl) ?_
        refine (HT.out).mono ?_
        rintro e wn ⟨rfl, hbn⟩
        refine ⟨_, rfl, ?_⟩
        have hS' := pw_cell_below hbn hHeld
        have HJA := Lib.hid (HJ8.out.drew.below hbn)
        have HXA := Lib.hid (HX8.out.drew.below hbn)
        clear hbn
        clear hHeld
        refine hK.out _ _ ?_ (fun hHeld => ?_)
        · exact hS'
        clear hK K
        refine norm_ (a' := ?_) ?_ ?_
        rotate_left
        · show Act.put _ (some 90) _ = _
          simp only [Act.put, List.setIfInBounds_toArray, List.set_cons_zero, List.set_cons_succ]
          rfl
        refine pure_ (i := 7) (N := some 96) (v := ?_) (a' := ?_) #[true, true, true, true, true, true, true, true, false, false, false, false, false, false, false, false, false, false, false, false, false] rfl rfl (by kernel_rfl) (fun _ _ _ h => h) (Or.inl ⟨by rfl, ?_⟩) ?_ ?_
        rotate_left
        · intro w'
          go_simp
          with_reducible rfl
        rotate_left
        · simp only [Act.put, List.setIfInBounds_toArray, List.set_cons_zero, List.set_cons_succ]
          rfl
        refine pure_ (i := 8) (N := some 97) (v := ?_) (a' := ?_) #[true, true, true, true, true, true, true, true, true, false, false, false, false, false, false, false, false, false, false, false, false] rfl rfl (by kernel_rfl) (fun _ _ _ h => h) (Or.inl ⟨by rfl, ?_⟩) ?_ ?_
        rotate_left
        · intro w'
          go_simp
          with_reducible rfl
        rotate_left
        · simp only [Act.put, List.setIfInBounds_toArray, List.set_cons_zero, List.set_cons_succ]
          rfl
        refine pure_ (i := 9) (N := some 98) (v := undef) (a' := ?_) #[true, true, true, true, true, true, true, true, true, true, false, false, false, false, false, false, false, false, false, false, false] rfl rfl (by kernel_rfl) (fun _ _ _ h => h) (Or.inr ⟨by rfl, rfl⟩) ?_ ?_
        rotate_left
        · simp only [Act.put, List.setIfInBounds_toArray, List.set_cons_zero, List.set_cons_succ]
          rfl
        refine pure_ (i := 10) (N := some 99) (v := undef) (a' := ?_) #[true, true, true, true, true, true, true, true, true, true, true, false, false, false, false, false, false, false, false, false, false] rfl rfl (by kernel_rfl) (fun _ _ _ h => h) (Or.inr ⟨by rfl, rfl⟩) ?_ ?_
        rotate_left
        · simp only [Act.put, List.setIfInBounds_toArray, List.set_cons_zero, List.set_cons_succ]
          rfl
        refine pure_ (i := 11) (N := some 100) (v := undef) (a' := ?_) #[true, true, true, true, true, true, true, true, true, true, true, true, false, false, false, false, false, false, false, false, false] rfl rfl (by kernel_rfl) (fun _ _ _ h => h) (Or.inr ⟨by rfl, rfl⟩) ?_ ?_
        rotate_left
        · simp only [Act.put, List.setIfInBounds_toArray, List.set_cons_zero, List.set_cons_succ]
          rfl
        refine pure_ (i := 12) (N := some 101) (v := undef) (a' := ?_) #[true, true, true, true, true, true, true, true, true, true, true, true, true, false, false, false, false, false, false, false, false] rfl rfl (by kernel_rfl) (fun _ _ _ h => h) (Or.inr ⟨by rfl, rfl⟩) ?_ ?_
        rotate_left
        · simp only [Act.put, List.setIfInBounds_toArray, List.set_cons_zero, List.set_cons_succ]
          rfl
        refine pure_ (i := 13) (N := some 102) (v := undef) (a' := ?_) #[true, true, true, true, true, true, true, true, true, true, true, true, true, true, false, false, false, false, false, false, false] rfl rfl (by kernel_rfl) (fun _ _ _ h => h) (Or.inr ⟨by rfl, rfl⟩) ?_ ?_
        rotate_left
        · simp only [Act.put, List.setIfInBounds_toArray, List.set_cons_zero, List.set_cons_succ]
          rfl
        refine pure_ (i := 14) (N := some 103) (v := undef) (a' := ?_) #[true, true, true, true, true, true, true, true, true, true, true, true, true, true, true, false, false, false, false, false, false] rfl rfl (by kernel_rfl) (fun _ _ _ h => h) (Or.inr ⟨by rfl, rfl⟩) ?_ ?_
        rotate_left
        · simp only [Act.put, List.setIfInBounds_toArray, List.set_cons_zero, List.set_cons_succ]
          rfl
        refine pure_ (i := 15) (N := some 104) (v := undef) (a' := ?_) #[true, true, true, true, true, true, true, true, true, true, true, true, true, true, true, true, false, false, false, false, false] rfl rfl (by kernel_rfl) (fun _ _ _ h => h) (Or.inr ⟨by rfl, rfl⟩) ?_ ?_
        rotate_left
        · simp only [Act.put, List.setIfInBounds_toArray, List.set_cons_zero, List.set_cons_succ]
          rfl
        refine pure_ (i := 16) (N := some 105) (v := undef) (a' := ?_) #[true, true, true, true, true, true, true, true, true, true, true, true, true, true, true, true, true, false, false, false, false] rfl rfl (by kernel_rfl) (fun _ _ _ h => h) (Or.inr ⟨by rfl, rfl⟩) ?_ ?_
        rotate_left
        · simp only [Act.put, List.setIfInBounds_toArray, List.set_cons_zero, List.set_cons_succ]
          rfl
        refine pure_ (i := 17) (N := some 106) (v := undef) (a' := ?_) #[true, true, true, true, true, true, true, true, true, true, true, true, true, true, true, true, true, true, false, false, false] rfl rfl (by kernel_rfl) (fun _ _ _ h => h) (Or.inr ⟨by rfl, rfl⟩) ?_ ?_
        rotate_left
        · simp only [Act.put, List.setIfInBounds_toArray, List.set_cons_zero, List.set_cons_succ]
          rfl
        refine pure_ (i := 18) (N := some 107) (v := undef) (a' := ?_) #[true, true, true, true, true, true, true, true, true, true, true, true, true, true, true, true, true, true, true, false, false] rfl rfl (by kernel_rfl) (fun _ _ _ h => h) (Or.inr ⟨by rfl, rfl⟩) ?_ ?_
        rotate_left
        · simp only [Act.put, List.setIfInBounds_toArray, List.set_cons_zero, List.set_cons_succ]
          rfl
        refine pure_ (i := 19) (N := some 108) (v := ?_) (a' := ?_) #[true, true, true, true, true, true, true, true, true, true, true, true, true, true, true, true, true, true, true, true, false] rfl rfl (by kernel_rfl) (fun _ _ _ h => h) (Or.inl ⟨by rfl, ?_⟩) ?_ ?_
        rotate_left
        · intro w'
          go_simp
          with_reducible rfl
        rotate_left
        · simp only [Act.put, List.setIfInBounds_toArray, List.set_cons_zero, List.set_cons_succ]
          rfl
        refine pure_ (i := 20) (N := some 4) (v := ?_) (a' := ?_) #[true, true, true, true, true, true, true, true, true, true, true, true, true, true, true, true, true, true, true, true, true] rfl rfl (by kernel_rfl) (fun _ _ _ h => h) (Or.inl ⟨by rfl, ?_⟩) ?_ ?_
        rotate_left
        · intro w'
          go_simp
          with_reducible rfl
        rotate_left
        · simp only [Act.put, List.setIfInBounds_toArray, List.set_cons_zero, List.set_cons_succ]
          rfl
        refine done_ (by kernel_rfl) ?_
        refine NoPanic.normal ?_
        go_wp2_with fail
        go_ret
        exact ⟨by rw [HE.out]; show _ = Ending.returned (.bool (decide _)); rw [HF.out]; rfl, _, ⟨_, by rw [HE.out]; exact HJA.out⟩, HXA.out⟩
    · have o1 : ((n : Int) == 3) = false := beq_f (by omega)
      by_cases h4 : n < 3
      · have o2 : decide (n < 3) = true := decide_eq_true h4
        have o3 : decide ((n : Int) < 3) = true := decide_eq_true (by omega)
        have HE := Lib.hid (show addressR g s b = ({ s with listed := l, data := false }, true) from by unfold addressR; simp [← HOP.out, ← HN.out, ← HLL.out, h3, h4])
        have HJ7 := Lib.hid (HJ6.out.s17 false)
        have HX7 := Lib.hid (HX6.out.trans (HJ6.out.n [(17, .bool false)]))
        have d17 := HJ6.out.c17
        have hz := HJ6.out.z
        clear h3 h4
        go_wp2_with fail
        go_ret
        exact ⟨by rw [HE.out]; rfl, _, ⟨_, by rw [HE.out]; exact HJ7.out⟩, HX7.out⟩
      · have o2 : decide (n < 3) = false := decide_eq_false h4
        have o3 : decide ((n : Int) < 3) = false := decide_eq_false (by omega)
        have HE := Lib.hid (show addressR g s b = ({ s with listed := l, data := false }, false) from by unfold addressR; simp [← HOP.out, ← HN.out, ← HLL.out, h3, h4])
        have HJ7 := Lib.hid (HJ6.out.s17 false)
        have HX7 := Lib.hid (HX6.out.trans (HJ6.out.n [(17, .bool false)]))
        have d17 := HJ6.out.c17
        have hz := HJ6.out.z
        clear h3 h4
        go_wp2_with fail
        go_ret
        exact ⟨by rw [HE.out]; rfl, _, ⟨_, by rw [HE.out]; exact HJ7.out⟩, HX7.out⟩
  · by_cases h3 : n = 3
    · subst h3
      have hn4 : l.length = 4 := by rw [HN1.out, HNN.out]
      obtain ⟨x0, hx0⟩ : ∃ x0, x0 = num l 0 := ⟨_, rfl⟩
      obtain ⟨x2, hx2⟩ : ∃ x2, x2 = num l 2 := ⟨_, rfl⟩
      have HE := Lib.hid (show addressR g s b = ({ s with listed := l, col := x0 }, decide (x2 < (s.pr.length : Int) ∧ x0 < g.raw)) from by unfold addressR; simp [← HOP.out, ← HN.out, ← HLL.out, hx0, hx2])
      have HJ7 := Lib.hid HJ6.out
      have HX7 := Lib.hid HX6.out
      have HT := Lib.hid (rtwo_ok 0 HJ7.out (by show 0 + 2 ≤ l.length; omega) (by show l.length ≤ 1000; omega) HLB.out)
      have HL4 := Lib.hid hn4
      clear hn4
      change Hid (Calls _ _ _ _ (fun e w' => e = .returned (.int .i64 (num l 0)) ∧ _)) at HT
      rw [← hx0] at HT
      have HX2E := Lib.hid hx2
      clear hx0 hx2
      go_upto_region 19 with (go_at_call 133; refine (HT.out).mono ?_; rintro e w1 ⟨rfl, hb1⟩; have hj1 := HJ7.out.below hb1; have HX8 := Lib.hid ((HX7.out.below hb1).trans (hj1.n [(18, .int .i64 x0)])); have d18 := hj1.c18; have hz2 := hj1.z; have HJ8 := Lib.hid (hj1.s18 x0); clear hb1 hj1)
      simp only [sets] at HX8
      generalize hw9 : World.setCell _ ⟨p, 18, none⟩ _ = w9 at HJ8 HX8 ⊢
      clear hw9 d18 hz2 HT HJ7 HX7 HJ6 HX6 c10 
      have HT2 := rtwo_ok 2 HJ8.out.drew (by show 2 + 2 ≤ l.length; have := HL4.out; omega) (by show l.length ≤ 1000; have := HL4.out; omega) HLB.out
      change Calls _ _ _ _ (fun e w' => e = .returned (.int .i64 (num l 2)) ∧ _) at HT2
      rw [← HX2E.out] at HT2
      have HT := Lib.hid HT2
      clear HT2
      have HRW := Lib.hid (fun W => rgraw HG.out W)
      have c9 := HJ8.out.c9
      have c18 := HJ8.out.c18
      obtain ⟨A9, m9, q9⟩ := HJ8.out.l9
      rw [q9] at c9
      change w9.cell? ⟨p, 9, none⟩ = some (.slice A9 s.pr.length m9) at c9
      change w9.cell? ⟨p, 18, none⟩ = some (.int .i64 x0) at c18
      clear q9
      have c0 := HJ8.out.c0; have c1 := HJ8.out.c1; have c2 := HJ8.out.c2; have c3 := HJ8.out.c3; have c4 := HJ8.out.c4; have c5 := HJ8.out.c5; have c6 := HJ8.out.c6
      generalize s.pr.length = npr at *
      by_cases hx : x2 < (npr : Int)
      · have o1 : decide (x2 < (npr : Int)) = true := decide_eq_true hx
        have HF := Lib.hid (show decide (x2 < (npr : Int) ∧ x0 < g.raw) = decide (x0 < g.raw) from by simp [hx])
        clear hx
        go_region_held3 (fun W => W.cell? ⟨p, 9, none⟩ = some (.slice A9 npr m9) ∧ W.cell? ⟨p, 18, none⟩ = some (.int .i64 x0) ∧ W.cell? ⟨p, 0, none⟩ = some (.int .i64 g.pl) ∧ W.cell? ⟨p, 1, none⟩ = some (.int .i64 g.bl) ∧ W.cell? ⟨p, 2, none⟩ = some (.int .i64 g.pg) ∧ W.cell? ⟨p, 3, none⟩ = some (.int .i64 g.ch) ∧ W.cell? ⟨p, 4, none⟩ = some (.int .i64 g.ck) ∧ W.cell? ⟨p, 5, none⟩ = some (.int .i64 g.ru) ∧ W.cell? ⟨p, 6, none⟩ = some (.int .i64 g.pa)) (first | exact ⟨c9, c18, c0, c1, c2, c3, c4, c5, c6⟩ | exact ⟨f9, f18, f0, f1, f2, f3, f4, f5, f6⟩ | exact ⟨k9, k18, k0, k1, k2, k3, k4, k5, k6⟩) (first | (go_at_call 133; refine (HT.out).mono ?_; rintro e w1 ⟨rfl, hb1⟩; have f9 := pw_cell_below hb1 c9; have f18 := pw_cell_below hb1 c18; have f0 := pw_cell_below hb1 c0; have f1 := pw_cell_below hb1 c1; have f2 := pw_cell_below hb1 c2; have f3 := pw_cell_below hb1 c3; have f4 := pw_cell_below hb1 c4; have f5 := pw_cell_below hb1 c5; have f6 := pw_cell_below hb1 c6; have HJA := Lib.hid (HJ8.out.drew.below hb1); have HXA := Lib.hid (HX8.out.drew.below hb1); clear hb1) | (go_at_call 135; refine (HRW.out _).mono ?_; rintro e w2 ⟨rfl, hb2⟩; have k9 := pw_cell_below hb2 f9; have k18 := pw_cell_below hb2 f18; have k0 := pw_cell_below hb2 f0; have k1 := pw_cell_below hb2 f1; have k2 := pw_cell_below hb2 f2; have k3 := pw_cell_below hb2 f3; have k4 := pw_cell_below hb2 f4; have k5 := pw_cell_below hb2 f5; have k6 := pw_cell_below hb2 f6; have HJB := Lib.hid (HJA.out.below hb2); have HXB := Lib.hid (HXA.out.below hb2); clear hb2))
        all_goals
          go_wp2_with fail
          go_ret
          exact ⟨by rw [HE.out]; show _ = Ending.returned (.bool (decide _)); rw [HF.out]; rfl, _, ⟨_, by rw [HE.out]; exact HJB.out⟩, HXB.out⟩
      · have o1 : decide (x2 < (npr : Int)) = false := decide_eq_false hx
        have HF := Lib.hid (show decide (x2 < (npr : Int) ∧ x0 < g.raw) = false from by simp [hx])
        clear hx
        have HS0 : Hid (w9.drew.cell? ⟨p, 9, none⟩ = some (.slice A9 npr m9)) := Lib.hid c9
        refine wp_region_noPanic ?_
        refine start_ (n := 21) (S := fun W => W.cell? ⟨p, 9, none⟩ = some (.slice A9 npr m9)) (ds := []) #[false, false, false, false, false, false, false, false, false, false, false, false, false, false, false, false, false, false, false, false, false] (by kernel_rfl) rfl rfl HS0.out (fun hHeld => ?_)
        refine pure_ (i := 0) (N := some 89) (v := ?_) (a' := ?_) #[true, false, false, false, false, false, false, false, false, false, false, false, false, false, false, false, false, false, false, false, false] rfl rfl (by kernel_rfl) (fun _ _ _ h => h) (Or.inl ⟨by rfl, ?_⟩) ?_ ?_
        rotate_left
        · intro w'
          go_simp
          with_reducible rfl
        rotate_left
        · simp only [Act.put, List.setIfInBounds_toArray, List.set_cons_zero, List.set_cons_succ]
          rfl
        refine pure_ (i := 2) (N := some 91) (v := ?_) (a' := ?_) #[true, false, true, false, false, false, false, false, false, false, false, false, false, false, false, false, false, false, false, false, false] rfl rfl (by kernel_rfl) (fun _ _ _ h => h) (Or.inl ⟨by rfl, ?_⟩) ?_ ?_
        rotate_left
        · intro w'
          go_simp
          with_reducible rfl
        rotate_left
        · simp only [Act.put, List.setIfInBounds_toArray, List.set_cons_zero, List.set_cons_succ]
          rfl
        refine pure_ (i := 3) (N := some 92) (v := ?_) (a' := ?_) #[true, false, true, true, false, false, false, false, false, false, false, false, false, false, false, false, false, false, false, false, false] rfl rfl (by kernel_rfl) (fun _ _ _ h => h) (Or.inl ⟨by rfl, ?_⟩) ?_ ?_
        rotate_left
        · intro w'
          go_simp
          with_reducible rfl
        rotate_left
        · simp only [Act.put, List.setIfInBounds_toArray, List.set_cons_zero, List.set_cons_succ]
          rfl
        refine pure_ (i := 4) (N := some 93) (v := ?_) (a' := ?_) #[true, false, true, true, true, false, false, false, false, false, false, false, false, false, false, false, false, false, false, false, false] rfl rfl (by kernel_rfl) (fun _ _ _ h => h) (Or.inl ⟨by rfl, ?_⟩) ?_ ?_
        rotate_left
        · intro w'
          go_simp
          with_reducible rfl
        rotate_left
        · simp only [Act.put, List.setIfInBounds_toArray, List.set_cons_zero, List.set_cons_succ]
          rfl
        refine take_ (i := 5) (N := some 94) (v := ?_) (a' := ?_) #[true, false, true, true, true, true, false, false, false, false, false, false, false, false, false, false, false, false, false, false, false] rfl rfl (by kernel_rfl) (fun _ _ _ h => h) (Or.inl ⟨by rfl, ?_⟩) hHeld ?_ ?_
        rotate_left
        · intro w' s0
          go_simp
          with_reducible rfl
        rotate_left
        · simp only [Act.put, List.setIfInBounds_toArray, List.set_cons_zero, List.set_cons_succ]
          rfl
        refine pure_ (i := 6) (N := some 95) (v := ?_) (a' := ?_) #[true, false, true, true, true, true, true, false, false, false, false, false, false, false, false, false, false, false, false, false, false] rfl rfl (by kernel_rfl) (fun _ _ _ h => h) (Or.inl ⟨by rfl, ?_⟩) ?_ ?_
        rotate_left
        · intro w'
          go_simp
          with_reducible rfl
        rotate_left
        · simp only [Act.put, List.setIfInBounds_toArray, List.set_cons_zero, List.set_cons_succ]
          rfl
        refine one_ (i := 1) (N := some 90) #[true, true, true, true, true, true, true, false, false, false, false, false, false, false, false, false, false, false, false, false, false] rfl rfl (by kernel_rfl) (by decide) (fun K hK => ?_)
        refine goes_ (N := some 90) Try.func133 (by kernel_rfl) rfl #[.pointer (some ⟨p, 0, none⟩), .int .i64 2] (by rfl) rfl rfl (by simp only [List.map_toArray, List.map_cons, List.map_nil]; rfl) ?_
        refine (HT.out).mono ?_
        rintro e wn ⟨rfl, hbn⟩
        refine ⟨_, rfl, ?_⟩
        have hS' := pw_cell_below hbn hHeld
        have HJA := Lib.hid (HJ8.out.drew.below hbn)
        have HXA := Lib.hid (HX8.out.drew.below hbn)
        clear hbn
        clear hHeld
        refine hK.out _ _ ?_ (fun hHeld => ?_)
        · exact hS'
        clear hK K
        refine norm_ (a' := ?_) ?_ ?_
        rotate_left
        · show Act.put _ (some 90) _ = _
          simp only [Act.put, List.setIfInBounds_toArray, List.set_cons_zero, List.set_cons_succ]
          rfl
        refine pure_ (i := 7) (N := some 96) (v := ?_) (a' := ?_) #[true, true, true, true, true, true, true, true, false, false, false, false, false, false, false, false, false, false, false, false, false] rfl rfl (by kernel_rfl) (fun _ _ _ h => h) (Or.inl ⟨by rfl, ?_⟩) ?_ ?_
        rotate_left
        · intro w'
          go_simp
          with_reducible rfl
        rotate_left
        · simp only [Act.put, List.setIfInBounds_toArray, List.set_cons_zero, List.set_cons_succ]
          rfl
        refine pure_ (i := 8) (N := some 97) (v := ?_) (a' := ?_) #[true, true, true, true, true, true, true, true, true, false, false, false, false, false, false, false, false, false, false, false, false] rfl rfl (by kernel_rfl) (fun _ _ _ h => h) (Or.inl ⟨by rfl, ?_⟩) ?_ ?_
        rotate_left
        · intro w'
          go_simp
          with_reducible rfl
        rotate_left
        · simp only [Act.put, List.setIfInBounds_toArray, List.set_cons_zero, List.set_cons_succ]
          rfl
        refine pure_ (i := 9) (N := some 98) (v := undef) (a' := ?_) #[true, true, true, true, true, true, true, true, true, true, false, false, false, false, false, false, false, false, false, false, false] rfl rfl (by kernel_rfl) (fun _ _ _ h => h) (Or.inr ⟨by rfl, rfl⟩) ?_ ?_
        rotate_left
        · simp only [Act.put, List.setIfInBounds_toArray, List.set_cons_zero, List.set_cons_succ]
          rfl
        refine pure_ (i := 10) (N := some 99) (v := undef) (a' := ?_) #[true, true, true, true, true, true, true, true, true, true, true, false, false, false, false, false, false, false, false, false, false] rfl rfl (by kernel_rfl) (fun _ _ _ h => h) (Or.inr ⟨by rfl, rfl⟩) ?_ ?_
        rotate_left
        · simp only [Act.put, List.setIfInBounds_toArray, List.set_cons_zero, List.set_cons_succ]
          rfl
        refine pure_ (i := 11) (N := some 100) (v := undef) (a' := ?_) #[true, true, true, true, true, true, true, true, true, true, true, true, false, false, false, false, false, false, false, false, false] rfl rfl (by kernel_rfl) (fun _ _ _ h => h) (Or.inr ⟨by rfl, rfl⟩) ?_ ?_
        rotate_left
        · simp only [Act.put, List.setIfInBounds_toArray, List.set_cons_zero, List.set_cons_succ]
          rfl
        refine pure_ (i := 12) (N := some 101) (v := undef) (a' := ?_) #[true, true, true, true, true, true, true, true, true, true, true, true, true, false, false, false, false, false, false, false, false] rfl rfl (by kernel_rfl) (fun _ _ _ h => h) (Or.inr ⟨by rfl, rfl⟩) ?_ ?_
        rotate_left
        · simp only [Act.put, List.setIfInBounds_toArray, List.set_cons_zero, List.set_cons_succ]
          rfl
        refine pure_ (i := 13) (N := some 102) (v := undef) (a' := ?_) #[true, true, true, true, true, true, true, true, true, true, true, true, true, true, false, false, false, false, false, false, false] rfl rfl (by kernel_rfl) (fun _ _ _ h => h) (Or.inr ⟨by rfl, rfl⟩) ?_ ?_
        rotate_left
        · simp only [Act.put, List.setIfInBounds_toArray, List.set_cons_zero, List.set_cons_succ]
          rfl
        refine pure_ (i := 14) (N := some 103) (v := undef) (a' := ?_) #[true, true, true, true, true, true, true, true, true, true, true, true, true, true, true, false, false, false, false, false, false] rfl rfl (by kernel_rfl) (fun _ _ _ h => h) (Or.inr ⟨by rfl, rfl⟩) ?_ ?_
        rotate_left
        · simp only [Act.put, List.setIfInBounds_toArray, List.set_cons_zero, List.set_cons_succ]
          rfl
        refine pure_ (i := 15) (N := some 104) (v := undef) (a' := ?_) #[true, true, true, true, true, true, true, true, true, true, true, true, true, true, true, true, false, false, false, false, false] rfl rfl (by kernel_rfl) (fun _ _ _ h => h) (Or.inr ⟨by rfl, rfl⟩) ?_ ?_
        rotate_left
        · simp only [Act.put, List.setIfInBounds_toArray, List.set_cons_zero, List.set_cons_succ]
          rfl
        refine pure_ (i := 16) (N := some 105) (v := undef) (a' := ?_) #[true, true, true, true, true, true, true, true, true, true, true, true, true, true, true, true, true, false, false, false, false] rfl rfl (by kernel_rfl) (fun _ _ _ h => h) (Or.inr ⟨by rfl, rfl⟩) ?_ ?_
        rotate_left
        · simp only [Act.put, List.setIfInBounds_toArray, List.set_cons_zero, List.set_cons_succ]
          rfl
        refine pure_ (i := 17) (N := some 106) (v := undef) (a' := ?_) #[true, true, true, true, true, true, true, true, true, true, true, true, true, true, true, true, true, true, false, false, false] rfl rfl (by kernel_rfl) (fun _ _ _ h => h) (Or.inr ⟨by rfl, rfl⟩) ?_ ?_
        rotate_left
        · simp only [Act.put, List.setIfInBounds_toArray, List.set_cons_zero, List.set_cons_succ]
          rfl
        refine pure_ (i := 18) (N := some 107) (v := undef) (a' := ?_) #[true, true, true, true, true, true, true, true, true, true, true, true, true, true, true, true, true, true, true, false, false] rfl rfl (by kernel_rfl) (fun _ _ _ h => h) (Or.inr ⟨by rfl, rfl⟩) ?_ ?_
        rotate_left
        · simp only [Act.put, List.setIfInBounds_toArray, List.set_cons_zero, List.set_cons_succ]
          rfl
        refine pure_ (i := 19) (N := some 108) (v := ?_) (a' := ?_) #[true, true, true, true, true, true, true, true, true, true, true, true, true, true, true, true, true, true, true, true, false] rfl rfl (by kernel_rfl) (fun _ _ _ h => h) (Or.inl ⟨by rfl, ?_⟩) ?_ ?_
        rotate_left
        · intro w'
          go_simp
          with_reducible rfl
        rotate_left
        · simp only [Act.put, List.setIfInBounds_toArray, List.set_cons_zero, List.set_cons_succ]
          rfl
        refine pure_ (i := 20) (N := some 4) (v := ?_) (a' := ?_) #[true, true, true, true, true, true, true, true, true, true, true, true, true, true, true, true, true, true, true, true, true] rfl rfl (by kernel_rfl) (fun _ _ _ h => h) (Or.inl ⟨by rfl, ?_⟩) ?_ ?_
        rotate_left
        · intro w'
          go_simp
          with_reducible rfl
        rotate_left
        · simp only [Act.put, List.setIfInBounds_toArray, List.set_cons_zero, List.set_cons_succ]
          rfl
        refine done_ (by kernel_rfl) ?_
        refine NoPanic.normal ?_
        go_wp2_with fail
        go_ret
        exact ⟨by rw [HE.out]; show _ = Ending.returned (.bool (decide _)); rw [HF.out]; rfl, _, ⟨_, by rw [HE.out]; exact HJA.out⟩, HXA.out⟩
    · have o1 : ((n : Int) == 3) = false := beq_f (by omega)
      by_cases h4 : n < 3
      · have o2 : decide (n < 3) = true := decide_eq_true h4
        have o3 : decide ((n : Int) < 3) = true := decide_eq_true (by omega)
        have HE := Lib.hid (show addressR g s b = ({ s with listed := l }, true) from by unfold addressR; simp [← HOP.out, ← HN.out, ← HLL.out, h3, h4])
        clear h3 h4
        go_wp2_with fail
        go_ret
        exact ⟨by rw [HE.out]; rfl, _, ⟨_, by rw [HE.out]; exact HJ6.out⟩, HX6.out⟩
      · have o2 : decide (n < 3) = false := decide_eq_false h4
        have o3 : decide ((n : Int) < 3) = false := decide_eq_false (by omega)
        have HE := Lib.hid (show addressR g s b = ({ s with listed := l }, false) from by unfold addressR; simp [← HOP.out, ← HN.out, ← HLL.out, h3, h4])
        clear h3 h4
        go_wp2_with fail
        go_ret
        exact ⟨by rw [HE.out]; rfl, _, ⟨_, by rw [HE.out]; exact HJ6.out⟩, HX6.out⟩
  · by_cases h0 : n = 0
    · subst h0
      have HE := Lib.hid (show addressR g s b = ({ s with listed := l }, true) from by unfold addressR; simp [← HOP.out, ← HN.out, ← HLL.out])
      go_upto_region 22 with fail
      go_quiet (fail)
      go_wp2
      go_ret
      exact ⟨by rw [HE.out]; rfl, _, ⟨_, by rw [HE.out]; exact HJ6.out.drewN _⟩, HX6.out.drewN _⟩
    · have o1 : ((n : Int) == 0) = false := beq_f (by omega)
      have h0L : s.listed ≠ [] := fun e => h0 (by rw [HN.out, e]; rfl)
      by_cases h1 : n = 1
      · subst h1
        have hn2 : l.length = 2 := by rw [HN1.out, HNN.out]
        obtain ⟨x0, hx0⟩ : ∃ x0, x0 = num l 0 := ⟨_, rfl⟩
        have HE := Lib.hid (show addressR g s b = ({ s with listed := l }, decide (x0 < g.raw)) from by unfold addressR; simp [← HOP.out, ← HN.out, ← HLL.out, hx0, h0L])
        have HT : Hid (∀ (W : World), RAt W p g t7 { s with listed := l } { H with a := .slice A1 n1 c1 } → Calls Try.prog 133 #[.pointer (some ⟨p, 0, none⟩), .int .i64 0] W fun e w' => e = .returned (.int .i64 x0) ∧ Below W.heap.size W w') := Lib.hid (fun W hW => by
          have HT2 := rtwo_ok 0 hW (by show 0 + 2 ≤ l.length; omega) (by show l.length ≤ 1000; omega) HLB.out
          change Calls _ _ _ _ (fun e w' => e = .returned (.int .i64 (num l 0)) ∧ _) at HT2
          rw [← hx0] at HT2
          exact HT2)
        clear hx0 hn2 h0 h0L
        have HRW := Lib.hid (fun W => rgraw HG.out W)
        have c0 := HJ6.out.c0; have c1 := HJ6.out.c1; have c2 := HJ6.out.c2; have c3 := HJ6.out.c3; have c4 := HJ6.out.c4; have c5 := HJ6.out.c5; have c6 := HJ6.out.c6
        go_upto_region 22 with fail
        have HS0 : Hid (w7.drew.cell? ⟨p, 0, none⟩ = some (.int .i64 g.pl) ∧ w7.drew.cell? ⟨p, 1, none⟩ = some (.int .i64 g.bl) ∧ w7.drew.cell? ⟨p, 2, none⟩ = some (.int .i64 g.pg) ∧ w7.drew.cell? ⟨p, 3, none⟩ = some (.int .i64 g.ch) ∧ w7.drew.cell? ⟨p, 4, none⟩ = some (.int .i64 g.ck) ∧ w7.drew.cell? ⟨p, 5, none⟩ = some (.int .i64 g.ru) ∧ w7.drew.cell? ⟨p, 6, none⟩ = some (.int .i64 g.pa)) := Lib.hid ⟨c0, c1, c2, c3, c4, c5, c6⟩
        refine wp_region_noPanic ?_
        refine start_ (n := 17) (S := fun W => W.cell? ⟨p, 0, none⟩ = some (.int .i64 g.pl) ∧ W.cell? ⟨p, 1, none⟩ = some (.int .i64 g.bl) ∧ W.cell? ⟨p, 2, none⟩ = some (.int .i64 g.pg) ∧ W.cell? ⟨p, 3, none⟩ = some (.int .i64 g.ch) ∧ W.cell? ⟨p, 4, none⟩ = some (.int .i64 g.ck) ∧ W.cell? ⟨p, 5, none⟩ = some (.int .i64 g.ru) ∧ W.cell? ⟨p, 6, none⟩ = some (.int .i64 g.pa)) (ds := []) #[false, false, false, false, false, false, false, false, false, false, false, false, false, false, false, false, false] (by kernel_rfl) rfl rfl HS0.out (fun hHeld => ?_)
        refine pure_ (i := 0) (N := some 116) (v := ?_) (a' := ?_) #[true, false, false, false, false, false, false, false, false, false, false, false, false, false, false, false, false] rfl rfl (by kernel_rfl) (fun _ _ _ h => h) (Or.inl ⟨by rfl, ?_⟩) ?_ ?_
        rotate_left
        · intro w'
          go_simp
          with_reducible rfl
        rotate_left
        · simp only [Act.put, List.setIfInBounds_toArray, List.set_cons_zero, List.set_cons_succ]
          rfl
        refine pure_ (i := 1) (N := some 117) (v := ?_) (a' := ?_) #[true, true, false, false, false, false, false, false, false, false, false, false, false, false, false, false, false] rfl rfl (by kernel_rfl) (fun _ _ _ h => h) (Or.inl ⟨by rfl, ?_⟩) ?_ ?_
        rotate_left
        · intro w'
          go_simp
          with_reducible rfl
        rotate_left
        · simp only [Act.put, List.setIfInBounds_toArray, List.set_cons_zero, List.set_cons_succ]
          rfl
        refine pure_ (i := 2) (N := some 118) (v := ?_) (a' := ?_) #[true, true, true, false, false, false, false, false, false, false, false, false, false, false, false, false, false] rfl rfl (by kernel_rfl) (fun _ _ _ h => h) (Or.inl ⟨by rfl, ?_⟩) ?_ ?_
        rotate_left
        · intro w'
          go_simp
          with_reducible rfl
        rotate_left
        · simp only [Act.put, List.setIfInBounds_toArray, List.set_cons_zero, List.set_cons_succ]
          rfl
        refine pure_ (i := 3) (N := some 119) (v := ?_) (a' := ?_) #[true, true, true, true, false, false, false, false, false, false, false, false, false, false, false, false, false] rfl rfl (by kernel_rfl) (fun _ _ _ h => h) (Or.inl ⟨by rfl, ?_⟩) ?_ ?_
        rotate_left
        · intro w'
          go_simp
          with_reducible rfl
        rotate_left
        · simp only [Act.put, List.setIfInBounds_toArray, List.set_cons_zero, List.set_cons_succ]
          rfl
        refine pure_ (i := 4) (N := some 120) (v := ?_) (a' := ?_) #[true, true, true, true, true, false, false, false, false, false, false, false, false, false, false, false, false] rfl rfl (by kernel_rfl) (fun _ _ _ h => h) (Or.inl ⟨by rfl, ?_⟩) ?_ ?_
        rotate_left
        · intro w'
          go_simp
          with_reducible rfl
        rotate_left
        · simp only [Act.put, List.setIfInBounds_toArray, List.set_cons_zero, List.set_cons_succ]
          rfl
        refine pure_ (i := 5) (N := some 121) (v := ?_) (a' := ?_) #[true, true, true, true, true, true, false, false, false, false, false, false, false, false, false, false, false] rfl rfl (by kernel_rfl) (fun _ _ _ h => h) (Or.inl ⟨by rfl, ?_⟩) ?_ ?_
        rotate_left
        · intro w'
          go_simp
          with_reducible rfl
        rotate_left
        · simp only [Act.put, List.setIfInBounds_toArray, List.set_cons_zero, List.set_cons_succ]
          rfl
        refine pure_ (i := 6) (N := some 122) (v := ?_) (a' := ?_) #[true, true, true, true, true, true, true, false, false, false, false, false, false, false, false, false, false] rfl rfl (by kernel_rfl) (fun _ _ _ h => h) (Or.inl ⟨by rfl, ?_⟩) ?_ ?_
        rotate_left
        · intro w'
          go_simp
          with_reducible rfl
        rotate_left
        · simp only [Act.put, List.setIfInBounds_toArray, List.set_cons_zero, List.set_cons_succ]
          rfl
        refine pure_ (i := 8) (N := some 124) (v := ?_) (a' := ?_) #[true, true, true, true, true, true, true, false, true, false, false, false, false, false, false, false, false] rfl rfl (by kernel_rfl) (fun _ _ _ h => h) (Or.inl ⟨by rfl, ?_⟩) ?_ ?_
        rotate_left
        · intro w'
          go_simp
          with_reducible rfl
        rotate_left
        · simp only [Act.put, List.setIfInBounds_toArray, List.set_cons_zero, List.set_cons_succ]
          rfl
        refine pure_ (i := 9) (N := some 125) (v := ?_) (a' := ?_) #[true, true, true, true, true, true, true, false, true, true, false, false, false, false, false, false, false] rfl rfl (by kernel_rfl) (fun _ _ _ h => h) (Or.inl ⟨by rfl, ?_⟩) ?_ ?_
        rotate_left
        · intro w'
          go_simp
          with_reducible rfl
        rotate_left
        · simp only [Act.put, List.setIfInBounds_toArray, List.set_cons_zero, List.set_cons_succ]
          rfl
        refine pure_ (i := 10) (N := some 126) (v := ?_) (a' := ?_) #[true, true, true, true, true, true, true, false, true, true, true, false, false, false, false, false, false] rfl rfl (by kernel_rfl) (fun _ _ _ h => h) (Or.inl ⟨by rfl, ?_⟩) ?_ ?_
        rotate_left
        · intro w'
          go_simp
          with_reducible rfl
        rotate_left
        · simp only [Act.put, List.setIfInBounds_toArray, List.set_cons_zero, List.set_cons_succ]
          rfl
        refine take_ (i := 11) (N := some 127) (v := ?_) (a' := ?_) #[true, true, true, true, true, true, true, false, true, true, true, true, false, false, false, false, false] rfl rfl (by kernel_rfl) (fun _ _ _ h => h) (Or.inl ⟨by rfl, ?_⟩) hHeld ?_ ?_
        rotate_left
        · rintro w' ⟨s0, s1, s2, s3, s4, s5, s6⟩
          go_simp
          with_reducible rfl
        rotate_left
        · simp only [Act.put, List.setIfInBounds_toArray, List.set_cons_zero, List.set_cons_succ]
          rfl
        refine one_ (i := 7) (N := some 123) #[true, true, true, true, true, true, true, true, true, true, true, true, false, false, false, false, false] rfl rfl (by kernel_rfl) (by decide) (fun K hK => ?_)
        refine goes_ (N := some 123) Try.func133 (by kernel_rfl) rfl #[.pointer (some ⟨p, 0, none⟩), .int .i64 0] (by rfl) rfl rfl (by simp only [List.map_toArray, List.map_cons, List.map_nil]; rfl) ?_
        refine (HT.out _ (HJ6.out.drew)).mono ?_
        rintro e wn ⟨rfl, hbn⟩
        refine ⟨_, rfl, ?_⟩
        have hS' : wn.cell? ⟨p, 0, none⟩ = some (.int .i64 g.pl) ∧ wn.cell? ⟨p, 1, none⟩ = some (.int .i64 g.bl) ∧ wn.cell? ⟨p, 2, none⟩ = some (.int .i64 g.pg) ∧ wn.cell? ⟨p, 3, none⟩ = some (.int .i64 g.ch) ∧ wn.cell? ⟨p, 4, none⟩ = some (.int .i64 g.ck) ∧ wn.cell? ⟨p, 5, none⟩ = some (.int .i64 g.ru) ∧ wn.cell? ⟨p, 6, none⟩ = some (.int .i64 g.pa) := by obtain ⟨z0, z1, z2, z3, z4, z5, z6⟩ := hHeld; exact ⟨pw_cell_below hbn z0, pw_cell_below hbn z1, pw_cell_below hbn z2, pw_cell_below hbn z3, pw_cell_below hbn z4, pw_cell_below hbn z5, pw_cell_below hbn z6⟩
        have HJA := Lib.hid ((HJ6.out.drew).below hbn)
        have HXA := Lib.hid ((HX6.out.drew).below hbn)
        clear hbn
        clear hHeld
        refine hK.out _ _ ?_ (fun hHeld => ?_)
        · exact hS'
        clear hK K
        refine norm_ (a' := ?_) ?_ ?_
        rotate_left
        · show Act.put _ (some 123) _ = _
          simp only [Act.put, List.setIfInBounds_toArray, List.set_cons_zero, List.set_cons_succ]
          rfl
        refine one_ (i := 12) (N := some 128) #[true, true, true, true, true, true, true, true, true, true, true, true, true, false, false, false, false] rfl rfl (by kernel_rfl) (by decide) (fun K hK => ?_)
        refine goes_ (N := some 128) Try.func135 (by kernel_rfl) rfl #[.agg #[.int .i64 g.pl, .int .i64 g.bl, .int .i64 g.pg, .int .i64 g.ch, .int .i64 g.ck, .int .i64 g.ru, .int .i64 g.pa]] (by rfl) rfl rfl (by simp only [List.map_toArray, List.map_cons, List.map_nil]; rfl) ?_
        refine (HRW.out _).mono ?_
        rintro e wn ⟨rfl, hbn⟩
        refine ⟨_, rfl, ?_⟩
        have hS' : wn.cell? ⟨p, 0, none⟩ = some (.int .i64 g.pl) ∧ wn.cell? ⟨p, 1, none⟩ = some (.int .i64 g.bl) ∧ wn.cell? ⟨p, 2, none⟩ = some (.int .i64 g.pg) ∧ wn.cell? ⟨p, 3, none⟩ = some (.int .i64 g.ch) ∧ wn.cell? ⟨p, 4, none⟩ = some (.int .i64 g.ck) ∧ wn.cell? ⟨p, 5, none⟩ = some (.int .i64 g.ru) ∧ wn.cell? ⟨p, 6, none⟩ = some (.int .i64 g.pa) := by obtain ⟨z0, z1, z2, z3, z4, z5, z6⟩ := hHeld; exact ⟨pw_cell_below hbn z0, pw_cell_below hbn z1, pw_cell_below hbn z2, pw_cell_below hbn z3, pw_cell_below hbn z4, pw_cell_below hbn z5, pw_cell_below hbn z6⟩
        have HJB := Lib.hid ((HJA.out).below hbn)
        have HXB := Lib.hid ((HXA.out).below hbn)
        clear hbn
        clear hHeld
        refine hK.out _ _ ?_ (fun hHeld => ?_)
        · exact hS'
        clear hK K
        refine norm_ (a' := ?_) ?_ ?_
        rotate_left
        · show Act.put _ (some 128) _ = _
          simp only [Act.put, List.setIfInBounds_toArray, List.set_cons_zero, List.set_cons_succ]
          rfl
        refine pure_ (i := 13) (N := some 129) (v := ?_) (a' := ?_) #[true, true, true, true, true, true, true, true, true, true, true, true, true, true, false, false, false] rfl rfl (by kernel_rfl) (fun _ _ _ h => h) (Or.inl ⟨by rfl, ?_⟩) ?_ ?_
        rotate_left
        · intro w'
          go_simp
          with_reducible rfl
        rotate_left
        · simp only [Act.put, List.setIfInBounds_toArray, List.set_cons_zero, List.set_cons_succ]
          rfl
        refine pure_ (i := 14) (N := some 130) (v := ?_) (a' := ?_) #[true, true, true, true, true, true, true, true, true, true, true, true, true, true, true, false, false] rfl rfl (by kernel_rfl) (fun _ _ _ h => h) (Or.inl ⟨by rfl, ?_⟩) ?_ ?_
        rotate_left
        · intro w'
          go_simp
          with_reducible rfl
        rotate_left
        · simp only [Act.put, List.setIfInBounds_toArray, List.set_cons_zero, List.set_cons_succ]
          rfl
        refine pure_ (i := 15) (N := some 131) (v := ?_) (a' := ?_) #[true, true, true, true, true, true, true, true, true, true, true, true, true, true, true, true, false] rfl rfl (by kernel_rfl) (fun _ _ _ h => h) (Or.inl ⟨by rfl, ?_⟩) ?_ ?_
        rotate_left
        · intro w'
          go_simp
          with_reducible rfl
        rotate_left
        · simp only [Act.put, List.setIfInBounds_toArray, List.set_cons_zero, List.set_cons_succ]
          rfl
        refine pure_ (i := 16) (N := some 4) (v := ?_) (a' := ?_) #[true, true, true, true, true, true, true, true, true, true, true, true, true, true, true, true, true] rfl rfl (by kernel_rfl) (fun _ _ _ h => h) (Or.inl ⟨by rfl, ?_⟩) ?_ ?_
        rotate_left
        · intro w'
          go_simp
          with_reducible rfl
        rotate_left
        · simp only [Act.put, List.setIfInBounds_toArray, List.set_cons_zero, List.set_cons_succ]
          rfl
        refine done_ (by kernel_rfl) ?_
        refine NoPanic.normal ?_
        go_wp2_with fail
        go_ret
        exact ⟨by rw [HE.out]; rfl, _, ⟨_, by rw [HE.out]; exact HJB.out⟩, HXB.out⟩
      · have o2 : ((n : Int) == 1) = false := beq_f (by omega)
        have h1L : s.listed.length ≠ 1 := fun e => h1 (by rw [HN.out]; exact e)
        have HE := Lib.hid (show addressR g s b = ({ s with listed := l }, false) from by unfold addressR; simp [← HOP.out, ← HN.out, ← HLL.out, h0, h1, h0L, h1L])
        clear h0 h1 h0L h1L
        go_upto_region 22 with fail
        go_quiet (fail)
        go_wp2
        go_ret
        exact ⟨by rw [HE.out]; rfl, _, ⟨_, by rw [HE.out]; exact HJ6.out.drewN _⟩, HX6.out.drewN _⟩
  · by_cases h0 : n = 0
    · subst h0
      have HE := Lib.hid (show addressR g s b = ({ s with listed := l }, true) from by unfold addressR; simp [← HOP.out, ← HN.out, ← HLL.out])
      go_upto_region 24 with fail
      go_quiet (fail)
      go_wp2
      go_ret
      exact ⟨by rw [HE.out]; rfl, _, ⟨_, by rw [HE.out]; exact HJ6.out.drewN _⟩, HX6.out.drewN _⟩
    · have o1 : ((n : Int) == 0) = false := beq_f (by omega)
      have h0L : s.listed ≠ [] := fun e => h0 (by rw [HN.out, e]; rfl)
      by_cases h1 : n = 1
      · subst h1
        have hn2 : l.length = 2 := by rw [HN1.out, HNN.out]
        obtain ⟨x0, hx0⟩ : ∃ x0, x0 = num l 0 := ⟨_, rfl⟩
        have HE := Lib.hid (show addressR g s b = ({ s with listed := l }, decide (x0 < (s.pr.length : Int))) from by unfold addressR; simp [← HOP.out, ← HN.out, ← HLL.out, hx0, h0L])
        have HT2 := rtwo_ok 0 HJ6.out.drew (by show 0 + 2 ≤ l.length; omega) (by show l.length ≤ 1000; omega) HLB.out
        change Calls _ _ _ _ (fun e w' => e = .returned (.int .i64 (num l 0)) ∧ _) at HT2
        rw [← hx0] at HT2
        have HT := Lib.hid HT2
        clear HT2 hx0 hn2 h0 h0L
        have c9 := HJ6.out.c9
        obtain ⟨A9, m9, q9⟩ := HJ6.out.l9
        rw [q9] at c9
        change w7.cell? ⟨p, 9, none⟩ = some (.slice A9 s.pr.length m9) at c9
        clear q9
        generalize s.pr.length = npr at *
        go_upto_region 24 with fail
        go_region_held3 (fun W => W.cell? ⟨p, 9, none⟩ = some (.slice A9 npr m9)) (first | exact c9 | exact f9) (first | (go_at_call 133; refine (HT.out).mono ?_; rintro e w1 ⟨rfl, hb1⟩; have f9 := pw_cell_below hb1 c9; have HJA := Lib.hid (HJ6.out.drew.below hb1); have HXA := Lib.hid (HX6.out.drew.below hb1); clear hb1))
        all_goals
          go_wp2_with fail
          go_ret
          exact ⟨by rw [HE.out]; rfl, _, ⟨_, by rw [HE.out]; exact HJA.out⟩, HXA.out⟩
      · have o2 : ((n : Int) == 1) = false := beq_f (by omega)
        have h1L : s.listed.length ≠ 1 := fun e => h1 (by rw [HN.out]; exact e)
        have HE := Lib.hid (show addressR g s b = ({ s with listed := l }, false) from by unfold addressR; simp [← HOP.out, ← HN.out, ← HLL.out, h0, h1, h0L, h1L])
        clear h0 h1 h0L h1L
        go_upto_region 24 with fail
        go_quiet (fail)
        go_wp2
        go_ret
        exact ⟨by rw [HE.out]; rfl, _, ⟨_, by rw [HE.out]; exact HJ6.out.drewN _⟩, HX6.out.drewN _⟩
  · have o2 := beq_f n2
    have o4 := beq_f n4
    have o3 := beq_f n3
    have o5 := beq_f n5
    have o8 := beq_f n8
    have o7 := beq_f n7
    have o9 := beq_f n9
    have HE := Lib.hid (show addressR g s b = ({ s with listed := l }, false) from by unfold addressR; simp [← HOP.out, ← HN.out, ← HLL.out, n2, n4, n3, n5, n8, n7, n9])
    clear n2 n4 n3 n5 n8 n7 n9
    go_wp2_with fail
    go_ret
    exact ⟨by rw [HE.out]; rfl, _, ⟨_, by rw [HE.out]; exact HJ6.out⟩, HX6.out⟩
end
end Go.Proofs.Ytfmogmgdpamfgaa.Jd

namespace Go.Proofs.Ytfmogmgdpamfgaa.Jd
open Go.RowKit Go.Proofs.YtfmogmgdpamfgaaW.PrintWords Go.Proofs.YtfmogmgdpamfgaaW.PrintLast Go.Proofs.YtfmogmgdpamfgaaW.PrintMore
set_option linter.unusedVariables false
set_option linter.unusedSimpArgs false
section
variable {w w' : World} {p : Nat} {g : Ge} {t t' : Nat → Nat} {s : RS} {H : HR}
set_option maxHeartbeats 16000000 in
set_option maxRecDepth 100000 in
theorem rwrite_ok (hw : Wr g s) (h : RAt w p g t s H) : Calls Try.prog 99 #[.pointer (some ⟨p, 0, none⟩)] w (OutR p g t w (writeR g s)) := by
  have HG := Lib.hid hw.hg
  have c12 := h.c12
  have hz := h.z
  obtain ⟨wr, hwr⟩ : ∃ wr, wrap64 (s.cnt + 1) = wr := ⟨_, rfl⟩
  have HWR := Lib.hid hwr
  have HJ1 := Lib.hid (h.s12 wr)
  have HX1 := Lib.hid (h.n [(12, .int .i64 wr)])
  simp only [sets] at HX1
  obtain ⟨A11, m11, q11⟩ := h.l11
  have Q11 := Lib.hid q11
  clear hw h q11
  go_enter Try.func99, Try.ntmps99
  go_upto_region 2 with fail
  rw [hwr]
  generalize hw1 : World.setCell _ ⟨p, 12, none⟩ _ = w1 at HJ1 HX1 ⊢
  clear hw1 c12 hz hwr
  have c10 := HJ1.out.c10
  have c11 := HJ1.out.c11
  have c12 := HJ1.out.c12
  have c18 := HJ1.out.c18
  change w1.cell? ⟨p, 10, none⟩ = some (.int .i64 s.op) at c10
  change w1.cell? ⟨p, 12, none⟩ = some (.int .i64 wr) at c12
  change w1.cell? ⟨p, 18, none⟩ = some (.int .i64 s.col) at c18
  rw [Q11.out] at c11
  obtain ⟨n, hn⟩ : ∃ n, n = s.listed.length := ⟨_, rfl⟩
  rw [← hn] at c11
  by_cases h1 : s.op = 4 ∧ n = 1
  · have o1 := beq_t h1.1
    have o2 : ((n : Int) == 1) = true := beq_t (by omega)
    by_cases h2 : wr = 4
    · have HE := Lib.hid (show writeR g s = (startR { s with cnt := wr }, true) from by unfold writeR; simp [HWR.out, ← hn, h1.1, h1.2, h2])
      have o3 := beq_t h2
      have HS := Lib.hid (rstart_ok HJ1.out)
      clear h1 hn h2
      go_wp2_with (go_at_call 94; refine (HS.out).mono ?_; rintro e w2 ⟨rfl, h2, hn2⟩; have HJ2 := Lib.hid h2; have HN2 := Lib.hid (HX1.out.trans hn2); clear h2 hn2)
      go_ret
      exact ⟨by rw [HE.out]; rfl, _, ⟨_, by rw [HE.out]; exact HJ2.out⟩, HN2.out⟩
    · have HE := Lib.hid (show writeR g s = ({ s with cnt := wr }, true) from by unfold writeR; simp [HWR.out, ← hn, h1.1, h1.2, h2])
      have o3 := beq_f h2
      clear h1 hn h2
      go_wp2_with fail
      go_ret
      exact ⟨by rw [HE.out]; rfl, _, ⟨_, by rw [HE.out]; exact HJ1.out⟩, HX1.out⟩
  · by_cases h2 : s.op = 8 ∧ n = 4
    · have HE := Lib.hid (show writeR g s = ({ s with cnt := wr }, decide (wrap64 (s.col + wr) ≤ g.raw)) from by unfold writeR; simp [HWR.out, ← hn, h2.1, h2.2])
      have o1 := beq_f (show s.op ≠ 4 by omega)
      have o2 := beq_t h2.1
      have o3 : ((n : Int) == 4) = true := beq_t (by omega)
      clear h1 hn h2
      have HR := Lib.hid (rgraw HG.out w1.drew)
      have c0 := HJ1.out.c0; have c1 := HJ1.out.c1; have c2 := HJ1.out.c2; have c3 := HJ1.out.c3; have c4 := HJ1.out.c4; have c5 := HJ1.out.c5; have c6 := HJ1.out.c6
      generalize s.op = op at *
      generalize s.col = col at *
      go_upto_region 6 with fail
      go_region_held3 (fun W => W.cell? ⟨p, 0, none⟩ = some (.int .i64 g.pl) ∧ W.cell? ⟨p, 1, none⟩ = some (.int .i64 g.bl) ∧ W.cell? ⟨p, 2, none⟩ = some (.int .i64 g.pg) ∧ W.cell? ⟨p, 3, none⟩ = some (.int .i64 g.ch) ∧ W.cell? ⟨p, 4, none⟩ = some (.int .i64 g.ck) ∧ W.cell? ⟨p, 5, none⟩ = some (.int .i64 g.ru) ∧ W.cell? ⟨p, 6, none⟩ = some (.int .i64 g.pa) ∧ W.cell? ⟨p, 10, none⟩ = some (.int .i64 op) ∧ W.cell? ⟨p, 11, none⟩ = some (.slice A11 n m11) ∧ W.cell? ⟨p, 12, none⟩ = some (.int .i64 wr) ∧ W.cell? ⟨p, 18, none⟩ = some (.int .i64 col)) (first | exact ⟨c0, c1, c2, c3, c4, c5, c6, c10, c11, c12, c18⟩ | exact ⟨f0, f1, f2, f3, f4, f5, f6, f10, f11, f12, f18⟩) (first | (go_at_call 135; refine (HR.out).mono ?_; rintro e w2 ⟨rfl, hb2⟩; have f0 := pw_cell_below hb2 c0; have f1 := pw_cell_below hb2 c1; have f2 := pw_cell_below hb2 c2; have f3 := pw_cell_below hb2 c3; have f4 := pw_cell_below hb2 c4; have f5 := pw_cell_below hb2 c5; have f6 := pw_cell_below hb2 c6; have f10 := pw_cell_below hb2 c10; have f11 := pw_cell_below hb2 c11; have f12 := pw_cell_below hb2 c12; have f18 := pw_cell_below hb2 c18; have HB2 := Lib.hid hb2; clear hb2))
      all_goals
        go_wp2_with fail
        go_ret
        exact ⟨by rw [HE.out, ← i64_w (_ + _)]; rfl, _, ⟨_, by rw [HE.out]; exact HJ1.out.drew.below HB2.out⟩, HX1.out.drew.below HB2.out⟩
    · have HE := Lib.hid (show writeR g s = ({ s with cnt := wr }, false) from by unfold writeR; simp only [HWR.out, ← hn]; rw [if_neg h1, decide_eq_false (fun h => h2 ⟨h.1, h.2.1⟩)])
      have ho : ((s.op == 4) = false ∨ ((s.op == 4) = true ∧ ((n : Int) == 1) = false)) ∧ ((s.op == 8) = false ∨ ((s.op == 8) = true ∧ ((n : Int) == 4) = false)) := by
        constructor
        · by_cases e : s.op = 4
          · exact .inr ⟨beq_t e, beq_f (by omega)⟩
          · exact .inl (beq_f e)
        · by_cases e : s.op = 8
          · exact .inr ⟨beq_t e, beq_f (by omega)⟩
          · exact .inl (beq_f e)
      clear h1 hn h2
      obtain ⟨o1 | ⟨o1, o2⟩, o3 | ⟨o3, o4⟩⟩ := ho
      all_goals
        go_upto_region 6 with fail
        go_quiet (fail)
        go_wp2
        go_ret
        exact ⟨by rw [HE.out]; rfl, _, ⟨_, by rw [HE.out]; exact HJ1.out.drewN _⟩, HX1.out.drewN _⟩
set_option maxHeartbeats 16000000 in
set_option maxRecDepth 100000 in
theorem rread_ok (hw : Wr g s) (h : RAt w p g t s H) : Calls Try.prog 100 #[.pointer (some ⟨p, 0, none⟩)] w (OutR p g t w (readR g s)) := by
  have HG := Lib.hid hw.hg
  have c10 := h.c10
  have c11 := h.c11
  have c12 := h.c12
  have c17 := h.c17
  have c18 := h.c18
  have hz := h.z
  obtain ⟨wr, hwr⟩ : ∃ wr, wrap64 (s.cnt + 1) = wr := ⟨_, rfl⟩
  obtain ⟨cw, hcw⟩ : ∃ cw, wrap64 (s.col + 1) = cw := ⟨_, rfl⟩
  have HWR := Lib.hid hwr
  have HCW := Lib.hid hcw
  have HJ := Lib.hid h
  obtain ⟨A11, m11, q11⟩ := h.l11
  rw [q11] at c11
  obtain ⟨n, hn⟩ : ∃ n, n = s.listed.length := ⟨_, rfl⟩
  rw [← hn] at c11
  clear hw h q11
  by_cases h1 : s.op = 2 ∧ n = 1
  · have HE := Lib.hid (show readR g s = ({ s with cnt := wr }, decide (wr ≤ 5)) from by unfold readR; simp [HWR.out, ← hn, h1.1, h1.2])
    have o1 := beq_t h1.1
    have o2 : ((n : Int) == 1) = true := beq_t (by omega)
    have HJ1 := Lib.hid (HJ.out.s12 wr)
    have HX1 := Lib.hid (HJ.out.n [(12, .int .i64 wr)])
    simp only [sets] at HX1
    clear h1 hn hcw
    generalize s.op = op at *
    go_enter Try.func100, Try.ntmps100
    go_upto_region 3 with fail
    rw [hwr]
    clear hwr
    go_wp2_with fail
    go_ret
    exact ⟨by rw [HE.out]; rfl, _, ⟨_, by rw [HE.out]; exact HJ1.out⟩, HX1.out⟩
  · have hr1 : ((s.op == 2) = false ∨ ((s.op == 2) = true ∧ ((n : Int) == 1) = false)) := by
      by_cases e : s.op = 2
      · exact .inr ⟨beq_t e, beq_f (by omega)⟩
      · exact .inl (beq_f e)
    by_cases h2 : s.op = 5 ∧ n = 0 ∧ s.data = true
    · have HE := Lib.hid (show readR g s = ({ s with op := 6, col := cw }, decide (cw ≤ g.raw)) from by unfold readR; rw [if_neg (by rw [← hn]; exact h1)]; simp only; rw [if_pos (by rw [← hn]; exact h2)]; simp [HCW.out])
      rw [h2.2.2] at c17
      rw [h2.1] at c10
      have o2 : ((n : Int) == 0) = true := beq_t (by omega)
      have HJ1 := Lib.hid ((HJ.out.s10 6).s18 cw)
      have HX1 := Lib.hid (HJ.out.n [(10, .int .i64 6), (18, .int .i64 cw)])
      simp only [sets] at HX1
      clear h1 hn h2 hwr hr1
      go_enter Try.func100, Try.ntmps100
      go_upto_region 7 with fail
      rw [hcw]
      generalize hw1 : World.setCell _ ⟨p, 18, none⟩ _ = w1 at HJ1 HX1 ⊢
      clear hw1 c10 c11 c12 c17 c18 hz hcw
      have c10 := HJ1.out.c10
      have c18 := HJ1.out.c18
      change w1.cell? ⟨p, 18, none⟩ = some (.int .i64 cw) at c18
      change w1.cell? ⟨p, 10, none⟩ = some (.int .i64 6) at c10
      have HR := Lib.hid (rgraw HG.out w1.drew)
      have c0 := HJ1.out.c0; have c1 := HJ1.out.c1; have c2 := HJ1.out.c2; have c3 := HJ1.out.c3; have c4 := HJ1.out.c4; have c5 := HJ1.out.c5; have c6 := HJ1.out.c6
      
      go_region_held3 (fun W => W.cell? ⟨p, 0, none⟩ = some (.int .i64 g.pl) ∧ W.cell? ⟨p, 1, none⟩ = some (.int .i64 g.bl) ∧ W.cell? ⟨p, 2, none⟩ = some (.int .i64 g.pg) ∧ W.cell? ⟨p, 3, none⟩ = some (.int .i64 g.ch) ∧ W.cell? ⟨p, 4, none⟩ = some (.int .i64 g.ck) ∧ W.cell? ⟨p, 5, none⟩ = some (.int .i64 g.ru) ∧ W.cell? ⟨p, 6, none⟩ = some (.int .i64 g.pa) ∧ W.cell? ⟨p, 10, none⟩ = some (.int .i64 6) ∧ W.cell? ⟨p, 18, none⟩ = some (.int .i64 cw)) (first | exact ⟨c0, c1, c2, c3, c4, c5, c6, c10, c18⟩ | exact ⟨f0, f1, f2, f3, f4, f5, f6, f10, f18⟩) (first | (go_at_call 135; refine (HR.out).mono ?_; rintro e w2 ⟨rfl, hb2⟩; have f0 := pw_cell_below hb2 c0; have f1 := pw_cell_below hb2 c1; have f2 := pw_cell_below hb2 c2; have f3 := pw_cell_below hb2 c3; have f4 := pw_cell_below hb2 c4; have f5 := pw_cell_below hb2 c5; have f6 := pw_cell_below hb2 c6; have f10 := pw_cell_below hb2 c10; have f18 := pw_cell_below hb2 c18; have HB2 := Lib.hid hb2; clear hb2))
      all_goals
        go_wp2_with fail
        go_ret
        exact ⟨by rw [HE.out]; rfl, _, ⟨_, by rw [HE.out]; exact HJ1.out.drew.below HB2.out⟩, HX1.out.drew.below HB2.out⟩
    · by_cases h3 : s.op = 6
      · have HE := Lib.hid (show readR g s = ({ s with col := cw }, decide (cw ≤ g.raw)) from by unfold readR; rw [if_neg (by rw [← hn]; exact h1)]; simp only; rw [if_neg (by rw [← hn]; exact h2)]; simp [HCW.out, h3])
        rw [h3] at c10
        have HJ1 := Lib.hid (HJ.out.s18 cw)
        have H3 := Lib.hid h3
        have HX1 := Lib.hid (HJ.out.n [(18, .int .i64 cw)])
        simp only [sets] at HX1
        clear h1 hn h2 hwr hr1 h3
        go_enter Try.func100, Try.ntmps100
        go_upto_region 7 with fail
        rw [hcw]
        generalize hw1 : World.setCell _ ⟨p, 18, none⟩ _ = w1 at HJ1 HX1 ⊢
        clear hw1 c10 c11 c12 c17 c18 hz hcw
        have c10 := HJ1.out.c10
        have c18 := HJ1.out.c18
        change w1.cell? ⟨p, 18, none⟩ = some (.int .i64 cw) at c18
        change w1.cell? ⟨p, 10, none⟩ = some (.int .i64 s.op) at c10
        have HR := Lib.hid (rgraw HG.out w1.drew)
        have c0 := HJ1.out.c0; have c1 := HJ1.out.c1; have c2 := HJ1.out.c2; have c3 := HJ1.out.c3; have c4 := HJ1.out.c4; have c5 := HJ1.out.c5; have c6 := HJ1.out.c6
        rw [H3.out] at c10
        go_region_held3 (fun W => W.cell? ⟨p, 0, none⟩ = some (.int .i64 g.pl) ∧ W.cell? ⟨p, 1, none⟩ = some (.int .i64 g.bl) ∧ W.cell? ⟨p, 2, none⟩ = some (.int .i64 g.pg) ∧ W.cell? ⟨p, 3, none⟩ = some (.int .i64 g.ch) ∧ W.cell? ⟨p, 4, none⟩ = some (.int .i64 g.ck) ∧ W.cell? ⟨p, 5, none⟩ = some (.int .i64 g.ru) ∧ W.cell? ⟨p, 6, none⟩ = some (.int .i64 g.pa) ∧ W.cell? ⟨p, 10, none⟩ = some (.int .i64 6) ∧ W.cell? ⟨p, 18, none⟩ = some (.int .i64 cw)) (first | exact ⟨c0, c1, c2, c3, c4, c5, c6, c10, c18⟩ | exact ⟨f0, f1, f2, f3, f4, f5, f6, f10, f18⟩) (first | (go_at_call 135; refine (HR.out).mono ?_; rintro e w2 ⟨rfl, hb2⟩; have f0 := pw_cell_below hb2 c0; have f1 := pw_cell_below hb2 c1; have f2 := pw_cell_below hb2 c2; have f3 := pw_cell_below hb2 c3; have f4 := pw_cell_below hb2 c4; have f5 := pw_cell_below hb2 c5; have f6 := pw_cell_below hb2 c6; have f10 := pw_cell_below hb2 c10; have f18 := pw_cell_below hb2 c18; have HB2 := Lib.hid hb2; clear hb2))
        all_goals
          go_wp2_with fail
          go_ret
          exact ⟨by rw [HE.out]; rfl, _, ⟨_, by rw [HE.out]; exact HJ1.out.drew.below HB2.out⟩, HX1.out.drew.below HB2.out⟩
      · have HE := Lib.hid (show readR g s = ({ s with col := cw }, false) from by unfold readR; rw [if_neg (by rw [← hn]; exact h1)]; simp only; rw [if_neg (by rw [← hn]; exact h2)]; simp [HCW.out, h3])
        have o6 := beq_f h3
        have ho : (s.op == 5) = false ∨ ((s.op == 5) = true ∧ ((n : Int) == 0) = false) ∨ ((s.op == 5) = true ∧ ((n : Int) == 0) = true ∧ s.data = false) := by
          by_cases e : s.op = 5
          · by_cases e0 : n = 0
            · refine .inr (.inr ⟨beq_t e, beq_t (by omega), ?_⟩)
              cases hd : s.data with
              | false => rfl
              | true => exact absurd ⟨e, e0, hd⟩ h2
            · exact .inr (.inl ⟨beq_t e, beq_f (by omega)⟩)
          · exact .inl (beq_f e)
        have HJ1 := Lib.hid (HJ.out.s18 cw)
        have HX1 := Lib.hid (HJ.out.n [(18, .int .i64 cw)])
        simp only [sets] at HX1
        clear h1 hn h2 hwr h3
        generalize s.data = da at ho c17
        obtain r1 | ⟨r1, r2⟩ := hr1
        all_goals
          obtain o1 | ⟨o1, o2⟩ | ⟨o1, o2, rfl⟩ := ho
          all_goals
            go_enter Try.func100, Try.ntmps100
            go_upto_region 7 with fail
            rw [hcw]
            generalize hw1 : World.setCell _ ⟨p, 18, none⟩ _ = w1 at HJ1 HX1 ⊢
            clear hw1 c10 c11 c12 c17 c18 hz hcw
            have c10 := HJ1.out.c10
            change w1.cell? ⟨p, 10, none⟩ = some (.int .i64 s.op) at c10
            go_quiet (fail)
            go_wp2
            go_ret
            exact ⟨by rw [HE.out]; rfl, _, ⟨_, by rw [HE.out]; exact HJ1.out.drewN _⟩, HX1.out.drewN _⟩
end
end Go.Proofs.Ytfmogmgdpamfgaa.Jd

