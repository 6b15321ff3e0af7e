import Derived.Test.YtfmogmgdpamfgaaJw5
namespace Go.Proofs.Ytfmogmgdpamfgaa.Jd
open Go.RowKit Go.Proofs.YtfmogmgdpamfgaaW.PrintWords Go.Proofs.YtfmogmgdpamfgaaW.PrintLast Go.Proofs.YtfmogmgdpamfgaaW.PrintMore
set_option linter.unusedVariables false
theorem beq_t {a b : Int} (h : a = b) : (a == b) = true := by rw [beq_iff_eq]; exact h
theorem beq_f {a b : Int} (h : a ≠ b) : (a == b) = false := by rw [beq_eq_false_iff_ne]; exact h
section
variable {w : World} {p : Nat} {g : Ge} {t : Nat → Nat} {s : JS} {gb : Nat} {hl hr he hd : Value}
set_option maxHeartbeats 4000000 in
set_option maxRecDepth 100000 in
theorem write_ok (hg : g.ok) (h : JAt w p g t s gb hl hr he hd) : Calls Try.prog 91 #[.pointer (some ⟨p, 0, none⟩)] w fun e w' => e = .returned (.bool (writeP g s).2) ∧ (∃ hl', JAt w' p g t (writeP g s).1 gb hl' hr he hd) ∧ Nxt w w' t t := by
  have hJ1 := h.s10 (wrap64 (s.writes + 1))
  have HN := Lib.hid (h.n [(10, .int .i64 (wrap64 (s.writes + 1)))])
  have hz := h.z
  have c10 := h.c10
  have HJ := Lib.hid hJ1
  have HG := Lib.hid hg
  clear h hJ1 hg
  go_enter Try.func91, Try.ntmps91
  go_upto_region 2 with fail
  have HN1 : Hid (Nxt w (w.setCell ⟨p, 10, none⟩ (.int .i64 (wrap64 (s.writes + 1)))) t t) := HN
  generalize w.setCell ⟨p, 10, none⟩ (.int .i64 (wrap64 (s.writes + 1))) = w1 at HN1 HJ ⊢
  clear c10 hz HN
  obtain ⟨n, hn⟩ : ∃ n, n = s.listed.length := ⟨_, rfl⟩
  obtain ⟨wr, hwr⟩ : ∃ wr, wr = wrap64 (s.writes + 1) := ⟨_, rfl⟩
  have c0 := HJ.out.c0; have c1 := HJ.out.c1; have c2 := HJ.out.c2; have c3 := HJ.out.c3; have c4 := HJ.out.c4; have c5 := HJ.out.c5; have c6 := HJ.out.c6; have c8 := HJ.out.c8; have c10 := HJ.out.c10; have c15 := HJ.out.c15
  obtain ⟨⟨A9, m9, rfl⟩, _⟩ := HJ.out.slices
  have c9 := HJ.out.c9
  simp only [← hn, ← hwr] at c9 c10 ⊢
  by_cases h1 : s.op = 4 ∧ s.listed.length = 1
  · have o1 := beq_t h1.1
    have o2 : ((n : Int) == 1) = true := beq_t (by omega)
    by_cases h2 : wr = 4
    · have HE := Lib.hid (show writeP g s = (startP { s with writes := wrap64 (s.writes + 1) }, true) from by unfold writeP; simp only; rw [if_pos h1, if_pos (hwr ▸ h2)])
      have o3 := beq_t h2
      have HS := Lib.hid (start_ok HJ.out)
      clear h1 hn h2 hwr
      go_wp2_with (go_at_call 86; refine (HS.out).mono ?_; rintro e w2 ⟨rfl, h2, hn2⟩; have HJ2 := Lib.hid h2; have HN2 := Lib.hid (HN1.out.trans hn2); clear h2 hn2)
      go_ret
      exact ⟨by rw [HE.out]; rfl, ⟨_, by rw [HE.out]; exact HJ2.out⟩, HN2.out⟩
    · have HE := Lib.hid (show writeP g s = ({ s with writes := wrap64 (s.writes + 1) }, true) from by unfold writeP; simp only; rw [if_pos h1, if_neg (hwr ▸ h2)])
      have o3 := beq_f h2
      clear h1 hn h2 hwr
      go_wp2_with fail
      go_ret
      exact ⟨by rw [HE.out]; rfl, ⟨_, by rw [HE.out]; exact HJ.out⟩, HN1.out⟩
  · by_cases h2 : s.op = 8 ∧ s.listed.length = 4
    · have HE := Lib.hid (show writeP g s = ({ s with writes := wrap64 (s.writes + 1) }, decide (wrap64 (s.column + wrap64 (s.writes + 1)) ≤ g.raw)) from by unfold writeP; simp only; rw [if_neg h1, if_pos h2])
      have o1 := beq_f (show s.op ≠ 4 by omega)
      have o2 := beq_t h2.1
      have o3 : ((n : Int) == 4) = true := beq_t (by omega)
      clear h1 hn h2
      have HR := Lib.hid (graw HG.out w1.drew)
      go_upto_region 7 with fail
      go_region_held3 (fun W => W.cell? ⟨p, 0, none⟩ = some (.int .i64 g.pl) ∧ W.cell? ⟨p, 1, none⟩ = some (.int .i64 g.bl) ∧ W.cell? ⟨p, 2, none⟩ = some (.int .i64 g.pg) ∧ W.cell? ⟨p, 3, none⟩ = some (.int .i64 g.ch) ∧ W.cell? ⟨p, 4, none⟩ = some (.int .i64 g.ck) ∧ W.cell? ⟨p, 5, none⟩ = some (.int .i64 g.ru) ∧ W.cell? ⟨p, 6, none⟩ = some (.int .i64 g.pa) ∧ W.cell? ⟨p, 10, none⟩ = some (.int .i64 wr) ∧ W.cell? ⟨p, 15, none⟩ = some (.int .i64 s.column)) (first | exact ⟨c0, c1, c2, c3, c4, c5, c6, c10, c15⟩ | exact ⟨f0, f1, f2, f3, f4, f5, f6, f10, f15⟩) (first | (go_at_call 108; refine (HR.out).mono ?_; rintro e w2 ⟨rfl, hb2⟩; have f0 := pw_cell_below hb2 c0; have f1 := pw_cell_below hb2 c1; have f2 := pw_cell_below hb2 c2; have f3 := pw_cell_below hb2 c3; have f4 := pw_cell_below hb2 c4; have f5 := pw_cell_below hb2 c5; have f6 := pw_cell_below hb2 c6; have f10 := pw_cell_below hb2 c10; have f15 := pw_cell_below hb2 c15; have HB2 := Lib.hid hb2; clear hb2))
      all_goals
        go_wp2_with fail
        go_ret
        exact ⟨by rw [HE.out, ← i64_w (s.column + _)]; rfl, ⟨_, by rw [HE.out]; exact Ob.below (Ob.drew HJ.out) HB2.out⟩, HN1.out.drew.below HB2.out⟩
    · have HE := Lib.hid (show writeP g s = ({ s with writes := wrap64 (s.writes + 1) }, false) from by unfold writeP; simp only; rw [if_neg h1, if_neg h2])
      have o : ((s.op == 4) = false ∨ ((n : Int) == 1) = false) ∧ ((s.op == 8) = false ∨ ((n : Int) == 4) = false) := by
        constructor
        · by_cases e : s.op = 4
          · exact .inr (beq_f (by omega))
          · exact .inl (beq_f e)
        · by_cases e : s.op = 8
          · exact .inr (beq_f (by omega))
          · exact .inl (beq_f e)
      clear h1 hn h2
      obtain ⟨o1 | o1, o2 | o2⟩ := o
      all_goals
        go_wp2_with fail
        all_goals
          go_ret
          exact ⟨by rw [HE.out]; rfl, ⟨_, by rw [HE.out]; exact HJ.out⟩, HN1.out⟩
set_option maxHeartbeats 4000000 in
set_option maxRecDepth 100000 in
theorem read_ok (hg : g.ok) (h : JAt w p g t s gb hl hr he hd) : Calls Try.prog 92 #[.pointer (some ⟨p, 0, none⟩)] w fun e w' => e = .returned (.bool (readP g s).2) ∧ (∃ hl', JAt w' p g t (readP g s).1 gb hl' hr he hd) ∧ Nxt w w' t t := by
  have hz := h.z
  have c0 := h.c0; have c1 := h.c1; have c2 := h.c2; have c3 := h.c3; have c4 := h.c4; have c5 := h.c5; have c6 := h.c6; have c8 := h.c8; have c10 := h.c10; have c15 := h.c15; have c16 := h.c16
  have HG := Lib.hid hg
  obtain ⟨⟨A9, m9, rfl⟩, _⟩ := h.slices
  have c9 := h.c9
  obtain ⟨n, hn⟩ : ∃ n, n = s.listed.length := ⟨_, rfl⟩
  obtain ⟨D, hD⟩ : ∃ D, D = s.data := ⟨_, rfl⟩
  obtain ⟨wr, hwr⟩ : ∃ wr, wr = wrap64 (s.writes + 1) := ⟨_, rfl⟩
  obtain ⟨cw, hcw⟩ : ∃ cw, cw = wrap64 (s.column + 1) := ⟨_, rfl⟩
  have ew : IntKind.i64.wrap (s.writes + 1) = wr := by rw [hwr]; exact i64_w _
  have ec : IntKind.i64.wrap (s.column + 1) = cw := by rw [hcw]; exact i64_w _
  rw [← hn] at c9
  rw [← hD] at c16
  clear hg
  by_cases h1 : s.op = 2 ∧ s.listed.length = 1
  · have HE := Lib.hid (show readP g s = ({ s with writes := wr }, decide (wr ≤ 5)) from by unfold readP; simp only; rw [if_pos h1, hwr])
    have o1 := beq_t h1.1
    have o2 : ((n : Int) == 1) = true := beq_t (by omega)
    have HJ := Lib.hid (h.s10 wr)
    have HN := Lib.hid (h.n [(10, .int .i64 wr)])
    clear h1 hn hwr hcw hD h
    go_enter Try.func92, Try.ntmps92
    go_wp2_with fail
    go_ret
    exact ⟨by rw [HE.out]; rfl, ⟨_, by rw [HE.out]; exact HJ.out⟩, HN.out⟩
  have o12 : (s.op == 2) = false ∨ ((n : Int) == 1) = false := by
    by_cases e : s.op = 2
    · exact .inr (beq_f (by omega))
    · exact .inl (beq_f e)
  by_cases h2 : s.op = 5 ∧ s.listed.length = 0 ∧ s.data = true
  · have HE1 := Lib.hid (show (readP g s).1.column = cw from by unfold readP; simp only; rw [if_neg h1, if_pos h2, hcw])
    have HE2 := Lib.hid (show (readP g s).2 = decide (cw ≤ g.raw) from by unfold readP; simp only; rw [if_neg h1, if_pos h2, hcw])
    have HE3 := (show (readP g s).1 = { s with op := 6, column := cw } from by unfold readP; simp only; rw [if_neg h1, if_pos h2, hcw])
    have o1 := beq_f (show s.op ≠ 2 by omega)
    have o3 := beq_t h2.1
    have o4 : ((n : Int) == 0) = true := beq_t (by omega)
    rw [h2.2.2] at hD
    rw [hD] at c16
    clear o12 h2 hwr hcw
    have HJ : Hid (JAt _ p g t (readP g s).1 gb _ hr he hd) := Lib.hid (by rw [HE3]; exact (h.s8 6).s15 cw)
    clear HE3
    have HN := Lib.hid (h.n [(8, .int .i64 6), (15, .int .i64 cw)])
    clear h1 hn hD h
    go_enter Try.func92, Try.ntmps92
    go_upto_region 8 with fail
    have HN1 : Hid (Nxt w (sets w p [(8, .int .i64 6), (15, .int .i64 cw)]) t t) := HN
    have HJ1 : Hid (JAt (sets w p [(8, .int .i64 6), (15, .int .i64 cw)]) p g t (readP g s).1 gb (.slice A9 s.listed.length m9) hr he hd) := HJ
    simp only [sets] at HN1 HJ1
    generalize (w.setCell ⟨p, 8, none⟩ (.int .i64 6)).setCell ⟨p, 15, none⟩ (.int .i64 cw) = w1 at HN1 HJ1 ⊢
    clear HN HJ
    clear c0 c1 c2 c3 c4 c5 c6 c15 hz c8 c9 c16
    have c0 := HJ1.out.c0; have c1 := HJ1.out.c1; have c2 := HJ1.out.c2; have c3 := HJ1.out.c3; have c4 := HJ1.out.c4; have c5 := HJ1.out.c5; have c6 := HJ1.out.c6
    have c15 : w1.cell? ⟨p, 15, none⟩ = some (.int .i64 cw) := by rw [HJ1.out.c15, HE1.out]
    have HR := Lib.hid (graw HG.out w1.drew)
    go_region_held3 (fun W => W.cell? ⟨p, 0, none⟩ = some (.int .i64 g.pl) ∧ W.cell? ⟨p, 1, none⟩ = some (.int .i64 g.bl) ∧ W.cell? ⟨p, 2, none⟩ = some (.int .i64 g.pg) ∧ W.cell? ⟨p, 3, none⟩ = some (.int .i64 g.ch) ∧ W.cell? ⟨p, 4, none⟩ = some (.int .i64 g.ck) ∧ W.cell? ⟨p, 5, none⟩ = some (.int .i64 g.ru) ∧ W.cell? ⟨p, 6, none⟩ = some (.int .i64 g.pa) ∧ W.cell? ⟨p, 15, none⟩ = some (.int .i64 cw)) (first | exact ⟨c0, c1, c2, c3, c4, c5, c6, c15⟩ | exact ⟨f0, f1, f2, f3, f4, f5, f6, f15⟩) (first | (go_at_call 108; refine (HR.out).mono ?_; rintro e w2 ⟨rfl, hb2⟩; have f0 := pw_cell_below hb2 c0; have f1 := pw_cell_below hb2 c1; have f2 := pw_cell_below hb2 c2; have f3 := pw_cell_below hb2 c3; have f4 := pw_cell_below hb2 c4; have f5 := pw_cell_below hb2 c5; have f6 := pw_cell_below hb2 c6; have f15 := pw_cell_below hb2 c15; have HB2 := Lib.hid hb2; clear hb2))
    all_goals
      go_wp2_with fail
      go_ret
      exact ⟨by rw [HE2.out]; rfl, ⟨_, Ob.below (Ob.drew HJ1.out) HB2.out⟩, HN1.out.drew.below HB2.out⟩
  have o34 : (s.op == 5) = false ∨ ((n : Int) == 0) = false ∨ D = false := by
    by_cases e : s.op = 5
    · by_cases e2 : s.listed.length = 0
      · refine .inr (.inr ?_)
        rw [hD]
        cases hd : s.data with
        | false => rfl
        | true => exact absurd ⟨e, e2, hd⟩ h2
      · exact .inr (.inl (beq_f (by omega)))
    · exact .inl (beq_f e)
  by_cases h3 : s.op = 6
  · have HE1 := Lib.hid (show (readP g s).1.column = cw from by unfold readP; simp only; rw [if_neg h1, if_neg h2, if_pos h3, hcw])
    have HE2 := Lib.hid (show (readP g s).2 = decide (cw ≤ g.raw) from by unfold readP; simp only; rw [if_neg h1, if_neg h2, if_pos h3, hcw])
    have HE3 := (show (readP g s).1 = { s with column := cw } from by unfold readP; simp only; rw [if_neg h1, if_neg h2, if_pos h3, hcw])
    have o1 := beq_f (show s.op ≠ 2 by omega)
    have o3 := beq_f (show s.op ≠ 5 by omega)
    have o4 := beq_t h3
    clear o12 o34 h2 h3 hwr hcw
    have HJ : Hid (JAt _ p g t (readP g s).1 gb _ hr he hd) := Lib.hid (by rw [HE3]; exact h.s15 cw)
    clear HE3
    have HN := Lib.hid (h.n [(15, .int .i64 cw)])
    clear h1 hn hD h
    go_enter Try.func92, Try.ntmps92
    go_upto_region 8 with fail
    have HN1 : Hid (Nxt w (sets w p [(15, .int .i64 cw)]) t t) := HN
    have HJ1 : Hid (JAt (sets w p [(15, .int .i64 cw)]) p g t (readP g s).1 gb (.slice A9 s.listed.length m9) hr he hd) := HJ
    simp only [sets] at HN1 HJ1
    generalize w.setCell ⟨p, 15, none⟩ (.int .i64 cw) = w1 at HN1 HJ1 ⊢
    clear HN HJ
    clear c0 c1 c2 c3 c4 c5 c6 c15 hz c8 c9 c16
    have c0 := HJ1.out.c0; have c1 := HJ1.out.c1; have c2 := HJ1.out.c2; have c3 := HJ1.out.c3; have c4 := HJ1.out.c4; have c5 := HJ1.out.c5; have c6 := HJ1.out.c6
    have c15 : w1.cell? ⟨p, 15, none⟩ = some (.int .i64 cw) := by rw [HJ1.out.c15, HE1.out]
    have HR := Lib.hid (graw HG.out w1.drew)
    go_region_held3 (fun W => W.cell? ⟨p, 0, none⟩ = some (.int .i64 g.pl) ∧ W.cell? ⟨p, 1, none⟩ = some (.int .i64 g.bl) ∧ W.cell? ⟨p, 2, none⟩ = some (.int .i64 g.pg) ∧ W.cell? ⟨p, 3, none⟩ = some (.int .i64 g.ch) ∧ W.cell? ⟨p, 4, none⟩ = some (.int .i64 g.ck) ∧ W.cell? ⟨p, 5, none⟩ = some (.int .i64 g.ru) ∧ W.cell? ⟨p, 6, none⟩ = some (.int .i64 g.pa) ∧ W.cell? ⟨p, 15, none⟩ = some (.int .i64 cw)) (first | exact ⟨c0, c1, c2, c3, c4, c5, c6, c15⟩ | exact ⟨f0, f1, f2, f3, f4, f5, f6, f15⟩) (first | (go_at_call 108; refine (HR.out).mono ?_; rintro e w2 ⟨rfl, hb2⟩; have f0 := pw_cell_below hb2 c0; have f1 := pw_cell_below hb2 c1; have f2 := pw_cell_below hb2 c2; have f3 := pw_cell_below hb2 c3; have f4 := pw_cell_below hb2 c4; have f5 := pw_cell_below hb2 c5; have f6 := pw_cell_below hb2 c6; have f15 := pw_cell_below hb2 c15; have HB2 := Lib.hid hb2; clear hb2))
    all_goals
      go_wp2_with fail
      go_ret
      exact ⟨by rw [HE2.out]; rfl, ⟨_, Ob.below (Ob.drew HJ1.out) HB2.out⟩, HN1.out.drew.below HB2.out⟩
  have HE := Lib.hid (show readP g s = (s, false) from by unfold readP; simp only; rw [if_neg h1, if_neg h2, if_neg h3])
  have o5 := beq_f h3
  have HJ := Lib.hid h
  clear h1 h2 h3 hn hwr hcw h
  obtain o1 | o1 := o12
  all_goals
    rcases o34 with o3 | o3 | o3
    all_goals
      try rw [o3] at c16
      go_enter Try.func92, Try.ntmps92
      go_wp2_with fail
      all_goals
        go_ret
        exact ⟨by rw [HE.out]; rfl, ⟨_, by rw [HE.out]; exact HJ.out⟩, Nxt.refl _ _⟩
end
end Go.Proofs.Ytfmogmgdpamfgaa.Jd
