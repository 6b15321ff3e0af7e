import Derived.Test.YtfmogmgdpamfgaaJw6
namespace Go.Proofs.Ytfmogmgdpamfgaa.Jd
open Go.RowKit Go.Proofs.YtfmogmgdpamfgaaW.PrintWords Go.Proofs.YtfmogmgdpamfgaaW.PrintLast Go.Proofs.YtfmogmgdpamfgaaW.PrintMore
set_option linter.unusedVariables false
section
variable {w : World} {p : Nat} {g : Ge} {t : Nat → Nat} {s : JS} {gb : Nat} {hl hr he hd : Value}
/-- number, whatever the world, as long as the judge stands there. -/
theorem num_at (a : Nat) (h4 : a + 2 ≤ s.listed.length) (hm : s.listed.length ≤ 1000) (hb : IsB s.listed) : ∀ (W : World) (s1 : JS), s1.listed = s.listed → JAt W p g t s1 gb hl hr he hd → Calls Try.prog 128 #[.pointer (some ⟨p, 0, none⟩), .int .i64 (a : Int)] W fun e w' => e = .returned (.int .i64 (num s.listed a)) ∧ Below W.heap.size W w' := fun W s1 e h => by
  have := number_ok a h (by rw [e]; exact h4) (by rw [e]; exact hm) (by rw [e]; exact hb)
  rw [e] at this
  exact this
set_option maxHeartbeats 8000000 in
set_option maxRecDepth 100000 in
theorem fits_ok (hg : g.ok) (hb : IsB s.listed) (hm : s.listed.length ≤ 1000) (h : JAt w p g t s gb hl hr he hd) : Calls Try.prog 130 #[.pointer (some ⟨p, 0, none⟩)] w fun e w' => e = .returned (.bool (fitsP g s).2) ∧ JAt w' p g t (fitsP g s).1 gb hl hr he hd ∧ Nxt w w' t t := by
  have c0 := h.c0; have c1 := h.c1; have c2 := h.c2; have c3 := h.c3; have c4 := h.c4; have c5 := h.c5; have c6 := h.c6; have c8 := h.c8; have c15 := h.c15
  have HG := Lib.hid hg
  obtain ⟨⟨A9, m9, rfl⟩, _⟩ := h.slices
  have c9 := h.c9
  have HJ := Lib.hid h
  have HB := Lib.hid hb
  have HM := Lib.hid hm
  obtain ⟨n, hn⟩ : ∃ n, n = s.listed.length := ⟨_, rfl⟩
  rw [← hn] at c9
  clear h hb hg hm
  by_cases h1 : (s.op = 8 ∨ s.op = 5) ∧ s.listed.length = 4
  · have o0 : (s.op == 8) = true ∨ ((s.op == 8) = false ∧ (s.op == 5) = true) := by
      rcases h1.1 with e | e
      · exact .inl (beq_t e)
      · exact .inr ⟨beq_f (by omega), beq_t e⟩
    have o2 : ((n : Int) == 4) = true := beq_t (by omega)
    have HN2 : Hid (∀ (W : World) (s1 : JS), s1.listed = s.listed → JAt W p g t s1 gb (.slice A9 s.listed.length m9) hr he hd → Calls Try.prog 128 #[.pointer (some ⟨p, 0, none⟩), .int .i64 2] W fun e w' => e = .returned (.int .i64 (num s.listed 2)) ∧ Below W.heap.size W w') := Lib.hid (num_at 2 (by omega) HM.out HB.out)
    have HN0 : Hid (∀ (W : World) (s1 : JS), s1.listed = s.listed → JAt W p g t s1 gb (.slice A9 s.listed.length m9) hr he hd → Calls Try.prog 128 #[.pointer (some ⟨p, 0, none⟩), .int .i64 0] W fun e w' => e = .returned (.int .i64 (num s.listed 0)) ∧ Below W.heap.size W w') := Lib.hid (num_at 0 (by omega) HM.out HB.out)
    obtain ⟨r, hr2⟩ : ∃ r, r = num s.listed 2 := ⟨_, rfl⟩
    obtain ⟨cc, hcc⟩ : ∃ cc, cc = num s.listed 0 := ⟨_, rfl⟩
    rw [← hr2] at HN2
    rw [← hcc] at HN0
    cases hin : inR g (num s.listed 2) with
    | false =>
      have HE := Lib.hid (show fitsP g s = (s, false) from by unfold fitsP; simp only; rw [if_pos h1, hin]; rfl)
      have HS := Lib.hid (gsplit_out (row := r) HG.out (by rw [hr2]; exact hin))
      clear h1 hn hin hr2 hcc HN0
      obtain o0 | ⟨o0, o1⟩ := o0
      all_goals
        go_enter Try.func130, Try.ntmps130
        go_upto_region 5 with fail
        go_region_held3 (fun W => W.cell? ⟨p, 0, none⟩ = some (.int .i64 g.pl) ∧ W.cell? ⟨p, 1, none⟩ = some (.int .i64 g.bl) ∧ W.cell? ⟨p, 2, none⟩ = some (.int .i64 g.pg) ∧ W.cell? ⟨p, 3, none⟩ = some (.int .i64 g.ch) ∧ W.cell? ⟨p, 4, none⟩ = some (.int .i64 g.ck) ∧ W.cell? ⟨p, 5, none⟩ = some (.int .i64 g.ru) ∧ W.cell? ⟨p, 6, none⟩ = some (.int .i64 g.pa)) (first | exact ⟨c0, c1, c2, c3, c4, c5, c6⟩ | exact ⟨f0, f1, f2, f3, f4, f5, f6⟩ | exact ⟨k0, k1, k2, k3, k4, k5, k6⟩) (first | (go_at_call 128; refine (HN2.out _ s rfl (Ob.drew HJ.out)).mono ?_; rintro e w2 ⟨rfl, hb2⟩; have f0 := pw_cell_below hb2 c0; have f1 := pw_cell_below hb2 c1; have f2 := pw_cell_below hb2 c2; have f3 := pw_cell_below hb2 c3; have f4 := pw_cell_below hb2 c4; have f5 := pw_cell_below hb2 c5; have f6 := pw_cell_below hb2 c6; have HB2 := Lib.hid hb2; clear hb2) | (go_at_call 59; (refine (HS.out _).mono ?_; rintro e w3 ⟨rfl, hb3⟩; have k0 := pw_cell_below hb3 f0; have k1 := pw_cell_below hb3 f1; have k2 := pw_cell_below hb3 f2; have k3 := pw_cell_below hb3 f3; have k4 := pw_cell_below hb3 f4; have k5 := pw_cell_below hb3 f5; have k6 := pw_cell_below hb3 f6; have HB3 := Lib.hid (chainC (Nat.le_refl _) HB2.out hb3); clear hb3)))
        all_goals
          go_wp2_with fail
          go_ret
          exact ⟨by rw [HE.out]; rfl, by rw [HE.out]; exact Ob.below (Ob.drew HJ.out) HB3.out, (Nxt.refl _ _).drew.below HB3.out⟩
    | true =>
      have HE := Lib.hid (show fitsP g s = ({ s with column := cc }, decide (cc < g.raw)) from by unfold fitsP; simp only; rw [if_pos h1, if_pos hin, hcc])
      have HS := Lib.hid (gsplit_in (row := r) HG.out (by rw [hr2]; exact hin))
      clear h1 hn hin hr2 hcc
      obtain o0 | ⟨o0, o1⟩ := o0
      all_goals
        go_enter Try.func130, Try.ntmps130
        go_upto_region 5 with fail
        go_region_held3 (fun W => W.cell? ⟨p, 0, none⟩ = some (.int .i64 g.pl) ∧ W.cell? ⟨p, 1, none⟩ = some (.int .i64 g.bl) ∧ W.cell? ⟨p, 2, none⟩ = some (.int .i64 g.pg) ∧ W.cell? ⟨p, 3, none⟩ = some (.int .i64 g.ch) ∧ W.cell? ⟨p, 4, none⟩ = some (.int .i64 g.ck) ∧ W.cell? ⟨p, 5, none⟩ = some (.int .i64 g.ru) ∧ W.cell? ⟨p, 6, none⟩ = some (.int .i64 g.pa)) (first | exact ⟨c0, c1, c2, c3, c4, c5, c6⟩ | exact ⟨f0, f1, f2, f3, f4, f5, f6⟩ | exact ⟨k0, k1, k2, k3, k4, k5, k6⟩) (first | (go_at_call 128; refine (HN2.out _ s rfl (Ob.drew HJ.out)).mono ?_; rintro e w2 ⟨rfl, hb2⟩; have f0 := pw_cell_below hb2 c0; have f1 := pw_cell_below hb2 c1; have f2 := pw_cell_below hb2 c2; have f3 := pw_cell_below hb2 c3; have f4 := pw_cell_below hb2 c4; have f5 := pw_cell_below hb2 c5; have f6 := pw_cell_below hb2 c6; have HB2 := Lib.hid hb2; clear hb2) | (go_at_call 59; (refine (HS.out _).mono ?_; rintro e w3 ⟨rfl, hb3⟩; have k0 := pw_cell_below hb3 f0; have k1 := pw_cell_below hb3 f1; have k2 := pw_cell_below hb3 f2; have k3 := pw_cell_below hb3 f3; have k4 := pw_cell_below hb3 f4; have k5 := pw_cell_below hb3 f5; have k6 := pw_cell_below hb3 f6; have HB3 := Lib.hid (chainC (Nat.le_refl _) HB2.out hb3); clear hb3)))
        all_goals
          go_upto_region 9 with (go_at_call 128; refine (HN0.out _ s rfl (Ob.below (Ob.drew HJ.out) HB3.out)).mono ?_; rintro e w4 ⟨rfl, hb4⟩; have HJ4 := Lib.hid (((HJ.out.drew).below HB3.out).below hb4); have HX4 := Lib.hid (((Nxt.refl w t).drew.below HB3.out).below hb4); clear hb4; have hz4 := HJ4.out.z; have b15 := HJ4.out.c15)
          have HJ5 := Lib.hid (HJ4.out.s15 cc)
          have HX5 := Lib.hid (HX4.out.trans (HJ4.out.n [(15, .int .i64 cc)]))
          simp only [sets] at HX5
          generalize w4.setCell ⟨p, 15, none⟩ (.int .i64 cc) = w5 at HJ5 HX5 ⊢
          clear c0 c1 c2 c3 c4 c5 c6 hz4 b15 HB2 HB3 HN2
          clear f0 f1 f2 f3 f4 f5 f6 k0 k1 k2 k3 k4 k5 k6
          have c0 := HJ5.out.c0; have c1 := HJ5.out.c1; have c2 := HJ5.out.c2; have c3 := HJ5.out.c3; have c4 := HJ5.out.c4; have c5 := HJ5.out.c5; have c6 := HJ5.out.c6
          have HR := Lib.hid (graw HG.out)
          go_region_held3 (fun W => W.cell? ⟨p, 0, none⟩ = some (.int .i64 g.pl) ∧ W.cell? ⟨p, 1, none⟩ = some (.int .i64 g.bl) ∧ W.cell? ⟨p, 2, none⟩ = some (.int .i64 g.pg) ∧ W.cell? ⟨p, 3, none⟩ = some (.int .i64 g.ch) ∧ W.cell? ⟨p, 4, none⟩ = some (.int .i64 g.ck) ∧ W.cell? ⟨p, 5, none⟩ = some (.int .i64 g.ru) ∧ W.cell? ⟨p, 6, none⟩ = some (.int .i64 g.pa)) (first | exact ⟨c0, c1, c2, c3, c4, c5, c6⟩ | exact ⟨f0, f1, f2, f3, f4, f5, f6⟩ | exact ⟨k0, k1, k2, k3, k4, k5, k6⟩) (first | (go_at_call 128; refine (HN0.out _ { s with column := cc } rfl (Ob.drew HJ5.out)).mono ?_; rintro e w6 ⟨rfl, hb2⟩; have f0 := pw_cell_below hb2 c0; have f1 := pw_cell_below hb2 c1; have f2 := pw_cell_below hb2 c2; have f3 := pw_cell_below hb2 c3; have f4 := pw_cell_below hb2 c4; have f5 := pw_cell_below hb2 c5; have f6 := pw_cell_below hb2 c6; have HB2 := Lib.hid hb2; clear hb2) | (go_at_call 108; (refine (HR.out _).mono ?_; rintro e w7 ⟨rfl, hb3⟩; have k0 := pw_cell_below hb3 f0; have k1 := pw_cell_below hb3 f1; have k2 := pw_cell_below hb3 f2; have k3 := pw_cell_below hb3 f3; have k4 := pw_cell_below hb3 f4; have k5 := pw_cell_below hb3 f5; have k6 := pw_cell_below hb3 f6; have HB3 := Lib.hid (chainC (Nat.le_refl _) HB2.out hb3); clear hb3)))
          all_goals
            go_wp2_with fail
            go_ret
            exact ⟨by rw [HE.out]; rfl, by rw [HE.out]; exact Ob.below (Ob.drew HJ5.out) HB3.out, HX5.out.drew.below HB3.out⟩
  have o12 : ((s.op == 8) = false ∧ (s.op == 5) = false) ∨ ((s.op == 8) = true ∧ ((n : Int) == 4) = false) ∨ ((s.op == 8) = false ∧ (s.op == 5) = true ∧ ((n : Int) == 4) = false) := by
    by_cases e : s.op = 8
    · exact .inr (.inl ⟨beq_t e, beq_f (by omega)⟩)
    · by_cases e2 : s.op = 5
      · exact .inr (.inr ⟨beq_f e, beq_t e2, beq_f (by omega)⟩)
      · exact .inl ⟨beq_f e, beq_f e2⟩
  by_cases h2 : s.op = 7 ∧ s.listed.length = 2
  · have HN0 : Hid (∀ (W : World) (s1 : JS), s1.listed = s.listed → JAt W p g t s1 gb (.slice A9 s.listed.length m9) hr he hd → Calls Try.prog 128 #[.pointer (some ⟨p, 0, none⟩), .int .i64 0] W fun e w' => e = .returned (.int .i64 (num s.listed 0)) ∧ Below W.heap.size W w') := Lib.hid (num_at 0 (by omega) HM.out HB.out)
    obtain ⟨cc, hcc⟩ : ∃ cc, cc = num s.listed 0 := ⟨_, rfl⟩
    rw [← hcc] at HN0
    have HE := Lib.hid (show fitsP g s = (s, decide (cc < g.raw)) from by unfold fitsP; simp only; rw [if_neg h1, if_pos h2, hcc])
    have o1 := beq_f (show s.op ≠ 8 by omega)
    have o2 := beq_f (show s.op ≠ 5 by omega)
    have o3 := beq_t h2.1
    have o4 : ((n : Int) == 2) = true := beq_t (by omega)
    have HR := Lib.hid (graw HG.out)
    clear h1 h2 hn hcc o12
    go_enter Try.func130, Try.ntmps130
    go_upto_region 9 with fail
    go_region_held3 (fun W => W.cell? ⟨p, 0, none⟩ = some (.int .i64 g.pl) ∧ W.cell? ⟨p, 1, none⟩ = some (.int .i64 g.bl) ∧ W.cell? ⟨p, 2, none⟩ = some (.int .i64 g.pg) ∧ W.cell? ⟨p, 3, none⟩ = some (.int .i64 g.ch) ∧ W.cell? ⟨p, 4, none⟩ = some (.int .i64 g.ck) ∧ W.cell? ⟨p, 5, none⟩ = some (.int .i64 g.ru) ∧ W.cell? ⟨p, 6, none⟩ = some (.int .i64 g.pa)) (first | exact ⟨c0, c1, c2, c3, c4, c5, c6⟩ | exact ⟨f0, f1, f2, f3, f4, f5, f6⟩ | exact ⟨k0, k1, k2, k3, k4, k5, k6⟩) (first | (go_at_call 128; refine (HN0.out _ s rfl (Ob.drew HJ.out)).mono ?_; rintro e w6 ⟨rfl, hb2⟩; have f0 := pw_cell_below hb2 c0; have f1 := pw_cell_below hb2 c1; have f2 := pw_cell_below hb2 c2; have f3 := pw_cell_below hb2 c3; have f4 := pw_cell_below hb2 c4; have f5 := pw_cell_below hb2 c5; have f6 := pw_cell_below hb2 c6; have HB2 := Lib.hid hb2; clear hb2) | (go_at_call 108; (refine (HR.out _).mono ?_; rintro e w7 ⟨rfl, hb3⟩; have k0 := pw_cell_below hb3 f0; have k1 := pw_cell_below hb3 f1; have k2 := pw_cell_below hb3 f2; have k3 := pw_cell_below hb3 f3; have k4 := pw_cell_below hb3 f4; have k5 := pw_cell_below hb3 f5; have k6 := pw_cell_below hb3 f6; have HB3 := Lib.hid (chainC (Nat.le_refl _) HB2.out hb3); clear hb3)))
    all_goals
      go_wp2_with fail
      go_ret
      exact ⟨by rw [HE.out]; rfl, by rw [HE.out]; exact Ob.below (Ob.drew HJ.out) HB3.out, (Nxt.refl w t).drew.below HB3.out⟩
  by_cases h3 : s.op = 9 ∧ s.listed.length = 2
  · have HN0 : Hid (∀ (W : World) (s1 : JS), s1.listed = s.listed → JAt W p g t s1 gb (.slice A9 s.listed.length m9) hr he hd → Calls Try.prog 128 #[.pointer (some ⟨p, 0, none⟩), .int .i64 0] W fun e w' => e = .returned (.int .i64 (num s.listed 0)) ∧ Below W.heap.size W w') := Lib.hid (num_at 0 (by omega) HM.out HB.out)
    obtain ⟨cc, hcc⟩ : ∃ cc, cc = num s.listed 0 := ⟨_, rfl⟩
    rw [← hcc] at HN0
    have HE := Lib.hid (show fitsP g s = (s, inR g cc) from by unfold fitsP; simp only; rw [if_neg h1, if_neg h2, if_pos h3, hcc])
    have o1 := beq_f (show s.op ≠ 8 by omega)
    have o2 := beq_f (show s.op ≠ 5 by omega)
    have o3 := beq_f (show s.op ≠ 7 by omega)
    have o5 := beq_t h3.1
    have o4 : ((n : Int) == 2) = true := beq_t (by omega)
    have HS : Hid (∀ W, Calls Try.prog 59 #[g.v, .int .i64 cc] W fun e w' => (∃ b q, e = .returned (.tuple #[.int .i64 b, .int .i64 q, .bool (inR g cc)])) ∧ Below W.heap.size W w') := Lib.hid (fun W => by
      cases hin : inR g cc with
      | false => exact (gsplit_out HG.out hin W).mono fun e w' hh => ⟨⟨_, _, hh.1⟩, hh.2⟩
      | true => exact (gsplit_in HG.out hin W).mono fun e w' hh => ⟨⟨_, _, hh.1⟩, hh.2⟩)
    generalize inR g cc = IN at HS HE
    clear h1 h2 h3 hn hcc o12
    go_enter Try.func130, Try.ntmps130
    go_upto_region 10 with fail
    go_region_held3 (fun W => W.cell? ⟨p, 0, none⟩ = some (.int .i64 g.pl) ∧ W.cell? ⟨p, 1, none⟩ = some (.int .i64 g.bl) ∧ W.cell? ⟨p, 2, none⟩ = some (.int .i64 g.pg) ∧ W.cell? ⟨p, 3, none⟩ = some (.int .i64 g.ch) ∧ W.cell? ⟨p, 4, none⟩ = some (.int .i64 g.ck) ∧ W.cell? ⟨p, 5, none⟩ = some (.int .i64 g.ru) ∧ W.cell? ⟨p, 6, none⟩ = some (.int .i64 g.pa)) (first | exact ⟨c0, c1, c2, c3, c4, c5, c6⟩ | exact ⟨f0, f1, f2, f3, f4, f5, f6⟩ | exact ⟨k0, k1, k2, k3, k4, k5, k6⟩) (first | (go_at_call 128; refine (HN0.out _ s rfl (Ob.drew HJ.out)).mono ?_; rintro e w2 ⟨rfl, hb2⟩; have f0 := pw_cell_below hb2 c0; have f1 := pw_cell_below hb2 c1; have f2 := pw_cell_below hb2 c2; have f3 := pw_cell_below hb2 c3; have f4 := pw_cell_below hb2 c4; have f5 := pw_cell_below hb2 c5; have f6 := pw_cell_below hb2 c6; have HB2 := Lib.hid hb2; clear hb2) | (go_at_call 59; (refine (HS.out _).mono ?_; rintro e w3 ⟨⟨b, q, rfl⟩, hb3⟩; have k0 := pw_cell_below hb3 f0; have k1 := pw_cell_below hb3 f1; have k2 := pw_cell_below hb3 f2; have k3 := pw_cell_below hb3 f3; have k4 := pw_cell_below hb3 f4; have k5 := pw_cell_below hb3 f5; have k6 := pw_cell_below hb3 f6; have HB3 := Lib.hid (chainC (Nat.le_refl _) HB2.out hb3); clear hb3)))
    all_goals
      go_wp2_with fail
      go_ret
      exact ⟨by rw [HE.out]; rfl, by rw [HE.out]; exact Ob.below (Ob.drew HJ.out) HB3.out, (Nxt.refl w t).drew.below HB3.out⟩
  have HE := Lib.hid (show fitsP g s = (s, true) from by unfold fitsP; simp only; rw [if_neg h1, if_neg h2, if_neg h3])
  have o3 : (s.op == 7) = false ∨ ((n : Int) == 2) = false := by
    by_cases e : s.op = 7
    · exact .inr (beq_f (by omega))
    · exact .inl (beq_f e)
  have o4 : (s.op == 9) = false ∨ ((n : Int) == 2) = false := by
    by_cases e : s.op = 9
    · exact .inr (beq_f (by omega))
    · exact .inl (beq_f e)
  clear h1 h2 h3 hn
  rcases o12 with ⟨a1, a2⟩ | ⟨a1, a2⟩ | ⟨a1, a2, a3⟩
  all_goals
    rcases o3 with o3 | o3
    all_goals
      go_enter Try.func130, Try.ntmps130
      rcases o4 with o4 | o4
      all_goals
        go_wp2_with fail
        all_goals
          go_ret
          exact ⟨by rw [HE.out]; rfl, by rw [HE.out]; exact HJ.out, Nxt.refl _ _⟩
end
end Go.Proofs.Ytfmogmgdpamfgaa.Jd
