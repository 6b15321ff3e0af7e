import Derived.Test.YtfmogmgdpamfgaaJwc
namespace Go.Proofs.Ytfmogmgdpamfgaa.Jd
open Go.RowKit Go.Proofs.YtfmogmgdpamfgaaW.PrintWords Go.Proofs.YtfmogmgdpamfgaaW.PrintLast Go.Proofs.YtfmogmgdpamfgaaW.PrintMore
set_option linter.unusedVariables false
set_option linter.unusedSimpArgs false
/-- What a walk asks of a judge. -/
structure Wf (g : Ge) (s : JS) : Prop where
  hg : g.ok
  sh : Shape g s
  lb : IsB s.listed
  l4 : s.listed.length ≤ 900
  in4 : s.op = 8 → s.listed.length = 4 → inR g (num s.listed 2) = true
  in2 : s.op = 9 → s.listed.length = 2 → inR g (num s.listed 0) = true
  ro : s.rows.length ≤ 1000000 ∧ ∀ x ∈ s.rows, inR g x = true
  er : s.erases.length ≤ 1000000 ∧ ∀ x ∈ s.erases, 0 ≤ x ∧ x < g.bl
  dn : InB s s.doing
def JG (w : World) (p : Nat) (g : Ge) (t : Nat → Nat) (s : JS) (gb : Nat) : Prop := ∃ hl hr he hd, JAt w p g t s gb hl hr he hd
theorem op8_cases (op : Int) : op = 8 ∨ op = 9 ∨ op = 5 ∨ op = 7 ∨ op = 1 ∨ op = 6 ∨ op = 2 ∨ (op ≠ 8 ∧ op ≠ 9 ∧ op ≠ 5 ∧ op ≠ 7 ∧ op ≠ 1 ∧ op ≠ 6 ∧ op ≠ 2) := by omega
theorem n_cases (n : Nat) : n = 4 ∨ n = 2 ∨ n = 1 ∨ n = 0 ∨ (n ≠ 4 ∧ n ≠ 2 ∧ n ≠ 1 ∧ n ≠ 0) := by omega
section
variable {w : World} {p : Nat} {g : Ge} {t : Nat → Nat} {s : JS} {gb : Nat} {hl hr he hd : Value}
set_option maxHeartbeats 40000000 in
set_option maxRecDepth 100000 in
theorem command_ok (c : Int) (hw : Wf g s) (h : JAt w p g t s gb hl hr he hd) : Calls Try.prog 89 #[.pointer (some ⟨p, 0, none⟩), .int .u8 c] w fun e w' => e = .returned (.bool (commandP g s c).2) ∧ ∃ t', JG w' p g t' (commandP g s c).1 gb ∧ Nxt w w' t t' := by
  have HW := Lib.hid hw
  obtain ⟨⟨A9, m9, rfl⟩, _⟩ := h.slices
  have HJ0 := Lib.hid h
  obtain ⟨n, hn⟩ : ∃ n, n = s.listed.length := ⟨_, rfl⟩
  have HN := Lib.hid hn
  have c9 := h.c9
  rw [← hn] at c9
  clear h hw hn
  go_enter Try.func89, Try.ntmps89
  go_upto_region 1 with fail
  go_quiet (fail)
  go_upto_region 2 with fail
  have HJ := Lib.hid (HJ0.out.drewN nq)
  have HX := Lib.hid ((Nxt.refl w t).drewN nq)
  generalize w.drewN nq = w1 at HJ HX ⊢
  clear c9 HJ0
  have c8 := HJ.out.c8; have c9 := HJ.out.c9; have c10 := HJ.out.c10; have c15 := HJ.out.c15; have c16 := HJ.out.c16
  rw [← HN.out] at c9
  obtain ⟨op, hop⟩ : ∃ op, op = s.op := ⟨_, rfl⟩
  obtain ⟨wr, hwr⟩ : ∃ wr, wr = s.writes := ⟨_, rfl⟩
  obtain ⟨D, hD⟩ : ∃ D, D = s.data := ⟨_, rfl⟩
  have HOP := Lib.hid hop
  have HWR := Lib.hid hwr
  have HD := Lib.hid hD
  rw [← hop] at c8
  rw [← hwr] at c10
  rw [← hD] at c16
  clear hop hwr hD
  rcases op8_cases op with h8 | h8 | h8 | h8 | h8 | h8 | h8 | h8
  · as_aux_lemma =>
    subst h8
    by_cases n4 : n = 4
    · have e4 : ((n : Int) == 4) = true := beq_t (by omega)
      have e2 : ((n : Int) == 2) = false := beq_f (by omega)
      have e1 : ((n : Int) == 1) = false := beq_f (by omega)
      have e0 : ((n : Int) == 0) = false := beq_f (by omega)
      have HN4 := Lib.hid n4
      by_cases hw0 : 0 < wr
      · have HW0 := Lib.hid (decide_eq_true hw0)
        have HE : Hid (commandP g s c = loadedP g s c) := Lib.hid (by unfold commandP; simp [← HOP.out, ← HN.out, ← HWR.out, ← HD.out, n4, hw0])
        clear hw0 n4
        have hw1 : decide ((0 : Int) < wr) = true := HW0.out
        have HL := Lib.hid (loaded_ok c HW.out.hg HW.out.sh HW.out.lb (by have := HW.out.l4; omega) (by rw [← HN.out]; exact HN4.out) (HW.out.in4 HOP.out.symm (by rw [← HN.out]; exact HN4.out)) HW.out.ro HJ.out)
        go_wp2_with (go_at_call 126; refine (HL.out).mono ?_; rintro e w2 ⟨rfl, t2, hl2, hr2, hj2, hx2⟩; have HJ2 := Lib.hid hj2; have HX2 := Lib.hid (HX.out.trans hx2); clear hj2 hx2)
        all_goals
          go_ret
          exact ⟨by rw [HE.out]; rfl, _, ⟨_, _, _, _, by rw [HE.out]; exact HJ2.out⟩, HX2.out⟩
      · have HW0 := Lib.hid (decide_eq_false hw0)
        have HE : Hid (commandP g s c = (s, false)) := Lib.hid (by unfold commandP; simp [← HOP.out, ← HN.out, ← HWR.out, ← HD.out, n4, hw0])
        clear hw0 n4
        have hw1 : decide ((0 : Int) < wr) = false := HW0.out
        go_wp2_with fail
        all_goals
          go_ret
          exact ⟨by rw [HE.out]; rfl, _, ⟨_, _, _, _, by rw [HE.out]; exact HJ.out⟩, HX.out⟩
    · have e4 : ((n : Int) == 4) = false := beq_f (by omega)
      have HE : Hid (commandP g s c = (s, false)) := Lib.hid (by unfold commandP; simp [← HOP.out, ← HN.out, ← HWR.out, ← HD.out, n4])
      clear n4
      go_wp2_with fail
      all_goals
        go_ret
        exact ⟨by rw [HE.out]; rfl, _, ⟨_, _, _, _, by rw [HE.out]; exact HJ.out⟩, HX.out⟩
  · as_aux_lemma =>
    subst h8
    by_cases n2 : n = 2
    · have e2 : ((n : Int) == 2) = true := beq_t (by omega)
      have e4 : ((n : Int) == 4) = false := beq_f (by omega)
      have e1 : ((n : Int) == 1) = false := beq_f (by omega)
      have e0 : ((n : Int) == 0) = false := beq_f (by omega)
      have HE : Hid (commandP g s c = erasedP g s c) := Lib.hid (by unfold commandP; simp [← HOP.out, ← HN.out, ← HWR.out, ← HD.out, n2])
      have HN2 := Lib.hid n2
      clear n2
      have HL := Lib.hid (erased_ok c HW.out.hg HW.out.sh HW.out.lb (by have := HW.out.l4; omega) (by rw [← HN.out]; exact HN2.out) (HW.out.in2 HOP.out.symm (by rw [← HN.out]; exact HN2.out)) HW.out.er HJ.out)
      go_wp2_with (go_at_call 127; refine (HL.out).mono ?_; rintro e w2 ⟨rfl, t2, ⟨hl2, he2, hd2, hj2⟩, hx2⟩; have HJ2 := Lib.hid hj2; have HX2 := Lib.hid (HX.out.trans hx2); clear hj2 hx2)
      all_goals
        go_ret
        exact ⟨by rw [HE.out]; rfl, _, ⟨_, _, _, _, by rw [HE.out]; exact HJ2.out⟩, HX2.out⟩
    · have e2 : ((n : Int) == 2) = false := beq_f (by omega)
      have HE : Hid (commandP g s c = (s, false)) := Lib.hid (by unfold commandP; simp [← HOP.out, ← HN.out, ← HWR.out, ← HD.out, n2])
      clear n2
      go_wp2_with fail
      all_goals
        go_ret
        exact ⟨by rw [HE.out]; rfl, _, ⟨_, _, _, _, by rw [HE.out]; exact HJ.out⟩, HX.out⟩
  · as_aux_lemma =>
    subst h8
    by_cases n4 : n = 4
    · have e4 : ((n : Int) == 4) = true := beq_t (by omega)
      have e2 : ((n : Int) == 2) = false := beq_f (by omega)
      have e1 : ((n : Int) == 1) = false := beq_f (by omega)
      have e0 : ((n : Int) == 0) = false := beq_f (by omega)
      have HN0 : Hid (∀ (W : World) (s1 : JS), s1.listed = s.listed → JAt W p g t s1 gb (.slice A9 s.listed.length m9) hr he hd → Calls Try.prog 128 #[.pointer (some ⟨p, 0, none⟩), .int .i64 0] W fun e w' => e = .returned (.int .i64 (num s.listed 0)) ∧ Below W.heap.size W w') := Lib.hid (num_at 0 (by rw [← HN.out]; omega) (by have := HW.out.l4; omega) HW.out.lb)
      obtain ⟨cc, hcc⟩ : ∃ cc, cc = num s.listed 0 := ⟨_, rfl⟩
      have HCC := Lib.hid hcc
      rw [← hcc] at HN0
      clear hcc
      by_cases h48 : c = 48
      · subst h48
        have HE : Hid (commandP g s 48 = (startP { s with column := cc, data := true }, true)) := Lib.hid (by unfold commandP; simp [← HOP.out, ← HN.out, n4, HCC.out])
        clear n4
        go_upto_region 10 with (go_at_call 128; refine (HN0.out _ s rfl HJ.out).mono ?_; rintro e w2 ⟨rfl, hb2⟩; have HJ2 := Lib.hid (HJ.out.below hb2); have HX2 := Lib.hid (HX.out.below hb2); clear hb2; have hz2 := HJ2.out.z; have d15 := HJ2.out.c15; have d16 := HJ2.out.c16)
        have HJ3 := Lib.hid ((HJ2.out.s15 cc).s16 true)
        have HX3 := Lib.hid (HX2.out.trans (HJ2.out.n [(15, .int .i64 cc), (16, .bool true)]))
        simp only [sets] at HX3
        generalize (w2.setCell ⟨p, 15, none⟩ (.int .i64 cc)).setCell ⟨p, 16, none⟩ (.bool true) = w3 at HJ3 HX3 ⊢
        have HST := Lib.hid (start_ok HJ3.out)
        clear hz2 d15 d16
        go_wp2_with (go_at_call 86; refine (HST.out).mono ?_; rintro e w4 ⟨rfl, hj4, hx4⟩; have HJ4 := Lib.hid hj4; have HX4 := Lib.hid (HX3.out.trans hx4); clear hj4 hx4)
        all_goals
          go_ret
          exact ⟨by rw [HE.out]; rfl, _, ⟨_, _, _, _, by rw [HE.out]; exact HJ4.out⟩, HX4.out⟩
      · have q48 : (c != 48) = true := bne_iff_ne.2 h48
        have HE : Hid (commandP g s c = (s, false)) := Lib.hid (by unfold commandP; simp [← HOP.out, ← HN.out, ← HWR.out, ← HD.out, n4, h48])
        clear n4 h48
        go_wp2_with fail
        all_goals
          go_ret
          exact ⟨by rw [HE.out]; rfl, _, ⟨_, _, _, _, by rw [HE.out]; exact HJ.out⟩, HX.out⟩
    · have e4 : ((n : Int) == 4) = false := beq_f (by omega)
      by_cases n0 : n = 0
      · have e0 : ((n : Int) == 0) = true := beq_t (by omega)
        have e4 : ((n : Int) == 4) = false := beq_f (by omega)
        have e2 : ((n : Int) == 2) = false := beq_f (by omega)
        have e1 : ((n : Int) == 1) = false := beq_f (by omega)
        cases hD2 : D with
        | true =>
          rw [hD2] at c16
          have HE : Hid (commandP g s c = beginP s c) := Lib.hid (by unfold commandP; simp [← HOP.out, ← HN.out, ← HWR.out, ← HD.out, n0, hD2])
          clear n0 hD2
          have HB := Lib.hid (begin_ok c HJ.out ⟨HW.out.ro.1, HW.out.er.1⟩)
          go_wp2_with (go_at_call 129; refine (HB.out).mono ?_; rintro e w2 ⟨rfl, ⟨hl2, hj2⟩, hx2⟩; have HJ2 := Lib.hid hj2; have HX2 := Lib.hid (HX.out.trans hx2); clear hj2 hx2)
          all_goals
            go_ret
            exact ⟨by rw [HE.out]; rfl, _, ⟨_, _, _, _, by rw [HE.out]; exact HJ2.out⟩, HX2.out⟩
        | false =>
          rw [hD2] at c16
          have HE : Hid (commandP g s c = (s, false)) := Lib.hid (by unfold commandP; simp [← HOP.out, ← HN.out, ← HWR.out, ← HD.out, n0, hD2])
          clear n0 hD2
          go_wp2_with fail
          all_goals
            go_ret
            exact ⟨by rw [HE.out]; rfl, _, ⟨_, _, _, _, by rw [HE.out]; exact HJ.out⟩, HX.out⟩
      · have e0 : ((n : Int) == 0) = false := beq_f (by omega)
        have HE : Hid (commandP g s c = (s, false)) := Lib.hid (by unfold commandP; simp [← HOP.out, ← HN.out, ← HWR.out, ← HD.out, n4, n0])
        clear n4 n0
        go_wp2_with fail
        all_goals
          go_ret
          exact ⟨by rw [HE.out]; rfl, _, ⟨_, _, _, _, by rw [HE.out]; exact HJ.out⟩, HX.out⟩
  · as_aux_lemma =>
    subst h8
    by_cases n2 : n = 2
    · have e2 : ((n : Int) == 2) = true := beq_t (by omega)
      have e4 : ((n : Int) == 4) = false := beq_f (by omega)
      have e1 : ((n : Int) == 1) = false := beq_f (by omega)
      have e0 : ((n : Int) == 0) = false := beq_f (by omega)
      have HN0 : Hid (∀ (W : World) (s1 : JS), s1.listed = s.listed → JAt W p g t s1 gb (.slice A9 s.listed.length m9) hr he hd → Calls Try.prog 128 #[.pointer (some ⟨p, 0, none⟩), .int .i64 0] W fun e w' => e = .returned (.int .i64 (num s.listed 0)) ∧ Below W.heap.size W w') := Lib.hid (num_at 0 (by rw [← HN.out]; omega) (by have := HW.out.l4; omega) HW.out.lb)
      obtain ⟨cc, hcc⟩ : ∃ cc, cc = num s.listed 0 := ⟨_, rfl⟩
      have HCC := Lib.hid hcc
      rw [← hcc] at HN0
      clear hcc
      by_cases h48 : c = 224
      · subst h48
        have HE : Hid (commandP g s 224 = ({ s with column := cc, op := 6, listed := [] }, true)) := Lib.hid (by unfold commandP; simp [← HOP.out, ← HN.out, n2, HCC.out])
        clear n2
        go_wp2_with (go_at_call 128; refine (HN0.out _ s rfl HJ.out).mono ?_; rintro e w2 ⟨rfl, hb2⟩; have HJ2 := Lib.hid (HJ.out.below hb2); have HX2 := Lib.hid (HX.out.below hb2); clear hb2; have hz2 := HJ2.out.z; have d15 := HJ2.out.c15; have d8 := HJ2.out.c8; have d9 := HJ2.out.c9)
        have HJ3 := Lib.hid (((HJ2.out.s15 cc).s8 6).s9)
        have HX3 := Lib.hid (HX2.out.trans (HJ2.out.n [(15, .int .i64 cc), (8, .int .i64 6), (9, .slice none 0 0)]))
        all_goals
          go_ret
          exact ⟨by rw [HE.out]; rfl, _, ⟨_, _, _, _, by rw [HE.out]; exact HJ3.out⟩, HX3.out⟩
      · have q48 : (c != 224) = true := bne_iff_ne.2 h48
        have HE : Hid (commandP g s c = (s, false)) := Lib.hid (by unfold commandP; simp [← HOP.out, ← HN.out, ← HWR.out, ← HD.out, n2, h48])
        clear n2 h48
        go_wp2_with fail
        all_goals
          go_ret
          exact ⟨by rw [HE.out]; rfl, _, ⟨_, _, _, _, by rw [HE.out]; exact HJ.out⟩, HX.out⟩
    · have e2 : ((n : Int) == 2) = false := beq_f (by omega)
      have HE : Hid (commandP g s c = (s, false)) := Lib.hid (by unfold commandP; simp [← HOP.out, ← HN.out, ← HWR.out, ← HD.out, n2])
      clear n2
      go_wp2_with fail
      all_goals
        go_ret
        exact ⟨by rw [HE.out]; rfl, _, ⟨_, _, _, _, by rw [HE.out]; exact HJ.out⟩, HX.out⟩
  · as_aux_lemma =>
    subst h8
    have HE : Hid (commandP g s c = beginP s c) := Lib.hid (by unfold commandP; simp [← HOP.out, ← HN.out, ← HWR.out, ← HD.out])
    have HB := Lib.hid (begin_ok c HJ.out ⟨HW.out.ro.1, HW.out.er.1⟩)
    go_wp2_with (go_at_call 129; refine (HB.out).mono ?_; rintro e w2 ⟨rfl, ⟨hl2, hj2⟩, hx2⟩; have HJ2 := Lib.hid hj2; have HX2 := Lib.hid (HX.out.trans hx2); clear hj2 hx2)
    all_goals
      go_ret
      exact ⟨by rw [HE.out]; rfl, _, ⟨_, _, _, _, by rw [HE.out]; exact HJ2.out⟩, HX2.out⟩
  · as_aux_lemma =>
    subst h8
    have HE : Hid (commandP g s c = beginP s c) := Lib.hid (by unfold commandP; simp [← HOP.out, ← HN.out, ← HWR.out, ← HD.out])
    have HB := Lib.hid (begin_ok c HJ.out ⟨HW.out.ro.1, HW.out.er.1⟩)
    go_wp2_with (go_at_call 129; refine (HB.out).mono ?_; rintro e w2 ⟨rfl, ⟨hl2, hj2⟩, hx2⟩; have HJ2 := Lib.hid hj2; have HX2 := Lib.hid (HX.out.trans hx2); clear hj2 hx2)
    all_goals
      go_ret
      exact ⟨by rw [HE.out]; rfl, _, ⟨_, _, _, _, by rw [HE.out]; exact HJ2.out⟩, HX2.out⟩
  · as_aux_lemma =>
    subst h8
    by_cases n1 : n = 1
    · have e1 : ((n : Int) == 1) = true := beq_t (by omega)
      have e4 : ((n : Int) == 4) = false := beq_f (by omega)
      have e2 : ((n : Int) == 2) = false := beq_f (by omega)
      have e0 : ((n : Int) == 0) = false := beq_f (by omega)
      have HE : Hid (commandP g s c = beginP s c) := Lib.hid (by unfold commandP; simp [← HOP.out, ← HN.out, ← HWR.out, ← HD.out, n1])
      clear n1
      have HB := Lib.hid (begin_ok c HJ.out ⟨HW.out.ro.1, HW.out.er.1⟩)
      go_wp2_with (go_at_call 129; refine (HB.out).mono ?_; rintro e w2 ⟨rfl, ⟨hl2, hj2⟩, hx2⟩; have HJ2 := Lib.hid hj2; have HX2 := Lib.hid (HX.out.trans hx2); clear hj2 hx2)
      all_goals
        go_ret
        exact ⟨by rw [HE.out]; rfl, _, ⟨_, _, _, _, by rw [HE.out]; exact HJ2.out⟩, HX2.out⟩
    · have e1 : ((n : Int) == 1) = false := beq_f (by omega)
      have HE : Hid (commandP g s c = (s, false)) := Lib.hid (by unfold commandP; simp [← HOP.out, ← HN.out, ← HWR.out, ← HD.out, n1])
      clear n1
      go_wp2_with fail
      all_goals
        go_ret
        exact ⟨by rw [HE.out]; rfl, _, ⟨_, _, _, _, by rw [HE.out]; exact HJ.out⟩, HX.out⟩
  · as_aux_lemma =>
    obtain ⟨a1, a2, a3, a4, a5, a6, a7⟩ := h8
    have o1 := beq_f a1
    have o2 := beq_f a2
    have o3 := beq_f a3
    have o4 := beq_f a4
    have o5 := beq_f a5
    have o6 := beq_f a6
    have o7 := beq_f a7
    have HE : Hid (commandP g s c = (s, false)) := Lib.hid (by unfold commandP; simp [← HOP.out, ← HN.out, ← HWR.out, ← HD.out, a1, a2, a3, a4, a5, a6, a7])
    clear a1 a2 a3 a4 a5 a6 a7
    go_wp2_with fail
    all_goals
      go_ret
      exact ⟨by rw [HE.out]; rfl, _, ⟨_, _, _, _, by rw [HE.out]; exact HJ.out⟩, HX.out⟩
end
end Go.Proofs.Ytfmogmgdpamfgaa.Jd
