import Derived.Test.YtfmogmgdpamfgaaJw9
namespace Go.Proofs.Ytfmogmgdpamfgaa.Jd
open Go.RowKit Go.Proofs.YtfmogmgdpamfgaaW.PrintWords Go.Proofs.YtfmogmgdpamfgaaW.PrintLast Go.Proofs.YtfmogmgdpamfgaaW.PrintMore
set_option linter.unusedVariables false
theorem c_cases (c : Int) : c = 144 ∨ c = 236 ∨ c = 239 ∨ c = 0 ∨ c = 5 ∨ c = 128 ∨ c = 96 ∨ (c ≠ 144 ∧ c ≠ 236 ∧ c ≠ 239 ∧ c ≠ 0 ∧ c ≠ 5 ∧ c ≠ 128 ∧ c ≠ 96) := by omega
section
variable {w : World} {p : Nat} {g : Ge} {t : Nat → Nat} {s : JS} {gb : Nat} {hl hr he hd : Value}
/-- What must go on. -/
theorem must_cases (s : JS) : (s.behind = true ∧ mustP s = 128) ∨ (s.behind = false ∧ 0 < s.rows.length ∧ mustP s = 128) ∨ (s.behind = false ∧ s.rows.length = 0 ∧ 0 < s.erases.length ∧ mustP s = 96) ∨ (s.behind = false ∧ s.rows.length = 0 ∧ s.erases.length = 0 ∧ mustP s = 0) := by
  unfold mustP
  cases s.behind <;> cases s.rows <;> cases s.erases <;> simp
set_option maxHeartbeats 16000000 in
set_option maxRecDepth 100000 in
theorem begin_ok (c : Int) (h : JAt w p g t s gb hl hr he hd) (hm : s.rows.length ≤ 1000000 ∧ s.erases.length ≤ 1000000) : Calls Try.prog 129 #[.pointer (some ⟨p, 0, none⟩), .int .u8 c] w fun e w' => e = .returned (.bool (beginP s c).2) ∧ (∃ hl', JAt w' p g t (beginP s c).1 gb hl' hr he hd) ∧ Nxt w w' t t := by
  have c8 := h.c8; have c10 := h.c10; have c13 := h.c13; have c16 := h.c16
  have hz := h.z
  obtain ⟨⟨A9, m9, rfl⟩, ⟨A17, m17, rfl⟩, ⟨A18, m18, rfl⟩, _⟩ := h.slices
  have c9 := h.c9
  have c17 := h.c17
  have c18 := h.c18
  rcases must_cases s with ⟨hb, hmu⟩ | ⟨hb, hro, hmu⟩ | ⟨hb, hro, her, hmu⟩ | ⟨hb, hro, her, hmu⟩
  · rw [hb] at c13
    by_cases hc : c = 128
    · subst hc
      have HE := Lib.hid (show beginP s 128 = ({ { { s with listed := [], writes := 0 } with op := 8 } with data := false }, true) from by unfold beginP; rw [hmu]; rfl)
      have HF := Lib.hid ((((h.s9).s10 0).s8 8).s16 false)
      have HX := Lib.hid (h.n [(9, .slice none 0 0), (10, .int .i64 0), (8, .int .i64 8), (16, .bool false)])
      clear h hmu hm hb
      go_enter Try.func129, Try.ntmps129
      go_wp2_with fail
      all_goals
        go_ret
        exact ⟨by rw [HE.out]; rfl, ⟨_, by rw [HE.out]; exact HF.out⟩, HX.out⟩
    · have o1 := (bne_iff_ne.2 hc : (c != 128) = true)
      have HE := Lib.hid (show beginP s c = (s, false) from by unfold beginP; rw [hmu, o1]; rfl)
      have HF := Lib.hid h
      have HX := Lib.hid (Nxt.refl w t)
      clear h hmu hm hb hc
      go_enter Try.func129, Try.ntmps129
      go_wp2_with fail
      go_ret
      exact ⟨by rw [HE.out]; rfl, ⟨_, by rw [HE.out]; exact HF.out⟩, HX.out⟩
  · rw [hb] at c13
    have o2 : decide (0 < s.rows.length) = true := decide_eq_true (by omega)
    by_cases hc : c = 128
    · subst hc
      have HE := Lib.hid (show beginP s 128 = ({ { { s with listed := [], writes := 0 } with op := 8 } with data := false }, true) from by unfold beginP; rw [hmu]; rfl)
      have HF := Lib.hid ((((h.s9).s10 0).s8 8).s16 false)
      have HX := Lib.hid (h.n [(9, .slice none 0 0), (10, .int .i64 0), (8, .int .i64 8), (16, .bool false)])
      clear h hmu hm hb hro
      go_enter Try.func129, Try.ntmps129
      go_wp2_with fail
      all_goals
        go_ret
        exact ⟨by rw [HE.out]; rfl, ⟨_, by rw [HE.out]; exact HF.out⟩, HX.out⟩
    · have o1 := (bne_iff_ne.2 hc : (c != 128) = true)
      have HE := Lib.hid (show beginP s c = (s, false) from by unfold beginP; rw [hmu, o1]; rfl)
      have HF := Lib.hid h
      have HX := Lib.hid (Nxt.refl w t)
      clear h hmu hm hb hro hc
      go_enter Try.func129, Try.ntmps129
      go_wp2_with fail
      go_ret
      exact ⟨by rw [HE.out]; rfl, ⟨_, by rw [HE.out]; exact HF.out⟩, HX.out⟩
  · rw [hb] at c13
    have o2 : decide (0 < s.rows.length) = false := decide_eq_false (by omega)
    have o3 : decide (0 < s.erases.length) = true := decide_eq_true (by omega)
    by_cases hc : c = 96
    · subst hc
      have HE := Lib.hid (show beginP s 96 = ({ { { s with listed := [], writes := 0 } with op := 9 } with data := false }, true) from by unfold beginP; rw [hmu]; rfl)
      have HF := Lib.hid ((((h.s9).s10 0).s8 9).s16 false)
      have HX := Lib.hid (h.n [(9, .slice none 0 0), (10, .int .i64 0), (8, .int .i64 9), (16, .bool false)])
      clear h hmu hm hb hro her
      go_enter Try.func129, Try.ntmps129
      go_wp2_with fail
      all_goals
        go_ret
        exact ⟨by rw [HE.out]; rfl, ⟨_, by rw [HE.out]; exact HF.out⟩, HX.out⟩
    · have o1 := (bne_iff_ne.2 hc : (c != 96) = true)
      have HE := Lib.hid (show beginP s c = (s, false) from by unfold beginP; rw [hmu, o1]; rfl)
      have HF := Lib.hid h
      have HX := Lib.hid (Nxt.refl w t)
      clear h hmu hm hb hro her hc
      go_enter Try.func129, Try.ntmps129
      go_wp2_with fail
      go_ret
      exact ⟨by rw [HE.out]; rfl, ⟨_, by rw [HE.out]; exact HF.out⟩, HX.out⟩
  · rw [hb] at c13
    have o2 : decide (0 < s.rows.length) = false := decide_eq_false (by omega)
    have o3 : decide (0 < s.erases.length) = false := decide_eq_false (by omega)
    rcases c_cases c with rfl | rfl | rfl | rfl | rfl | rfl | rfl | ⟨n1, n2, n3, n4, n5, n6, n7⟩
    · have HE := Lib.hid (show beginP s 144 = ({ { { s with listed := [], writes := 0 } with op := 2 } with data := false }, true) from by unfold beginP; rw [hmu]; rfl)
      have HF := Lib.hid ((((h.s9).s10 0).s8 2).s16 false)
      have HX := Lib.hid (h.n [(9, .slice none 0 0), (10, .int .i64 0), (8, .int .i64 2), (16, .bool false)])
      clear h hmu hm hb hro her
      go_enter Try.func129, Try.ntmps129
      go_wp2_with fail
      all_goals
        go_ret
        exact ⟨by rw [HE.out]; rfl, ⟨_, by rw [HE.out]; exact HF.out⟩, HX.out⟩
    · have HE := Lib.hid (show beginP s 236 = ({ { { s with listed := [], writes := 0 } with op := 3 } with data := false }, true) from by unfold beginP; rw [hmu]; rfl)
      have HF := Lib.hid ((((h.s9).s10 0).s8 3).s16 false)
      have HX := Lib.hid (h.n [(9, .slice none 0 0), (10, .int .i64 0), (8, .int .i64 3), (16, .bool false)])
      clear h hmu hm hb hro her
      go_enter Try.func129, Try.ntmps129
      go_wp2_with fail
      all_goals
        go_ret
        exact ⟨by rw [HE.out]; rfl, ⟨_, by rw [HE.out]; exact HF.out⟩, HX.out⟩
    · have HE := Lib.hid (show beginP s 239 = ({ { { s with listed := [], writes := 0 } with op := 4 } with data := false }, true) from by unfold beginP; rw [hmu]; rfl)
      have HF := Lib.hid ((((h.s9).s10 0).s8 4).s16 false)
      have HX := Lib.hid (h.n [(9, .slice none 0 0), (10, .int .i64 0), (8, .int .i64 4), (16, .bool false)])
      clear h hmu hm hb hro her
      go_enter Try.func129, Try.ntmps129
      go_wp2_with fail
      all_goals
        go_ret
        exact ⟨by rw [HE.out]; rfl, ⟨_, by rw [HE.out]; exact HF.out⟩, HX.out⟩
    · have HE := Lib.hid (show beginP s 0 = ({ { s with listed := [], writes := 0 } with op := 5 }, true) from by unfold beginP; rw [hmu]; rfl)
      have HF := Lib.hid (((h.s9).s10 0).s8 5)
      have HX := Lib.hid (h.n [(9, .slice none 0 0), (10, .int .i64 0), (8, .int .i64 5)])
      clear h hmu hm hb hro her
      go_enter Try.func129, Try.ntmps129
      go_wp2_with fail
      all_goals
        go_ret
        exact ⟨by rw [HE.out]; rfl, ⟨_, by rw [HE.out]; exact HF.out⟩, HX.out⟩
    · cases hda : s.data with
      | true =>
        rw [hda] at c16
        have HE := Lib.hid (show beginP s 5 = ({ { s with listed := [], writes := 0 } with op := 7 }, true) from by unfold beginP; rw [hmu]; simp [hda])
        have HF := Lib.hid (((h.s9).s10 0).s8 7)
        have HX := Lib.hid (h.n [(9, .slice none 0 0), (10, .int .i64 0), (8, .int .i64 7)])
        clear h hmu hm hb hro her hda
        go_enter Try.func129, Try.ntmps129
        go_wp2_with fail
        all_goals
          go_ret
          exact ⟨by rw [HE.out]; rfl, ⟨_, by rw [HE.out]; exact HF.out⟩, HX.out⟩
      | false =>
        rw [hda] at c16
        have HE := Lib.hid (show beginP s 5 = ({ s with listed := [], writes := 0 }, false) from by unfold beginP; rw [hmu]; simp [hda])
        have HF := Lib.hid ((h.s9).s10 0)
        have HX := Lib.hid (h.n [(9, .slice none 0 0), (10, .int .i64 0)])
        clear h hmu hm hb hro her hda
        go_enter Try.func129, Try.ntmps129
        go_wp2_with fail
        all_goals
          go_ret
          exact ⟨by rw [HE.out]; rfl, ⟨_, by rw [HE.out]; exact HF.out⟩, HX.out⟩
    · have HE := Lib.hid (show beginP s 128 = ({ { { s with listed := [], writes := 0 } with op := 8 } with data := false }, true) from by unfold beginP; rw [hmu]; rfl)
      have HF := Lib.hid ((((h.s9).s10 0).s8 8).s16 false)
      have HX := Lib.hid (h.n [(9, .slice none 0 0), (10, .int .i64 0), (8, .int .i64 8), (16, .bool false)])
      clear h hmu hm hb hro her
      go_enter Try.func129, Try.ntmps129
      go_wp2_with fail
      all_goals
        go_ret
        exact ⟨by rw [HE.out]; rfl, ⟨_, by rw [HE.out]; exact HF.out⟩, HX.out⟩
    · have HE := Lib.hid (show beginP s 96 = ({ { { s with listed := [], writes := 0 } with op := 9 } with data := false }, true) from by unfold beginP; rw [hmu]; rfl)
      have HF := Lib.hid ((((h.s9).s10 0).s8 9).s16 false)
      have HX := Lib.hid (h.n [(9, .slice none 0 0), (10, .int .i64 0), (8, .int .i64 9), (16, .bool false)])
      clear h hmu hm hb hro her
      go_enter Try.func129, Try.ntmps129
      go_wp2_with fail
      all_goals
        go_ret
        exact ⟨by rw [HE.out]; rfl, ⟨_, by rw [HE.out]; exact HF.out⟩, HX.out⟩
    · have HE := Lib.hid (show beginP s c = ({ s with listed := [], writes := 0 }, false) from by unfold beginP; rw [hmu]; simp [n1, n2, n3, n4, n5, n6, n7])
      have q1 := beq_f n1
      have q2 := beq_f n2
      have q3 := beq_f n3
      have q4 := beq_f n4
      have q5 := beq_f n5
      have q6 := beq_f n6
      have q7 := beq_f n7
      clear n1 n2 n3 n4 n5 n6 n7
      have HF := Lib.hid ((h.s9).s10 0)
      have HX := Lib.hid (h.n [(9, .slice none 0 0), (10, .int .i64 0)])
      clear h hmu hm hb hro her
      go_enter Try.func129, Try.ntmps129
      go_wp2_with fail
      all_goals
        go_ret
        exact ⟨by rw [HE.out]; rfl, ⟨_, by rw [HE.out]; exact HF.out⟩, HX.out⟩
end
end Go.Proofs.Ytfmogmgdpamfgaa.Jd
