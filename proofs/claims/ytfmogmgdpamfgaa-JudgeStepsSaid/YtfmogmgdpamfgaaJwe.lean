import Derived.Test.YtfmogmgdpamfgaaJwd
namespace Go.Proofs.Ytfmogmgdpamfgaa.Jd
open Go.RowKit Go.Proofs.YtfmogmgdpamfgaaW.PrintWords Go.Proofs.YtfmogmgdpamfgaaW.PrintLast Go.Proofs.YtfmogmgdpamfgaaW.PrintMore
set_option linter.unusedVariables false
set_option linter.unusedSimpArgs false
section
variable {w : World} {p : Nat} {g : Ge} {t : Nat → Nat} {s : JS} {gb : Nat} {hl hr he hd : Value}
theorem address_ok (b : Int) (hb1 : 0 ≤ b ∧ b ≤ 255) (hw : Wf g s) (h : JAt w p g t s gb hl hr he hd) : Calls Try.prog 90 #[.pointer (some ⟨p, 0, none⟩), .int .u8 b] w fun e w' => e = .returned (.bool (addressP g s b).2) ∧ ∃ t', JG w' p g t' (addressP g s b).1 gb ∧ Nxt w w' t t' := by
  by_cases h1 : mostP s.op ≤ s.listed.length
  · have he2 : addressP g s b = (s, false) := by unfold addressP; rw [if_pos h1]
    rw [he2]
    refine (address_no b hw.l4 h (.inl h1)).mono ?_
    rintro e w' ⟨rfl, rfl⟩
    exact ⟨rfl, _, ⟨_, _, _, _, h⟩, Nxt.refl _ _⟩
  · by_cases h2 : mostP s.op = 1 ∧ b ≠ (if s.op = 4 then 137 else 0)
    · have he2 : addressP g s b = (s, false) := by unfold addressP; rw [if_neg h1, if_pos h2]
      rw [he2]
      refine (address_no b hw.l4 h (.inr h2)).mono ?_
      rintro e w' ⟨rfl, rfl⟩
      exact ⟨rfl, _, ⟨_, _, _, _, h⟩, Nxt.refl _ _⟩
    · refine (address_yes b hb1 hw.hg hw.lb hw.l4 h ⟨h1, h2⟩).mono ?_
      rintro e w' ⟨rfl, t', hl', hj, hx⟩
      exact ⟨rfl, t', ⟨_, _, _, _, hj⟩, hx⟩
theorem Wf.polls {g : Ge} {s : JS} (h : Wf g s) (x : Bool) : Wf g { s with polls := x } := ⟨h.hg, h.sh, h.lb, h.l4, h.in4, h.in2, h.ro, h.er, h.dn⟩
theorem k_cases (k : Int) : k = 1 ∨ k = 2 ∨ k = 3 ∨ k = 4 ∨ (k ≠ 1 ∧ k ≠ 2 ∧ k ≠ 3 ∧ k ≠ 4) := by omega
set_option maxHeartbeats 40000000 in
set_option maxRecDepth 100000 in
theorem see_ok (k b : Int) (hb1 : 0 ≤ b ∧ b ≤ 255) (hw : Wf g s) (h : JAt w p g t s gb hl hr he hd) : Calls Try.prog 58 #[.pointer (some ⟨p, 0, none⟩), .agg #[.int .i64 k, .int .u8 b]] w fun e w' => e = .returned (.bool (seeP g s k b).2) ∧ ∃ t', JG w' p g t' (seeP g s k b).1 gb ∧ Nxt w w' t t' := by
  have HW := Lib.hid hw
  have hab := alloc_below w (.cells #[.int .i64 k, .int .u8 b] 33)
  have hbk := blk_new w (.cells #[.int .i64 k, .int .u8 b] 33)
  have HJ0 := Lib.hid (h.below hab)
  have HX0 := Lib.hid (Nxt.of_below (t := t) hab)
  have HBX := Lib.hid hbk
  have HB1 := Lib.hid hb1
  have HLT : Hid (p < w.heap.size) := Lib.hid (Ob.plt h)
  clear h hw hab hbk hb1
  go_enter Try.func58, Try.ntmps58
  go_upto_region 1 with fail
  have HNE : Hid (w.heap.size ≠ p) := Lib.hid (by have := HLT.out; omega)
  generalize w.alloc (.cells #[.int .i64 k, .int .u8 b] 33) = w0 at HJ0 HX0 HBX ⊢
  generalize w.heap.size = bx at HBX HNE ⊢
  have q0 : w0.cell? ⟨bx, 0, none⟩ = some (.int .i64 k) := blk_cell HBX.out 0
  have q1 : w0.cell? ⟨bx, 1, none⟩ = some (.int .u8 b) := blk_cell HBX.out 1
  have c11 := HJ0.out.c11
  have hz := HJ0.out.z
  obtain ⟨op, hop⟩ : ∃ op, op = s.op := ⟨_, rfl⟩
  obtain ⟨BU, hbu⟩ : ∃ BU, BU = s.busy := ⟨_, rfl⟩
  obtain ⟨ST, hst⟩ : ∃ ST, ST = s.polls := ⟨_, rfl⟩
  rw [← hst] at c11
  have HOP := Lib.hid hop
  have HBU := Lib.hid hbu
  have HST := Lib.hid hst
  clear hop hbu hst
  rcases k_cases k with rfl | rfl | rfl | rfl | ⟨k1, k2, k3, k4⟩
  · as_aux_lemma =>
    by_cases h255 : b = 255
    · as_aux_lemma =>
      subst h255
      cases ST
      all_goals as_aux_lemma =>
        have HJ1 := Lib.hid (HJ0.out.s11 false)
        have HX1 := Lib.hid (HX0.out.trans (HJ0.out.n [(11, .bool false)]))
        simp only [sets] at HX1
        go_upto_region 3 with fail
        have HB2 : Hid ((w0.setCell ⟨p, 11, none⟩ (.bool false)).heap[bx]? = some (.cells #[.int .i64 1, .int .u8 255] 33 (0, 0))) := Lib.hid (blk_far HBX.out HNE.out _)
        generalize w0.setCell ⟨p, 11, none⟩ (.bool false) = w1 at HJ1 HX1 HB2 ⊢
        clear q0 q1 c11 hz HJ0 HX0 HBX
        have q0 : w1.cell? ⟨bx, 0, none⟩ = some (.int .i64 1) := blk_cell HB2.out 0
        have q1 : w1.cell? ⟨bx, 1, none⟩ = some (.int .u8 255) := blk_cell HB2.out 1
        have c8 : w1.cell? ⟨p, 8, none⟩ = some (.int .i64 op) := by rw [HJ1.out.c8, HOP.out]
        have c12 : w1.cell? ⟨p, 12, none⟩ = some (.bool BU) := by rw [HJ1.out.c12, HBU.out]
        have HE : Hid (seeP g s 1 255 = (startP (dropP { s with polls := false }), true)) := Lib.hid (by unfold seeP; simp [← HOP.out, ← HBU.out, ← HST.out])
        have HD := Lib.hid (drop_ok HJ1.out HW.out.dn)
        go_wp2_with (first | (go_at_call 63; refine (HD.out).mono ?_; rintro e w2 ⟨rfl, hj2, hx2⟩; have HS := Lib.hid (start_ok hj2); have HX2 := Lib.hid (HX1.out.trans hx2); clear hj2 hx2) | (go_at_call 86; (refine (HS.out).mono ?_; rintro e w3 ⟨rfl, hj3, hx3⟩; have HJ3 := Lib.hid hj3; have HX3 := Lib.hid (HX2.out.trans hx3); clear hj3 hx3)))
        all_goals
          go_ret
          exact ⟨by rw [HE.out]; rfl, _, ⟨_, _, _, _, by rw [HE.out]; exact HJ3.out⟩, HX3.out⟩
    by_cases h112 : b = 112
    · as_aux_lemma =>
      subst h112
      have HJ1 := Lib.hid (HJ0.out.s11 true)
      have HX1 := Lib.hid (HX0.out.trans (HJ0.out.n [(11, .bool true)]))
      simp only [sets] at HX1
      go_upto_region 3 with fail
      have HB2 : Hid ((w0.setCell ⟨p, 11, none⟩ (.bool true)).heap[bx]? = some (.cells #[.int .i64 1, .int .u8 112] 33 (0, 0))) := Lib.hid (blk_far HBX.out HNE.out _)
      generalize w0.setCell ⟨p, 11, none⟩ (.bool true) = w1 at HJ1 HX1 HB2 ⊢
      clear q0 q1 c11 hz HJ0 HX0 HBX
      have q0 : w1.cell? ⟨bx, 0, none⟩ = some (.int .i64 1) := blk_cell HB2.out 0
      have q1 : w1.cell? ⟨bx, 1, none⟩ = some (.int .u8 112) := blk_cell HB2.out 1
      have c8 : w1.cell? ⟨p, 8, none⟩ = some (.int .i64 op) := by rw [HJ1.out.c8, HOP.out]
      have c12 : w1.cell? ⟨p, 12, none⟩ = some (.bool BU) := by rw [HJ1.out.c12, HBU.out]
      by_cases h0 : op = 0
      · have o0 := beq_t h0
        have HE : Hid (seeP g s 1 112 = ({ s with polls := true }, false)) := Lib.hid (by unfold seeP; simp [← HOP.out, ← HBU.out, ← HST.out, h0])
        clear h0
        go_wp2_with fail
        all_goals
          go_ret
          exact ⟨by rw [HE.out]; rfl, _, ⟨_, _, _, _, by rw [HE.out]; exact HJ1.out⟩, HX1.out⟩
      · have o0 := beq_f h0
        cases hbu : BU with
        | true =>
          rw [hbu] at c12
          have HE : Hid (seeP g s 1 112 = ({ s with polls := true }, true)) := Lib.hid (by unfold seeP; simp [← HOP.out, ← HBU.out, ← HST.out, h0, hbu])
          clear h0 hbu
          go_wp2_with fail
          all_goals
            go_ret
            exact ⟨by rw [HE.out]; rfl, _, ⟨_, _, _, _, by rw [HE.out]; exact HJ1.out⟩, HX1.out⟩
        | false =>
          rw [hbu] at c12
          have HE : Hid (seeP g s 1 112 = (leftP { s with polls := true }, true)) := Lib.hid (by unfold seeP; simp [← HOP.out, ← HBU.out, ← HST.out, h0, hbu])
          clear h0 hbu
          have HC := Lib.hid (left_ok HJ1.out)
          go_wp2_with (go_at_call 87; refine (HC.out).mono ?_; rintro e w2 ⟨rfl, hj2, hx2⟩; have HJ2 := Lib.hid ((show JG w2 p g _ _ gb from ⟨_, _, _, _, hj2⟩)); have HX2 := Lib.hid (HX1.out.trans hx2); clear hj2 hx2)
          all_goals
            go_ret
            exact ⟨by rw [HE.out]; rfl, _, by rw [HE.out]; exact HJ2.out, HX2.out⟩
    · as_aux_lemma =>
      have b255 := beq_f h255
      have b112 := beq_f h112
      have B1 := Lib.hid (And.intro h255 h112)
      cases ST
      all_goals as_aux_lemma =>
        have HJ1 := Lib.hid (HJ0.out.s11 false)
        have HX1 := Lib.hid (HX0.out.trans (HJ0.out.n [(11, .bool false)]))
        simp only [sets] at HX1
        go_upto_region 3 with fail
        have HB2 : Hid ((w0.setCell ⟨p, 11, none⟩ (.bool false)).heap[bx]? = some (.cells #[.int .i64 1, .int .u8 b] 33 (0, 0))) := Lib.hid (blk_far HBX.out HNE.out _)
        generalize w0.setCell ⟨p, 11, none⟩ (.bool false) = w1 at HJ1 HX1 HB2 ⊢
        clear q0 q1 c11 hz HJ0 HX0 HBX
        have q0 : w1.cell? ⟨bx, 0, none⟩ = some (.int .i64 1) := blk_cell HB2.out 0
        have q1 : w1.cell? ⟨bx, 1, none⟩ = some (.int .u8 b) := blk_cell HB2.out 1
        have c8 : w1.cell? ⟨p, 8, none⟩ = some (.int .i64 op) := by rw [HJ1.out.c8, HOP.out]
        have c12 : w1.cell? ⟨p, 12, none⟩ = some (.bool BU) := by rw [HJ1.out.c12, HBU.out]
        by_cases h0 : op = 0
        · have o0 := beq_t h0
          have HE : Hid (seeP g s 1 b = ({ s with polls := false }, false)) := Lib.hid (by unfold seeP; simp [← HOP.out, ← HBU.out, ← HST.out, h255, h112, beq_f h112, h0])
          clear h0
          go_wp2_with fail
          all_goals
            go_ret
            exact ⟨by rw [HE.out]; rfl, _, ⟨_, _, _, _, by rw [HE.out]; exact HJ1.out⟩, HX1.out⟩
        · have o0 := beq_f h0
          cases hbu : BU with
          | true =>
            rw [hbu] at c12
            have HE : Hid (seeP g s 1 b = ({ s with polls := false }, false)) := Lib.hid (by unfold seeP; simp [← HOP.out, ← HBU.out, ← HST.out, h255, h112, beq_f h112, h0, hbu])
            clear h0 hbu
            go_wp2_with fail
            all_goals
              go_ret
              exact ⟨by rw [HE.out]; rfl, _, ⟨_, _, _, _, by rw [HE.out]; exact HJ1.out⟩, HX1.out⟩
          | false =>
            rw [hbu] at c12
            have HE : Hid (seeP g s 1 b = commandP g { s with polls := false } b) := Lib.hid (by unfold seeP; simp [← HOP.out, ← HBU.out, ← HST.out, h0, hbu, h255, h112, beq_f h112])
            clear h0 hbu h255 h112
            have HC := Lib.hid (command_ok b (HW.out.polls false) HJ1.out)
            go_wp2_with (go_at_call 89; refine (HC.out).mono ?_; rintro e w2 ⟨rfl, t2, hj2, hx2⟩; have HJ2 := Lib.hid (hj2); have HX2 := Lib.hid (HX1.out.trans hx2); clear hj2 hx2)
            all_goals
              go_ret
              exact ⟨by rw [HE.out]; rfl, _, by rw [HE.out]; exact HJ2.out, HX2.out⟩
  · as_aux_lemma =>
    cases ST
    all_goals as_aux_lemma =>
      have HJ1 := Lib.hid (HJ0.out.s11 false)
      have HX1 := Lib.hid (HX0.out.trans (HJ0.out.n [(11, .bool false)]))
      simp only [sets] at HX1
      go_upto_region 3 with fail
      have HB2 : Hid ((w0.setCell ⟨p, 11, none⟩ (.bool false)).heap[bx]? = some (.cells #[.int .i64 2, .int .u8 b] 33 (0, 0))) := Lib.hid (blk_far HBX.out HNE.out _)
      generalize w0.setCell ⟨p, 11, none⟩ (.bool false) = w1 at HJ1 HX1 HB2 ⊢
      clear q0 q1 c11 hz HJ0 HX0 HBX
      have q0 : w1.cell? ⟨bx, 0, none⟩ = some (.int .i64 2) := blk_cell HB2.out 0
      have q1 : w1.cell? ⟨bx, 1, none⟩ = some (.int .u8 b) := blk_cell HB2.out 1
      have c8 : w1.cell? ⟨p, 8, none⟩ = some (.int .i64 op) := by rw [HJ1.out.c8, HOP.out]
      have c12 : w1.cell? ⟨p, 12, none⟩ = some (.bool BU) := by rw [HJ1.out.c12, HBU.out]
      by_cases h0 : op = 0
      · have o0 := beq_t h0
        have HE : Hid (seeP g s 2 b = ({ s with polls := false }, false)) := Lib.hid (by unfold seeP; simp [← HOP.out, ← HBU.out, ← HST.out, h0])
        clear h0
        go_wp2_with fail
        all_goals
          go_ret
          exact ⟨by rw [HE.out]; rfl, _, ⟨_, _, _, _, by rw [HE.out]; exact HJ1.out⟩, HX1.out⟩
      · have o0 := beq_f h0
        cases hbu : BU with
        | true =>
          rw [hbu] at c12
          have HE : Hid (seeP g s 2 b = ({ s with polls := false }, false)) := Lib.hid (by unfold seeP; simp [← HOP.out, ← HBU.out, ← HST.out, h0, hbu])
          clear h0 hbu
          go_wp2_with fail
          all_goals
            go_ret
            exact ⟨by rw [HE.out]; rfl, _, ⟨_, _, _, _, by rw [HE.out]; exact HJ1.out⟩, HX1.out⟩
        | false =>
          rw [hbu] at c12
          have HE : Hid (seeP g s 2 b = addressP g { s with polls := false } b) := Lib.hid (by unfold seeP; simp [← HOP.out, ← HBU.out, ← HST.out, h0, hbu])
          clear h0 hbu
          have HC := Lib.hid (address_ok b HB1.out (HW.out.polls false) HJ1.out)
          go_wp2_with (go_at_call 90; refine (HC.out).mono ?_; rintro e w2 ⟨rfl, t2, hj2, hx2⟩; have HJ2 := Lib.hid (hj2); have HX2 := Lib.hid (HX1.out.trans hx2); clear hj2 hx2)
          all_goals
            go_ret
            exact ⟨by rw [HE.out]; rfl, _, by rw [HE.out]; exact HJ2.out, HX2.out⟩
  · as_aux_lemma =>
    cases ST
    all_goals as_aux_lemma =>
      have HJ1 := Lib.hid (HJ0.out.s11 false)
      have HX1 := Lib.hid (HX0.out.trans (HJ0.out.n [(11, .bool false)]))
      simp only [sets] at HX1
      go_upto_region 3 with fail
      have HB2 : Hid ((w0.setCell ⟨p, 11, none⟩ (.bool false)).heap[bx]? = some (.cells #[.int .i64 3, .int .u8 b] 33 (0, 0))) := Lib.hid (blk_far HBX.out HNE.out _)
      generalize w0.setCell ⟨p, 11, none⟩ (.bool false) = w1 at HJ1 HX1 HB2 ⊢
      clear q0 q1 c11 hz HJ0 HX0 HBX
      have q0 : w1.cell? ⟨bx, 0, none⟩ = some (.int .i64 3) := blk_cell HB2.out 0
      have q1 : w1.cell? ⟨bx, 1, none⟩ = some (.int .u8 b) := blk_cell HB2.out 1
      have c8 : w1.cell? ⟨p, 8, none⟩ = some (.int .i64 op) := by rw [HJ1.out.c8, HOP.out]
      have c12 : w1.cell? ⟨p, 12, none⟩ = some (.bool BU) := by rw [HJ1.out.c12, HBU.out]
      by_cases h0 : op = 0
      · have o0 := beq_t h0
        have HE : Hid (seeP g s 3 b = ({ s with polls := false }, false)) := Lib.hid (by unfold seeP; simp [← HOP.out, ← HBU.out, ← HST.out, h0])
        clear h0
        go_wp2_with fail
        all_goals
          go_ret
          exact ⟨by rw [HE.out]; rfl, _, ⟨_, _, _, _, by rw [HE.out]; exact HJ1.out⟩, HX1.out⟩
      · have o0 := beq_f h0
        cases hbu : BU with
        | true =>
          rw [hbu] at c12
          have HE : Hid (seeP g s 3 b = ({ s with polls := false }, false)) := Lib.hid (by unfold seeP; simp [← HOP.out, ← HBU.out, ← HST.out, h0, hbu])
          clear h0 hbu
          go_wp2_with fail
          all_goals
            go_ret
            exact ⟨by rw [HE.out]; rfl, _, ⟨_, _, _, _, by rw [HE.out]; exact HJ1.out⟩, HX1.out⟩
        | false =>
          rw [hbu] at c12
          have HE : Hid (seeP g s 3 b = writeP g { s with polls := false }) := Lib.hid (by unfold seeP; simp [← HOP.out, ← HBU.out, ← HST.out, h0, hbu])
          clear h0 hbu
          have HC := Lib.hid (write_ok HW.out.hg HJ1.out)
          go_wp2_with (go_at_call 91; refine (HC.out).mono ?_; rintro e w2 ⟨rfl, ⟨hl2, hj2⟩, hx2⟩; have HJ2 := Lib.hid ((show JG w2 p g _ _ gb from ⟨_, _, _, _, hj2⟩)); have HX2 := Lib.hid (HX1.out.trans hx2); clear hj2 hx2)
          all_goals
            go_ret
            exact ⟨by rw [HE.out]; rfl, _, by rw [HE.out]; exact HJ2.out, HX2.out⟩
  · as_aux_lemma =>
    cases ST with
    | true =>
      as_aux_lemma =>
        have hst : s.polls = true := HST.out.symm
        have HSS := Lib.hid hst
        clear hst
        have HJ1 := Lib.hid (HJ0.out.s11 true)
        have HX1 := Lib.hid (HX0.out.trans (HJ0.out.n [(11, .bool true)]))
        simp only [sets] at HX1
        go_upto_region 3 with fail
        have HB2 : Hid ((w0.setCell ⟨p, 11, none⟩ (.bool true)).heap[bx]? = some (.cells #[.int .i64 4, .int .u8 b] 33 (0, 0))) := Lib.hid (blk_far HBX.out HNE.out _)
        generalize w0.setCell ⟨p, 11, none⟩ (.bool true) = w1 at HJ1 HX1 HB2 ⊢
        clear q0 q1 c11 hz HJ0 HX0 HBX
        have q0 : w1.cell? ⟨bx, 0, none⟩ = some (.int .i64 4) := blk_cell HB2.out 0
        have q1 : w1.cell? ⟨bx, 1, none⟩ = some (.int .u8 b) := blk_cell HB2.out 1
        have hst := HSS.out
        have c8 : w1.cell? ⟨p, 8, none⟩ = some (.int .i64 op) := by rw [HJ1.out.c8, HOP.out]
        have c12 : w1.cell? ⟨p, 12, none⟩ = some (.bool BU) := by rw [HJ1.out.c12, HBU.out]
        by_cases h0 : op = 0
        · have o0 := beq_t h0
          have HE : Hid (seeP g s 4 b = ({ s with polls := true }, false)) := Lib.hid (by unfold seeP; simp [← HOP.out, ← HBU.out, ← HST.out, h0, hst])
          clear h0
          go_wp2_with fail
          all_goals
            go_ret
            exact ⟨by rw [HE.out]; rfl, _, ⟨_, _, _, _, by rw [HE.out]; exact HJ1.out⟩, HX1.out⟩
        · have o0 := beq_f h0
          have HE : Hid (seeP g s 4 b = (pollP { s with polls := true } b, true)) := Lib.hid (by unfold seeP; simp [← HOP.out, ← HBU.out, ← HST.out, h0, hst])
          clear h0
          have HC := Lib.hid (poll_ok b HB1.out HJ1.out HW.out.dn)
          go_wp2_with (go_at_call 88; refine (HC.out).mono ?_; rintro e w2 ⟨rfl, ⟨hl2, hj2⟩, hx2⟩; have HJ2 := Lib.hid ((show JG w2 p g _ _ gb from ⟨_, _, _, _, hj2⟩)); have HX2 := Lib.hid (HX1.out.trans hx2); clear hj2 hx2)
          all_goals
            go_ret
            exact ⟨by rw [HE.out]; rfl, _, by rw [HE.out]; exact HJ2.out, HX2.out⟩
    | false =>
      as_aux_lemma =>
        have hst : s.polls = false := HST.out.symm
        have HSS := Lib.hid hst
        clear hst
        have HJ1 := Lib.hid (HJ0.out.s11 false)
        have HX1 := Lib.hid (HX0.out.trans (HJ0.out.n [(11, .bool false)]))
        simp only [sets] at HX1
        go_upto_region 3 with fail
        have HB2 : Hid ((w0.setCell ⟨p, 11, none⟩ (.bool false)).heap[bx]? = some (.cells #[.int .i64 4, .int .u8 b] 33 (0, 0))) := Lib.hid (blk_far HBX.out HNE.out _)
        generalize w0.setCell ⟨p, 11, none⟩ (.bool false) = w1 at HJ1 HX1 HB2 ⊢
        clear q0 q1 c11 hz HJ0 HX0 HBX
        have q0 : w1.cell? ⟨bx, 0, none⟩ = some (.int .i64 4) := blk_cell HB2.out 0
        have q1 : w1.cell? ⟨bx, 1, none⟩ = some (.int .u8 b) := blk_cell HB2.out 1
        have hst := HSS.out
        have c8 : w1.cell? ⟨p, 8, none⟩ = some (.int .i64 op) := by rw [HJ1.out.c8, HOP.out]
        have c12 : w1.cell? ⟨p, 12, none⟩ = some (.bool BU) := by rw [HJ1.out.c12, HBU.out]
        by_cases h0 : op = 0
        · have o0 := beq_t h0
          have HE : Hid (seeP g s 4 b = ({ s with polls := false }, false)) := Lib.hid (by unfold seeP; simp [← HOP.out, ← HBU.out, ← HST.out, hst, h0])
          clear h0
          go_wp2_with fail
          all_goals
            go_ret
            exact ⟨by rw [HE.out]; rfl, _, ⟨_, _, _, _, by rw [HE.out]; exact HJ1.out⟩, HX1.out⟩
        · have o0 := beq_f h0
          cases hbu : BU with
          | true =>
            rw [hbu] at c12
            have HE : Hid (seeP g s 4 b = ({ s with polls := false }, false)) := Lib.hid (by unfold seeP; simp [← HOP.out, ← HBU.out, ← HST.out, hst, h0, hbu])
            clear h0 hbu
            go_wp2_with fail
            all_goals
              go_ret
              exact ⟨by rw [HE.out]; rfl, _, ⟨_, _, _, _, by rw [HE.out]; exact HJ1.out⟩, HX1.out⟩
          | false =>
            rw [hbu] at c12
            have HE : Hid (seeP g s 4 b = readP g { s with polls := false }) := Lib.hid (by unfold seeP; simp [← HOP.out, ← HBU.out, ← HST.out, h0, hbu, hst])
            clear h0 hbu
            have HC := Lib.hid (read_ok HW.out.hg HJ1.out)
            go_wp2_with (go_at_call 92; refine (HC.out).mono ?_; rintro e w2 ⟨rfl, ⟨hl2, hj2⟩, hx2⟩; have HJ2 := Lib.hid ((show JG w2 p g _ _ gb from ⟨_, _, _, _, hj2⟩)); have HX2 := Lib.hid (HX1.out.trans hx2); clear hj2 hx2)
            all_goals
              go_ret
              exact ⟨by rw [HE.out]; rfl, _, by rw [HE.out]; exact HJ2.out, HX2.out⟩
  · as_aux_lemma =>
    have o1 := beq_f k1
    have o2 := beq_f k2
    have o3 := beq_f k3
    have o4 := beq_f k4
    have HK := Lib.hid (And.intro k1 (And.intro k2 (And.intro k3 k4)))
    clear k1 k2 k3 k4
    cases ST
    all_goals as_aux_lemma =>
      have HJ1 := Lib.hid (HJ0.out.s11 false)
      have HX1 := Lib.hid (HX0.out.trans (HJ0.out.n [(11, .bool false)]))
      simp only [sets] at HX1
      go_upto_region 3 with fail
      have HB2 : Hid ((w0.setCell ⟨p, 11, none⟩ (.bool false)).heap[bx]? = some (.cells #[.int .i64 k, .int .u8 b] 33 (0, 0))) := Lib.hid (blk_far HBX.out HNE.out _)
      generalize w0.setCell ⟨p, 11, none⟩ (.bool false) = w1 at HJ1 HX1 HB2 ⊢
      clear q0 q1 c11 hz HJ0 HX0 HBX
      have q0 : w1.cell? ⟨bx, 0, none⟩ = some (.int .i64 k) := blk_cell HB2.out 0
      have q1 : w1.cell? ⟨bx, 1, none⟩ = some (.int .u8 b) := blk_cell HB2.out 1
      have c8 : w1.cell? ⟨p, 8, none⟩ = some (.int .i64 op) := by rw [HJ1.out.c8, HOP.out]
      have c12 : w1.cell? ⟨p, 12, none⟩ = some (.bool BU) := by rw [HJ1.out.c12, HBU.out]
      obtain ⟨k1, k2, k3, k4⟩ := HK.out
      by_cases h0 : op = 0
      · have o0 := beq_t h0
        have HE : Hid (seeP g s k b = ({ s with polls := false }, false)) := Lib.hid (by unfold seeP; simp [← HOP.out, ← HBU.out, ← HST.out, k1, k2, k3, k4, beq_f k1, beq_f k4, h0])
        clear h0 k1 k2 k3 k4
        go_wp2_with fail
        all_goals
          go_ret
          exact ⟨by rw [HE.out]; rfl, _, ⟨_, _, _, _, by rw [HE.out]; exact HJ1.out⟩, HX1.out⟩
      · have o0 := beq_f h0
        cases hbu : BU with
        | true =>
          rw [hbu] at c12
          have HE : Hid (seeP g s k b = ({ s with polls := false }, false)) := Lib.hid (by unfold seeP; simp [← HOP.out, ← HBU.out, ← HST.out, k1, k2, k3, k4, beq_f k1, beq_f k4, h0, hbu])
          clear h0 hbu k1 k2 k3 k4
          go_wp2_with fail
          all_goals
            go_ret
            exact ⟨by rw [HE.out]; rfl, _, ⟨_, _, _, _, by rw [HE.out]; exact HJ1.out⟩, HX1.out⟩
        | false =>
          rw [hbu] at c12
          have HE : Hid (seeP g s k b = ({ s with polls := false }, false)) := Lib.hid (by unfold seeP; simp [← HOP.out, ← HBU.out, ← HST.out, h0, hbu, k1, k2, k3, k4, beq_f k1, beq_f k4])
          clear h0 hbu k1 k2 k3 k4
          go_wp2_with fail
          all_goals
            go_ret
            exact ⟨by rw [HE.out]; rfl, _, ⟨_, _, _, _, by rw [HE.out]; exact HJ1.out⟩, HX1.out⟩
end
end Go.Proofs.Ytfmogmgdpamfgaa.Jd
