import Derived.Test.YtfmogmgdpamfgaaRw9
namespace Go.Proofs.Ytfmogmgdpamfgaa.Jd
open Go.RowKit Go.Proofs.YtfmogmgdpamfgaaW.PrintWords Go.Proofs.YtfmogmgdpamfgaaW.PrintLast Go.Proofs.YtfmogmgdpamfgaaW.PrintMore
set_option linter.unusedVariables false
set_option linter.unusedSimpArgs false
theorem k_casesR (k : Int) : k = 1 ∨ k = 2 ∨ k = 3 ∨ k = 4 ∨ (k ≠ 1 ∧ k ≠ 2 ∧ k ≠ 3 ∧ k ≠ 4) := by omega
theorem Wr.polls {g : Ge} {s : RS} (h : Wr g s) (x : Bool) : Wr g { s with polls := x } := ⟨h.hg, h.ne, h.nl, h.np, h.lb, h.l4, h.in2, h.ro, h.bl, h.er⟩
theorem xkeep {w w' : World} {t t' : Nat → Nat} {o : Obj} {x : Nat} (hx : Nxt w w' t t') (h : w.heap[x]? = some o) (h0 : t x = 0) : w'.heap[x]? = some o := (hx.far (blk_lt h) h0).trans h
section
variable {w w' : World} {p : Nat} {g : Ge} {t t' : Nat → Nat} {s : RS} {H : HR}
theorem OutR.seq {w1 : World} {x y : RS × Bool} {e : Ending} {w2 : World} (hn : Nxt w w1 t t) (h : OutR p g t w1 x e w2) (hxy : y = x) : OutR p g t w y e w2 := by
  subst hxy
  obtain ⟨h1, t', h2, h3⟩ := h
  exact ⟨h1, t', h2, hn.trans h3⟩
set_option maxHeartbeats 16000000 in
set_option maxRecDepth 100000 in
theorem rtakes_ok (k b : Int) (hb1 : 0 ≤ b ∧ b ≤ 255) (hw : Wr g s) (h : RAt w p g t s H) : Calls Try.prog 62 #[.pointer (some ⟨p, 0, none⟩), .agg #[.int .i64 k, .int .u8 b]] w (OutR p g t w (takesR g s k b)) := by
  have HW := Lib.hid hw
  have hab := alloc_below w (.cells #[.int .i64 k, .int .u8 b] 33)
  have h0 := h.below hab
  have hX0 := (Nxt.refl w t).below hab
  have hxb := blk_new w (.cells #[.int .i64 k, .int .u8 b] 33)
  have htx : t w.heap.size = 0 := by
    by_cases e : t w.heap.size = 0
    · exact e
    · exact absurd (Ob.lt h _ e) (Nat.lt_irrefl _)
  have HJ0 := Lib.hid h0
  have HX0 := Lib.hid hX0
  have HXB := Lib.hid hxb
  have HTX := Lib.hid htx
  have HBB := Lib.hid hb1
  have hbw : IntKind.i64.wrap b = b := IntWalk.i64_in _ (by omega)
  clear hab h0 hX0 hxb htx hw h
  obtain ⟨po0, hpo⟩ : ∃ x, s.polls = x := ⟨_, rfl⟩
  have HPO := Lib.hid hpo
  clear hpo
  obtain ⟨op, hop⟩ : ∃ x, s.op = x := ⟨_, rfl⟩
  have HOP := Lib.hid hop
  clear hop
  obtain ⟨bu, hbu⟩ : ∃ x, s.busy = x := ⟨_, rfl⟩
  have HBU := Lib.hid hbu
  clear hbu
  rcases k_casesR k with rfl | rfl | rfl | rfl | ⟨n1, n2, n3, n4⟩
  · by_cases h255 : b = 255
    · subst h255
      cases po0
      all_goals
        have HE := Lib.hid (show takesR g s 1 255 = (startR (resetR { s with polls := false }), true) from by unfold takesR; simp [HPO.out, HOP.out, HBU.out])
        have HJ1 := Lib.hid (HJ0.out.s13 false)
        have HX01 := HJ0.out.n [(13, .bool false)]
        simp only [sets] at HX01
        have HX1 := Lib.hid (HX0.out.trans HX01)
        have HXC := Lib.hid (xkeep HX01 HXB.out HTX.out)
        have c13 := HJ0.out.c13
        rw [HPO.out] at c13
        have hz := HJ0.out.z
        have x0 := blk_cell HXB.out 0
        have x1 := blk_cell HXB.out 1
        simp only [List.getElem?_toArray, List.getElem?_cons_zero, List.getElem?_cons_succ] at x0 x1
        clear HX01
        go_enter Try.func62, Try.ntmps62
        go_upto_region 1 with fail
        generalize w.alloc (.cells #[.int .i64 1, .int .u8 255] 33) = w0 at HJ0 HX0 HXB HX1 HJ1 HXC c13 hz x0 x1 ⊢
        generalize w.heap.size = xb at HXB HTX HXC x0 x1 ⊢
        go_upto_region 3 with fail
        generalize hw1 : World.setCell _ ⟨p, 13, none⟩ _ = w1 at HJ1 HX1 HXC ⊢
        clear hw1 c13 hz x0 x1 HJ0 HX0 HXB
        have c10 := HJ1.out.c10
        have c14 := HJ1.out.c14
        change w1.cell? ⟨p, 10, none⟩ = some (.int .i64 s.op) at c10
        change w1.cell? ⟨p, 14, none⟩ = some (.bool s.busy) at c14
        rw [HOP.out] at c10
        rw [HBU.out] at c14
        have x0 := blk_cell HXC.out 0
        have x1 := blk_cell HXC.out 1
        simp only [List.getElem?_toArray, List.getElem?_cons_zero, List.getElem?_cons_succ] at x0 x1
        have HR := Lib.hid (rreset_ok HJ1.out ((HW.out.polls false).ine))
        go_wp2_with (first
          | (go_at_call 64; refine (HR.out).mono ?_; rintro e w2 ⟨rfl, ⟨H2, hj2⟩, hn2⟩; have HS := Lib.hid (rstart_ok hj2); have HX2 := Lib.hid (HX1.out.trans hn2); clear hj2 hn2)
          | (go_at_call 94; refine (HS.out).mono ?_; rintro e w3 ⟨rfl, hj3, hn3⟩; have HJ3 := Lib.hid hj3; have HX3 := Lib.hid (HX2.out.trans hn3); clear hj3 hn3))
        go_ret
        exact ⟨by rw [HE.out]; rfl, _, ⟨_, by rw [HE.out]; exact HJ3.out⟩, HX3.out⟩
    have n255 := beq_f h255
    by_cases h112 : b = 112
    · subst h112
      clear h255 n255
      cases po0
      all_goals
        by_cases h0 : op = 0
        · subst h0
          have HE := Lib.hid (show takesR g s 1 112 = ({ s with polls := true }, false) from by unfold takesR; simp [HPO.out, HOP.out, HBU.out])
          have HJ1 := Lib.hid (HJ0.out.s13 true)
          have HX01 := HJ0.out.n [(13, .bool true)]
          simp only [sets] at HX01
          have HX1 := Lib.hid (HX0.out.trans HX01)
          have HXC := Lib.hid (xkeep HX01 HXB.out HTX.out)
          have c13 := HJ0.out.c13
          rw [HPO.out] at c13
          have hz := HJ0.out.z
          have x0 := blk_cell HXB.out 0
          have x1 := blk_cell HXB.out 1
          simp only [List.getElem?_toArray, List.getElem?_cons_zero, List.getElem?_cons_succ] at x0 x1
          clear HX01
          go_enter Try.func62, Try.ntmps62
          go_upto_region 1 with fail
          generalize w.alloc (.cells #[.int .i64 1, .int .u8 112] 33) = w0 at HJ0 HX0 HXB HX1 HJ1 HXC c13 hz x0 x1 ⊢
          generalize w.heap.size = xb at HXB HTX HXC x0 x1 ⊢
          go_upto_region 3 with fail
          generalize hw1 : World.setCell _ ⟨p, 13, none⟩ _ = w1 at HJ1 HX1 HXC ⊢
          clear hw1 c13 hz x0 x1 HJ0 HX0 HXB
          have c10 := HJ1.out.c10
          have c14 := HJ1.out.c14
          change w1.cell? ⟨p, 10, none⟩ = some (.int .i64 s.op) at c10
          change w1.cell? ⟨p, 14, none⟩ = some (.bool s.busy) at c14
          rw [HOP.out] at c10
          rw [HBU.out] at c14
          have x0 := blk_cell HXC.out 0
          have x1 := blk_cell HXC.out 1
          simp only [List.getElem?_toArray, List.getElem?_cons_zero, List.getElem?_cons_succ] at x0 x1
          go_wp2_with fail
          go_ret
          exact ⟨by rw [HE.out]; rfl, _, ⟨_, by rw [HE.out]; exact HJ1.out⟩, HX1.out⟩
        have o0 := beq_f h0
        cases bu with
        | true =>
          have HE := Lib.hid (show takesR g s 1 112 = ({ s with polls := true }, true) from by unfold takesR; simp [HPO.out, HOP.out, HBU.out, h0])
          clear h0
          have HJ1 := Lib.hid (HJ0.out.s13 true)
          have HX01 := HJ0.out.n [(13, .bool true)]
          simp only [sets] at HX01
          have HX1 := Lib.hid (HX0.out.trans HX01)
          have HXC := Lib.hid (xkeep HX01 HXB.out HTX.out)
          have c13 := HJ0.out.c13
          rw [HPO.out] at c13
          have hz := HJ0.out.z
          have x0 := blk_cell HXB.out 0
          have x1 := blk_cell HXB.out 1
          simp only [List.getElem?_toArray, List.getElem?_cons_zero, List.getElem?_cons_succ] at x0 x1
          clear HX01
          go_enter Try.func62, Try.ntmps62
          go_upto_region 1 with fail
          generalize w.alloc (.cells #[.int .i64 1, .int .u8 112] 33) = w0 at HJ0 HX0 HXB HX1 HJ1 HXC c13 hz x0 x1 ⊢
          generalize w.heap.size = xb at HXB HTX HXC x0 x1 ⊢
          go_upto_region 3 with fail
          generalize hw1 : World.setCell _ ⟨p, 13, none⟩ _ = w1 at HJ1 HX1 HXC ⊢
          clear hw1 c13 hz x0 x1 HJ0 HX0 HXB
          have c10 := HJ1.out.c10
          have c14 := HJ1.out.c14
          change w1.cell? ⟨p, 10, none⟩ = some (.int .i64 s.op) at c10
          change w1.cell? ⟨p, 14, none⟩ = some (.bool s.busy) at c14
          rw [HOP.out] at c10
          rw [HBU.out] at c14
          have x0 := blk_cell HXC.out 0
          have x1 := blk_cell HXC.out 1
          simp only [List.getElem?_toArray, List.getElem?_cons_zero, List.getElem?_cons_succ] at x0 x1
          go_wp2_with fail
          go_ret
          exact ⟨by rw [HE.out]; rfl, _, ⟨_, by rw [HE.out]; exact HJ1.out⟩, HX1.out⟩
        | false =>
          have HE := Lib.hid (show takesR g s 1 112 = (freeR { s with polls := true }, true) from by unfold takesR; simp [HPO.out, HOP.out, HBU.out, h0])
          clear h0
          have HJ1 := Lib.hid (HJ0.out.s13 true)
          have HX01 := HJ0.out.n [(13, .bool true)]
          simp only [sets] at HX01
          have HX1 := Lib.hid (HX0.out.trans HX01)
          have HXC := Lib.hid (xkeep HX01 HXB.out HTX.out)
          have c13 := HJ0.out.c13
          rw [HPO.out] at c13
          have hz := HJ0.out.z
          have x0 := blk_cell HXB.out 0
          have x1 := blk_cell HXB.out 1
          simp only [List.getElem?_toArray, List.getElem?_cons_zero, List.getElem?_cons_succ] at x0 x1
          clear HX01
          go_enter Try.func62, Try.ntmps62
          go_upto_region 1 with fail
          generalize w.alloc (.cells #[.int .i64 1, .int .u8 112] 33) = w0 at HJ0 HX0 HXB HX1 HJ1 HXC c13 hz x0 x1 ⊢
          generalize w.heap.size = xb at HXB HTX HXC x0 x1 ⊢
          go_upto_region 3 with fail
          generalize hw1 : World.setCell _ ⟨p, 13, none⟩ _ = w1 at HJ1 HX1 HXC ⊢
          clear hw1 c13 hz x0 x1 HJ0 HX0 HXB
          have c10 := HJ1.out.c10
          have c14 := HJ1.out.c14
          change w1.cell? ⟨p, 10, none⟩ = some (.int .i64 s.op) at c10
          change w1.cell? ⟨p, 14, none⟩ = some (.bool s.busy) at c14
          rw [HOP.out] at c10
          rw [HBU.out] at c14
          have x0 := blk_cell HXC.out 0
          have x1 := blk_cell HXC.out 1
          simp only [List.getElem?_toArray, List.getElem?_cons_zero, List.getElem?_cons_succ] at x0 x1
          have HR := Lib.hid (rfree_ok HJ1.out)
          go_wp2_with (go_at_call 95; refine (HR.out).mono ?_; rintro e w2 ⟨rfl, hj2, hn2⟩; have HJ2 := Lib.hid hj2; have HX2 := Lib.hid (HX1.out.trans hn2); clear hj2 hn2)
          go_ret
          exact ⟨by rw [HE.out]; rfl, _, ⟨_, by rw [HE.out]; exact HJ2.out⟩, HX2.out⟩
    have n112 := beq_f h112
    cases po0
    all_goals
      by_cases h0 : op = 0
      · subst h0
        have HE := Lib.hid (show takesR g s 1 b = ({ s with polls := false }, false) from by unfold takesR; simp [HPO.out, HOP.out, HBU.out, h255, h112])
        have HJ1 := Lib.hid (HJ0.out.s13 false)
        have HX01 := HJ0.out.n [(13, .bool false)]
        simp only [sets] at HX01
        have HX1 := Lib.hid (HX0.out.trans HX01)
        have HXC := Lib.hid (xkeep HX01 HXB.out HTX.out)
        have c13 := HJ0.out.c13
        rw [HPO.out] at c13
        have hz := HJ0.out.z
        have x0 := blk_cell HXB.out 0
        have x1 := blk_cell HXB.out 1
        simp only [List.getElem?_toArray, List.getElem?_cons_zero, List.getElem?_cons_succ] at x0 x1
        clear HX01
        go_enter Try.func62, Try.ntmps62
        go_upto_region 1 with fail
        generalize w.alloc (.cells #[.int .i64 1, .int .u8 b] 33) = w0 at HJ0 HX0 HXB HX1 HJ1 HXC c13 hz x0 x1 ⊢
        generalize w.heap.size = xb at HXB HTX HXC x0 x1 ⊢
        go_upto_region 3 with fail
        generalize hw1 : World.setCell _ ⟨p, 13, none⟩ _ = w1 at HJ1 HX1 HXC ⊢
        clear hw1 c13 hz x0 x1 HJ0 HX0 HXB
        have c10 := HJ1.out.c10
        have c14 := HJ1.out.c14
        change w1.cell? ⟨p, 10, none⟩ = some (.int .i64 s.op) at c10
        change w1.cell? ⟨p, 14, none⟩ = some (.bool s.busy) at c14
        rw [HOP.out] at c10
        rw [HBU.out] at c14
        have x0 := blk_cell HXC.out 0
        have x1 := blk_cell HXC.out 1
        simp only [List.getElem?_toArray, List.getElem?_cons_zero, List.getElem?_cons_succ] at x0 x1
        go_wp2_with fail
        go_ret
        exact ⟨by rw [HE.out]; rfl, _, ⟨_, by rw [HE.out]; exact HJ1.out⟩, HX1.out⟩
      have o0 := beq_f h0
      cases bu with
      | true =>
        have HE := Lib.hid (show takesR g s 1 b = ({ s with polls := false }, false) from by unfold takesR; simp [HPO.out, HOP.out, HBU.out, h0, h255, h112])
        clear h0
        have HJ1 := Lib.hid (HJ0.out.s13 false)
        have HX01 := HJ0.out.n [(13, .bool false)]
        simp only [sets] at HX01
        have HX1 := Lib.hid (HX0.out.trans HX01)
        have HXC := Lib.hid (xkeep HX01 HXB.out HTX.out)
        have c13 := HJ0.out.c13
        rw [HPO.out] at c13
        have hz := HJ0.out.z
        have x0 := blk_cell HXB.out 0
        have x1 := blk_cell HXB.out 1
        simp only [List.getElem?_toArray, List.getElem?_cons_zero, List.getElem?_cons_succ] at x0 x1
        clear HX01
        go_enter Try.func62, Try.ntmps62
        go_upto_region 1 with fail
        generalize w.alloc (.cells #[.int .i64 1, .int .u8 b] 33) = w0 at HJ0 HX0 HXB HX1 HJ1 HXC c13 hz x0 x1 ⊢
        generalize w.heap.size = xb at HXB HTX HXC x0 x1 ⊢
        go_upto_region 3 with fail
        generalize hw1 : World.setCell _ ⟨p, 13, none⟩ _ = w1 at HJ1 HX1 HXC ⊢
        clear hw1 c13 hz x0 x1 HJ0 HX0 HXB
        have c10 := HJ1.out.c10
        have c14 := HJ1.out.c14
        change w1.cell? ⟨p, 10, none⟩ = some (.int .i64 s.op) at c10
        change w1.cell? ⟨p, 14, none⟩ = some (.bool s.busy) at c14
        rw [HOP.out] at c10
        rw [HBU.out] at c14
        have x0 := blk_cell HXC.out 0
        have x1 := blk_cell HXC.out 1
        simp only [List.getElem?_toArray, List.getElem?_cons_zero, List.getElem?_cons_succ] at x0 x1
        go_wp2_with fail
        go_ret
        exact ⟨by rw [HE.out]; rfl, _, ⟨_, by rw [HE.out]; exact HJ1.out⟩, HX1.out⟩
      | false =>
        have HE := Lib.hid (show takesR g s 1 b = commandR g { s with polls := false } b from by unfold takesR; simp [HPO.out, HOP.out, HBU.out, h0, h255, h112, n112])
        clear h0 h255 h112
        have HJ1 := Lib.hid (HJ0.out.s13 false)
        have HX01 := HJ0.out.n [(13, .bool false)]
        simp only [sets] at HX01
        have HX1 := Lib.hid (HX0.out.trans HX01)
        have HXC := Lib.hid (xkeep HX01 HXB.out HTX.out)
        have c13 := HJ0.out.c13
        rw [HPO.out] at c13
        have hz := HJ0.out.z
        have x0 := blk_cell HXB.out 0
        have x1 := blk_cell HXB.out 1
        simp only [List.getElem?_toArray, List.getElem?_cons_zero, List.getElem?_cons_succ] at x0 x1
        clear HX01
        go_enter Try.func62, Try.ntmps62
        go_upto_region 1 with fail
        generalize w.alloc (.cells #[.int .i64 1, .int .u8 b] 33) = w0 at HJ0 HX0 HXB HX1 HJ1 HXC c13 hz x0 x1 ⊢
        generalize w.heap.size = xb at HXB HTX HXC x0 x1 ⊢
        go_upto_region 3 with fail
        generalize hw1 : World.setCell _ ⟨p, 13, none⟩ _ = w1 at HJ1 HX1 HXC ⊢
        clear hw1 c13 hz x0 x1 HJ0 HX0 HXB
        have c10 := HJ1.out.c10
        have c14 := HJ1.out.c14
        change w1.cell? ⟨p, 10, none⟩ = some (.int .i64 s.op) at c10
        change w1.cell? ⟨p, 14, none⟩ = some (.bool s.busy) at c14
        rw [HOP.out] at c10
        rw [HBU.out] at c14
        have x0 := blk_cell HXC.out 0
        have x1 := blk_cell HXC.out 1
        simp only [List.getElem?_toArray, List.getElem?_cons_zero, List.getElem?_cons_succ] at x0 x1
        have HD := Lib.hid (rcommand_ok b (HW.out.polls false) HJ1.out)
        go_wp2_with (go_at_call 97; refine (HD.out).mono ?_; rintro e w2 ⟨rfl, t2, hj2, hn2⟩; have HJ2 := Lib.hid hj2; have HX2 := Lib.hid (HX1.out.trans hn2); clear hj2 hn2)
        go_ret
        exact ⟨by rw [HE.out]; rfl, t2, by rw [HE.out]; exact HJ2.out, HX2.out⟩
  · cases po0
    all_goals
      by_cases h0 : op = 0
      · subst h0
        have HE := Lib.hid (show takesR g s 2 b = ({ s with polls := false }, false) from by unfold takesR; simp [HPO.out, HOP.out, HBU.out])
        have HJ1 := Lib.hid (HJ0.out.s13 false)
        have HX01 := HJ0.out.n [(13, .bool false)]
        simp only [sets] at HX01
        have HX1 := Lib.hid (HX0.out.trans HX01)
        have HXC := Lib.hid (xkeep HX01 HXB.out HTX.out)
        have c13 := HJ0.out.c13
        rw [HPO.out] at c13
        have hz := HJ0.out.z
        have x0 := blk_cell HXB.out 0
        have x1 := blk_cell HXB.out 1
        simp only [List.getElem?_toArray, List.getElem?_cons_zero, List.getElem?_cons_succ] at x0 x1
        clear HX01
        go_enter Try.func62, Try.ntmps62
        go_upto_region 1 with fail
        generalize w.alloc (.cells #[.int .i64 2, .int .u8 b] 33) = w0 at HJ0 HX0 HXB HX1 HJ1 HXC c13 hz x0 x1 ⊢
        generalize w.heap.size = xb at HXB HTX HXC x0 x1 ⊢
        go_upto_region 3 with fail
        generalize hw1 : World.setCell _ ⟨p, 13, none⟩ _ = w1 at HJ1 HX1 HXC ⊢
        clear hw1 c13 hz x0 x1 HJ0 HX0 HXB
        have c10 := HJ1.out.c10
        have c14 := HJ1.out.c14
        change w1.cell? ⟨p, 10, none⟩ = some (.int .i64 s.op) at c10
        change w1.cell? ⟨p, 14, none⟩ = some (.bool s.busy) at c14
        rw [HOP.out] at c10
        rw [HBU.out] at c14
        have x0 := blk_cell HXC.out 0
        have x1 := blk_cell HXC.out 1
        simp only [List.getElem?_toArray, List.getElem?_cons_zero, List.getElem?_cons_succ] at x0 x1
        go_wp2_with fail
        go_ret
        exact ⟨by rw [HE.out]; rfl, _, ⟨_, by rw [HE.out]; exact HJ1.out⟩, HX1.out⟩
      have o0 := beq_f h0
      cases bu with
      | true =>
        have HE := Lib.hid (show takesR g s 2 b = ({ s with polls := false }, false) from by unfold takesR; simp [HPO.out, HOP.out, HBU.out, h0])
        clear h0
        have HJ1 := Lib.hid (HJ0.out.s13 false)
        have HX01 := HJ0.out.n [(13, .bool false)]
        simp only [sets] at HX01
        have HX1 := Lib.hid (HX0.out.trans HX01)
        have HXC := Lib.hid (xkeep HX01 HXB.out HTX.out)
        have c13 := HJ0.out.c13
        rw [HPO.out] at c13
        have hz := HJ0.out.z
        have x0 := blk_cell HXB.out 0
        have x1 := blk_cell HXB.out 1
        simp only [List.getElem?_toArray, List.getElem?_cons_zero, List.getElem?_cons_succ] at x0 x1
        clear HX01
        go_enter Try.func62, Try.ntmps62
        go_upto_region 1 with fail
        generalize w.alloc (.cells #[.int .i64 2, .int .u8 b] 33) = w0 at HJ0 HX0 HXB HX1 HJ1 HXC c13 hz x0 x1 ⊢
        generalize w.heap.size = xb at HXB HTX HXC x0 x1 ⊢
        go_upto_region 3 with fail
        generalize hw1 : World.setCell _ ⟨p, 13, none⟩ _ = w1 at HJ1 HX1 HXC ⊢
        clear hw1 c13 hz x0 x1 HJ0 HX0 HXB
        have c10 := HJ1.out.c10
        have c14 := HJ1.out.c14
        change w1.cell? ⟨p, 10, none⟩ = some (.int .i64 s.op) at c10
        change w1.cell? ⟨p, 14, none⟩ = some (.bool s.busy) at c14
        rw [HOP.out] at c10
        rw [HBU.out] at c14
        have x0 := blk_cell HXC.out 0
        have x1 := blk_cell HXC.out 1
        simp only [List.getElem?_toArray, List.getElem?_cons_zero, List.getElem?_cons_succ] at x0 x1
        go_wp2_with fail
        go_ret
        exact ⟨by rw [HE.out]; rfl, _, ⟨_, by rw [HE.out]; exact HJ1.out⟩, HX1.out⟩
      | false =>
        have HE := Lib.hid (show takesR g s 2 b = addressR g { s with polls := false } b from by unfold takesR; simp [HPO.out, HOP.out, HBU.out, h0])
        clear h0
        have HJ1 := Lib.hid (HJ0.out.s13 false)
        have HX01 := HJ0.out.n [(13, .bool false)]
        simp only [sets] at HX01
        have HX1 := Lib.hid (HX0.out.trans HX01)
        have HXC := Lib.hid (xkeep HX01 HXB.out HTX.out)
        have c13 := HJ0.out.c13
        rw [HPO.out] at c13
        have hz := HJ0.out.z
        have x0 := blk_cell HXB.out 0
        have x1 := blk_cell HXB.out 1
        simp only [List.getElem?_toArray, List.getElem?_cons_zero, List.getElem?_cons_succ] at x0 x1
        clear HX01
        go_enter Try.func62, Try.ntmps62
        go_upto_region 1 with fail
        generalize w.alloc (.cells #[.int .i64 2, .int .u8 b] 33) = w0 at HJ0 HX0 HXB HX1 HJ1 HXC c13 hz x0 x1 ⊢
        generalize w.heap.size = xb at HXB HTX HXC x0 x1 ⊢
        go_upto_region 3 with fail
        generalize hw1 : World.setCell _ ⟨p, 13, none⟩ _ = w1 at HJ1 HX1 HXC ⊢
        clear hw1 c13 hz x0 x1 HJ0 HX0 HXB
        have c10 := HJ1.out.c10
        have c14 := HJ1.out.c14
        change w1.cell? ⟨p, 10, none⟩ = some (.int .i64 s.op) at c10
        change w1.cell? ⟨p, 14, none⟩ = some (.bool s.busy) at c14
        rw [HOP.out] at c10
        rw [HBU.out] at c14
        have x0 := blk_cell HXC.out 0
        have x1 := blk_cell HXC.out 1
        simp only [List.getElem?_toArray, List.getElem?_cons_zero, List.getElem?_cons_succ] at x0 x1
        have HD := Lib.hid (raddress_ok b HBB.out (HW.out.polls false) HJ1.out)
        go_wp2_with (go_at_call 98; refine (HD.out).mono ?_; rintro e w2 ⟨rfl, t2, hj2, hn2⟩; have HJ2 := Lib.hid hj2; have HX2 := Lib.hid (HX1.out.trans hn2); clear hj2 hn2)
        go_ret
        exact ⟨by rw [HE.out]; rfl, t2, by rw [HE.out]; exact HJ2.out, HX2.out⟩
  · cases po0
    all_goals
      by_cases h0 : op = 0
      · subst h0
        have HE := Lib.hid (show takesR g s 3 b = ({ s with polls := false }, false) from by unfold takesR; simp [HPO.out, HOP.out, HBU.out])
        have HJ1 := Lib.hid (HJ0.out.s13 false)
        have HX01 := HJ0.out.n [(13, .bool false)]
        simp only [sets] at HX01
        have HX1 := Lib.hid (HX0.out.trans HX01)
        have HXC := Lib.hid (xkeep HX01 HXB.out HTX.out)
        have c13 := HJ0.out.c13
        rw [HPO.out] at c13
        have hz := HJ0.out.z
        have x0 := blk_cell HXB.out 0
        have x1 := blk_cell HXB.out 1
        simp only [List.getElem?_toArray, List.getElem?_cons_zero, List.getElem?_cons_succ] at x0 x1
        clear HX01
        go_enter Try.func62, Try.ntmps62
        go_upto_region 1 with fail
        generalize w.alloc (.cells #[.int .i64 3, .int .u8 b] 33) = w0 at HJ0 HX0 HXB HX1 HJ1 HXC c13 hz x0 x1 ⊢
        generalize w.heap.size = xb at HXB HTX HXC x0 x1 ⊢
        go_upto_region 3 with fail
        generalize hw1 : World.setCell _ ⟨p, 13, none⟩ _ = w1 at HJ1 HX1 HXC ⊢
        clear hw1 c13 hz x0 x1 HJ0 HX0 HXB
        have c10 := HJ1.out.c10
        have c14 := HJ1.out.c14
        change w1.cell? ⟨p, 10, none⟩ = some (.int .i64 s.op) at c10
        change w1.cell? ⟨p, 14, none⟩ = some (.bool s.busy) at c14
        rw [HOP.out] at c10
        rw [HBU.out] at c14
        have x0 := blk_cell HXC.out 0
        have x1 := blk_cell HXC.out 1
        simp only [List.getElem?_toArray, List.getElem?_cons_zero, List.getElem?_cons_succ] at x0 x1
        go_wp2_with fail
        go_ret
        exact ⟨by rw [HE.out]; rfl, _, ⟨_, by rw [HE.out]; exact HJ1.out⟩, HX1.out⟩
      have o0 := beq_f h0
      cases bu with
      | true =>
        have HE := Lib.hid (show takesR g s 3 b = ({ s with polls := false }, false) from by unfold takesR; simp [HPO.out, HOP.out, HBU.out, h0])
        clear h0
        have HJ1 := Lib.hid (HJ0.out.s13 false)
        have HX01 := HJ0.out.n [(13, .bool false)]
        simp only [sets] at HX01
        have HX1 := Lib.hid (HX0.out.trans HX01)
        have HXC := Lib.hid (xkeep HX01 HXB.out HTX.out)
        have c13 := HJ0.out.c13
        rw [HPO.out] at c13
        have hz := HJ0.out.z
        have x0 := blk_cell HXB.out 0
        have x1 := blk_cell HXB.out 1
        simp only [List.getElem?_toArray, List.getElem?_cons_zero, List.getElem?_cons_succ] at x0 x1
        clear HX01
        go_enter Try.func62, Try.ntmps62
        go_upto_region 1 with fail
        generalize w.alloc (.cells #[.int .i64 3, .int .u8 b] 33) = w0 at HJ0 HX0 HXB HX1 HJ1 HXC c13 hz x0 x1 ⊢
        generalize w.heap.size = xb at HXB HTX HXC x0 x1 ⊢
        go_upto_region 3 with fail
        generalize hw1 : World.setCell _ ⟨p, 13, none⟩ _ = w1 at HJ1 HX1 HXC ⊢
        clear hw1 c13 hz x0 x1 HJ0 HX0 HXB
        have c10 := HJ1.out.c10
        have c14 := HJ1.out.c14
        change w1.cell? ⟨p, 10, none⟩ = some (.int .i64 s.op) at c10
        change w1.cell? ⟨p, 14, none⟩ = some (.bool s.busy) at c14
        rw [HOP.out] at c10
        rw [HBU.out] at c14
        have x0 := blk_cell HXC.out 0
        have x1 := blk_cell HXC.out 1
        simp only [List.getElem?_toArray, List.getElem?_cons_zero, List.getElem?_cons_succ] at x0 x1
        go_wp2_with fail
        go_ret
        exact ⟨by rw [HE.out]; rfl, _, ⟨_, by rw [HE.out]; exact HJ1.out⟩, HX1.out⟩
      | false =>
        have HE := Lib.hid (show takesR g s 3 b = writeR g { s with polls := false } from by unfold takesR; simp [HPO.out, HOP.out, HBU.out, h0])
        clear h0
        have HJ1 := Lib.hid (HJ0.out.s13 false)
        have HX01 := HJ0.out.n [(13, .bool false)]
        simp only [sets] at HX01
        have HX1 := Lib.hid (HX0.out.trans HX01)
        have HXC := Lib.hid (xkeep HX01 HXB.out HTX.out)
        have c13 := HJ0.out.c13
        rw [HPO.out] at c13
        have hz := HJ0.out.z
        have x0 := blk_cell HXB.out 0
        have x1 := blk_cell HXB.out 1
        simp only [List.getElem?_toArray, List.getElem?_cons_zero, List.getElem?_cons_succ] at x0 x1
        clear HX01
        go_enter Try.func62, Try.ntmps62
        go_upto_region 1 with fail
        generalize w.alloc (.cells #[.int .i64 3, .int .u8 b] 33) = w0 at HJ0 HX0 HXB HX1 HJ1 HXC c13 hz x0 x1 ⊢
        generalize w.heap.size = xb at HXB HTX HXC x0 x1 ⊢
        go_upto_region 3 with fail
        generalize hw1 : World.setCell _ ⟨p, 13, none⟩ _ = w1 at HJ1 HX1 HXC ⊢
        clear hw1 c13 hz x0 x1 HJ0 HX0 HXB
        have c10 := HJ1.out.c10
        have c14 := HJ1.out.c14
        change w1.cell? ⟨p, 10, none⟩ = some (.int .i64 s.op) at c10
        change w1.cell? ⟨p, 14, none⟩ = some (.bool s.busy) at c14
        rw [HOP.out] at c10
        rw [HBU.out] at c14
        have x0 := blk_cell HXC.out 0
        have x1 := blk_cell HXC.out 1
        simp only [List.getElem?_toArray, List.getElem?_cons_zero, List.getElem?_cons_succ] at x0 x1
        have HD := Lib.hid (rwrite_ok (HW.out.polls false) HJ1.out)
        go_wp2_with (go_at_call 99; refine (HD.out).mono ?_; rintro e w2 ⟨rfl, t2, hj2, hn2⟩; have HJ2 := Lib.hid hj2; have HX2 := Lib.hid (HX1.out.trans hn2); clear hj2 hn2)
        go_ret
        exact ⟨by rw [HE.out]; rfl, t2, by rw [HE.out]; exact HJ2.out, HX2.out⟩
  · cases po0 with
    | true =>
      by_cases h0 : op = 0
      · subst h0
        have HE := Lib.hid (show takesR g s 4 b = ({ s with polls := true }, false) from by unfold takesR; simp [HPO.out, HOP.out, HBU.out])
        have HJ1 := Lib.hid (HJ0.out.s13 true)
        have HX01 := HJ0.out.n [(13, .bool true)]
        simp only [sets] at HX01
        have HX1 := Lib.hid (HX0.out.trans HX01)
        have HXC := Lib.hid (xkeep HX01 HXB.out HTX.out)
        have c13 := HJ0.out.c13
        rw [HPO.out] at c13
        have hz := HJ0.out.z
        have x0 := blk_cell HXB.out 0
        have x1 := blk_cell HXB.out 1
        simp only [List.getElem?_toArray, List.getElem?_cons_zero, List.getElem?_cons_succ] at x0 x1
        clear HX01
        go_enter Try.func62, Try.ntmps62
        go_upto_region 1 with fail
        generalize w.alloc (.cells #[.int .i64 4, .int .u8 b] 33) = w0 at HJ0 HX0 HXB HX1 HJ1 HXC c13 hz x0 x1 ⊢
        generalize w.heap.size = xb at HXB HTX HXC x0 x1 ⊢
        go_upto_region 3 with fail
        generalize hw1 : World.setCell _ ⟨p, 13, none⟩ _ = w1 at HJ1 HX1 HXC ⊢
        clear hw1 c13 hz x0 x1 HJ0 HX0 HXB
        have c10 := HJ1.out.c10
        have c14 := HJ1.out.c14
        change w1.cell? ⟨p, 10, none⟩ = some (.int .i64 s.op) at c10
        change w1.cell? ⟨p, 14, none⟩ = some (.bool s.busy) at c14
        rw [HOP.out] at c10
        rw [HBU.out] at c14
        have x0 := blk_cell HXC.out 0
        have x1 := blk_cell HXC.out 1
        simp only [List.getElem?_toArray, List.getElem?_cons_zero, List.getElem?_cons_succ] at x0 x1
        go_wp2_with fail
        go_ret
        exact ⟨by rw [HE.out]; rfl, _, ⟨_, by rw [HE.out]; exact HJ1.out⟩, HX1.out⟩
      have o0 := beq_f h0
      have HE := Lib.hid (show takesR g s 4 b = (pollR { s with polls := true } b, true) from by unfold takesR; simp [HPO.out, HOP.out, HBU.out, h0])
      clear h0
      have HJ1 := Lib.hid (HJ0.out.s13 true)
      have HX01 := HJ0.out.n [(13, .bool true)]
      simp only [sets] at HX01
      have HX1 := Lib.hid (HX0.out.trans HX01)
      have HXC := Lib.hid (xkeep HX01 HXB.out HTX.out)
      have c13 := HJ0.out.c13
      rw [HPO.out] at c13
      have hz := HJ0.out.z
      have x0 := blk_cell HXB.out 0
      have x1 := blk_cell HXB.out 1
      simp only [List.getElem?_toArray, List.getElem?_cons_zero, List.getElem?_cons_succ] at x0 x1
      clear HX01
      go_enter Try.func62, Try.ntmps62
      go_upto_region 1 with fail
      generalize w.alloc (.cells #[.int .i64 4, .int .u8 b] 33) = w0 at HJ0 HX0 HXB HX1 HJ1 HXC c13 hz x0 x1 ⊢
      generalize w.heap.size = xb at HXB HTX HXC x0 x1 ⊢
      go_upto_region 3 with fail
      generalize hw1 : World.setCell _ ⟨p, 13, none⟩ _ = w1 at HJ1 HX1 HXC ⊢
      clear hw1 c13 hz x0 x1 HJ0 HX0 HXB
      have c10 := HJ1.out.c10
      have c14 := HJ1.out.c14
      change w1.cell? ⟨p, 10, none⟩ = some (.int .i64 s.op) at c10
      change w1.cell? ⟨p, 14, none⟩ = some (.bool s.busy) at c14
      rw [HOP.out] at c10
      rw [HBU.out] at c14
      have x0 := blk_cell HXC.out 0
      have x1 := blk_cell HXC.out 1
      simp only [List.getElem?_toArray, List.getElem?_cons_zero, List.getElem?_cons_succ] at x0 x1
      have HR := Lib.hid (rpoll_ok b HBB.out HJ1.out ((HW.out.polls true).ine))
      go_wp2_with (go_at_call 96; refine (HR.out).mono ?_; rintro e w2 ⟨rfl, ⟨H2, hj2⟩, hn2⟩; have HJ2 := Lib.hid hj2; have HX2 := Lib.hid (HX1.out.trans hn2); clear hj2 hn2)
      go_ret
      exact ⟨by rw [HE.out]; rfl, _, ⟨_, by rw [HE.out]; exact HJ2.out⟩, HX2.out⟩
    | false =>
      by_cases h0 : op = 0
      · subst h0
        have HE := Lib.hid (show takesR g s 4 b = ({ s with polls := false }, false) from by unfold takesR; simp [HPO.out, HOP.out, HBU.out])
        have HJ1 := Lib.hid (HJ0.out.s13 false)
        have HX01 := HJ0.out.n [(13, .bool false)]
        simp only [sets] at HX01
        have HX1 := Lib.hid (HX0.out.trans HX01)
        have HXC := Lib.hid (xkeep HX01 HXB.out HTX.out)
        have c13 := HJ0.out.c13
        rw [HPO.out] at c13
        have hz := HJ0.out.z
        have x0 := blk_cell HXB.out 0
        have x1 := blk_cell HXB.out 1
        simp only [List.getElem?_toArray, List.getElem?_cons_zero, List.getElem?_cons_succ] at x0 x1
        clear HX01
        go_enter Try.func62, Try.ntmps62
        go_upto_region 1 with fail
        generalize w.alloc (.cells #[.int .i64 4, .int .u8 b] 33) = w0 at HJ0 HX0 HXB HX1 HJ1 HXC c13 hz x0 x1 ⊢
        generalize w.heap.size = xb at HXB HTX HXC x0 x1 ⊢
        go_upto_region 3 with fail
        generalize hw1 : World.setCell _ ⟨p, 13, none⟩ _ = w1 at HJ1 HX1 HXC ⊢
        clear hw1 c13 hz x0 x1 HJ0 HX0 HXB
        have c10 := HJ1.out.c10
        have c14 := HJ1.out.c14
        change w1.cell? ⟨p, 10, none⟩ = some (.int .i64 s.op) at c10
        change w1.cell? ⟨p, 14, none⟩ = some (.bool s.busy) at c14
        rw [HOP.out] at c10
        rw [HBU.out] at c14
        have x0 := blk_cell HXC.out 0
        have x1 := blk_cell HXC.out 1
        simp only [List.getElem?_toArray, List.getElem?_cons_zero, List.getElem?_cons_succ] at x0 x1
        go_wp2_with fail
        go_ret
        exact ⟨by rw [HE.out]; rfl, _, ⟨_, by rw [HE.out]; exact HJ1.out⟩, HX1.out⟩
      have o0 := beq_f h0
      cases bu with
      | true =>
        have HE := Lib.hid (show takesR g s 4 b = ({ s with polls := false }, false) from by unfold takesR; simp [HPO.out, HOP.out, HBU.out, h0])
        clear h0
        have HJ1 := Lib.hid (HJ0.out.s13 false)
        have HX01 := HJ0.out.n [(13, .bool false)]
        simp only [sets] at HX01
        have HX1 := Lib.hid (HX0.out.trans HX01)
        have HXC := Lib.hid (xkeep HX01 HXB.out HTX.out)
        have c13 := HJ0.out.c13
        rw [HPO.out] at c13
        have hz := HJ0.out.z
        have x0 := blk_cell HXB.out 0
        have x1 := blk_cell HXB.out 1
        simp only [List.getElem?_toArray, List.getElem?_cons_zero, List.getElem?_cons_succ] at x0 x1
        clear HX01
        go_enter Try.func62, Try.ntmps62
        go_upto_region 1 with fail
        generalize w.alloc (.cells #[.int .i64 4, .int .u8 b] 33) = w0 at HJ0 HX0 HXB HX1 HJ1 HXC c13 hz x0 x1 ⊢
        generalize w.heap.size = xb at HXB HTX HXC x0 x1 ⊢
        go_upto_region 3 with fail
        generalize hw1 : World.setCell _ ⟨p, 13, none⟩ _ = w1 at HJ1 HX1 HXC ⊢
        clear hw1 c13 hz x0 x1 HJ0 HX0 HXB
        have c10 := HJ1.out.c10
        have c14 := HJ1.out.c14
        change w1.cell? ⟨p, 10, none⟩ = some (.int .i64 s.op) at c10
        change w1.cell? ⟨p, 14, none⟩ = some (.bool s.busy) at c14
        rw [HOP.out] at c10
        rw [HBU.out] at c14
        have x0 := blk_cell HXC.out 0
        have x1 := blk_cell HXC.out 1
        simp only [List.getElem?_toArray, List.getElem?_cons_zero, List.getElem?_cons_succ] at x0 x1
        go_wp2_with fail
        go_ret
        exact ⟨by rw [HE.out]; rfl, _, ⟨_, by rw [HE.out]; exact HJ1.out⟩, HX1.out⟩
      | false =>
        have HE := Lib.hid (show takesR g s 4 b = readR g { s with polls := false } from by unfold takesR; simp [HPO.out, HOP.out, HBU.out, h0])
        clear h0
        have HJ1 := Lib.hid (HJ0.out.s13 false)
        have HX01 := HJ0.out.n [(13, .bool false)]
        simp only [sets] at HX01
        have HX1 := Lib.hid (HX0.out.trans HX01)
        have HXC := Lib.hid (xkeep HX01 HXB.out HTX.out)
        have c13 := HJ0.out.c13
        rw [HPO.out] at c13
        have hz := HJ0.out.z
        have x0 := blk_cell HXB.out 0
        have x1 := blk_cell HXB.out 1
        simp only [List.getElem?_toArray, List.getElem?_cons_zero, List.getElem?_cons_succ] at x0 x1
        clear HX01
        go_enter Try.func62, Try.ntmps62
        go_upto_region 1 with fail
        generalize w.alloc (.cells #[.int .i64 4, .int .u8 b] 33) = w0 at HJ0 HX0 HXB HX1 HJ1 HXC c13 hz x0 x1 ⊢
        generalize w.heap.size = xb at HXB HTX HXC x0 x1 ⊢
        go_upto_region 3 with fail
        generalize hw1 : World.setCell _ ⟨p, 13, none⟩ _ = w1 at HJ1 HX1 HXC ⊢
        clear hw1 c13 hz x0 x1 HJ0 HX0 HXB
        have c10 := HJ1.out.c10
        have c14 := HJ1.out.c14
        change w1.cell? ⟨p, 10, none⟩ = some (.int .i64 s.op) at c10
        change w1.cell? ⟨p, 14, none⟩ = some (.bool s.busy) at c14
        rw [HOP.out] at c10
        rw [HBU.out] at c14
        have x0 := blk_cell HXC.out 0
        have x1 := blk_cell HXC.out 1
        simp only [List.getElem?_toArray, List.getElem?_cons_zero, List.getElem?_cons_succ] at x0 x1
        have HD := Lib.hid (rread_ok (HW.out.polls false) HJ1.out)
        go_wp2_with (go_at_call 100; refine (HD.out).mono ?_; rintro e w2 ⟨rfl, t2, hj2, hn2⟩; have HJ2 := Lib.hid hj2; have HX2 := Lib.hid (HX1.out.trans hn2); clear hj2 hn2)
        go_ret
        exact ⟨by rw [HE.out]; rfl, t2, by rw [HE.out]; exact HJ2.out, HX2.out⟩
  · have q1 := beq_f n1
    have q2 := beq_f n2
    have q3 := beq_f n3
    have q4 := beq_f n4
    cases po0
    all_goals
      by_cases h0 : op = 0
      · subst h0
        have HE := Lib.hid (show takesR g s k b = ({ s with polls := false }, false) from by unfold takesR; simp [HPO.out, HOP.out, HBU.out, n1, n2, n3, n4])
        have HJ1 := Lib.hid (HJ0.out.s13 false)
        have HX01 := HJ0.out.n [(13, .bool false)]
        simp only [sets] at HX01
        have HX1 := Lib.hid (HX0.out.trans HX01)
        have HXC := Lib.hid (xkeep HX01 HXB.out HTX.out)
        have c13 := HJ0.out.c13
        rw [HPO.out] at c13
        have hz := HJ0.out.z
        have x0 := blk_cell HXB.out 0
        have x1 := blk_cell HXB.out 1
        simp only [List.getElem?_toArray, List.getElem?_cons_zero, List.getElem?_cons_succ] at x0 x1
        clear HX01
        go_enter Try.func62, Try.ntmps62
        go_upto_region 1 with fail
        generalize w.alloc (.cells #[.int .i64 k, .int .u8 b] 33) = w0 at HJ0 HX0 HXB HX1 HJ1 HXC c13 hz x0 x1 ⊢
        generalize w.heap.size = xb at HXB HTX HXC x0 x1 ⊢
        go_upto_region 3 with fail
        generalize hw1 : World.setCell _ ⟨p, 13, none⟩ _ = w1 at HJ1 HX1 HXC ⊢
        clear hw1 c13 hz x0 x1 HJ0 HX0 HXB
        have c10 := HJ1.out.c10
        have c14 := HJ1.out.c14
        change w1.cell? ⟨p, 10, none⟩ = some (.int .i64 s.op) at c10
        change w1.cell? ⟨p, 14, none⟩ = some (.bool s.busy) at c14
        rw [HOP.out] at c10
        rw [HBU.out] at c14
        have x0 := blk_cell HXC.out 0
        have x1 := blk_cell HXC.out 1
        simp only [List.getElem?_toArray, List.getElem?_cons_zero, List.getElem?_cons_succ] at x0 x1
        go_wp2_with fail
        go_ret
        exact ⟨by rw [HE.out]; rfl, _, ⟨_, by rw [HE.out]; exact HJ1.out⟩, HX1.out⟩
      have o0 := beq_f h0
      cases bu
      all_goals
        have HE := Lib.hid (show takesR g s k b = ({ s with polls := false }, false) from by unfold takesR; simp [HPO.out, HOP.out, HBU.out, h0, n1, n2, n3, n4])
        clear h0 n1 n2 n3 n4
        have HJ1 := Lib.hid (HJ0.out.s13 false)
        have HX01 := HJ0.out.n [(13, .bool false)]
        simp only [sets] at HX01
        have HX1 := Lib.hid (HX0.out.trans HX01)
        have HXC := Lib.hid (xkeep HX01 HXB.out HTX.out)
        have c13 := HJ0.out.c13
        rw [HPO.out] at c13
        have hz := HJ0.out.z
        have x0 := blk_cell HXB.out 0
        have x1 := blk_cell HXB.out 1
        simp only [List.getElem?_toArray, List.getElem?_cons_zero, List.getElem?_cons_succ] at x0 x1
        clear HX01
        go_enter Try.func62, Try.ntmps62
        go_upto_region 1 with fail
        generalize w.alloc (.cells #[.int .i64 k, .int .u8 b] 33) = w0 at HJ0 HX0 HXB HX1 HJ1 HXC c13 hz x0 x1 ⊢
        generalize w.heap.size = xb at HXB HTX HXC x0 x1 ⊢
        go_upto_region 3 with fail
        generalize hw1 : World.setCell _ ⟨p, 13, none⟩ _ = w1 at HJ1 HX1 HXC ⊢
        clear hw1 c13 hz x0 x1 HJ0 HX0 HXB
        have c10 := HJ1.out.c10
        have c14 := HJ1.out.c14
        change w1.cell? ⟨p, 10, none⟩ = some (.int .i64 s.op) at c10
        change w1.cell? ⟨p, 14, none⟩ = some (.bool s.busy) at c14
        rw [HOP.out] at c10
        rw [HBU.out] at c14
        have x0 := blk_cell HXC.out 0
        have x1 := blk_cell HXC.out 1
        simp only [List.getElem?_toArray, List.getElem?_cons_zero, List.getElem?_cons_succ] at x0 x1
        go_wp2_with fail
        go_ret
        exact ⟨by rw [HE.out]; rfl, _, ⟨_, by rw [HE.out]; exact HJ1.out⟩, HX1.out⟩
end
end Go.Proofs.Ytfmogmgdpamfgaa.Jd

namespace Go.Proofs.Ytfmogmgdpamfgaa.Jd
open Go.RowKit Go.Proofs.YtfmogmgdpamfgaaW.PrintWords Go.Proofs.YtfmogmgdpamfgaaW.PrintLast Go.Proofs.YtfmogmgdpamfgaaW.PrintMore
set_option linter.unusedVariables false
set_option linter.unusedSimpArgs false
theorem loadR_keep (g : Ge) (s : RS) (c : Int) : (loadR g s c).1.no = s.no := by
  unfold loadR
  simp only
  split
  · rfl
  · split
    · rfl
    · split
      · rfl
      · show (startR _).no = s.no
        unfold startR freeR
        simp only
        split <;> split <;> rfl
theorem eraseR_keep (g : Ge) (s : RS) (c : Int) : (eraseR g s c).1.no = s.no := by
  unfold eraseR
  simp only
  repeat' split
  all_goals rfl
theorem beginR_keep (s : RS) (c : Int) : (beginR s c).1.no = s.no := by
  unfold beginR
  simp only
  repeat' split
  all_goals rfl
theorem commandR_keep (g : Ge) (s : RS) (c : Int) : (commandR g s c).1.no = s.no := by
  unfold commandR
  simp only
  repeat' split
  all_goals first | rfl | exact loadR_keep _ _ _ | exact eraseR_keep _ _ _ | exact beginR_keep _ _
theorem addressR_keep (g : Ge) (s : RS) (c : Int) : (addressR g s c).1.no = s.no := by
  unfold addressR
  simp only
  repeat' split
  all_goals rfl
theorem writeR_keep (g : Ge) (s : RS) : (writeR g s).1.no = s.no := by
  unfold writeR
  simp only
  repeat' split
  all_goals rfl
theorem readR_keep (g : Ge) (s : RS) : (readR g s).1.no = s.no := by
  unfold readR
  simp only
  repeat' split
  all_goals rfl
theorem pollR_keep (s : RS) (b : Int) : (pollR s b).no = s.no := by
  unfold pollR
  simp only
  split
  · rfl
  · split <;> rfl
theorem takesR_keep (g : Ge) (s : RS) (k b : Int) : (takesR g s k b).1.no = s.no := by
  unfold takesR
  simp only
  split
  · rfl
  split
  · rfl
  split
  · split <;> rfl
  split
  · exact pollR_keep _ _
  split
  · rfl
  split
  · exact commandR_keep _ _ _
  split
  · exact addressR_keep _ _ _
  split
  · exact writeR_keep _ _
  split
  · exact readR_keep _ _
  · rfl
section
variable {w w' : World} {p : Nat} {g : Ge} {t t' : Nat → Nat} {s : RS} {H : HR}
set_option maxHeartbeats 8000000 in
set_option maxRecDepth 100000 in
theorem rstep_ok (k b : Int) (hb1 : 0 ≤ b ∧ b ≤ 255) (hw : s.no = false → Wr g s) (h : RAt w p g t s H) : Calls Try.prog 21 #[.pointer (some ⟨p, 0, none⟩), .agg #[.int .i64 k, .int .u8 b]] w (OutR p g t w (stepR g s k b)) := by
  have hab := alloc_below w (.cells #[.int .i64 k, .int .u8 b] 33)
  have HJ0 := Lib.hid (h.below hab)
  have HX0 := Lib.hid ((Nxt.refl w t).below hab)
  have HXB := Lib.hid (blk_new w (.cells #[.int .i64 k, .int .u8 b] 33))
  have c22 := HJ0.out.c22
  have x0 := blk_cell HXB.out 0
  have x1 := blk_cell HXB.out 1
  simp only [List.getElem?_toArray, List.getElem?_cons_zero, List.getElem?_cons_succ] at x0 x1
  clear hab h
  cases hno : s.no with
  | true =>
    rw [hno] at c22
    have HE := Lib.hid (show stepR g s k b = (s, false) from by unfold stepR; rw [hno]; rfl)
    clear hw hno
    go_enter Try.func21, Try.ntmps21
    go_upto_region 1 with fail
    generalize w.alloc (.cells #[.int .i64 k, .int .u8 b] 33) = w0 at HJ0 HX0 HXB c22 x0 x1 ⊢
    generalize w.heap.size = xb at HXB x0 x1 ⊢
    go_wp2_with fail
    go_ret
    exact ⟨by rw [HE.out]; rfl, _, ⟨_, by rw [HE.out]; exact HJ0.out⟩, HX0.out⟩
  | false =>
    rw [hno] at c22
    have HW := Lib.hid (hw hno)
    have HT := Lib.hid (rtakes_ok k b hb1 HW.out HJ0.out)
    have hkp := takesR_keep g s k b
    rw [hno] at hkp
    have HKP := Lib.hid hkp
    clear hkp hw
    cases hr : (takesR g s k b).2 with
    | true =>
      have HE := Lib.hid (show stepR g s k b = ((takesR g s k b).1, true) from by unfold stepR; rw [hno, hr]; rfl)
      have HR := Lib.hid hr
      clear hr hno
      go_enter Try.func21, Try.ntmps21
      go_upto_region 1 with fail
      generalize w.alloc (.cells #[.int .i64 k, .int .u8 b] 33) = w0 at HJ0 HX0 HXB HT c22 x0 x1 ⊢
      generalize w.heap.size = xb at HXB x0 x1 ⊢
      go_wp2_with (go_at_call 62; refine (HT.out).mono ?_; rintro e w2 ⟨rfl, t2, ⟨H2, hj2⟩, hn2⟩; have HJ2 := Lib.hid hj2; have HX2 := Lib.hid (HX0.out.trans hn2); rw [HR.out]; have c22 := hj2.c22; rw [HKP.out] at c22; clear hj2 hn2)
      go_ret
      exact ⟨by rw [HE.out]; rfl, _, ⟨_, by rw [HE.out]; exact HJ2.out⟩, HX2.out⟩
    | false =>
      have HE := Lib.hid (show stepR g s k b = ({ (takesR g s k b).1 with no := true }, false) from by unfold stepR; rw [hno, hr]; rfl)
      have HR := Lib.hid hr
      clear hr hno
      go_enter Try.func21, Try.ntmps21
      go_upto_region 1 with fail
      generalize w.alloc (.cells #[.int .i64 k, .int .u8 b] 33) = w0 at HJ0 HX0 HXB HT c22 x0 x1 ⊢
      generalize w.heap.size = xb at HXB x0 x1 ⊢
      go_wp2_with (go_at_call 62; refine (HT.out).mono ?_; rintro e w2 ⟨rfl, t2, ⟨H2, hj2⟩, hn2⟩; have HJ2 := Lib.hid (hj2.s22 true); have HX2 := Lib.hid ((HX0.out.trans hn2).trans (hj2.n [(22, .bool true)])); rw [HR.out]; have hz := hj2.z; have c22 := hj2.c22; rw [HKP.out] at c22; clear hj2 hn2)
      go_ret
      exact ⟨by rw [HE.out]; rfl, _, ⟨_, by rw [HE.out]; exact HJ2.out⟩, HX2.out⟩
end
end Go.Proofs.Ytfmogmgdpamfgaa.Jd

