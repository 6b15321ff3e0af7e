import Derived.Test.YtfmogmgdpamfgaaJw3
import Derived.Test.YtfmogmgdpamfgaaNu
import Derived.Test.YtfmogmgdpamfgaaJp0
namespace Go.Proofs.Ytfmogmgdpamfgaa.Jd
open Go.RowKit Go.Proofs.YtfmogmgdpamfgaaW.PrintWords Go.Proofs.YtfmogmgdpamfgaaW.PrintLast Go.Proofs.YtfmogmgdpamfgaaW.PrintMore
set_option linter.unusedVariables false
section
variable {w : World} {p : Nat} {g : Ge} {t : Nat → Nat} {s : JS} {gb : Nat} {hl hr he hd : Value}
def IsB (l : List Int) : Prop := ∀ x ∈ l, 0 ≤ x ∧ x ≤ 255
theorem IsB.at_ {l : List Int} (h : IsB l) (i : Nat) : 0 ≤ l.getD i 0 ∧ l.getD i 0 ≤ 255 := by
  by_cases hi : i < l.length
  · rw [List.getD_eq_getElem?_getD, List.getElem?_eq_getElem hi]
    exact h _ (List.getElem_mem hi)
  · rw [List.getD_eq_getElem?_getD, List.getElem?_eq_none (by omega)]
    exact ⟨by decide, by decide⟩
set_option maxHeartbeats 2000000 in
set_option maxRecDepth 100000 in
theorem number_ok (at_ : Nat) (h : JAt w p g t s gb hl hr he hd) (h4 : at_ + 2 ≤ s.listed.length) (hm : s.listed.length ≤ 1000) (hb : IsB s.listed) : Calls Try.prog 128 #[.pointer (some ⟨p, 0, none⟩), .int .i64 (at_ : Int)] w fun e w' => e = .returned (.int .i64 (num s.listed at_)) ∧ Below w.heap.size w w' := by
  obtain ⟨A, c, rfl, hc, hC⟩ := Kd.R_reads (Ob.rowAt h 1 rfl)
  obtain ⟨A', hs, hc2, hC2⟩ := mid_two A c s.listed at_ h4 hc
  have HN := Lib.hid (fun W hW => number2 (A := A') (c := c - at_) (hb.at_ at_) (hb.at_ (at_ + 1)) W (hC2 W (Kd.C_below hC hW)) hc2)
  have c9 := h.c9
  have e2 : IntKind.i64.wrap ((at_ : Int) + 2) = ((at_ + 2 : Nat) : Int) := by rw [IntWalk.i64_in _ (by omega)]; omega
  unfold num
  generalize s.listed.getD at_ 0 = x at HN ⊢
  generalize s.listed.getD (at_ + 1) 0 = y at HN ⊢
  generalize s.listed.length = n at *
  clear h hC hC2 hb hc hc2 h4 hm
  generalize at_ + 2 = q at *
  generalize (at_ : Int) = ai at *
  generalize c - at_ = cq at *
  go_enter Try.func128, Try.ntmps128
  go_wp2_with (go_at_call 152; refine (HN.out _ (Below.refl _ _)).mono ?_; rintro e w1 ⟨rfl, hb1⟩)
  go_ret
  exact ⟨rfl, hb1⟩
theorem progB_two (bs : List Blk) (b q : Nat) (hb : b < bs.length) : (bs.set b { bB bs b with la := (q : Int) }).set b { bB (bs.set b { bB bs b with la := (q : Int) }) b with pr := (bB (bs.set b { bB bs b with la := (q : Int) }) b).pr.set q (wrap64 ((bB (bs.set b { bB bs b with la := (q : Int) }) b).pr.getD q 0 + 1)) } = progB bs b q := by
  have e : bB (bs.set b { bB bs b with la := (q : Int) }) b = { bB bs b with la := (q : Int) } := by
    unfold bB
    rw [Int.toNat_natCast, List.getD_eq_getElem?_getD, List.getElem?_set, if_pos rfl, if_pos hb]
    rfl
  rw [e, List.set_set]
  rfl
set_option maxHeartbeats 2000000 in
set_option maxRecDepth 100000 in
theorem program_ok (b q : Nat) (h : JAt w p g t s gb hl hr he hd) (hb : b < s.blocks.length) (hq : q < (bB s.blocks b).pr.length) : Calls Try.prog 158 #[.pointer (some ⟨p, 0, none⟩), .int .i64 (b : Int), .int .i64 (q : Int)] w fun e w' => e = .returned (.tuple #[]) ∧ JAt w' p g t { s with blocks := progB s.blocks b q } gb hl hr he hd ∧ Nxt w w' t t := by
  obtain ⟨cur, hB⟩ := h.bat
  obtain ⟨v, d0, d1, d2, _, z0⟩ := hB.get b hb
  have c7 := h.c7
  have hJ1 := h.bset (x := .int .i64 (q : Int)) (by rw [List.length_set]) (hB.la b hb (q : Int))
  have hB1 := hB.la b hb (q : Int)
  have e1 : bB (s.blocks.set b { bB s.blocks b with la := (q : Int) }) b = { bB s.blocks b with la := (q : Int) } := by
    unfold bB
    rw [Int.toNat_natCast, List.getD_eq_getElem?_getD, List.getElem?_set, if_pos rfl, if_pos hb]
    rfl
  obtain ⟨gp, cap, x2, xq, zq, okp, _, hB2⟩ := hB1.prow b (by rw [List.length_set]; exact hb) q (by rw [e1]; exact hq)
  have hJ2 := (hJ1.1).pset (j := q) (x := .int .i64 (wrap64 ((bB (s.blocks.set b { bB s.blocks b with la := (q : Int) }) b).pr.getD q 0 + 1))) (by show _ = (s.blocks.set b _).length; rw [List.length_set, List.length_set]) okp (hB2 _)
  rw [progB_two s.blocks b q hb] at hJ2
  rw [e1] at x2 xq hJ2
  have c7b := hJ1.1.c7
  have HJ := Lib.hid hJ2.1
  have HN := Lib.hid (hJ1.2.trans hJ2.2)
  have hbn : (b : Int) < (s.blocks.length : Int) := by omega
  have hqn : (q : Int) < ((bB s.blocks b).pr.length : Int) := by omega
  simp only [List.length_set] at c7b
  generalize s.blocks.length = nb at *
  generalize (bB s.blocks b).pr.length = nq at *
  generalize (bB s.blocks b).pr.getD q 0 = xv at *
  clear h hJ1 hJ2 hB hB1 hB2 e1 d0 d2 hb hq okp
  go_enter Try.func158, Try.ntmps158
  go_upto_region 1 with fail
  generalize w.setCell ⟨gb, b * 3 + 1, none⟩ (.int .i64 (q : Int)) = w1 at *
  clear c7 d1 z0
  go_wp2_with fail
  go_end0
  exact ⟨rfl, HJ.out, HN.out⟩
end
end Go.Proofs.Ytfmogmgdpamfgaa.Jd

namespace Go.Proofs.Ytfmogmgdpamfgaa.Jd
open Go.RowKit Go.Proofs.YtfmogmgdpamfgaaW.PrintWords Go.Proofs.YtfmogmgdpamfgaaW.PrintLast Go.Proofs.YtfmogmgdpamfgaaW.PrintMore
set_option linter.unusedVariables false
section
variable {w : World} {p : Nat} {g : Ge} {t : Nat → Nat} {s : JS} {gb : Nat} {hl hr he hd : Value}
def Ge.v (g : Ge) : Value := .agg #[.int .i64 g.pl, .int .i64 g.bl, .int .i64 g.pg, .int .i64 g.ch, .int .i64 g.ck, .int .i64 g.ru, .int .i64 g.pa]
/-- Split, of a geometry that is right. -/
theorem gsplit_in {g : Ge} (hg : g.ok) {row : Int} (hin : inR g row = true) (w : World) : Calls Try.prog 59 #[g.v, .int .i64 row] w fun e w' => e = .returned (.tuple #[.int .i64 (row / g.pg), .int .i64 (row % g.pg), .bool true]) ∧ Below w.heap.size w w' :=
  split_ok hg ((inR_iff g row).1 hin).1 ((inR_iff g row).1 hin).2 w
theorem gsplit_out {g : Ge} (hg : g.ok) {row : Int} (hin : inR g row = false) (w : World) : Calls Try.prog 59 #[g.v, .int .i64 row] w fun e w' => e = .returned (.tuple #[.int .i64 0, .int .i64 0, .bool false]) ∧ Below w.heap.size w w' :=
  split_no2 hg (fun h => by rw [(inR_iff g row).2 h] at hin; cases hin) w
theorem graw {g : Ge} (hg : g.ok) (w : World) : Calls Try.prog 108 #[g.v] w fun e w' => e = .returned (.int .i64 g.raw) ∧ Below w.heap.size w w' := raw_ok hg w
/-- The blocks are as many as the geometry says, with their pages. -/
def Shape (g : Ge) (s : JS) : Prop := s.blocks.length = g.bl.toNat ∧ ∀ b ∈ s.blocks, b.pr.length = g.pg.toNat
theorem Shape.pr {g : Ge} {s : JS} (h : Shape g s) {b : Nat} (hb : b < s.blocks.length) : (bB s.blocks b).pr.length = g.pg.toNat := h.2 _ (List.mem_of_getElem? (bB_get hb))
theorem alloc_below (w : World) (o : Obj) : Below w.heap.size w (w.alloc o) := (Below.refl _ _).alloc (Nat.le_refl _) o
set_option maxHeartbeats 4000000 in
set_option maxRecDepth 100000 in
theorem can_ok (row : Int) (hg : g.ok) (hsh : Shape g s) (h : JAt w p g t s gb hl hr he hd) : Calls Try.prog 18 #[.pointer (some ⟨p, 0, none⟩), .int .i64 row] w fun e w' => e = .returned (.bool (canP g s row)) ∧ Below w.heap.size w w' := by
  have hnb : 0 < s.blocks.length := by rw [hsh.1]; have := hg.2.1.1; omega
  have HI := Lib.hid (is_ok h hnb)
  have c0 := h.c0
  have c1 := h.c1
  have c2 := h.c2
  have c3 := h.c3
  have c4 := h.c4
  have c5 := h.c5
  have c6 := h.c6
  cases hin : inR g row with
  | false =>
    have HS := Lib.hid (gsplit_out hg hin)
    rw [show canP g s row = false from by unfold canP; rw [hin]; rfl]
    clear h hsh hg hin hnb
    go_enter Try.func18, Try.ntmps18
    go_wp2_with (first | (go_at_call 57; refine (HI.out).mono ?_; rintro e w' ⟨rfl, rfl⟩) | (go_at_call 59; refine (HS.out _).mono ?_; rintro e w1 ⟨rfl, hb1⟩))
    go_ret
    exact ⟨rfl, hb1⟩
  | true =>
    have HS := Lib.hid (gsplit_in hg hin)
    obtain ⟨r1, r2, r3, r4, r5, r6⟩ := row_split hg ((inR_iff g row).1 hin).1 ((inR_iff g row).1 hin).2
    have hcan : canP g s row = ((bB s.blocks (row / g.pg)).er && decide ((bB s.blocks (row / g.pg)).la ≤ row % g.pg) && decide ((bB s.blocks (row / g.pg)).pr.getD (row % g.pg).toNat 0 < g.pa)) := by unfold canP; rw [hin]; rfl
    obtain ⟨r, hr⟩ : ∃ r, r = canP g s row := ⟨_, rfl⟩
    rw [← hr]
    rw [hcan] at hr
    obtain ⟨b, hb⟩ := Int.eq_ofNat_of_zero_le r4
    obtain ⟨q, hq⟩ := Int.eq_ofNat_of_zero_le r5
    rw [hb, hq] at HS hr
    rw [hb] at r1 r6
    rw [hq] at r2
    simp only [Int.toNat_natCast] at r1 r2
    have HRR : Hid (r = ((bB s.blocks (b : Int)).er && decide ((bB s.blocks (b : Int)).la ≤ (q : Int)) && decide ((bB s.blocks (b : Int)).pr.getD q 0 < g.pa))) := Lib.hid hr
    clear hr
    have hbl : b < s.blocks.length := by rw [hsh.1]; exact r1
    have hpl := hsh.pr hbl
    have hql : q < (bB s.blocks b).pr.length := by rw [hpl]; exact r2
    obtain ⟨cur, hB⟩ := h.bat
    have HJ := Lib.hid h
    have HBL := Lib.hid hbl
    have HQL := Lib.hid hql
    have hbn : (b : Int) < (s.blocks.length : Int) := by omega
    have hqn : (q : Int) < ((bB s.blocks b).pr.length : Int) := by omega
    clear hB hcan r1 r2 r3 r4 r5 r6 hpl hbl hql hb hq hnb hsh hg hin h
    go_enter Try.func18, Try.ntmps18
    go_wp2_with (first | (go_at_call 57; refine (HI.out).mono ?_; rintro e w' ⟨rfl, rfl⟩) | (go_at_call 59; refine (HS.out _).mono ?_; rintro e w1 ⟨rfl, hb1⟩; have h1 := Ob.below HJ.out hb1; have HJ1 : Hid (JAt w1 p g t s gb hl hr he hd) := Lib.hid h1; obtain ⟨cur, hB⟩ := HJ1.out.bat; obtain ⟨gp, cap, x2, xq, zq, _, _, _⟩ := hB.prow b HBL.out q HQL.out; obtain ⟨v, d0, d1, _, _, _⟩ := hB.get b HBL.out; have c7 := HJ1.out.c7; have HB1 := Lib.hid hb1; clear hb1 h1 hB))
    have hb12 := alloc_below w1 (.cells #[.bool (bB s.blocks b).er, .int .i64 (bB s.blocks b).la, .slice (some ⟨gp, 0, none⟩) (bB s.blocks b).pr.length cap] 91)
    have hbk := blk_new w1 (.cells #[.bool (bB s.blocks b).er, .int .i64 (bB s.blocks b).la, .slice (some ⟨gp, 0, none⟩) (bB s.blocks b).pr.length cap] 91)
    have yq := pw_cell_below hb12 xq
    have y6 := pw_cell_below hb12 HJ1.out.c6
    have HB2 := Lib.hid (HB1.out.trans (hb12.mono HB1.out.size))
    generalize w1.alloc (.cells #[.bool (bB s.blocks b).er, .int .i64 (bB s.blocks b).la, .slice (some ⟨gp, 0, none⟩) (bB s.blocks b).pr.length cap] 91) = w2 at hb12 hbk yq y6 HB2 ⊢
    have y0 := blk_cell hbk 0
    have y1 := blk_cell hbk 1
    have y2 := blk_cell hbk 2
    simp only [List.getElem?_toArray, List.getElem?_cons_zero, List.getElem?_cons_succ] at y0 y1 y2
    clear hbk hb12 x2 xq zq d0 d1 c7 c0 c1 c2 c3 c4 c5 c6 HB1 HJ1
    generalize w1.heap.size = g2 at y0 y1 y2 ⊢
    clear HI HS HJ HBL HQL
    generalize (bB s.blocks b).pr.length = nq at *
    generalize hxv : (bB s.blocks b).pr.getD q 0 = xv at yq
    generalize hla : (bB s.blocks b).la = la at y1 ⊢
    generalize her : (bB s.blocks b).er = er at y0 ⊢
    have HE : Hid (r = (er && decide (la ≤ (q : Int)) && decide (xv < g.pa))) := Lib.hid (by rw [HRR.out, hxv, hla, her])
    clear HRR
    clear hxv hla her
    cases er with
    | false =>
      go_quiet (fail)
      go_wp2
      go_ret
      exact ⟨by rw [HE.out]; rfl, pw_below_drewN HB2.out _⟩
    | true =>
      by_cases hle : la ≤ (q : Int)
      · have HL := Lib.hid (decide_eq_true hle)
        go_quiet (fail)
        go_wp2
        go_ret
        exact ⟨by rw [HE.out, HL.out]; rfl, pw_below_drewN HB2.out _⟩
      · have hle2 : decide (la ≤ (q : Int)) = false := decide_eq_false hle
        go_quiet (fail)
        go_wp2
        go_ret
        exact ⟨by rw [HE.out, hle2]; rfl, pw_below_drewN HB2.out _⟩
end
end Go.Proofs.Ytfmogmgdpamfgaa.Jd

