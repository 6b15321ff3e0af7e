import Derived.Test.YtfmogmgdpamfgaaJp7
import Derived.Test.YtfmogmgdpamfgaaJwi
import Derived.Test.YtfmogmgdpamfgaaJwk
namespace Go.Proofs.Ytfmogmgdpamfgaa.Jd
open Go.RowKit
set_option linter.unusedVariables false
set_option linter.unusedSimpArgs false
/-! JudgeErases' script, without a program. -/
/-- Cycles of one kind till one is not taken. -/
def stepsP (g : Ge) (s : JS) (k : Int) : List Int → JS × Bool
  | [] => (s, true)
  | x :: xs => if (stepP g s k x).2 = true then stepsP g (stepP g s k x).1 k xs else ((stepP g s k x).1, false)
/-- A judge that stands still behind a status. -/
abbrev Zs (bs : List Blk) : JS := ⟨bs, 1, [], 0, true, false, false, 0, 0, false, [], [], []⟩
abbrev Zb (bs : List Blk) (po : Bool) (d : List Int) : JS := ⟨bs, 1, [], 0, po, true, false, 0, 0, false, [], [], d⟩
abbrev Zo (bs : List Blk) (op : Int) (l : List Int) (wr : Int) : JS := ⟨bs, op, l, wr, false, false, false, 0, 0, false, [], [], []⟩
section
variable {g : Ge} {bs : List Blk}
theorem e_ff (g : Ge) (bs : List Blk) : stepsP g ⟨bs, 0, [], 0, false, false, false, 0, 0, false, [], [], []⟩ 1 [255, 112] = (Zb bs true [], true) := rfl
theorem e_e0 (g : Ge) (bs : List Blk) (d : List Int) : stepsP g (Zb bs true d) 4 [224] = (Zs bs, true) := rfl
theorem e_e1 (g : Ge) (bs : List Blk) (d : List Int) : stepsP g (Zb bs true d) 4 [225] = (Zs (lostB bs d), true) := rfl
theorem e_80 (g : Ge) (bs : List Blk) (d : List Int) : stepsP g (Zb bs true d) 4 [128] = (Zb bs true d, true) := rfl
theorem e_70 (g : Ge) (bs : List Blk) (d : List Int) : stepsP g (Zb bs false d) 1 [112] = (Zb bs true d, true) := rfl
theorem e_60 (g : Ge) (bs : List Blk) : stepsP g (Zs bs) 1 [96] = (Zo bs 9 [] 0, true) := rfl
theorem e_begin (g : Ge) (bs : List Blk) : stepsP g (Zs bs) 1 [128] = (Zo bs 8 [] 0, true) := rfl
theorem e_rd (g : Ge) (bs : List Blk) (d : List Int) : stepsP g (Zb bs true d) 4 [128, 224] = (Zs bs, true) := rfl
theorem stepsP_cons {g : Ge} {s s' : JS} {k x : Int} (h : stepP g s k x = (s', true)) (xs : List Int) : stepsP g s k (x :: xs) = stepsP g s' k xs := by
  show (if (stepP g s k x).2 = true then stepsP g (stepP g s k x).1 k xs else ((stepP g s k x).1, false)) = _
  rw [h]
  exact if_pos rfl
theorem stepsP_one {g : Ge} {s s' : JS} {k x : Int} (h : stepP g s k x = (s', true)) : stepsP g s k [x] = (s', true) := stepsP_cons h []
theorem stepP_of {g : Ge} {s s' : JS} {k x : Int} (h0 : s.op ≠ 10) (h : seeP g s k x = (s', true)) : stepP g s k x = (s', true) := by
  unfold stepP
  rw [if_neg h0, h]
  rfl
theorem e_adr (g : Ge) (bs : List Blk) (r0 r1 : Int) (h : inR g (num [r0, r1] 0) = true) : stepsP g (Zo bs 9 [] 0) 2 [r0, r1] = (Zo bs 9 [r0, r1] 0, true) := by
  have h1 : stepP g (Zo bs 9 [] 0) 2 r0 = (Zo bs 9 [r0] 0, true) := rfl
  have h3 : seeP g (Zo bs 9 [r0] 0) 2 r1 = (Zo bs 9 [r0, r1] 0, inR g (num [r0, r1] 0)) := rfl
  rw [h] at h3
  exact (stepsP_cons h1 _).trans (stepsP_one (stepP_of (by show (9 : Int) ≠ 10; decide) h3))
theorem e_adr4 (g : Ge) (bs : List Blk) (r0 r1 : Int) (h : inR g (num [0, 0, r0, r1] 2) = true) (hr : 0 < g.raw) : stepsP g (Zo bs 8 [] 0) 2 [0, 0, r0, r1] = (Zo bs 8 [0, 0, r0, r1] 0, true) := by
  have h1 : stepP g (Zo bs 8 [] 0) 2 0 = (Zo bs 8 [0] 0, true) := rfl
  have h2 : stepP g (Zo bs 8 [0] 0) 2 0 = (Zo bs 8 [0, 0] 0, true) := rfl
  have h3 : stepP g (Zo bs 8 [0, 0] 0) 2 r0 = (Zo bs 8 [0, 0, r0] 0, true) := rfl
  have h7 : fitsP g (Zo bs 8 [0, 0, r0, r1] 0) = (Zo bs 8 [0, 0, r0, r1] 0, true) := by
    have h6 : num [0, 0, r0, r1] 0 = 0 := rfl
    unfold fitsP
    simp only [h, h6, if_true]
    rw [if_pos ⟨.inl trivial, rfl⟩, decide_eq_true hr]
  have h5 : seeP g (Zo bs 8 [0, 0, r0] 0) 2 r1 = fitsP g (Zo bs 8 [0, 0, r0, r1] 0) := rfl
  rw [h7] at h5
  exact (stepsP_cons h1 _).trans ((stepsP_cons h2 _).trans ((stepsP_cons h3 _).trans (stepsP_one (stepP_of (by show (8 : Int) ≠ 10; decide) h5))))
theorem e_wr (g : Ge) (bs : List Blk) (l : List Int) (hl : l.length = 4) (b : Int) (hr : 1 ≤ g.raw) : stepsP g (Zo bs 8 l 0) 3 [b] = (Zo bs 8 l 1, true) := by
  have h4 : wrap64 1 = 1 := by decide +kernel
  have h2 : writeP g (Zo bs 8 l 0) = (Zo bs 8 l 1, true) := by
    simp [writeP, hl, h4]
    exact hr
  have h3 : seeP g (Zo bs 8 l 0) 3 b = writeP g (Zo bs 8 l 0) := rfl
  rw [h2] at h3
  exact stepsP_one (stepP_of (by show (8 : Int) ≠ 10; decide) h3)
theorem e_d0 (g : Ge) (bs : List Blk) (r0 r1 : Int) (h : inR g (num [r0, r1] 0) = true) : stepsP g (Zo bs 9 [r0, r1] 0) 1 [208] = (Zb (freshB g bs [num [r0, r1] 0 / g.pg]) false [num [r0, r1] 0 / g.pg], true) := by
  have h2 : erasedP g (Zo bs 9 [r0, r1] 0) 208 = (Zb (freshB g bs [num [r0, r1] 0 / g.pg]) false [num [r0, r1] 0 / g.pg], true) := by
    unfold erasedP
    simp [h, planesOk, startP]
  have h3 : seeP g (Zo bs 9 [r0, r1] 0) 1 208 = erasedP g (Zo bs 9 [r0, r1] 0) 208 := rfl
  rw [h2] at h3
  exact stepsP_one (stepP_of (by show (9 : Int) ≠ 10; decide) h3)
theorem e_10 (g : Ge) (bs : List Blk) (r0 r1 : Int) (h : canP g (Zs bs) (num [0, 0, r0, r1] 2) = true) : stepsP g (Zo bs 8 [0, 0, r0, r1] 1) 1 [16, 112] = (Zb (progB bs (num [0, 0, r0, r1] 2 / g.pg) (num [0, 0, r0, r1] 2 % g.pg)) true [], true) := by
  have hc : canP g (Zo bs 8 [0, 0, r0, r1] 1) (num [0, 0, r0, r1] 2) = true := h
  have h2 : loadedP g (Zo bs 8 [0, 0, r0, r1] 1) 16 = (Zb (progB bs (num [0, 0, r0, r1] 2 / g.pg) (num [0, 0, r0, r1] 2 % g.pg)) false [], true) := by
    unfold loadedP
    simp [hc, rowsOk, doneP, startP]
  have h3 : seeP g (Zo bs 8 [0, 0, r0, r1] 1) 1 16 = loadedP g (Zo bs 8 [0, 0, r0, r1] 1) 16 := rfl
  rw [h2] at h3
  exact (stepsP_cons (stepP_of (by show (8 : Int) ≠ 10; decide) h3) _).trans (e_70 g _ [])
end
end Go.Proofs.Ytfmogmgdpamfgaa.Jd

namespace Go.Proofs.Ytfmogmgdpamfgaa.Jd
open Go.RowKit
set_option linter.unusedVariables false
set_option linter.unusedSimpArgs false
/-! The block that is erased and then programmed, row by row. -/
abbrev bkP (g : Ge) (p : Nat) : Blk := ⟨true, (p : Int) - 1, List.replicate p 1 ++ List.replicate (g.pg.toNat - p) 0⟩
def fbP (g : Ge) (b p : Nat) : List Blk := (newP g).blocks.set b (bkP g p)
section
variable {g : Ge} {b p q : Nat}
theorem row_div (hp : 0 < g.pg) (hq : (q : Int) < g.pg) : ((b : Int) * g.pg + q) / g.pg = b ∧ ((b : Int) * g.pg + q) % g.pg = q := by
  refine ⟨?_, ?_⟩
  · rw [Int.add_comm, Int.add_mul_ediv_right _ _ (by omega), Int.ediv_eq_zero_of_lt (by omega) hq]; omega
  · rw [Int.add_comm, Int.add_mul_emod_self_right, Int.emod_eq_of_lt (by omega) hq]
theorem row_in (hp : 0 < g.pg) (hb : (b : Int) < g.bl) (hq : (q : Int) < g.pg) : inR g ((b : Int) * g.pg + q) = true := by
  unfold inR
  have h1 : (0 : Int) ≤ (b : Int) * g.pg := Int.mul_nonneg (by omega) (by omega)
  have h2 : ((b : Int) + 1) * g.pg ≤ g.bl * g.pg := Int.mul_le_mul_of_nonneg_right (by omega) (by omega)
  rw [Int.add_mul, Int.one_mul] at h2
  rw [decide_eq_true (by omega), decide_eq_true (by omega)]
  rfl
theorem bB_set {bs : List Blk} (hb : b < bs.length) (x : Blk) : bB (bs.set b x) (b : Int) = x := by
  unfold bB
  rw [Int.toNat_natCast, List.getD_eq_getElem?_getD, List.getElem?_set_self hb]
  rfl
theorem new_len (g : Ge) : (newP g).blocks.length = g.bl.toNat := by show (List.replicate _ _).length = _; simp
theorem bB_fb (hb : b < g.bl.toNat) : bB (fbP g b p) (b : Int) = bkP g p := bB_set (by rw [new_len]; exact hb) _
theorem fb_fresh (g : Ge) (b : Nat) : freshB g (newP g).blocks [(b : Int)] = fbP g b 0 := by
  show (newP g).blocks.set ((b : Int).toNat) ⟨true, -1, List.replicate g.pg.toNat 0⟩ = (newP g).blocks.set b _
  rw [Int.toNat_natCast]
  rfl
theorem pr_get (hp : p < g.pg.toNat) : (bkP g p).pr.getD p 0 = 0 := by
  simp [List.getD_eq_getElem?_getD, List.getElem?_append_right, List.getElem?_replicate]
  rw [if_pos (by omega)]
  rfl
theorem pr_set (hp : p < g.pg.toNat) : (bkP g p).pr.set p 1 = (bkP g (p + 1)).pr := by
  have h : g.pg.toNat - p = (g.pg.toNat - (p + 1)) + 1 := by omega
  show (List.replicate p (1 : Int) ++ List.replicate (g.pg.toNat - p) 0).set p 1 = _
  rw [h, List.replicate_succ, List.set_append_right _ _ (by simp)]
  simp [List.replicate_succ']
theorem fb_prog (hb : b < g.bl.toNat) (hp : p < g.pg.toNat) : progB (fbP g b p) (b : Int) (p : Int) = fbP g b (p + 1) := by
  unfold progB
  rw [bB_fb hb, Int.toNat_natCast, Int.toNat_natCast, pr_get hp]
  have hw : wrap64 ((0 : Int) + 1) = 1 := by decide +kernel
  rw [hw, pr_set hp]
  unfold fbP
  rw [List.set_set]
  congr 1
  show (⟨true, (p : Int), _⟩ : Blk) = ⟨true, ((p + 1 : Nat) : Int) - 1, _⟩
  congr 1
  omega
theorem can_fb (hg : g.ok) (hb : b < g.bl.toNat) (hq : q < g.pg.toNat) : canP g (Zs (fbP g b p)) ((b : Int) * g.pg + q) = (decide ((p : Int) - 1 ≤ q) && decide ((bkP g p).pr.getD q 0 < g.pa)) := by
  have h1 := hg.2.1; have h2 := hg.2.2.1
  have hd := row_div (g := g) (b := b) (q := q) (by omega) (by omega)
  unfold canP
  rw [row_in (by omega) (by omega) (by omega), hd.1, hd.2, bB_fb hb, Int.toNat_natCast]
  rfl
theorem can_next (hg : g.ok) (hb : b < g.bl.toNat) (hp : p < g.pg.toNat) : canP g (Zs (fbP g b p)) ((b : Int) * g.pg + p) = true := by
  rw [can_fb hg hb hp, decide_eq_true (by omega), pr_get hp, decide_eq_true (by have := hg.2.2.2.2.2.2.1; omega)]
  rfl
theorem can_old (hg : g.ok) (hb : b < g.bl.toNat) (hp : p < g.pg.toNat) (hq : q < p) : canP g (Zs (fbP g b (p + 1))) ((b : Int) * g.pg + q) = false := by
  rw [can_fb hg hb (by omega), decide_eq_false (by omega)]
  rfl
theorem can_this (hg : g.ok) (hb : b < g.bl.toNat) (hp : p < g.pg.toNat) : canP g (Zs (fbP g b (p + 1))) ((b : Int) * g.pg + p) = decide (1 < g.pa) := by
  rw [can_fb hg hb hp, decide_eq_true (by omega)]
  have : (bkP g (p + 1)).pr.getD p 0 = 1 := by
    show (List.replicate (p + 1) (1 : Int) ++ _).getD p 0 = 1
    rw [List.getD_eq_getElem?_getD, List.getElem?_append_left (by simp), List.getElem?_replicate, if_pos (by omega)]
    rfl
  rw [this]
  rfl
theorem can_new (hg : g.ok) (hb : b < g.bl.toNat) (hq : q < g.pg.toNat) : canP g (Zs (fbP g b 0)) ((b : Int) * g.pg + q) = true := by
  rw [can_fb hg hb hq, decide_eq_true (by omega)]
  have : (bkP g 0).pr.getD q 0 = 0 := by
    simp [List.getD_eq_getElem?_getD, List.getElem?_replicate]
    rw [if_pos (by omega)]
    rfl
  rw [this, decide_eq_true (by have := hg.2.2.2.2.2.2.1; omega)]
  rfl
theorem can_lost (hg : g.ok) (hb : b < g.bl.toNat) (hq : q < g.pg.toNat) : canP g (Zs (lostB (fbP g b 0) [(b : Int)])) ((b : Int) * g.pg + q) = false := by
  have h1 := hg.2.1; have h2 := hg.2.2.1
  have hd := row_div (g := g) (b := b) (q := q) (by omega) (by omega)
  have hl : bB (lostB (fbP g b 0) [(b : Int)]) (b : Int) = { bkP g 0 with er := false } := by
    show bB ((fbP g b 0).set ((b : Int).toNat) { bB (fbP g b 0) (b : Int) with er := false }) (b : Int) = _
    rw [bB_fb hb, Int.toNat_natCast]
    exact bB_set (by unfold fbP; rw [List.length_set, new_len]; exact hb) _
  unfold canP
  rw [hd.1, hl]
  simp
end
end Go.Proofs.Ytfmogmgdpamfgaa.Jd

namespace Go.Proofs.Ytfmogmgdpamfgaa.Jd
open Go.RowKit Go.Proofs.YtfmogmgdpamfgaaW.PrintWords Go.Proofs.YtfmogmgdpamfgaaW.PrintLast Go.Proofs.YtfmogmgdpamfgaaW.PrintMore
set_option linter.unusedVariables false
set_option linter.unusedSimpArgs false
section
variable {g : Ge} {w : World} {p gb n : Nat} {t : Nat → Nat} {s : JS}
set_option maxHeartbeats 8000000 in
set_option maxRecDepth 100000 in
theorem stepc_ok (k : Int) (l : List Int) (hby : ∀ x ∈ l, 0 ≤ x ∧ x ≤ 255) (hl : l.length ≤ 100) {ab c ty jv : Nat} (hw : WfN g n s) (hn : n ≤ 800000) (h : JG w p g t s gb) (hr : w.heap[ab]? = some (.cells (l.map (Value.int .u8)).toArray ty (0, 0))) (hr0 : t ab = 0) (hv : w.heap[jv]? = some (.cells #[.pointer (some ⟨p, 0, none⟩)] 26 (0, 0))) (hv0 : t jv = 0) : Calls Try.prog 15 #[.int .i64 k, .slice (some ⟨ab, 0, none⟩) l.length c, .pointer (some ⟨jv, 0, none⟩)] w fun e w' => e = .returned (.bool (stepsP g s k l).2) ∧ ∃ t', JG w' p g t' (stepsP g s k l).1 gb ∧ Nxt w w' t t' := by
  obtain ⟨m, hm⟩ : ∃ m, m = l.length := ⟨_, rfl⟩
  rw [← hm]
  have HM := Lib.hid hm
  have hmb : m ≤ 100 := by omega
  have HBY := Lib.hid hby
  have HW0 := Lib.hid hw
  have HJ := Lib.hid h
  have HR := Lib.hid hr
  have HR0 := Lib.hid hr0
  have HV := Lib.hid hv
  have HV0 := Lib.hid hv0
  have HX := Lib.hid (Nxt.refl w t)
  have HN := Lib.hid hn
  obtain ⟨E, hE⟩ : ∃ E, E = stepsP g s k l := ⟨_, rfl⟩
  rw [← hE]
  have HE := Lib.hid hE
  clear hm hby hl hw h hr hr0 hv hv0 hE hn
  go_enter Try.func15, Try.ntmps15
  go_wp2_with fail
  go_loopw [11, 6] (fun i b wr => ∃ q : Nat, q ≤ m ∧ i = .int .i64 q ∧ ∃ OK s2 t2, b = .bool OK ∧ Hid (WfN g (n + q) s2) ∧ Hid (JG wr p g t2 s2 gb) ∧ Hid (Nxt w wr t t2) ∧ Hid (wr.heap[ab]? = some (.cells (l.map (Value.int .u8)).toArray ty (0, 0))) ∧ Hid (t2 ab = 0) ∧ Hid (wr.heap[jv]? = some (.cells #[.pointer (some ⟨p, 0, none⟩)] 26 (0, 0))) ∧ Hid (t2 jv = 0) ∧ Hid (E = (if OK = true then stepsP g s2 k (l.drop q) else (s2, false)))) (fun i _ _ => m - (intOf i).toNat)
  case atStart => exact ⟨0, Nat.zero_le _, rfl, true, s, t, rfl, HW0, HJ, HX, HR, HR0, HV, HV0, Lib.hid (by rw [if_pos rfl]; exact HE.out)⟩
  case round =>
    clear HW0 HJ HX HR HR0 HV HV0 HE
    obtain ⟨q, hq, rfl, OK, s2, t2, rfl, HWF, HJ, HX, HR, HR0, HV, HV0, HE⟩ := hrel
    by_cases hqm : q < m
    · have hq0 : (q : Int) < (m : Int) := by omega
      have hlen : q < l.length := by rw [← HM.out]; exact hqm
      have e0 : wr.cell? ⟨ab, q, none⟩ = some (.int .u8 l[q]) := (blk_cell HR.out q).trans (by simp [hlen])
      have hbx := HBY.out l[q] (List.getElem_mem hlen)
      have he := HE.out
      rw [List.drop_eq_getElem_cons hlen] at he
      obtain ⟨x, hx⟩ : ∃ x, x = l[q] := ⟨_, rfl⟩
      rw [← hx] at e0 hbx he
      clear hx
      have v0 : wr.cell? ⟨jv, 0, none⟩ = some (.pointer (some ⟨p, 0, none⟩)) := blk_cell HV.out 0
      cases OK with
      | true =>
        rw [if_pos rfl] at he
        obtain ⟨l1, r1, e1', d1, hj⟩ := HJ.out
        have HST := Lib.hid (step_ok k x hbx (HWF.out.wf (by have := HN.out; omega)) hj)
        have HWN := Lib.hid (HWF.out.step k x hbx)
        obtain ⟨OK2, hOK⟩ : ∃ OK2, OK2 = (stepP g s2 k x).2 := ⟨_, rfl⟩
        rw [← hOK] at HST
        have HE2 : Hid (E = (if OK2 = true then stepsP g (stepP g s2 k x).1 k (l.drop (q + 1)) else ((stepP g s2 k x).1, false))) := Lib.hid (by rw [hOK]; exact he)
        clear hj he hbx hlen hOK
        go_wp2_with (go_at_call 16; refine (HST.out).mono ?_; rintro e w2 ⟨rfl, t3, hj2, hx2⟩; have HJ2 := Lib.hid hj2; have HX2 := Lib.hid (HX.out.trans hx2); have HR2 := Lib.hid (nxt_keep hx2 HR.out HR0.out); have HV2 := Lib.hid (nxt_keep hx2 HV.out HV0.out); clear hj2 hx2)
        go_roundw
        case rel => exact ⟨q + 1, hqm, by go_num, OK2, _, t3, rfl, HWN, HJ2, HX2, Lib.hid HR2.out.1, Lib.hid HR2.out.2, Lib.hid HV2.out.1, Lib.hid HV2.out.2, HE2⟩
        case measure => exact step_measure hqm
      | false =>
        rw [if_neg (by decide)] at he
        have HE2 : Hid (E = (if false = true then stepsP g s2 k (l.drop (q + 1)) else (s2, false))) := Lib.hid (by rw [if_neg (by decide)]; exact he)
        clear he hbx hlen
        go_wp2_with fail
        go_roundw
        case rel => exact ⟨q + 1, hqm, by go_num, false, s2, t2, rfl, Lib.hid (HWF.out.mono (by omega)), HJ, HX, HR, HR0, HV, HV0, HE2⟩
        case measure => exact step_measure hqm
    · have hqe : m = q := by omega
      have he := HE.out
      rw [List.drop_of_length_le (by rw [← HM.out]; omega)] at he
      have HE2 : Hid (E = (s2, OK)) := Lib.hid (by
        rw [he]
        cases OK with
        | true => rfl
        | false => rfl)
      subst hqe
      clear he hqm hq
      go_wp2_with fail
      go_ret
      rw [HE2.out]
      exact ⟨rfl, _, HJ.out, HX.out⟩
end
end Go.Proofs.Ytfmogmgdpamfgaa.Jd

namespace Go.Proofs.Ytfmogmgdpamfgaa.Jd
open Go.RowKit Go.Proofs.YtfmogmgdpamfgaaW.PrintWords Go.Proofs.YtfmogmgdpamfgaaW.PrintLast Go.Proofs.YtfmogmgdpamfgaaW.PrintMore
set_option linter.unusedVariables false
set_option linter.unusedSimpArgs false
section
variable {g : Ge}
set_option maxHeartbeats 8000000 in
set_option maxRecDepth 100000 in
theorem jer_no (w : World) (b st : Int) (B : Bool) (hsm : ∀ w, Calls Try.prog 12 #[g.v] w fun e w' => e = .returned (.bool B) ∧ Below w.heap.size w w') (hno : B = false ∨ ¬ g.ok) : Calls Try.prog 3 #[g.v, .int .u8 b, .int .u8 st] w fun e w' => e = .returned (.bool true) ∧ Below w.heap.size w w' := by
  have HSM := Lib.hid hsm
  clear hsm
  have hri : B = true → ∀ w, Calls Try.prog 13 #[g.v] w fun e w' => e = .returned (.bool false) ∧ Below w.heap.size w w' := fun h => gright_no (by rcases hno with h2 | h2; rw [h2] at h; cases h; exact h2)
  have HRI := Lib.hid hri
  clear hri hno
  have hab := alloc_below w (.cells #[.int .i64 g.pl, .int .i64 g.bl, .int .i64 g.pg, .int .i64 g.ch, .int .i64 g.ck, .int .i64 g.ru, .int .i64 g.pa] 23)
  have hgb := GBox.new w g
  have HB0 := Lib.hid hab
  have HG0 := Lib.hid hgb
  clear hab hgb
  unfold Ge.v
  go_enter Try.func3, Try.ntmps3
  go_upto_region 1 with fail
  generalize w.alloc (.cells #[.int .i64 g.pl, .int .i64 g.bl, .int .i64 g.pg, .int .i64 g.ch, .int .i64 g.ck, .int .i64 g.ru, .int .i64 g.pa] 23) = w0 at HB0 HG0 ⊢
  generalize hb0 : w.heap.size = b0 at HG0 ⊢
  have HBE := Lib.hid hb0
  clear hb0
  go_upto_region 3 with (go_at_call 11; refine (awake_ok _).mono ?_; rintro e w1 ⟨rfl, hb1⟩; have HB1 := Lib.hid (chainC (Nat.le_refl _) HB0.out hb1); have HG1 := Lib.hid (HG0.out.below hb1); clear hb1)
  obtain ⟨c0, c1, c2, c3, c4, c5, c6⟩ := HG1.out.c
  cases B with
  | false =>
    go_wp2_with (go_at_call 12; refine (HSM.out _).mono ?_; rintro e w3 ⟨rfl, hb3⟩; have HB3 := Lib.hid (chainC (Nat.le_refl _) HB1.out hb3); clear hb3)
    go_ret
    exact ⟨rfl, HBE.out ▸ HB3.out⟩
  | true =>
    have HRI2 := Lib.hid (HRI.out rfl)
    clear HRI
    go_wp2_with (first | (go_at_call 12; go_loud (refine (HSM.out _).mono ?_; rintro e w3 ⟨rfl, hb3⟩; have HB3 := Lib.hid (chainC (Nat.le_refl _) HB1.out hb3); have HG3 := Lib.hid (HG1.out.below hb3); clear c0 c1 c2 c3 c4 c5 c6 hb3; obtain ⟨c0, c1, c2, c3, c4, c5, c6⟩ := HG3.out.c)) | (go_at_call 13; go_loud (refine (HRI2.out _).mono ?_; rintro e w4 ⟨rfl, hb4⟩; have HB4 := Lib.hid (chainC (Nat.le_refl _) HB3.out hb4); clear hb4)))
    go_ret
    exact ⟨rfl, HBE.out ▸ HB4.out⟩
end
end Go.Proofs.Ytfmogmgdpamfgaa.Jd

