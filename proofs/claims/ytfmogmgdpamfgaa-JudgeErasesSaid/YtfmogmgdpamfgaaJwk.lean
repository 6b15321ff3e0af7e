import Derived.Test.YtfmogmgdpamfgaaJwj
namespace Go.Proofs.Ytfmogmgdpamfgaa.Jd
open Go.RowKit Go.Proofs.YtfmogmgdpamfgaaW.PrintWords Go.Proofs.YtfmogmgdpamfgaaW.PrintLast Go.Proofs.YtfmogmgdpamfgaaW.PrintMore
set_option linter.unusedVariables false
set_option linter.unusedSimpArgs false
/-- What is known of a judge and the last cycle: refused, it takes nothing; else a status is told behind Command 70 or a Read alone. -/
def LastOk (s : JS) (la : Int × Int) (rf : Bool) : Prop := (rf = true → s.op = 10) ∧ (rf = false → s.polls = true → (la.1 = 1 ∧ la.2 = 112) ∨ la.1 = 4)
theorem LastOk.step {g : Ge} {s : JS} {la : Int × Int} {rf : Bool} (h : LastOk s la rf) (k b : Int) : LastOk (stepP g s k b).1 (k, b) (rf || !(stepP g s k b).2) := by
  have hop : (stepP g s k b).2 = false → (stepP g s k b).1.op = 10 := fun h2 => by
    unfold stepP at h2 ⊢
    split at h2
    · rename_i e; rw [if_pos e]; exact e
    · rename_i e
      rw [if_neg e]
      split at h2
      · cases h2
      · rename_i e2; rw [if_neg e2]
  cases hst : (stepP g s k b).2 with
  | false => exact ⟨fun _ => hop hst, fun h2 => by cases rf <;> simp at h2⟩
  | true =>
    have h10 : s.op ≠ 10 := fun e => by unfold stepP at hst; rw [if_pos e] at hst; cases hst
    have hrf : rf = false := by cases rf; rfl; exact absurd (h.1 rfl) h10
    subst hrf
    exact ⟨fun h2 => by simp at h2, fun _ hp => step_polls g s k b (fun _ _ => trivial) hst hp⟩
theorem step_op10 {g : Ge} {s : JS} (h : s.op = 10) (k b : Int) : (stepP g s k b).2 = false := by unfold stepP; rw [if_pos h]
theorem At.put {w0 w : World} {N0 p gb : Nat} {g : Ge} {t : Nat → Nat} {s : JS} (h : At w0 w N0 p g t s gb) {lv : Nat} (h0 : t lv = 0) (hN : N0 ≤ lv) (i : Nat) (u : Value) : At w0 (w.setCell ⟨lv, i, none⟩ u) N0 p g t s gb := by
  have hx : Nxt w (w.setCell ⟨lv, i, none⟩ u) (fun k => if k = lv then 1 else 0) (fun k => if k = lv then 1 else 0) := (Nxt.refl w _).set (.inl (by simp)) u
  refine ⟨h.j.nxt hx (fun k => ?_), nxt_below hx h.b (fun k hk => ?_) h.z, h.n, Nat.le_trans h.z hx.m.size⟩
  · by_cases e : k = lv
    · exact .inr (e ▸ h0)
    · exact .inl (if_neg e)
  · by_cases e : k = lv
    · exact e ▸ hN
    · exact absurd (if_neg e) hk
theorem put2 {w : World} {lv ty : Nat} {a b x y : Value} (h : w.heap[lv]? = some (.cells #[a, b] ty (0, 0))) : ((w.setCell ⟨lv, 0, none⟩ x).setCell ⟨lv, 1, none⟩ y).heap[lv]? = some (.cells #[x, y] ty (0, 0)) := blk_set (blk_set h 0 x) 1 y
theorem WfN.pos {n : Nat} {g : Ge} {s : JS} (hw : WfN g n s) : 0 < s.blocks.length := by rw [hw.c.sh.1]; have := hw.hg.2.1.1; omega
section
variable {g : Ge}
set_option maxHeartbeats 16000000 in
set_option maxRecDepth 100000 in
theorem jfits_ok (hg : g.ok) (w : World) (l : List (Int × Int)) {A : Option Addr} {c : Nat} (k : Int) (hk : 0 ≤ k ∧ k ≤ 65535) (hsm : ∀ w, Calls Try.prog 12 #[g.v] w fun e w' => e = .returned (.bool true) ∧ Below w.heap.size w w') (hll : l.length ≤ 800) (hlc : l.length ≤ c) (hr : Kd.C kCy w A l.length l) (hby : ∀ x ∈ l, 0 ≤ x.2 ∧ x.2 ≤ 255) : Calls Try.prog 5 #[g.v, .slice A l.length c, .int .u16 k] w fun e w' => e = .returned (.bool true) ∧ Below w.heap.size w w' := by
  have HSM := Lib.hid hsm
  have HLL := Lib.hid hll
  have HLC := Lib.hid hlc
  have HCR := Lib.hid hr
  have HBY := Lib.hid hby
  have HGG := Lib.hid hg
  have HRI := Lib.hid (gright_ok hg)
  have HNW := Lib.hid (jnew_ok hg)
  have HKK := Lib.hid hk
  obtain ⟨TN, htn⟩ : ∃ TN, TN = takeN g (newP g) l := ⟨_, rfl⟩
  have HTN := Lib.hid htn
  have HTL : Hid (TN ≤ l.length) := Lib.hid (by rw [htn]; exact takeN_le g l (newP g))
  have HRU : Hid (∀ W, Kd.C kCy W A l.length l → Calls Try.prog 19 #[g.v, .slice A l.length c] W fun e w' => e = .returned (.tuple #[.int .i64 (TN : Int), .bool (decide (TN = l.length))]) ∧ Below W.heap.size W w') := Lib.hid (fun W hC => by
    have h := run_ok hg A c l W (by omega) hby hC hlc
    rw [← htn] at h
    exact h)
  have HRT : Hid (∀ j W, j ≤ TN → Kd.C kCy W A l.length l → Calls Try.prog 19 #[g.v, .slice A j c] W fun e w' => e = .returned (.tuple #[.int .i64 (j : Int), .bool true]) ∧ Below W.heap.size W w') := Lib.hid (fun j W hj hC => by
    have hjl : j ≤ l.length := Nat.le_trans hj HTL.out
    have hlt : (l.take j).length = j := by rw [List.length_take]; omega
    have h := run_ok hg A c (l.take j) W (by rw [hlt]; omega) (fun x hx => hby x (List.mem_of_mem_take hx)) (Kd.C_take hC hjl) (by rw [hlt]; omega)
    rw [takeN_take g l (newP g) j (by rw [← htn]; exact hj), hlt, decide_eq_true rfl] at h
    exact h)
  clear hsm hll hlc hg hr hby hk htn
  have hab := alloc_below w (.cells #[.int .i64 g.pl, .int .i64 g.bl, .int .i64 g.pg, .int .i64 g.ch, .int .i64 g.ck, .int .i64 g.ru, .int .i64 g.pa] 23)
  have hgb := GBox.new w g
  have HB0 := Lib.hid hab
  have HG0 := Lib.hid hgb
  obtain ⟨m, hm⟩ : ∃ m, m = l.length := ⟨_, rfl⟩
  have HM := Lib.hid hm
  rw [← hm]
  rw [← hm] at HTL HRU HRT
  clear hab hgb hm
  unfold Ge.v
  go_enter Try.func5, Try.ntmps5
  go_upto_region 1 with fail
  generalize w.alloc (.cells #[.int .i64 g.pl, .int .i64 g.bl, .int .i64 g.pg, .int .i64 g.ch, .int .i64 g.ck, .int .i64 g.ru, .int .i64 g.pa] 23) = w0 at HB0 HG0 ⊢
  generalize hb0 : w.heap.size = b0 at HG0 ⊢
  have HBE := Lib.hid hb0
  clear hb0
  go_upto_region 7 with (first | (go_at_call 11; refine (awake_ok _).mono ?_; rintro e w1 ⟨rfl, hb1⟩; have HB1 := Lib.hid (chainC (Nat.le_refl _) HB0.out hb1); have HG1 := Lib.hid (HG0.out.below hb1); clear hb1) | (go_at_call 22; refine (power_nil _).mono ?_; rintro e wx ⟨rfl, rfl⟩) | (go_at_call 16; (refine (step_nil _ _ _).mono ?_; rintro e w2 ⟨rfl, hb2⟩; have HB2 := Lib.hid (chainC (Nat.le_refl _) HB1.out hb2); have HG2 := Lib.hid (HG1.out.below hb2); clear hb2)) | (go_at_call 17; refine (busy_nil _).mono ?_; rintro e wx ⟨rfl, rfl⟩) | (go_at_call 18; refine (can_nil _ _).mono ?_; rintro e wx ⟨rfl, rfl⟩))
  clear HB0 HB1 HG0 HG1
  obtain ⟨c0, c1, c2, c3, c4, c5, c6⟩ := HG2.out.c
  have hlong : decide ((800 : Int) < (m : Int)) = false := decide_eq_false (by have := HLL.out; have := HM.out; omega)
  go_upto_region 9 with (go_at_call 12; refine (HSM.out _).mono ?_; rintro e w3 ⟨rfl, hb3⟩; have HB3 := Lib.hid (chainC (Nat.le_refl _) HB2.out hb3); have HG3 := Lib.hid (HG2.out.below hb3); clear hb3)
  clear c0 c1 c2 c3 c4 c5 c6 HB2 HG2 hlong
  obtain ⟨c0, c1, c2, c3, c4, c5, c6⟩ := HG3.out.c
  have hC3 : Kd.C kCy w3 A m l := by rw [HM.out]; exact Kd.C_below HCR.out (HBE.out ▸ HB3.out)
  obtain ⟨AL, hal⟩ : ∃ AL, AL = decide (TN = m) := ⟨_, rfl⟩
  have HRU3' := HRU.out w3 hC3
  rw [← hal] at HRU3'
  have HRU3 := Lib.hid HRU3'
  have HAL := Lib.hid hal
  clear hC3 HRU3' hal
  go_upto_region 10 with (go_at_call 19; refine (HRU3.out).mono ?_; rintro e w4 ⟨rfl, hb4⟩; have HB4 := Lib.hid (chainC (Nat.le_refl _) HB3.out hb4); have HG4 := Lib.hid (HG3.out.below hb4); clear hb4)
  clear c0 c1 c2 c3 c4 c5 c6 HB3 HG3 HRU HRU3
  have heq : AL = ((TN : Int) == (m : Int)) := by
    rw [HAL.out]
    by_cases h : TN = m
    · rw [decide_eq_true h, beq_t (by omega)]
    · rw [decide_eq_false h, beq_f (by omega)]
  obtain ⟨c0, c1, c2, c3, c4, c5, c6⟩ := HG4.out.c
  have hmm : ∃ j : Nat, j ≤ TN ∧ ((0 < TN ∧ IntKind.i64.wrap k = k ∧ IntKind.i64.wrap ((TN : Int) + 1) = (TN : Int) + 1 ∧ ¬ ((TN : Int) + 1) = 0 ∧ k.tmod ((TN : Int) + 1) = (j : Int)) ∨ (TN = 0 ∧ j = 0)) := by
    rcases Nat.eq_zero_or_pos TN with h | h
    · exact ⟨0, by omega, .inr ⟨h, rfl⟩⟩
    · have h1 := HKK.out
      have h2 : TN ≤ 800 := Nat.le_trans HTL.out (by have := HLL.out; have := HM.out; omega)
      refine ⟨(k % ((TN : Int) + 1)).toNat, ?_, .inl ⟨h, IntWalk.i64_in _ (by omega), IntWalk.i64_in _ (by omega), by omega, ?_⟩⟩
      · have := Int.emod_lt_of_pos k (show 0 < (TN : Int) + 1 by omega)
        have := Int.emod_nonneg k (show (TN : Int) + 1 ≠ 0 by omega)
        omega
      · rw [Int.tmod_eq_emod_of_nonneg h1.1]
        have := Int.emod_nonneg k (show (TN : Int) + 1 ≠ 0 by omega)
        omega
  obtain ⟨j, hjT, hjc⟩ := hmm
  have HJT := Lib.hid hjT
  have hsl : ∀ W : World, (Instr.slice 38 (.slice A m c) none (some (.int .i64 (j : Int))) none).run Try.prog W = .ok (.slice A j c) W := cy_take A m c j (by have := HLC.out; have := HTL.out; have := HM.out; omega)
  go_upto_if 61 with fail
  clear heq hjT
  go_cut [10] (fun v10 wc => v10 = .int .i64 (j : Int) ∧ wc = w4)
  case first =>
    clear hsl
    rcases hjc with ⟨h0, h1, h2, h3, h4⟩ | ⟨h0, h1⟩
    · go_wp2_with fail
      go_meet
      case rel => exact ⟨by first | rfl | (simp [h4]), rfl⟩
    · subst h0
      subst h1
      go_wp2_with fail
      go_meet
      case rel => exact ⟨rfl, rfl⟩
  case rest =>
    obtain ⟨rfl, rfl⟩ := hcut
    clear hjc
    clear c0 c1 c2 c3 c4 c5 c6
    obtain ⟨c0, c1, c2, c3, c4, c5, c6⟩ := HG4.out.c
    have hC4 := HRT.out j (World.drew wc) HJT.out (by rw [HM.out]; exact Kd.C_below HCR.out (below_drew (HBE.out ▸ HB4.out)))
    have HRT4 := Lib.hid hC4
    clear hC4
    go_upto_region 15 with fail
    go_region_held3 (fun W => W.cell? ⟨b0, 0, none⟩ = some (.int .i64 g.pl) ∧ W.cell? ⟨b0, 1, none⟩ = some (.int .i64 g.bl) ∧ W.cell? ⟨b0, 2, none⟩ = some (.int .i64 g.pg) ∧ W.cell? ⟨b0, 3, none⟩ = some (.int .i64 g.ch) ∧ W.cell? ⟨b0, 4, none⟩ = some (.int .i64 g.ck) ∧ W.cell? ⟨b0, 5, none⟩ = some (.int .i64 g.ru) ∧ W.cell? ⟨b0, 6, none⟩ = some (.int .i64 g.pa)) (first | exact ⟨c0, c1, c2, c3, c4, c5, c6⟩ | exact ⟨f0, f1, f2, f3, f4, f5, f6⟩) (first | (go_at_call 19; refine (HRT4.out).mono ?_; rintro e w6 ⟨rfl, hb6⟩; have f0 := pw_cell_below hb6 c0; have f1 := pw_cell_below hb6 c1; have f2 := pw_cell_below hb6 c2; have f3 := pw_cell_below hb6 c3; have f4 := pw_cell_below hb6 c4; have f5 := pw_cell_below hb6 c5; have f6 := pw_cell_below hb6 c6; have HB6 := Lib.hid (chainC (Nat.le_refl _) (below_drew HB4.out) hb6); have HG6 : Hid (GBox w6 b0 g) := Lib.hid (HG4.out.drew.below hb6); clear hb6))
    all_goals
      clear c0 c1 c2 c3 c4 c5 c6 hsl
      go_upto_region 18 with (go_at_call 13; refine (HRI.out _).mono ?_; rintro e w7 ⟨rfl, hb7⟩; have HB7 := Lib.hid (chainC (Nat.le_refl _) HB6.out hb7); have HG7 := Lib.hid (HG6.out.below hb7); clear hb7)
      clear f0 f1 f2 f3 f4 f5 f6
      obtain ⟨c0, c1, c2, c3, c4, c5, c6⟩ := HG7.out.c
      go_upto_block 1 with (go_at_call 14; refine (HNW.out _).mono ?_; rintro e w8 ⟨p, t, gb, rfl, hjg, hb8, hlo⟩; have HB8 := Lib.hid (chainC (Nat.le_refl _) HB7.out hb8); have HJ8 := Lib.hid hjg; have HLO := Lib.hid hlo; clear hb8 hjg hlo)
      have hA8 : At w w8 w.heap.size p g t (newP g) gb := ⟨HJ8.out, HB8.out, fun k hk => Nat.le_trans HB7.out.size (HLO.out k hk), HB8.out.size⟩
      have hlb := blk_new w8 (.cells #[.int .i64 0, .int .u8 0] 33)
      have hlz : t w8.heap.size = 0 := by
        by_cases e : t w8.heap.size = 0
        · exact e
        · exact absurd (JG.lt HJ8.out _ e) (Nat.lt_irrefl _)
      have HA9 := Lib.hid (hA8.below (alloc_below w8 (.cells #[.int .i64 0, .int .u8 0] 33)))
      have HLB := Lib.hid hlb
      have HLZ := Lib.hid hlz
      have HLN := Lib.hid HB8.out.size
      have HWN := Lib.hid (WfN.new HGG.out)
      have HLK : Hid (LastOk (newP g) (0, 0) false) := Lib.hid ⟨fun h => (by cases h), fun _ h => (by cases h)⟩
      clear hA8 hlb hlz HB8 HJ8 HLO HB7 HG7 HB6 HG6 HRT4 HB4 HG4 c0 c1 c2 c3 c4 c5 c6
      generalize w8.alloc (.cells #[.int .i64 0, .int .u8 0] 33) = w9 at HA9 HLB ⊢
      generalize w8.heap.size = lv at HLB HLZ HLN ⊢
      have hmb : m ≤ 800 := by have := HLL.out; have := HM.out; omega
      go_loopw [102, 16] (fun i rf wr => ∃ k : Nat, k ≤ m ∧ i = .int .i64 k ∧ ∃ R t2 s2 la lb, rf = .bool R ∧ Hid (At w wr w.heap.size p g t2 s2 gb) ∧ Hid (WfN g k s2) ∧ Hid (wr.heap[lv]? = some (.cells #[.int .i64 la, .int .u8 lb] 33 (0, 0))) ∧ Hid (t2 lv = 0) ∧ Hid (LastOk s2 (la, lb) R)) (fun i _ _ => m - (intOf i).toNat)
      case atStart => exact ⟨0, Nat.zero_le _, rfl, false, t, newP g, 0, 0, rfl, HA9, HWN, HLB, HLZ, HLK⟩
      case round =>
        clear HA9 HLB HLZ HLK HWN
        obtain ⟨k, hk, rfl, R, t2, s2, la, lb, rfl, HA, HWF, HL, HL0, HLK⟩ := hrel
        by_cases hkm : k < m
        · have hk0 : (k : Int) < (m : Int) := by omega
          have hlen : k < l.length := by rw [← HM.out]; exact hkm
          obtain ⟨b5, o5, rfl, _, hcell⟩ := rowCy (Kd.C_below HCR.out HA.out.b) (by omega)
          obtain ⟨e0, e1⟩ := hcell k _ (List.getElem?_eq_getElem hlen)
          have hbx := HBY.out l[k] (List.getElem_mem hlen)
          obtain ⟨x, hx⟩ : ∃ x, x = l[k] := ⟨_, rfl⟩
          rw [← hx] at e0 e1 hbx
          clear hx hcell
          obtain ⟨xk, xb⟩ := x
          simp only at e0 e1 hbx
          have hab := alloc_below wr (.cells #[.int .i64 xk, .int .u8 xb] 33)
          have hbk := blk_new wr (.cells #[.int .i64 xk, .int .u8 xb] 33)
          have hxz : t2 wr.heap.size = 0 := by
            by_cases e : t2 wr.heap.size = 0
            · exact e
            · exact absurd (JG.lt HA.out.j _ e) (Nat.lt_irrefl _)
          have HA1 := Lib.hid (HA.out.below hab)
          have HL1 := Lib.hid ((hab.block lv (blk_lt HL.out)).trans HL.out)
          have HX1 := Lib.hid hbk
          have HXZ := Lib.hid hxz
          have HXN : Hid (wr.heap.size ≠ lv) := Lib.hid (by have := blk_lt HL.out; omega)
          obtain ⟨l1, r1, e1', d1, hj⟩ := HA1.out.j
          have HBU := Lib.hid (busy_ok hj HWF.out.pos)
          have HST := Lib.hid (step_ok xk xb hbx (HWF.out.wf (by have := HLL.out; have := HM.out; omega)) hj)
          have HWN := Lib.hid (HWF.out.step xk xb hbx)
          have HLS := Lib.hid (HLK.out.step (g := g) xk xb)
          clear hab hbk hxz hj HA HL hbx hlen
          go_upto_region 26 with fail
          generalize wr.alloc (.cells #[.int .i64 xk, .int .u8 xb] 33) = wa at HA1 HL1 HX1 HBU HST ⊢
          generalize wr.heap.size = bx at HX1 HXZ HXN ⊢
          have q0 : wa.cell? ⟨bx, 0, none⟩ = some (.int .i64 xk) := blk_cell HX1.out 0
          have q1 : wa.cell? ⟨bx, 1, none⟩ = some (.int .u8 xb) := blk_cell HX1.out 1
          go_upto_region 28 with (first | (go_at_call 17; refine (HBU.out).mono ?_; rintro e wx ⟨rfl, rfl⟩) | (go_at_call 16; refine (HST.out).mono ?_; rintro e w2 ⟨rfl, t3, hj2, hx2⟩; have HA2 := Lib.hid (HA1.out.next hj2 hx2); have HL2 := Lib.hid (nxt_keep hx2 HL1.out HL0.out); have HX2 := Lib.hid (nxt_keep hx2 HX1.out HXZ.out); clear hj2 hx2))
          clear q0 q1
          obtain ⟨hl2, HL0'⟩ := HL2.out
          obtain ⟨hx2, HX0'⟩ := HX2.out
          have q0 : w2.cell? ⟨bx, 0, none⟩ = some (.int .i64 xk) := blk_cell hx2 0
          have q1 : w2.cell? ⟨bx, 1, none⟩ = some (.int .u8 xb) := blk_cell hx2 1
          have r0 : w2.cell? ⟨lv, 0, none⟩ = some (.int .i64 la) := blk_cell hl2 0
          have r1 : w2.cell? ⟨lv, 1, none⟩ = some (.int .u8 lb) := blk_cell hl2 1
          have hfz : ∀ i, w2.frozen? ⟨lv, i, none⟩ = false := fun i => blk_frozen hl2 i
          have HLZ2 := Lib.hid HL0'
          have hcs : (stepP g s2 xk xb).2 = false ∨ ((stepP g s2 xk xb).2 = true ∧ R = false ∧ (s2.busy = false ∨ (s2.busy = true ∧ ((xk = 1 ∧ xb = 112) ∨ (xk = 1 ∧ xb = 255) ∨ (xk = 4 ∧ la = 1 ∧ lb = 112) ∨ (xk = 4 ∧ la = 4))))) := by
            cases hok : (stepP g s2 xk xb).2 with
            | false => exact .inl rfl
            | true =>
              have hR : R = false := by
                cases R with
                | false => rfl
                | true => rw [step_op10 (HLK.out.1 rfl) xk xb] at hok; cases hok
              refine .inr ⟨rfl, hR, ?_⟩
              cases hbz : s2.busy with
              | false => exact .inl rfl
              | true =>
                refine .inr ⟨rfl, ?_⟩
                rcases step_busy g s2 xk xb hbz hok with ⟨h1, h2 | h2⟩ | ⟨h1, h2⟩
                · exact .inl ⟨h1, h2⟩
                · exact .inr (.inl ⟨h1, h2⟩)
                · rcases HLK.out.2 hR h2 with ⟨h3, h4⟩ | h3
                  · exact .inr (.inr (.inl ⟨h1, h3, h4⟩))
                  · exact .inr (.inr (.inr ⟨h1, h3⟩))
          clear hl2 hx2 HL0' HX0' HST HBU HA1 HL1 HX1 HLK HWF
          obtain ⟨ST, hST⟩ : ∃ ST, ST = (stepP g s2 xk xb).1 := ⟨_, rfl⟩
          rw [← hST] at HA2 HWN HLS
          clear hST
          obtain ⟨OK, hOK⟩ : ∃ OK, OK = (stepP g s2 xk xb).2 := ⟨_, rfl⟩
          rw [← hOK] at hcs HLS ⊢
          clear hOK
          obtain ⟨BZ, hBZ⟩ : ∃ BZ, BZ = s2.busy := ⟨_, rfl⟩
          rw [← hBZ] at hcs ⊢
          clear hBZ
          rcases hcs with rfl | ⟨rfl, rfl, rfl | ⟨rfl, ⟨rfl, rfl⟩ | ⟨rfl, rfl⟩ | ⟨rfl, rfl, rfl⟩ | ⟨rfl, rfl⟩⟩⟩
          · cases R <;> cases BZ
            all_goals
              as_aux_lemma =>
                go_wp2_with fail
                go_roundw
                case rel => exact ⟨k + 1, hkm, by go_num, _, t3, ST, _, _, rfl, Lib.hid ((HA2.out.put HLZ2.out HLN.out 0 _).put HLZ2.out HLN.out 1 _), HWN, Lib.hid (put2 HL2.out.1), HLZ2, HLS⟩
                case measure => exact step_measure hkm
          all_goals
            as_aux_lemma =>
              go_wp2_with fail
              go_roundw
              case rel => exact ⟨k + 1, hkm, by go_num, _, t3, ST, _, _, rfl, Lib.hid ((HA2.out.put HLZ2.out HLN.out 0 _).put HLZ2.out HLN.out 1 _), HWN, Lib.hid (put2 HL2.out.1), HLZ2, HLS⟩
              case measure => exact step_measure hkm
        · have hke : k = m := by omega
          subst hke
          clear hk hkm HLK HL
          obtain ⟨l1, r1, e1', d1, hj⟩ := HA.out.j
          have hwf := HWF.out.wf (by have := HLL.out; have := HM.out; omega)
          have HPO := Lib.hid (power_ok hj HWF.out.pos hwf.dn)
          have HWP := Lib.hid HWF.out.power
          have HPF := Lib.hid (power_ff g s2)
          have HP9 : Hid (k ≤ 800) := Lib.hid (by have := HLL.out; have := HM.out; omega)
          clear hj hwf HWF
          go_wp2_with (first
            | (go_at_call 22; refine (HPO.out).mono ?_; rintro e wp ⟨rfl, hj2, hx2⟩; have HAP : Hid (At w wp w.heap.size p g t2 (powerP s2) gb) := Lib.hid (HA.out.next ⟨_, _, _, _, hj2⟩ hx2); have HBU1 := Lib.hid (busy_ok hj2 HWP.out.pos); rw [HPF.out.2.2] at HBU1; have HST1 := Lib.hid (step_ok 1 255 (by omega) (HWP.out.wf (by have := HP9.out; omega)) hj2); rw [HPF.out.1] at HST1; clear hj2 hx2)
            | (go_at_call 17; refine (HBU1.out).mono ?_; rintro e wx ⟨rfl, rfl⟩; clear HBU1)
            | (go_at_call 16; refine (HST1.out).mono ?_; rintro e ws ⟨rfl, t5, hj5, hx5⟩; have HAS := Lib.hid (HAP.out.next hj5 hx5); obtain ⟨l6, r6, e6, d6, hj6⟩ := hj5; have HBU2 := Lib.hid (busy_ok hj6 (HWP.out.step 1 255 (by omega)).pos); rw [HPF.out.2.1] at HBU2; clear hj6 hx5)
            | (go_at_call 17; refine (HBU2.out).mono ?_; rintro e wx ⟨rfl, rfl⟩; clear HBU2))
          go_ret
          exact ⟨rfl, HBE.out ▸ HAS.out.b⟩
end
end Go.Proofs.Ytfmogmgdpamfgaa.Jd

namespace Go.Proofs.Ytfmogmgdpamfgaa.Jd
open Go.RowKit Go.Proofs.YtfmogmgdpamfgaaW.PrintWords Go.Proofs.YtfmogmgdpamfgaaW.PrintLast Go.Proofs.YtfmogmgdpamfgaaW.PrintMore
set_option linter.unusedVariables false
theorem wf8 {x : Int} (h : (Lit.int .u8 x).wf = true) : 0 ≤ x ∧ x ≤ 255 := by
  simp [Lit.wf, IntKind.min, IntKind.max, IntKind.bits, IntKind.signed] at h
  exact h
theorem wf16 {x : Int} (h : (Lit.int .u16 x).wf = true) : 0 ≤ x ∧ x ≤ 65535 := by
  simp [Lit.wf, IntKind.min, IntKind.max, IntKind.bits, IntKind.signed] at h
  exact h
theorem jfits_all (g : Ge) (w : World) (l : List (Int × Int)) {A : Option Addr} {c : Nat} (k : Int) (hk : 0 ≤ k ∧ k ≤ 65535) (hlc : l.length ≤ c) (hr : Kd.C kCy w A l.length l) (hby : ∀ x ∈ l, 0 ≤ x.2 ∧ x.2 ≤ 255) : Calls Try.prog 5 #[g.v, .slice A l.length c, .int .u16 k] w fun e w' => e = .returned (.bool true) ∧ Below w.heap.size w w' := by
  obtain ⟨B, _, hs⟩ := small_any g
  by_cases h1 : B = false ∨ 800 < l.length
  · exact jfits_much w l k B hs h1
  · have hB : B = true := by
      cases B with
      | true => rfl
      | false => exact absurd (.inl rfl) h1
    have hl : l.length ≤ 800 := by
      by_cases h2 : l.length ≤ 800
      · exact h2
      · exact absurd (.inr (by omega)) h1
    subst hB
    by_cases h3 : g.ok
    · exact jfits_ok h3 w l k hk hs hl hlc hr hby
    · exact jfits_bad h3 w l k hs hl hlc
end Go.Proofs.Ytfmogmgdpamfgaa.Jd
namespace Go.Proofs.Ytfmogmgdpamfgaa
open Go.RowKit Go.Proofs.YtfmogmgdpamfgaaW.PrintWords Go.Proofs.YtfmogmgdpamfgaaW.PrintLast Go.Proofs.YtfmogmgdpamfgaaW.PrintMore
set_option linter.unusedVariables false
theorem judgeFits_walk (w : World) (x0 : (Int × Int × Int × Int × Int × Int × Int)) (hw0 : ((Lit.int .i64 x0.1).wf = true ∧ (Lit.int .i64 x0.2.1).wf = true ∧ (Lit.int .i64 x0.2.2.1).wf = true ∧ (Lit.int .i64 x0.2.2.2.1).wf = true ∧ (Lit.int .i64 x0.2.2.2.2.1).wf = true ∧ (Lit.int .i64 x0.2.2.2.2.2.1).wf = true ∧ (Lit.int .i64 x0.2.2.2.2.2.2).wf = true)) (x1 : (List (Int × Int))) {A1_0 : Option Addr} {c1_0 : Nat} (l1_0 : x1.length ≤ c1_0) (g1_0 : Kd.C (Kd.pair (Kd.int .i64) (Kd.int .u8)) w A1_0 x1.length x1) (hw1 : (∀ z0 ∈ x1, ((Lit.int .i64 z0.1).wf = true ∧ (Lit.int .u8 z0.2).wf = true))) (x2 : Int) (hw2 : (Lit.int .u16 x2).wf = true) :
    Calls Try.prog 5 #[.agg #[.int .i64 x0.1, .int .i64 x0.2.1, .int .i64 x0.2.2.1, .int .i64 x0.2.2.2.1, .int .i64 x0.2.2.2.2.1, .int .i64 x0.2.2.2.2.2.1, .int .i64 x0.2.2.2.2.2.2], .slice A1_0 x1.length c1_0, .int .u16 x2] w fun e w' => e = .returned (.bool true) ∧ Below w.heap.size w w' :=
  Jd.jfits_all ⟨x0.1, x0.2.1, x0.2.2.1, x0.2.2.2.1, x0.2.2.2.2.1, x0.2.2.2.2.2.1, x0.2.2.2.2.2.2⟩ w x1 x2 (Jd.wf16 hw2) l1_0 g1_0 (fun x hx => Jd.wf8 (hw1 x hx).2)
end Go.Proofs.Ytfmogmgdpamfgaa

