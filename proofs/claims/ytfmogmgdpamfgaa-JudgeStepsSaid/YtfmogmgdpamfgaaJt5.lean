import Derived.Test.YtfmogmgdpamfgaaJt3
namespace Go.Proofs.Ytfmogmgdpamfgaa.Jd
open Go.RowKit Go.Proofs.YtfmogmgdpamfgaaW.PrintWords Go.Proofs.YtfmogmgdpamfgaaW.PrintLast Go.Proofs.YtfmogmgdpamfgaaW.PrintMore
set_option linter.unusedVariables false
set_option linter.unusedSimpArgs false
section
variable {p p1 p2 b0 gb : Nat} {g : Ge} {t t1 t2 : Nat → Nat}
theorem T3.made {w w3 w4 w6 wA wB : World} (hB3 : Below w.heap.size w w3) (h34 : Below w3.heap.size w3 w4) (hj : JG w4 p g t (newP g) gb) (hlo : ∀ k, t k ≠ 0 → w3.heap.size ≤ k) (h46 : Below w4.heap.size w4 w6) (h6A : Below w6.heap.size w6 wA) (hA : ∃ H, RAt wA p1 g t1 (newR g) H) (hloA : ∀ k, t1 k ≠ 0 → w6.heap.size ≤ k)
    (hAB : Below wA.heap.size wA wB) (hBv : ∃ H, RAt wB p2 g t2 (newR g) H) (hloB : ∀ k, t2 k ≠ 0 → wA.heap.size ≤ k) (hgb : GBox w3 b0 g) :
    T3 w wB w.heap.size p p1 p2 b0 gb g t t1 t2 (newP g) (newR g) (newR g) ∧ Kp wB t t1 t2 b0 (.cells #[.int .i64 g.pl, .int .i64 g.bl, .int .i64 g.pg, .int .i64 g.ch, .int .i64 g.ck, .int .i64 g.ru, .int .i64 g.pa] 23 (0, 0)) := by
  have z3 := hB3.size
  have z4 := h34.size
  have z6 := h46.size
  have zA := h6A.size
  have zB := hAB.size
  have h4B : Below w4.heap.size w4 wB := (h46.trans (h6A.mono z6)).trans (hAB.mono (by omega))
  have h3B : Below w3.heap.size w3 wB := h34.trans (h4B.mono z4)
  have ltJ := JG.lt hj
  have ltA := rat_lt hA
  have hb3 := blk_lt hgb
  have zz : ∀ {u : Nat → Nat} {N : Nat} (k : Nat), (∀ k, u k ≠ 0 → N ≤ k) → k < N → u k = 0 := fun {u N} k h1 h2 => by
    by_cases e : u k = 0
    · exact e
    · exact absurd (h1 k e) (by omega)
  refine ⟨⟨hj.below h4B, hA.imp fun H x => x.below hAB, hBv, hB3.trans (h3B.mono z3), by omega, ⟨fun k hk => Nat.le_trans z3 (hlo k hk), fun k hk => Nat.le_trans (by omega) (hloA k hk), fun k hk => Nat.le_trans (by omega) (hloB k hk)⟩, fun k => ?_, fun k => ?_, fun k => ?_⟩, ⟨(h3B.block b0 hb3).trans hgb, zz b0 hlo hb3, zz b0 hloA (by omega), zz b0 hloB (by omega)⟩⟩
  · by_cases e : t k = 0
    · exact .inl e
    · exact .inr (zz k hloA (by have := ltJ k e; omega))
  · by_cases e : t k = 0
    · exact .inl e
    · exact .inr (zz k hloB (by have := ltJ k e; omega))
  · by_cases e : t1 k = 0
    · exact .inl e
    · exact .inr (zz k hloB (by have := ltA k e; omega))
end
section
variable {g : Ge}
set_option maxHeartbeats 16000000 in
set_option maxRecDepth 100000 in
theorem jst_ok (hg : g.ok) (w : World) (l : List (Int × Int)) {A : Option Addr} {c : Nat} (hsm : ∀ w, Calls Try.prog 12 #[g.v] w fun e w' => e = .returned (.bool true) ∧ Below w.heap.size w w') (hll : l.length ≤ 800) (hlc : l.length ≤ c) (hr : Kd.C kCy w A l.length l) (hby : ∀ x ∈ l, 0 ≤ x.2 ∧ x.2 ≤ 255) : Calls Try.prog 4 #[g.v, .slice A l.length c] w fun e w' => e = .returned (.bool true) ∧ Below w.heap.size w w' := by
  have HRI := Lib.hid (gright_ok hg)
  have HNW := Lib.hid (jnew_ok hg)
  have HRN := Lib.hid (rnew_ok hg)
  have HCR := Lib.hid hr
  have HBY := Lib.hid hby
  have HGG := Lib.hid hg
  have HLL := Lib.hid hll
  obtain ⟨TN, htn⟩ : ∃ TN, TN = takeN g (newP g) l := ⟨_, rfl⟩
  have HTN := Lib.hid htn
  have HRU : Hid (∀ W, Kd.C kCy W A l.length l → Calls Try.prog 19 #[g.v, .slice A l.length c] W fun e w' => e = .returned (.tuple #[.int .i64 (TN : Int), .bool (decide (TN = l.length))]) ∧ Below W.heap.size W w') := Lib.hid (fun W hC => by
    have h := run_ok hg A c l W (by omega) hby hC hlc
    rw [← htn] at h
    exact h)
  clear hg hll hlc hr hby htn
  have HSM := Lib.hid hsm
  clear hsm
  have hab := alloc_below w (.cells #[.int .i64 g.pl, .int .i64 g.bl, .int .i64 g.pg, .int .i64 g.ch, .int .i64 g.ck, .int .i64 g.ru, .int .i64 g.pa] 23)
  have hgb := GBox.new w g
  have HB0 := Lib.hid hab
  have HG0 := Lib.hid hgb
  obtain ⟨m, hm⟩ : ∃ m, m = l.length := ⟨_, rfl⟩
  have HM := Lib.hid hm
  rw [← hm]
  rw [← hm] at HRU
  clear hab hgb hm
  unfold Ge.v
  go_enter Try.func4, Try.ntmps4
  go_upto_region 1 with fail
  generalize w.alloc (.cells #[.int .i64 g.pl, .int .i64 g.bl, .int .i64 g.pg, .int .i64 g.ch, .int .i64 g.ck, .int .i64 g.ru, .int .i64 g.pa] 23) = w0 at HB0 HG0 ⊢
  generalize hb0 : w.heap.size = b0 at HG0 ⊢
  have HBE := Lib.hid hb0
  clear hb0
  go_upto_region 3 with (go_at_call 11; refine (awake_ok _).mono ?_; rintro e w1 ⟨rfl, hb1⟩; have HB1 := Lib.hid (chainC (Nat.le_refl _) HB0.out hb1); have HG1 := Lib.hid (HG0.out.below hb1); clear hb1)
  clear HB0 HG0
  obtain ⟨c0, c1, c2, c3, c4, c5, c6⟩ := HG1.out.c
  have hlong : decide ((800 : Int) < (m : Int)) = false := decide_eq_false (by have := HLL.out; have := HM.out; omega)
  go_upto_region 5 with (go_at_call 12; refine (HSM.out _).mono ?_; rintro e w3 ⟨rfl, hb3⟩; have HB3 := Lib.hid (chainC (Nat.le_refl _) HB1.out hb3); have HG3 := Lib.hid (HG1.out.below hb3); clear hb3)
  clear c0 c1 c2 c3 c4 c5 c6
  obtain ⟨c0, c1, c2, c3, c4, c5, c6⟩ := HG3.out.c
  clear HB1 HG1 hlong
  have hC3 : Kd.C kCy w3 A m l := by rw [HM.out]; exact Kd.C_below HCR.out (HBE.out ▸ HB3.out)
  have HC3 := Lib.hid hC3
  clear hC3
  go_upto_region 6 with (go_at_call 14; refine (HNW.out _).mono ?_; rintro e w4 ⟨p, t, gb, rfl, hjg, hb4, hlo⟩; have H34 := Lib.hid hb4; have HJ4 := Lib.hid hjg; have HLO := Lib.hid hlo; have HG4 := Lib.hid (HG3.out.below hb4); have HC4 := Lib.hid (Kd.C_below HC3.out hb4); clear hb4 hlo hjg)
  clear c0 c1 c2 c3 c4 c5 c6
  obtain ⟨c0, c1, c2, c3, c4, c5, c6⟩ := HG4.out.c
  clear HC3
  obtain ⟨AL, hal⟩ : ∃ AL, AL = decide (TN = m) := ⟨_, rfl⟩
  have HRU4' := HRU.out w4 HC4.out
  rw [← hal] at HRU4'
  have HRU4 := Lib.hid HRU4'
  have HAL := Lib.hid hal
  clear HRU4' hal
  go_upto_region 7 with (go_at_call 19; refine (HRU4.out).mono ?_; rintro e w5 ⟨rfl, hb5⟩; have H45 := Lib.hid hb5; have HG5 := Lib.hid (HG4.out.below hb5); clear hb5)
  clear c0 c1 c2 c3 c4 c5 c6
  obtain ⟨c0, c1, c2, c3, c4, c5, c6⟩ := HG5.out.c
  clear HRU HRU4 HC4 HG4
  go_upto_region 9 with (go_at_call 13; refine (HRI.out _).mono ?_; rintro e w6 ⟨rfl, hb6⟩; have H46 := Lib.hid (H45.out.trans (hb6.mono H45.out.size)); have HG6 := Lib.hid (HG5.out.below hb6); clear hb6)
  clear c0 c1 c2 c3 c4 c5 c6
  obtain ⟨c0, c1, c2, c3, c4, c5, c6⟩ := HG6.out.c
  clear HG5 H45
  go_upto_region 11 with fail
  have HRN1 := Lib.hid (HRN.out w6.drew)
  have H46d : Hid (Below w4.heap.size w4 w6.drew) := Lib.hid ⟨H46.out.os, H46.out.tape, H46.out.output, H46.out.size, H46.out.block⟩
  have HGd : Hid (GBox w6.drew b0 g) := Lib.hid HG6.out.drew
  go_region_held3 (fun W => W.cell? ⟨b0, 0, none⟩ = some (.int .i64 g.pl) ∧ W.cell? ⟨b0, 1, none⟩ = some (.int .i64 g.bl) ∧ W.cell? ⟨b0, 2, none⟩ = some (.int .i64 g.pg) ∧ W.cell? ⟨b0, 3, none⟩ = some (.int .i64 g.ch) ∧ W.cell? ⟨b0, 4, none⟩ = some (.int .i64 g.ck) ∧ W.cell? ⟨b0, 5, none⟩ = some (.int .i64 g.ru) ∧ W.cell? ⟨b0, 6, none⟩ = some (.int .i64 g.pa)) (first | exact ⟨c0, c1, c2, c3, c4, c5, c6⟩ | exact ⟨f0, f1, f2, f3, f4, f5, f6⟩ | exact ⟨k0, k1, k2, k3, k4, k5, k6⟩) (first
    | (go_at_call 20; refine (HRN1.out).mono ?_; rintro e wA ⟨p1, rfl, hbA, t1, hjA, hloA⟩; obtain ⟨f0, f1, f2, f3, f4, f5, f6⟩ := (HGd.out.below hbA).c; have H6A := Lib.hid hbA; have HJA := Lib.hid hjA; have HLA := Lib.hid hloA; have HGA := Lib.hid (HGd.out.below hbA); clear HRN1 hbA hjA hloA)
    | (go_at_call 20; refine (HRN.out _).mono ?_; rintro e wB ⟨p2, rfl, hbB, t2, hjB, hloB⟩; obtain ⟨k0, k1, k2, k3, k4, k5, k6⟩ := (HGA.out.below hbB).c; have HAB := Lib.hid hbB; have HJB := Lib.hid hjB; have HLB := Lib.hid hloB; clear HGA hbB hjB hloB))
  obtain ⟨ht3, hkb⟩ := T3.made HB3.out H34.out HJ4.out HLO.out H46d.out H6A.out HJA.out HLA.out HAB.out HJB.out HLB.out HG3.out
  have HT := Lib.hid ht3
  have HK := Lib.hid hkb
  clear ht3 hkb H34 HJ4 HLO H46 H46d H6A HJA HLA HAB HJB HLB HG3 HB3 HG6 HGd c0 c1 c2 c3 c4 c5 c6 HSM HRI HNW HRN f0 f1 f2 f3 f4 f5 f6 k0 k1 k2 k3 k4 k5 k6
  go_wp2_with fail
  have hmb : m ≤ 800 := by have := HLL.out; have := HM.out; omega
  have HVS := Lib.hid (VS.new HGG.out l)
  have HRJ : Hid (Rj g (newP g) (newR g)) := Lib.hid (.inl (new_rel HGG.out))
  have HWF := Lib.hid (WfN.new HGG.out)
  have HC0 : Hid (∀ W, Below w.heap.size w W → Kd.C kCy W A l.length l) := Lib.hid (fun W hW => Kd.C_below HCR.out hW)
  clear HCR
  go_loopw [62, 11, 12] (fun i f gd wr => ∃ k : Nat, k ≤ m ∧ i = .int .i64 k ∧ ∃ (F : Nat) (G : Bool) (t t1 t2 : Nat → Nat) (s : JS) (r1 r2 : RS), f = .int .i64 F ∧ gd = .bool G ∧ Hid (T3 w wr w.heap.size p p1 p2 b0 gb g t t1 t2 s r1 r2) ∧ Hid (Kp wr t t1 t2 b0 (.cells #[.int .i64 g.pl, .int .i64 g.bl, .int .i64 g.pg, .int .i64 g.ch, .int .i64 g.ck, .int .i64 g.ru, .int .i64 g.pa] 23 (0, 0))) ∧ Hid (Rj g s r1) ∧ Hid (WfN g k s) ∧ Hid (VS g l G F k r2)) (fun i _ _ _ => m - (intOf i).toNat)
  case atStart => exact ⟨0, by omega, rfl, 0, true, t, t1, t2, _, _, _, rfl, rfl, HT, HK, HRJ, HWF, HVS⟩
  case round =>
    clear HT HK HRJ HWF HVS t t1 t2
    obtain ⟨k, hk, rfl, F, G, t, t1, t2, s, r1, r2, rfl, rfl, HT, HK, HRJ, HWF, HVS⟩ := hrel
    by_cases hkm : k < m
    · have hk0 : (k : Int) < (m : Int) := by omega
      have hlen : k < l.length := by rw [← HM.out]; exact hkm
      obtain ⟨b5, o5, rfl, _, hcell⟩ := rowCy (HC0.out wr HT.out.b) (by omega)
      obtain ⟨e0, e1⟩ := hcell k _ (List.getElem?_eq_getElem hlen)
      have hbx := HBY.out l[k] (List.getElem_mem hlen)
      obtain ⟨x, hx⟩ : ∃ x, x = l[k] := ⟨_, rfl⟩
      have HGX : Hid (l[k]? = some x) := Lib.hid (by rw [List.getElem?_eq_getElem hlen, hx])
      rw [← hx] at e0 e1 hbx
      clear hx hcell hlen
      obtain ⟨xk, xb⟩ := x
      simp only at e0 e1 hbx
      have HBX := Lib.hid hbx
      have HT1 := Lib.hid (HT.out.fresh (.cells #[.int .i64 xk, .int .u8 xb] 33))
      have HK1 := Lib.hid (HK.out.below (alloc_below wr (.cells #[.int .i64 xk, .int .u8 xb] 33)))
      have HX1 := Lib.hid (HT.out.kp #[.int .i64 xk, .int .u8 xb] 33)
      clear hbx HT HK
      go_upto_region 16 with fail
      generalize wr.alloc (.cells #[.int .i64 xk, .int .u8 xb] 33) = wa at HT1 HK1 HX1 ⊢
      generalize wr.heap.size = bx at HX1 ⊢
      clear e0 e1
      have q0 := blk_cell HX1.out.h 0
      have q1 := blk_cell HX1.out.h 1
      simp only [List.getElem?_toArray, List.getElem?_cons_zero, List.getElem?_cons_succ] at q0 q1
      cases G with
      | false =>
        have HVS2 := Lib.hid (HVS.out.off (k + 1) r2)
        go_upto_region 19 with fail
        clear q0 q1 HVS
        obtain ⟨w2, hw2⟩ : ∃ w2, w2 = wa := ⟨_, rfl⟩
        subst hw2
        have HT2 := HT1
        have HK2 := HK1
        have HX2 := HX1
        clear HT1 HK1 HX1
        by_cases hx0 : xk = 0
        · as_aux_lemma =>
          subst hx0
          have HPJ := Lib.hid (HT2.out.jpow HWF.out (by omega))
          have HIN := Lib.hid (ine_of HRJ.out.rc HWF.out (by omega))
          have HRL : Hid (Rj g (powerP s) (powerR r1)) := Lib.hid (.inl (power_rel HRJ.out.rc))
          have HWN : Hid (WfN g (k + 1) (powerP s)) := Lib.hid (HWF.out.power.mono (by omega))
          have q0 := blk_cell HX2.out.h 0
          have q1 := blk_cell HX2.out.h 1
          simp only [List.getElem?_toArray, List.getElem?_cons_zero, List.getElem?_cons_succ] at q0 q1
          go_upto_region 24 with (first
            | (go_at_call 22; refine (HPJ.out).mono ?_; rintro e wp ⟨rfl, ht, hx⟩; have HT3 := Lib.hid ht; have HK3 := Lib.hid (HK2.out.setJ hx); have HPW := Lib.hid (ht.wpow HIN.out); clear ht hx HPJ)
            | (go_at_call 23; refine (HPW.out).mono ?_; rintro e wq ⟨rfl, ht, hx⟩; have HT4 := Lib.hid ht; have HK4 := Lib.hid (HK3.out.setW hx); clear ht hx HPW))
          clear q0 q1 HT2 HK2 HX2 HT3 HK3
          have HD4 : Hid (Below wq.heap.size wq wq.drew) := Lib.hid ⟨rfl, rfl, rfl, Nat.le_refl _, fun _ _ => rfl⟩
          have hbz := (HT4.out.below HD4.out).jbusy HWN.out
          have d14 := HT4.out.wbusy
          rw [HRL.out.rc.bu] at d14
          generalize JS.busy _ = bz at hbz d14
          have HBZ := Lib.hid hbz
          clear hbz
          go_region_held3 (fun W => W.cell? ⟨p1, 14, none⟩ = some (.bool bz)) (exact d14) (first | (go_at_call 17; refine (HBZ.out).mono ?_; rintro e wx ⟨rfl, rfl⟩))
          cases bz
          all_goals
            go_wp2_with fail
            go_roundw
            case rel => exact ⟨k + 1, hkm, by go_num, F, false, _, _, _, _, _, _, rfl, rfl, Lib.hid (HT4.out.below HD4.out), Lib.hid (HK4.out.below HD4.out), HRL, HWN, HVS2⟩
            case measure => exact step_measure hkm
        · as_aux_lemma =>
          have nx0 := beq_f hx0
          have hs := step_rel HGG.out HRJ.out xk xb HBX.out.1
          have HRL : Hid (Rj g (stepP g s xk xb).1 (stepR g r1 xk xb).1) := Lib.hid hs.2.1
          have HWN := Lib.hid (HWF.out.step xk xb HBX.out)
          have HD2 : Hid (Below w2.heap.size w2 w2.drew) := Lib.hid ⟨rfl, rfl, rfl, Nat.le_refl _, fun _ _ => rfl⟩
          have hsj := (HT2.out.below HD2.out).jstep xk xb HBX.out HWF.out (by omega)
          have HWW := Lib.hid (wr_of' HRJ.out HWF.out (by omega))
          obtain ⟨ok, hok⟩ : ∃ ok, (stepR g r1 xk xb).2 = ok := ⟨_, rfl⟩
          rw [hs.1, hok] at hsj
          have HOK := Lib.hid hok
          have HSJ := Lib.hid hsj
          clear hs hsj hok hx0
          have q0 := blk_cell HX2.out.h 0
          have q1 := blk_cell HX2.out.h 1
          simp only [List.getElem?_toArray, List.getElem?_cons_zero, List.getElem?_cons_succ] at q0 q1
          go_upto_region 22 with fail
          go_region_held3 (fun W => W.cell? ⟨bx, 0, none⟩ = some (.int .i64 xk) ∧ W.cell? ⟨bx, 1, none⟩ = some (.int .u8 xb)) (first | exact ⟨q0, q1⟩ | exact ⟨f0, f1⟩ | exact ⟨k0, k1⟩) (first
            | (go_at_call 16; refine (HSJ.out).mono ?_; rintro e w3 ⟨rfl, t', ht, hx⟩; have HT3 := Lib.hid ht; have HK3 := Lib.hid ((HK2.out.below HD2.out).setJ hx); have HX3 := Lib.hid ((HX2.out.below HD2.out).setJ hx); have f0 := blk_cell HX3.out.h 0; have f1 := blk_cell HX3.out.h 1; simp only [List.getElem?_toArray, List.getElem?_cons_zero, List.getElem?_cons_succ] at f0 f1; have hsw := ht.wstep xk xb HBX.out HWW.out; rw [HOK.out] at hsw; have HSW := Lib.hid hsw; clear ht hx hsw)
            | (go_at_call 21; refine (HSW.out).mono ?_; rintro e wq ⟨rfl, t1', ht, hx⟩; have HT4 := Lib.hid ht; have HK4 := Lib.hid (HK3.out.setW hx); have HX4 := Lib.hid (HX3.out.setW hx); have k0 := blk_cell HX4.out.h 0; have k1 := blk_cell HX4.out.h 1; simp only [List.getElem?_toArray, List.getElem?_cons_zero, List.getElem?_cons_succ] at k0 k1; clear ht hx))
          cases ok
          all_goals
            clear q0 q1 f0 f1 k0 k1 HT2 HK2 HX2 HT3 HK3 HX3 HX4 HSJ HSW HD2
            go_upto_region 24 with fail
            have HD4 : Hid (Below wq.heap.size wq wq.drew) := Lib.hid ⟨rfl, rfl, rfl, Nat.le_refl _, fun _ _ => rfl⟩
            have hbz := (HT4.out.below HD4.out).jbusy HWN.out
            have d14 := HT4.out.wbusy
            rw [HRL.out.rc.bu] at d14
            generalize JS.busy _ = bz at hbz d14
            have HBZ := Lib.hid hbz
            clear hbz
            go_region_held3 (fun W => W.cell? ⟨p1, 14, none⟩ = some (.bool bz)) (exact d14) (first | (go_at_call 17; refine (HBZ.out).mono ?_; rintro e wx ⟨rfl, rfl⟩))
            cases bz
            all_goals
              go_wp2_with fail
              go_roundw
              case rel => exact ⟨k + 1, hkm, by go_num, F, false, _, _, _, _, _, _, rfl, rfl, Lib.hid (HT4.out.below HD4.out), Lib.hid (HK4.out.below HD4.out), HRL, HWN, HVS2⟩
              case measure => exact step_measure hkm
      | true =>
        have hFk : F = k := by
          rcases HVS.out with ⟨_, h, _⟩ | ⟨h, _⟩
          · exact h
          · cases h
        subst hFk
        have HWV : Hid (r2.no = false → Wr g r2) := Lib.hid (by
          rcases HVS.out with ⟨_, _, sv, h1, h2, _⟩ | ⟨h, _⟩
          · exact fun _ => wr_of h1 h2 (by omega)
          · cases h)
        have hv2 := VS.step HGG.out HVS.out HGX.out HBX.out
        have hvc := HT1.out.vstep xk xb HBX.out HWV.out
        obtain ⟨ok2, hok2⟩ : ∃ ok2, (stepR g r2 xk xb).2 = ok2 := ⟨_, rfl⟩
        rw [hok2] at hvc
        simp only [hok2] at hv2
        have HVC := Lib.hid hvc
        clear hok2 hvc HVS HWV
        cases ok2 with
        | false =>
          have HVS2 := Lib.hid hv2
          rw [if_neg (by decide)] at HVS2
          clear hv2
          go_upto_region 19 with (go_at_call 21; refine (HVC.out).mono ?_; rintro e w2 ⟨rfl, t2', ht, hx⟩; have HT2 := Lib.hid ht; have HK2 := Lib.hid (HK1.out.setV hx); have HX2 := Lib.hid (HX1.out.setV hx); clear ht hx)
          clear q0 q1 HT1 HK1 HX1 HVC
          by_cases hx0 : xk = 0
          · as_aux_lemma =>
            subst hx0
            have HPJ := Lib.hid (HT2.out.jpow HWF.out (by omega))
            have HIN := Lib.hid (ine_of HRJ.out.rc HWF.out (by omega))
            have HRL : Hid (Rj g (powerP s) (powerR r1)) := Lib.hid (.inl (power_rel HRJ.out.rc))
            have HWN : Hid (WfN g (F + 1) (powerP s)) := Lib.hid (HWF.out.power.mono (by omega))
            have q0 := blk_cell HX2.out.h 0
            have q1 := blk_cell HX2.out.h 1
            simp only [List.getElem?_toArray, List.getElem?_cons_zero, List.getElem?_cons_succ] at q0 q1
            go_upto_region 24 with (first
              | (go_at_call 22; refine (HPJ.out).mono ?_; rintro e wp ⟨rfl, ht, hx⟩; have HT3 := Lib.hid ht; have HK3 := Lib.hid (HK2.out.setJ hx); have HPW := Lib.hid (ht.wpow HIN.out); clear ht hx HPJ)
              | (go_at_call 23; refine (HPW.out).mono ?_; rintro e wq ⟨rfl, ht, hx⟩; have HT4 := Lib.hid ht; have HK4 := Lib.hid (HK3.out.setW hx); clear ht hx HPW))
            clear q0 q1 HT2 HK2 HX2 HT3 HK3
            have HD4 : Hid (Below wq.heap.size wq wq.drew) := Lib.hid ⟨rfl, rfl, rfl, Nat.le_refl _, fun _ _ => rfl⟩
            have hbz := (HT4.out.below HD4.out).jbusy HWN.out
            have d14 := HT4.out.wbusy
            rw [HRL.out.rc.bu] at d14
            generalize JS.busy _ = bz at hbz d14
            have HBZ := Lib.hid hbz
            clear hbz
            go_region_held3 (fun W => W.cell? ⟨p1, 14, none⟩ = some (.bool bz)) (exact d14) (first | (go_at_call 17; refine (HBZ.out).mono ?_; rintro e wx ⟨rfl, rfl⟩))
            cases bz
            all_goals
              go_wp2_with fail
              go_roundw
              case rel => exact ⟨F + 1, hkm, by go_num, F, false, _, _, _, _, _, _, rfl, rfl, Lib.hid (HT4.out.below HD4.out), Lib.hid (HK4.out.below HD4.out), HRL, HWN, HVS2⟩
              case measure => exact step_measure hkm
          · as_aux_lemma =>
            have nx0 := beq_f hx0
            have hs := step_rel HGG.out HRJ.out xk xb HBX.out.1
            have HRL : Hid (Rj g (stepP g s xk xb).1 (stepR g r1 xk xb).1) := Lib.hid hs.2.1
            have HWN := Lib.hid (HWF.out.step xk xb HBX.out)
            have HD2 : Hid (Below w2.heap.size w2 w2.drew) := Lib.hid ⟨rfl, rfl, rfl, Nat.le_refl _, fun _ _ => rfl⟩
            have hsj := (HT2.out.below HD2.out).jstep xk xb HBX.out HWF.out (by omega)
            have HWW := Lib.hid (wr_of' HRJ.out HWF.out (by omega))
            obtain ⟨ok, hok⟩ : ∃ ok, (stepR g r1 xk xb).2 = ok := ⟨_, rfl⟩
            rw [hs.1, hok] at hsj
            have HOK := Lib.hid hok
            have HSJ := Lib.hid hsj
            clear hs hsj hok hx0
            have q0 := blk_cell HX2.out.h 0
            have q1 := blk_cell HX2.out.h 1
            simp only [List.getElem?_toArray, List.getElem?_cons_zero, List.getElem?_cons_succ] at q0 q1
            go_upto_region 22 with fail
            go_region_held3 (fun W => W.cell? ⟨bx, 0, none⟩ = some (.int .i64 xk) ∧ W.cell? ⟨bx, 1, none⟩ = some (.int .u8 xb)) (first | exact ⟨q0, q1⟩ | exact ⟨f0, f1⟩ | exact ⟨k0, k1⟩) (first
              | (go_at_call 16; refine (HSJ.out).mono ?_; rintro e w3 ⟨rfl, t', ht, hx⟩; have HT3 := Lib.hid ht; have HK3 := Lib.hid ((HK2.out.below HD2.out).setJ hx); have HX3 := Lib.hid ((HX2.out.below HD2.out).setJ hx); have f0 := blk_cell HX3.out.h 0; have f1 := blk_cell HX3.out.h 1; simp only [List.getElem?_toArray, List.getElem?_cons_zero, List.getElem?_cons_succ] at f0 f1; have hsw := ht.wstep xk xb HBX.out HWW.out; rw [HOK.out] at hsw; have HSW := Lib.hid hsw; clear ht hx hsw)
              | (go_at_call 21; refine (HSW.out).mono ?_; rintro e wq ⟨rfl, t1', ht, hx⟩; have HT4 := Lib.hid ht; have HK4 := Lib.hid (HK3.out.setW hx); have HX4 := Lib.hid (HX3.out.setW hx); have k0 := blk_cell HX4.out.h 0; have k1 := blk_cell HX4.out.h 1; simp only [List.getElem?_toArray, List.getElem?_cons_zero, List.getElem?_cons_succ] at k0 k1; clear ht hx))
            cases ok
            all_goals
              clear q0 q1 f0 f1 k0 k1 HT2 HK2 HX2 HT3 HK3 HX3 HX4 HSJ HSW HD2
              go_upto_region 24 with fail
              have HD4 : Hid (Below wq.heap.size wq wq.drew) := Lib.hid ⟨rfl, rfl, rfl, Nat.le_refl _, fun _ _ => rfl⟩
              have hbz := (HT4.out.below HD4.out).jbusy HWN.out
              have d14 := HT4.out.wbusy
              rw [HRL.out.rc.bu] at d14
              generalize JS.busy _ = bz at hbz d14
              have HBZ := Lib.hid hbz
              clear hbz
              go_region_held3 (fun W => W.cell? ⟨p1, 14, none⟩ = some (.bool bz)) (exact d14) (first | (go_at_call 17; refine (HBZ.out).mono ?_; rintro e wx ⟨rfl, rfl⟩))
              cases bz
              all_goals
                go_wp2_with fail
                go_roundw
                case rel => exact ⟨F + 1, hkm, by go_num, F, false, _, _, _, _, _, _, rfl, rfl, Lib.hid (HT4.out.below HD4.out), Lib.hid (HK4.out.below HD4.out), HRL, HWN, HVS2⟩
                case measure => exact step_measure hkm
        | true =>
          have HVS2 := Lib.hid hv2
          rw [if_pos rfl] at HVS2
          clear hv2
          go_upto_region 19 with (go_at_call 21; refine (HVC.out).mono ?_; rintro e w2 ⟨rfl, t2', ht, hx⟩; have HT2 := Lib.hid ht; have HK2 := Lib.hid (HK1.out.setV hx); have HX2 := Lib.hid (HX1.out.setV hx); clear ht hx)
          clear q0 q1 HT1 HK1 HX1 HVC
          by_cases hx0 : xk = 0
          · as_aux_lemma =>
            subst hx0
            have HPJ := Lib.hid (HT2.out.jpow HWF.out (by omega))
            have HIN := Lib.hid (ine_of HRJ.out.rc HWF.out (by omega))
            have HRL : Hid (Rj g (powerP s) (powerR r1)) := Lib.hid (.inl (power_rel HRJ.out.rc))
            have HWN : Hid (WfN g (F + 1) (powerP s)) := Lib.hid (HWF.out.power.mono (by omega))
            have q0 := blk_cell HX2.out.h 0
            have q1 := blk_cell HX2.out.h 1
            simp only [List.getElem?_toArray, List.getElem?_cons_zero, List.getElem?_cons_succ] at q0 q1
            go_upto_region 24 with (first
              | (go_at_call 22; refine (HPJ.out).mono ?_; rintro e wp ⟨rfl, ht, hx⟩; have HT3 := Lib.hid ht; have HK3 := Lib.hid (HK2.out.setJ hx); have HPW := Lib.hid (ht.wpow HIN.out); clear ht hx HPJ)
              | (go_at_call 23; refine (HPW.out).mono ?_; rintro e wq ⟨rfl, ht, hx⟩; have HT4 := Lib.hid ht; have HK4 := Lib.hid (HK3.out.setW hx); clear ht hx HPW))
            clear q0 q1 HT2 HK2 HX2 HT3 HK3
            have HD4 : Hid (Below wq.heap.size wq wq.drew) := Lib.hid ⟨rfl, rfl, rfl, Nat.le_refl _, fun _ _ => rfl⟩
            have hbz := (HT4.out.below HD4.out).jbusy HWN.out
            have d14 := HT4.out.wbusy
            rw [HRL.out.rc.bu] at d14
            generalize JS.busy _ = bz at hbz d14
            have HBZ := Lib.hid hbz
            clear hbz
            go_region_held3 (fun W => W.cell? ⟨p1, 14, none⟩ = some (.bool bz)) (exact d14) (first | (go_at_call 17; refine (HBZ.out).mono ?_; rintro e wx ⟨rfl, rfl⟩))
            cases bz
            all_goals
              go_wp2_with fail
              go_roundw
              case rel => exact ⟨F + 1, hkm, by go_num, F + 1, true, _, _, _, _, _, _, rfl, rfl, Lib.hid (HT4.out.below HD4.out), Lib.hid (HK4.out.below HD4.out), HRL, HWN, HVS2⟩
              case measure => exact step_measure hkm
          · as_aux_lemma =>
            have nx0 := beq_f hx0
            have hs := step_rel HGG.out HRJ.out xk xb HBX.out.1
            have HRL : Hid (Rj g (stepP g s xk xb).1 (stepR g r1 xk xb).1) := Lib.hid hs.2.1
            have HWN := Lib.hid (HWF.out.step xk xb HBX.out)
            have HD2 : Hid (Below w2.heap.size w2 w2.drew) := Lib.hid ⟨rfl, rfl, rfl, Nat.le_refl _, fun _ _ => rfl⟩
            have hsj := (HT2.out.below HD2.out).jstep xk xb HBX.out HWF.out (by omega)
            have HWW := Lib.hid (wr_of' HRJ.out HWF.out (by omega))
            obtain ⟨ok, hok⟩ : ∃ ok, (stepR g r1 xk xb).2 = ok := ⟨_, rfl⟩
            rw [hs.1, hok] at hsj
            have HOK := Lib.hid hok
            have HSJ := Lib.hid hsj
            clear hs hsj hok hx0
            have q0 := blk_cell HX2.out.h 0
            have q1 := blk_cell HX2.out.h 1
            simp only [List.getElem?_toArray, List.getElem?_cons_zero, List.getElem?_cons_succ] at q0 q1
            go_upto_region 22 with fail
            go_region_held3 (fun W => W.cell? ⟨bx, 0, none⟩ = some (.int .i64 xk) ∧ W.cell? ⟨bx, 1, none⟩ = some (.int .u8 xb)) (first | exact ⟨q0, q1⟩ | exact ⟨f0, f1⟩ | exact ⟨k0, k1⟩) (first
              | (go_at_call 16; refine (HSJ.out).mono ?_; rintro e w3 ⟨rfl, t', ht, hx⟩; have HT3 := Lib.hid ht; have HK3 := Lib.hid ((HK2.out.below HD2.out).setJ hx); have HX3 := Lib.hid ((HX2.out.below HD2.out).setJ hx); have f0 := blk_cell HX3.out.h 0; have f1 := blk_cell HX3.out.h 1; simp only [List.getElem?_toArray, List.getElem?_cons_zero, List.getElem?_cons_succ] at f0 f1; have hsw := ht.wstep xk xb HBX.out HWW.out; rw [HOK.out] at hsw; have HSW := Lib.hid hsw; clear ht hx hsw)
              | (go_at_call 21; refine (HSW.out).mono ?_; rintro e wq ⟨rfl, t1', ht, hx⟩; have HT4 := Lib.hid ht; have HK4 := Lib.hid (HK3.out.setW hx); have HX4 := Lib.hid (HX3.out.setW hx); have k0 := blk_cell HX4.out.h 0; have k1 := blk_cell HX4.out.h 1; simp only [List.getElem?_toArray, List.getElem?_cons_zero, List.getElem?_cons_succ] at k0 k1; clear ht hx))
            cases ok
            all_goals
              clear q0 q1 f0 f1 k0 k1 HT2 HK2 HX2 HT3 HK3 HX3 HX4 HSJ HSW HD2
              go_upto_region 24 with fail
              have HD4 : Hid (Below wq.heap.size wq wq.drew) := Lib.hid ⟨rfl, rfl, rfl, Nat.le_refl _, fun _ _ => rfl⟩
              have hbz := (HT4.out.below HD4.out).jbusy HWN.out
              have d14 := HT4.out.wbusy
              rw [HRL.out.rc.bu] at d14
              generalize JS.busy _ = bz at hbz d14
              have HBZ := Lib.hid hbz
              clear hbz
              go_region_held3 (fun W => W.cell? ⟨p1, 14, none⟩ = some (.bool bz)) (exact d14) (first | (go_at_call 17; refine (HBZ.out).mono ?_; rintro e wx ⟨rfl, rfl⟩))
              cases bz
              all_goals
                go_wp2_with fail
                go_roundw
                case rel => exact ⟨F + 1, hkm, by go_num, F + 1, true, _, _, _, _, _, _, rfl, rfl, Lib.hid (HT4.out.below HD4.out), Lib.hid (HK4.out.below HD4.out), HRL, HWN, HVS2⟩
                case measure => exact step_measure hkm
    · as_aux_lemma =>
      have hke : m = k := by omega
      have hlast := VS.last (show VS g l G F l.length r2 by rw [← HM.out, hke]; exact HVS.out)
      rw [← HTN.out] at hlast
      have hG : G = AL := by rw [HAL.out, HM.out]; exact hlast.2
      have hF := hlast.1
      clear hlast HTN HAL HVS hke
      subst hG
      subst hF
      obtain ⟨M, hM⟩ := Int.eq_ofNat_of_zero_le (show 0 ≤ g.bl * g.pg from Int.mul_nonneg (by have := HGG.out.2.1.1; omega) (by have := HGG.out.2.2.1.1; omega))
      have hM4 : M ≤ 16384 := by
        have h1 : g.bl * g.pg ≤ 256 * 64 := Int.mul_le_mul HGG.out.2.1.2 HGG.out.2.2.1.2 (by have := HGG.out.2.2.1.1; omega) (by decide)
        omega
      have m1 : wrap64 (g.bl * g.pg) = (M : Int) := by rw [hM]; exact w64i _ (by omega) (by omega)
      clear hM
      go_wp2_with fail
      go_loopw [15] (fun i wr => ∃ z : Int, -1 ≤ z ∧ z ≤ (M : Int) + 1 ∧ i = .int .i64 z ∧ Hid (T3 w wr w.heap.size p p1 p2 b0 gb g t t1 t2 s r1 r2) ∧ Hid (Kp wr t t1 t2 b0 (.cells #[.int .i64 g.pl, .int .i64 g.bl, .int .i64 g.pg, .int .i64 g.ch, .int .i64 g.ck, .int .i64 g.ru, .int .i64 g.pa] 23 (0, 0)))) (fun i _ => ((M : Int) + 1 - intOf i).toNat)
      case atStart => exact ⟨-1, by omega, by omega, rfl, HT, HK⟩
      case round =>
        clear HT HK
        obtain ⟨z, hz0, hz1, rfl, HT, HK⟩ := hrel
        obtain ⟨c0, c1, c2, c3, c4, c5, c6⟩ := GBox.c HK.out.h
        by_cases hzM : z ≤ (M : Int)
        · have hjc := HT.out.jcan HWF.out z
          obtain ⟨B, hB⟩ : ∃ B, canP g s z = B := ⟨_, rfl⟩
          have HBE2 := Lib.hid hB
          rw [hB] at hjc
          have HJC := Lib.hid hjc
          clear hjc hB
          go_upto_region 30 with fail
          clear c0 c1 c2 c3 c4 c5 c6
          cases B
          all_goals
            go_wp2_with (first
              | (go_at_call 18; refine (HJC.out).mono ?_; rintro e wp ⟨rfl, hb⟩; have HT3 := Lib.hid (HT.out.below hb); have HK3 := Lib.hid (HK.out.below hb); have hwc := HT3.out.wcan HGG.out HRJ.out.rc z; rw [HBE2.out] at hwc; have HWC := Lib.hid hwc; clear hb hwc HJC)
              | (go_at_call 24; refine (HWC.out).mono ?_; rintro e wq ⟨rfl, hb⟩; have HT4 := Lib.hid (HT3.out.below hb); have HK4 := Lib.hid (HK3.out.below hb); clear hb HWC))
            go_roundw
            case rel => exact ⟨z + 1, by omega, by omega, by go_num, HT4, HK4⟩
            case measure =>
              show ((M : Int) + 1 - (z + 1)).toNat < ((M : Int) + 1 - z).toNat
              omega
        · cases G
          all_goals
            go_wp2_with fail
            go_ret
            exact ⟨rfl, HT.out.b⟩
end
end Go.Proofs.Ytfmogmgdpamfgaa.Jd

/- JudgeSteps, of any geometry and cycles: the law's function answers true, and touches nothing that was there. -/
namespace Go.Proofs.Ytfmogmgdpamfgaa
open Go.RowKit Go.Proofs.YtfmogmgdpamfgaaW.PrintWords Go.Proofs.YtfmogmgdpamfgaaW.PrintLast Go.Proofs.YtfmogmgdpamfgaaW.PrintMore
set_option linter.unusedVariables false
theorem Jd.wf8s {x : Int} (h : (Lit.int .u8 x).wf = true) : 0 ≤ x ∧ x ≤ 255 := by
  simp [Lit.wf, IntKind.min, IntKind.max, IntKind.bits, IntKind.signed] at h
  exact h
theorem Jd.jst_all (g : Jd.Ge) (w : World) (l : List (Int × Int)) {A : Option Addr} {c : Nat} (hlc : l.length ≤ c) (hr : Kd.C Jd.kCy w A l.length l) (hby : ∀ x ∈ l, 0 ≤ x.2 ∧ x.2 ≤ 255) : Calls Try.prog 4 #[g.v, .slice A l.length c] w fun e w' => e = .returned (.bool true) ∧ Below w.heap.size w w' := by
  obtain ⟨B, _, hs⟩ := Jd.small_any g
  by_cases h1 : B = false ∨ 800 < l.length
  · exact Jd.jst_much w l B hs h1
  · have hB : B = true := by
      cases B with
      | true => rfl
      | false => exact absurd (.inl rfl) h1
    have hl : l.length ≤ 800 := by
      by_cases h2 : l.length ≤ 800
      · exact h2
      · exact absurd (.inr (by omega)) h1
    subst hB
    by_cases h3 : g.ok
    · exact Jd.jst_ok h3 w l hs hl hlc hr hby
    · exact Jd.jst_bad h3 w l hs hl
theorem judgeSteps_walk (w : World) (x0 : (Int × Int × Int × Int × Int × Int × Int)) (hw0 : ((Lit.int .i64 x0.1).wf = true ∧ (Lit.int .i64 x0.2.1).wf = true ∧ (Lit.int .i64 x0.2.2.1).wf = true ∧ (Lit.int .i64 x0.2.2.2.1).wf = true ∧ (Lit.int .i64 x0.2.2.2.2.1).wf = true ∧ (Lit.int .i64 x0.2.2.2.2.2.1).wf = true ∧ (Lit.int .i64 x0.2.2.2.2.2.2).wf = true)) (x1 : (List (Int × Int))) {A1_0 : Option Addr} {c1_0 : Nat} (l1_0 : x1.length ≤ c1_0) (g1_0 : Kd.C (Kd.pair (Kd.int .i64) (Kd.int .u8)) w A1_0 x1.length x1) (hw1 : (∀ z0 ∈ x1, ((Lit.int .i64 z0.1).wf = true ∧ (Lit.int .u8 z0.2).wf = true))) :
    Calls Try.prog 4 #[.agg #[.int .i64 x0.1, .int .i64 x0.2.1, .int .i64 x0.2.2.1, .int .i64 x0.2.2.2.1, .int .i64 x0.2.2.2.2.1, .int .i64 x0.2.2.2.2.2.1, .int .i64 x0.2.2.2.2.2.2], .slice A1_0 x1.length c1_0] w fun e w' => e = .returned (.bool true) ∧ Below w.heap.size w w' :=
  Jd.jst_all ⟨x0.1, x0.2.1, x0.2.2.1, x0.2.2.2.1, x0.2.2.2.2.1, x0.2.2.2.2.2.1, x0.2.2.2.2.2.2⟩ w x1 l1_0 g1_0 (fun x hx => Jd.wf8s (hw1 x hx).2)
end Go.Proofs.Ytfmogmgdpamfgaa

