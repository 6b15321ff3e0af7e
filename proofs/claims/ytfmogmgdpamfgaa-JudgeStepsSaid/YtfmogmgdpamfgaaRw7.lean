import Derived.Test.YtfmogmgdpamfgaaRw4
namespace Go.Proofs.Ytfmogmgdpamfgaa.Jd
open Go.RowKit Go.Proofs.YtfmogmgdpamfgaaW.PrintWords Go.Proofs.YtfmogmgdpamfgaaW.PrintLast Go.Proofs.YtfmogmgdpamfgaaW.PrintMore
set_option linter.unusedVariables false
set_option linter.unusedSimpArgs false
theorem eraseR_no {g : Ge} {s : RS} {c : Int} (h : ¬ (c = 208 ∨ c = 209)) : eraseR g s c = (s, false) := by
  unfold eraseR
  simp only
  rw [if_pos ⟨fun e => h (.inl e), fun e => h (.inr e)⟩]
theorem eraseR_pl {g : Ge} {s : RS} {c : Int} (h1 : planesOk g s.blks (num s.listed 0 / g.pg) = false) : eraseR g s c = (s, false) := by
  unfold eraseR
  simp only
  split
  · rfl
  · rw [if_pos (by rw [h1]; rfl)]
abbrev e1R (g : Ge) (s : RS) : RS := startR { s with blks := s.blks ++ [num s.listed 0 / g.pg], data := false }
theorem eraseR_209 {g : Ge} {s : RS} (h1 : planesOk g s.blks (num s.listed 0 / g.pg) = true) : eraseR g s 209 = (e1R g s, true) := by
  unfold eraseR
  simp only
  rw [if_neg (by decide), if_neg (by rw [h1]; decide), if_pos trivial]
theorem eraseR_208 {g : Ge} {s : RS} (h1 : planesOk g s.blks (num s.listed 0 / g.pg) = true) : eraseR g s 208 = ({ e1R g s with er := ((e1R g s).blks.foldl (eraseF g) (s.er, s.la, s.pr)).1, la := ((e1R g s).blks.foldl (eraseF g) (s.er, s.la, s.pr)).2.1, pr := ((e1R g s).blks.foldl (eraseF g) (s.er, s.la, s.pr)).2.2, ers := (e1R g s).blks, blks := [] }, true) := by
  unfold eraseR
  simp only
  rw [if_neg (by decide), if_neg (by rw [h1]; decide), if_neg (by decide)]
  rfl
/-- The pages of a block that is erased, up to q. -/
def clearF (g : Ge) (k : Int) (q : Nat) (pr : List Int) : List Int := (List.range q).foldl (fun pr (p : Nat) => pr.set (k * g.pg + (p : Int)).toNat 0) pr
theorem clearF_succ (g : Ge) (k : Int) (q : Nat) (pr : List Int) : clearF g k (q + 1) pr = (clearF g k q pr).set (k * g.pg + (q : Int)).toNat 0 := by
  unfold clearF
  rw [List.range_succ, List.foldl_append]
  rfl
theorem clearF_len (g : Ge) (k : Int) (pr : List Int) : ∀ q, (clearF g k q pr).length = pr.length
  | 0 => rfl
  | q + 1 => by rw [clearF_succ, List.length_set, clearF_len g k pr q]
theorem eraseF_snoc (g : Ge) (l : List Int) (k : Int) (x : List Bool × List Int × List Int) : (l ++ [k]).foldl (eraseF g) x = ((l.foldl (eraseF g) x).1.set k.toNat true, (l.foldl (eraseF g) x).2.1.set k.toNat (-1), clearF g k g.pg.toNat (l.foldl (eraseF g) x).2.2) := by
  rw [List.foldl_append]
  rfl
theorem eraseF_len (g : Ge) : ∀ (l : List Int) (x : List Bool × List Int × List Int), (l.foldl (eraseF g) x).1.length = x.1.length ∧ (l.foldl (eraseF g) x).2.1.length = x.2.1.length ∧ (l.foldl (eraseF g) x).2.2.length = x.2.2.length
  | [], x => ⟨rfl, rfl, rfl⟩
  | k :: l, x => by
    have h := eraseF_len g l (eraseF g x k)
    refine ⟨h.1.trans (List.length_set ..), h.2.1.trans (List.length_set ..), h.2.2.trans (clearF_len g k x.2.2 _)⟩
theorem lt3 {np q nq n : Nat} {pg : Int} (h1 : nq = np + q) (h2 : (np : Int) + pg ≤ (n : Int)) (h3 : (q : Int) < pg) : nq < n := by omega
theorem w_add {a b : Nat} (ha : a ≤ 20000) (hb : (b : Int) ≤ 64) : wrap64 ((a : Int) + (b : Int)) = ((a + b : Nat) : Int) := by
  rw [w64i _ (by omega) (by omega)]; omega
section
variable {w w' : World} {p : Nat} {g : Ge} {t t' : Nat → Nat} {s : RS} {H : HR}
theorem RAt.moved (h : RAt w p g t s H) : RAt ((w.setCell ⟨p, 21, none⟩ H.b).setCell ⟨p, 20, none⟩ (.slice none 0 0)) p g (moveT t 5 6) { s with ers := s.blks, blks := [] } { H with d := H.b, b := .slice none 0 0 } ∧ Nxt w ((w.setCell ⟨p, 21, none⟩ H.b).setCell ⟨p, 20, none⟩ (.slice none 0 0)) t (moveT t 5 6) := by
  obtain ⟨h1, n1⟩ := Ob.move h (c := 5) (c1 := 6) (by decide) rfl (by show 6 < 7; decide)
  refine ⟨Ob.set' (Ob.set' h1 21 H.b rfl) 20 (.slice none 0 0) rfl, ?_⟩
  have n2 := Ob.setsN h1 [(21, H.b), (20, .slice none 0 0)]
  exact n1.trans n2
theorem planes_bad {g : Ge} {l : List Int} {b x : Int} (hx : x ∈ l) (hf : (x % g.pl == b % g.pl) = true) : planesOk g l b = false := by
  unfold planesOk
  exact all_not hx (by rw [hf]; rfl)
theorem planes_snoc {g : Ge} {l : List Int} {b x : Int} (h : planesOk g l b = true) (hf : (x % g.pl == b % g.pl) = false) : planesOk g (l ++ [x]) b = true := by
  unfold planesOk at h ⊢
  exact all_snoc h (by rw [hf]; rfl)
theorem erase_no (c : Int) (hc : ¬ (c = 208 ∨ c = 209)) (h : RAt w p g t s H) : Calls Try.prog 132 #[.pointer (some ⟨p, 0, none⟩), .int .i64 c] w fun e w' => e = .returned (.bool (eraseR g s c).2) ∧ (∃ t', (∃ H', RAt w' p g t' (eraseR g s c).1 H') ∧ Nxt w w' t t') := by
  rw [eraseR_no hc]
  have o1 : (c != 208) = true := bne_iff_ne.2 (fun e => hc (.inl e))
  have o2 : (c != 209) = true := bne_iff_ne.2 (fun e => hc (.inr e))
  have HJ := Lib.hid h
  clear hc h
  go_enter Try.func132, Try.ntmps132
  go_wp2_with fail
  go_ret
  exact ⟨rfl, _, ⟨_, HJ.out⟩, Nxt.refl _ _⟩
set_option maxHeartbeats 16000000 in
set_option maxRecDepth 100000 in
theorem rerase_209 (hw : Wr g s) (h9 : s.op = 9) (h4 : s.listed.length = 2) (h : RAt w p g t s H) : Calls Try.prog 132 #[.pointer (some ⟨p, 0, none⟩), .int .i64 209] w fun e w' => e = .returned (.bool (eraseR g s 209).2) ∧ (∃ t', (∃ H', RAt w' p g t' (eraseR g s 209).1 H') ∧ Nxt w w' t t') := by
  have hT := rtwo_ok 0 h.drew (by omega) (by omega) hw.lb
  have hrng := num_b hw.lb 0
  have hlt := hw.in2 h9 h4
  obtain ⟨rr, hrr⟩ : ∃ rr, rr = num s.listed 0 := ⟨_, rfl⟩
  have HRR := Lib.hid hrr
  rw [← hrr] at hT hrng hlt
  have HT := Lib.hid hT
  obtain ⟨r, hr⟩ := Int.eq_ofNat_of_zero_le hrng.1
  subst hr
  have hbk := (row_split hw.hg (show 0 ≤ (r : Int) by omega) (show (r : Int) < g.bl * g.pg by have := hw.np; omega)).2.2.2
  obtain ⟨b, hb⟩ := Int.eq_ofNat_of_zero_le hbk.1
  have hpg0 : ¬ g.pg = 0 := by have := hw.hg.2.2.1.1; omega
  have hpl0 : ¬ g.pl = 0 := by have := hw.hg.1.1; omega
  obtain ⟨bm, hbm⟩ := Int.eq_ofNat_of_zero_le (Int.emod_nonneg (b : Int) hpl0)
  have hbb : (b : Int) < g.bl := by rw [← hb]; exact hbk.2.2
  have hb256 : b ≤ 256 := by have := hw.hg.2.1.2; omega
  have hro1 := hw.bl.1
  have HRO := Lib.hid hw.bl.2
  have HBB := Lib.hid hbb
  have HW := Lib.hid hw
  have HHB := Lib.hid hb
  have HHM := Lib.hid hbm
  have HPG := Lib.hid hw.hg
  have t1 : (r : Int).tdiv g.pg = (b : Int) := by rw [Int.tdiv_eq_ediv_of_nonneg (by omega)]; exact hb
  have t3 : (b : Int).tmod g.pl = (bm : Int) := by rw [Int.tmod_eq_emod_of_nonneg (by omega)]; exact hbm
  have d1 : (r : Int) / g.pg = (b : Int) := hb
  have d3 : (b : Int) % g.pl = (bm : Int) := hbm
  have hbw : IntKind.i64.wrap (b : Int) = (b : Int) := IntWalk.i64_in _ (by omega)
  have HJ := Lib.hid h
  have c2 := h.c2
  obtain ⟨n, hn⟩ : ∃ n, n = s.blks.length := ⟨_, rfl⟩
  have HNN := Lib.hid hn
  rw [← hn] at hro1
  clear h hw hlt hbk hb hbm hrng hrr hn h4 hbb hT h9
  go_enter Try.func132, Try.ntmps132
  go_upto_region 3 with fail
  go_region_held3 (fun W => W.cell? ⟨p, 2, none⟩ = some (.int .i64 g.pg)) (first | exact c2 | exact f2) (first | (go_at_call 133; refine (HT.out).mono ?_; rintro e w1 ⟨rfl, hb1⟩; have HJ2 := Lib.hid (HJ.out.drew.below hb1); have HX2 := Lib.hid ((Nxt.refl w t).drew.below hb1); have f2 := HJ2.out.c2; clear hb1))
  clear HT HJ c2
  go_wp2_with fail
  go_loopw [6] (fun i wr => ∃ k : Nat, k ≤ n ∧ i = .int .i64 k ∧ Hid (planesOk g (s.blks.take k) (b : Int) = true) ∧ Hid (RAt wr p g t s H) ∧ Hid (Nxt w wr t t)) (fun i _ => n - (intOf i).toNat)
  case atStart => exact ⟨0, by omega, rfl, Lib.hid (by rw [List.take_zero]; rfl), HJ2, HX2⟩
  case round =>
    clear HJ2 HX2
    obtain ⟨k, hk, rfl, HOK, HJ, HX⟩ := hrel
    have c20 := HJ.out.c20
    have c0 := HJ.out.c0
    by_cases hkn : k < n
    · as_aux_lemma =>
      have hk0 : (k : Int) < (n : Int) := by omega
      have hlen : k < s.blks.length := by rw [← HNN.out]; exact hkn
      obtain ⟨g1, k1, q1, x1, _, _⟩ := HJ.out.e20 k hlen
      rw [q1] at c20
      rw [← HNN.out] at c20
      have HTA := Lib.hid (take_snoc hlen)
      have hmem := getD_mem hlen
      have HME := Lib.hid hmem
      have hor := HRO.out _ hmem
      generalize s.blks.getD k 0 = oo at x1 HTA HME hor
      obtain ⟨u, hu⟩ := Int.eq_ofNat_of_zero_le hor.1
      subst hu
      obtain ⟨u3, hu3⟩ := Int.eq_ofNat_of_zero_le (Int.emod_nonneg (u : Int) hpl0)
      have y3 : (u : Int).tmod g.pl = (u3 : Int) := by rw [Int.tmod_eq_emod_of_nonneg (by omega)]; exact hu3
      have y4 : (u : Int) % g.pl = (u3 : Int) := hu3
      clear hu3 hor hmem q1 hlen
      by_cases hB : (u3 : Int) = (bm : Int)
      · have hB1 := beq_t hB
        clear hB
        have HE := Lib.hid (eraseR_pl (g := g) (s := s) (c := 209) (by rw [← HRR.out, HHB.out]; exact planes_bad HME.out (by rw [y4, d3]; exact hB1)))
        go_upto_region 7 with fail
        go_quiet (fail)
        go_wp2
        go_ret
        exact ⟨by rw [HE.out]; rfl, _, ⟨_, by rw [HE.out]; exact HJ.out.drewN _⟩, HX.out.drewN _⟩
      · have hB1 := beq_f hB
        clear hB
        have HPS := Lib.hid (planes_snoc HOK.out (x := (u : Int)) (by rw [y4, d3]; exact hB1))
        go_upto_region 7 with fail
        go_quiet (fail)
        go_wp2
        go_roundw
        case rel => exact ⟨k + 1, hkn, by go_num, Lib.hid (by rw [HTA.out]; exact HPS.out), Lib.hid (HJ.out.drewN _), Lib.hid (HX.out.drewN _)⟩
        case measure => exact step_measure hkn
    · as_aux_lemma =>
      have hke : n = k := by omega
      have hta : s.blks.take k = s.blks := List.take_of_length_le (by rw [← HNN.out]; omega)
      rw [hta] at HOK
      subst hke
      clear hta hkn hk
      have HE := Lib.hid (eraseR_209 (g := g) (s := s) (by rw [← HRR.out, HHB.out]; exact HOK.out))
      obtain ⟨A, m, hA⟩ := HJ.out.l20
      have c20' := c20
      rw [hA] at c20
      rw [← HNN.out] at c20
      clear hA
      go_upto_region 9 with fail
      clear c20
      have c20 := c20'
      clear c20'
      have hz := HJ.out.z
      have HZ : Hid ((s.blks.length + 1) * 8 ≤ 140737488355328) := Lib.hid (by have := HNN.out; omega)
      have HR := Lib.hid HJ.out.r20
      go_upto_region 10 with (at_builtin; refine Kd.R_append (Kd.int .i64) 0 rfl (.tmp 58) (.tmp 60) 44 3 _ 8 rfl Try.underlying44 info3r rfl (by decide) (by decide) H.b s.blks (b : Int) [.int .i64 (b : Int)] _ (fun _ => False) rfl rfl rfl (fun _ h => h.elim) (fun _ _ => trivial) HR.out (Below.refl _ _) (Nat.zero_le _) HZ.out ?_; intro v1 w6 hr1 _ hg1 hat1; obtain ⟨A1, c1, rfl⟩ := Kd.R_slice hr1; generalize hn1 : (s.blks ++ [(b : Int)]).length = n1 at hr1 hg1 hat1 ⊢; have HN1 := Lib.hid hn1; clear hn1; obtain ⟨e20, hz6, hj6, hn6⟩ := HJ.out.app20 hr1 hg1 hat1; have HJ6 := Lib.hid hj6; have HX6 := Lib.hid (HX.out.trans hn6); clear hr1 hg1 hat1 hj6 hn6)
      generalize hw7 : World.setCell _ ⟨p, 20, none⟩ _ = w7 at HJ6 HX6 ⊢
      clear hw7 e20 hz6 c20 hz HR HZ HJ HX c0
      generalize hT7 : retag t 5 _ = t7 at HJ6 HX6
      clear hT7
      have hz := HJ6.out.z
      have d17 := HJ6.out.c17
      have HJ7 := Lib.hid (rstart_ok (HJ6.out.s17 false))
      have HX7 := Lib.hid (HX6.out.trans (HJ6.out.n [(17, .bool false)]))
      simp only [sets] at HX7
      go_upto_region 12 with (go_at_call 94; refine (HJ7.out).mono ?_; rintro e w8 ⟨rfl, hj8, hn8⟩; have HJ8 := Lib.hid hj8; have HX8 := Lib.hid (HX7.out.trans hn8); clear hj8 hn8)
      clear hz d17 HJ6 HX6 HJ7 HX7
      go_wp2_with fail
      go_ret
      exact ⟨by rw [HE.out]; rfl, _, ⟨_, by rw [HE.out]; unfold e1R; rw [← HRR.out, HHB.out]; exact HJ8.out⟩, HX8.out⟩
set_option maxHeartbeats 16000000 in
set_option maxRecDepth 100000 in
theorem rerase_208 (hw : Wr g s) (h9 : s.op = 9) (h4 : s.listed.length = 2) (h : RAt w p g t s H) : Calls Try.prog 132 #[.pointer (some ⟨p, 0, none⟩), .int .i64 208] w fun e w' => e = .returned (.bool (eraseR g s 208).2) ∧ (∃ t', (∃ H', RAt w' p g t' (eraseR g s 208).1 H') ∧ Nxt w w' t t') := by
  have hT := rtwo_ok 0 h.drew (by omega) (by omega) hw.lb
  have hrng := num_b hw.lb 0
  have hlt := hw.in2 h9 h4
  obtain ⟨rr, hrr⟩ : ∃ rr, rr = num s.listed 0 := ⟨_, rfl⟩
  have HRR := Lib.hid hrr
  rw [← hrr] at hT hrng hlt
  have HT := Lib.hid hT
  obtain ⟨r, hr⟩ := Int.eq_ofNat_of_zero_le hrng.1
  subst hr
  have hbk := (row_split hw.hg (show 0 ≤ (r : Int) by omega) (show (r : Int) < g.bl * g.pg by have := hw.np; omega)).2.2.2
  obtain ⟨b, hb⟩ := Int.eq_ofNat_of_zero_le hbk.1
  have hpg0 : ¬ g.pg = 0 := by have := hw.hg.2.2.1.1; omega
  have hpl0 : ¬ g.pl = 0 := by have := hw.hg.1.1; omega
  obtain ⟨bm, hbm⟩ := Int.eq_ofNat_of_zero_le (Int.emod_nonneg (b : Int) hpl0)
  have hbb : (b : Int) < g.bl := by rw [← hb]; exact hbk.2.2
  have hb256 : b ≤ 256 := by have := hw.hg.2.1.2; omega
  have hro1 := hw.bl.1
  have HRO := Lib.hid hw.bl.2
  have HBB := Lib.hid hbb
  have HW := Lib.hid hw
  have HHB := Lib.hid hb
  have HHM := Lib.hid hbm
  have HPG := Lib.hid hw.hg
  have t1 : (r : Int).tdiv g.pg = (b : Int) := by rw [Int.tdiv_eq_ediv_of_nonneg (by omega)]; exact hb
  have t3 : (b : Int).tmod g.pl = (bm : Int) := by rw [Int.tmod_eq_emod_of_nonneg (by omega)]; exact hbm
  have d1 : (r : Int) / g.pg = (b : Int) := hb
  have d3 : (b : Int) % g.pl = (bm : Int) := hbm
  have hbw : IntKind.i64.wrap (b : Int) = (b : Int) := IntWalk.i64_in _ (by omega)
  have HJ := Lib.hid h
  have c2 := h.c2
  obtain ⟨n, hn⟩ : ∃ n, n = s.blks.length := ⟨_, rfl⟩
  have HNN := Lib.hid hn
  rw [← hn] at hro1
  clear h hw hlt hbk hb hbm hrng hrr hn h4 hbb hT h9
  go_enter Try.func132, Try.ntmps132
  go_upto_region 3 with fail
  go_region_held3 (fun W => W.cell? ⟨p, 2, none⟩ = some (.int .i64 g.pg)) (first | exact c2 | exact f2) (first | (go_at_call 133; refine (HT.out).mono ?_; rintro e w1 ⟨rfl, hb1⟩; have HJ2 := Lib.hid (HJ.out.drew.below hb1); have HX2 := Lib.hid ((Nxt.refl w t).drew.below hb1); have f2 := HJ2.out.c2; clear hb1))
  clear HT HJ c2
  go_wp2_with fail
  go_loopw [6] (fun i wr => ∃ k : Nat, k ≤ n ∧ i = .int .i64 k ∧ Hid (planesOk g (s.blks.take k) (b : Int) = true) ∧ Hid (RAt wr p g t s H) ∧ Hid (Nxt w wr t t)) (fun i _ => n - (intOf i).toNat)
  case atStart => exact ⟨0, by omega, rfl, Lib.hid (by rw [List.take_zero]; rfl), HJ2, HX2⟩
  case round =>
    clear HJ2 HX2
    obtain ⟨k, hk, rfl, HOK, HJ, HX⟩ := hrel
    have c20 := HJ.out.c20
    have c0 := HJ.out.c0
    by_cases hkn : k < n
    · as_aux_lemma =>
      have hk0 : (k : Int) < (n : Int) := by omega
      have hlen : k < s.blks.length := by rw [← HNN.out]; exact hkn
      obtain ⟨g1, k1, q1, x1, _, _⟩ := HJ.out.e20 k hlen
      rw [q1] at c20
      rw [← HNN.out] at c20
      have HTA := Lib.hid (take_snoc hlen)
      have hmem := getD_mem hlen
      have HME := Lib.hid hmem
      have hor := HRO.out _ hmem
      generalize s.blks.getD k 0 = oo at x1 HTA HME hor
      obtain ⟨u, hu⟩ := Int.eq_ofNat_of_zero_le hor.1
      subst hu
      obtain ⟨u3, hu3⟩ := Int.eq_ofNat_of_zero_le (Int.emod_nonneg (u : Int) hpl0)
      have y3 : (u : Int).tmod g.pl = (u3 : Int) := by rw [Int.tmod_eq_emod_of_nonneg (by omega)]; exact hu3
      have y4 : (u : Int) % g.pl = (u3 : Int) := hu3
      clear hu3 hor hmem q1 hlen
      by_cases hB : (u3 : Int) = (bm : Int)
      · have hB1 := beq_t hB
        clear hB
        have HE := Lib.hid (eraseR_pl (g := g) (s := s) (c := 208) (by rw [← HRR.out, HHB.out]; exact planes_bad HME.out (by rw [y4, d3]; exact hB1)))
        go_upto_region 7 with fail
        go_quiet (fail)
        go_wp2
        go_ret
        exact ⟨by rw [HE.out]; rfl, _, ⟨_, by rw [HE.out]; exact HJ.out.drewN _⟩, HX.out.drewN _⟩
      · have hB1 := beq_f hB
        clear hB
        have HPS := Lib.hid (planes_snoc HOK.out (x := (u : Int)) (by rw [y4, d3]; exact hB1))
        go_upto_region 7 with fail
        go_quiet (fail)
        go_wp2
        go_roundw
        case rel => exact ⟨k + 1, hkn, by go_num, Lib.hid (by rw [HTA.out]; exact HPS.out), Lib.hid (HJ.out.drewN _), Lib.hid (HX.out.drewN _)⟩
        case measure => exact step_measure hkn
    · as_aux_lemma =>
      have hke : n = k := by omega
      have hta : s.blks.take k = s.blks := List.take_of_length_le (by rw [← HNN.out]; omega)
      rw [hta] at HOK
      subst hke
      clear hta hkn hk
      have HE := Lib.hid (eraseR_208 (g := g) (s := s) (by rw [← HRR.out, HHB.out]; exact HOK.out))
      obtain ⟨A, m, hA⟩ := HJ.out.l20
      have c20' := c20
      rw [hA] at c20
      rw [← HNN.out] at c20
      clear hA
      go_upto_region 9 with fail
      clear c20
      have c20 := c20'
      clear c20'
      have hz := HJ.out.z
      have HZ : Hid ((s.blks.length + 1) * 8 ≤ 140737488355328) := Lib.hid (by have := HNN.out; omega)
      have HR := Lib.hid HJ.out.r20
      go_upto_region 10 with (at_builtin; refine Kd.R_append (Kd.int .i64) 0 rfl (.tmp 58) (.tmp 60) 44 3 _ 8 rfl Try.underlying44 info3r rfl (by decide) (by decide) H.b s.blks (b : Int) [.int .i64 (b : Int)] _ (fun _ => False) rfl rfl rfl (fun _ h => h.elim) (fun _ _ => trivial) HR.out (Below.refl _ _) (Nat.zero_le _) HZ.out ?_; intro v1 w6 hr1 _ hg1 hat1; obtain ⟨A1, c1, rfl⟩ := Kd.R_slice hr1; generalize hn1 : (s.blks ++ [(b : Int)]).length = n1 at hr1 hg1 hat1 ⊢; have HN1 := Lib.hid hn1; clear hn1; obtain ⟨e20, hz6, hj6, hn6⟩ := HJ.out.app20 hr1 hg1 hat1; have HJ6 := Lib.hid hj6; have HX6 := Lib.hid (HX.out.trans hn6); clear hr1 hg1 hat1 hj6 hn6)
      generalize hw7 : World.setCell _ ⟨p, 20, none⟩ _ = w7 at HJ6 HX6 ⊢
      clear hw7 e20 hz6 c20 hz HR HZ HJ HX c0
      generalize hT7 : retag t 5 _ = t7 at HJ6 HX6
      clear hT7
      have hz := HJ6.out.z
      have d17 := HJ6.out.c17
      have HJ7 := Lib.hid (rstart_ok (HJ6.out.s17 false))
      have HX7 := Lib.hid (HX6.out.trans (HJ6.out.n [(17, .bool false)]))
      simp only [sets] at HX7
      go_upto_region 12 with (go_at_call 94; refine (HJ7.out).mono ?_; rintro e w8 ⟨rfl, hj8, hn8⟩; have HJ8 := Lib.hid hj8; have HX8 := Lib.hid (HX7.out.trans hn8); clear hj8 hn8)
      clear hz d17 HJ6 HX6 HJ7 HX7
      obtain ⟨H8, hH8⟩ : ∃ H8 : HR, H8 = { ({ H with b := .slice A1 n1 c1 } : HR) with a := .slice none 0 0 } := ⟨_, rfl⟩
      have hB8 : H8.b = .slice A1 n1 c1 := by rw [hH8]
      rw [← hH8] at HJ8
      obtain ⟨bk, hbk⟩ : ∃ bk, bk = s.blks ++ [(b : Int)] := ⟨_, rfl⟩
      have HBK : Hid ((e1R g s).blks = bk) := Lib.hid (by rw [hbk, ← HHB.out, HRR.out]; rfl)
      have HS1 : Hid (e1R g s = startR { s with blks := bk, data := false }) := Lib.hid (by unfold e1R; rw [hbk, ← HHB.out, HRR.out])
      have HIN : Hid (∀ x ∈ bk, 0 ≤ x ∧ x < g.bl) := Lib.hid (by
        intro x hx
        rw [hbk] at hx
        rcases List.mem_append.1 hx with hx | hx
        · exact HRO.out x hx
        · rw [List.mem_singleton.1 hx]
          exact ⟨by omega, HBB.out⟩)
      have HLB : Hid (bk.length = n1) := Lib.hid (by rw [hbk]; exact HN1.out)
      have hn1b : n1 ≤ 1000001 := by rw [← HN1.out, List.length_append, ← HNN.out]; simp; omega
      have HJ9 : Hid (RAt w8 p g t7 (startR { s with blks := bk, data := false }) H8) := Lib.hid (by rw [hbk]; exact HJ8.out)
      rw [HBK.out, HS1.out] at HE
      clear hH8 hbk HBK HS1 HJ8 HN1
      generalize hS1 : startR { s with blks := bk, data := false } = s1 at HE HJ9
      have HSE : Hid (s1.er = s.er ∧ s1.la = s.la ∧ s1.pr = s.pr ∧ s1.blks = bk) := Lib.hid (by rw [← hS1]; exact ⟨rfl, rfl, rfl, rfl⟩)
      clear hS1
      have HB8 := Lib.hid hB8
      clear hB8
      go_wp2_with fail
      go_loopw [7] (fun i wr => ∃ k : Nat, k ≤ n1 ∧ i = .int .i64 k ∧ Hid (RAt wr p g t7 { s1 with er := ((bk.take k).foldl (eraseF g) (s.er, s.la, s.pr)).1, la := ((bk.take k).foldl (eraseF g) (s.er, s.la, s.pr)).2.1, pr := ((bk.take k).foldl (eraseF g) (s.er, s.la, s.pr)).2.2 } H8) ∧ Hid (Nxt w wr t t7)) (fun i _ => n1 - (intOf i).toNat)
      case atStart =>
        refine ⟨0, by omega, rfl, Lib.hid ?_, HX8⟩
        rw [List.take_zero]
        obtain ⟨q1, q2, q3, q4⟩ := HSE.out
        show RAt w8 p g t7 { s1 with er := s.er, la := s.la, pr := s.pr } H8
        rw [← q1, ← q2, ← q3]
        exact HJ9.out
      case round =>
        clear HJ9 HX8 HOK
        obtain ⟨k, hk, rfl, HJ, HX⟩ := hrel
        have c20 := HJ.out.c20
        rw [HB8.out] at c20
        by_cases hkn : k < n1
        · as_aux_lemma =>
          have hk0 : (k : Int) < (n1 : Int) := by omega
          have hlen : k < bk.length := by rw [HLB.out]; exact hkn
          obtain ⟨g1, k1, q1, x1, _, _⟩ := HJ.out.e20 k (by show k < s1.blks.length; rw [HSE.out.2.2.2]; exact hlen)
          have q1' := q1
          rw [HB8.out] at q1'
          injection q1' with q2 qn q3
          clear qn
          subst q2 q3
          change wr.cell? ⟨g1, k, none⟩ = some (.int .i64 (s1.blks.getD k 0)) at x1
          rw [HSE.out.2.2.2] at x1
          have HTA := Lib.hid (take_snoc hlen)
          have hmem := getD_mem hlen
          have hor := HIN.out _ hmem
          generalize bk.getD k 0 = oo at x1 HTA hor
          obtain ⟨u, hu⟩ := Int.eq_ofNat_of_zero_le hor.1
          subst hu
          clear hmem hlen q1
          have hle := eraseF_len g (bk.take k) (s.er, s.la, s.pr)
          generalize hx : (bk.take k).foldl (eraseF g) (s.er, s.la, s.pr) = x at HJ hle
          have HXE := Lib.hid hx
          clear hx
          simp only at hle
          have l1 : x.1.length = g.bl.toNat := hle.1.trans HW.out.ne
          have l2 : x.2.1.length = g.bl.toNat := hle.2.1.trans HW.out.nl
          have l3 : (x.2.2.length : Int) = g.bl * g.pg := by rw [hle.2.2]; exact HW.out.np
          have HL3 := Lib.hid l3
          have hu256 : u ≤ 256 := by have := HPG.out.2.1.2; omega
          have HOR := Lib.hid hor
          have i1 : (u : Int) < (x.1.length : Int) := by omega
          have i2 : (u : Int) < (x.2.1.length : Int) := by omega
          obtain ⟨g7, k7, q7, _, z7, s7⟩ := HJ.out.e7 u (by show u < x.1.length; omega)
          have c7 := HJ.out.c7
          rw [q7] at c7
          change wr.cell? ⟨p, 7, none⟩ = some (.slice (some ⟨g7, 0, none⟩) x.1.length k7) at c7
          have HJ1 := Lib.hid (s7 true).1
          have HX1 := Lib.hid (HX.out.trans (s7 true).2)
          have HI2 := Lib.hid (show u < x.2.1.length by omega)
          clear q7 s7 l1 l2 l3 hle hor
          go_upto_region 19 with fail
          generalize wr.setCell ⟨g7, u, none⟩ (.bool true) = w9 at HJ1 HX1 ⊢
          clear c20 x1 c7 z7 HJ HX
          obtain ⟨g8, k8, q8, _, z8, s8⟩ := HJ1.out.e8 u (by exact HI2.out)
          have c8 := HJ1.out.c8
          rw [q8] at c8
          have HJ2 := Lib.hid (s8 (-1)).1
          have HX2 := Lib.hid (HX1.out.trans (s8 (-1)).2)
          clear q8 s8
          change w9.cell? ⟨p, 8, none⟩ = some (.slice (some ⟨g8, 0, none⟩) x.2.1.length k8) at c8
          go_upto_region 20 with fail
          generalize w9.setCell ⟨g8, u, none⟩ (.int .i64 (-1)) = wa at HJ2 HX2 ⊢
          clear c8 z8 HJ1 HX1 i1 i2 HI2
          have hpg : ((g.pg.toNat : Nat) : Int) = g.pg := by have := HPG.out.2.2.1.1; omega
          obtain ⟨np, hnp⟩ : ∃ np : Nat, (u : Int) * g.pg = (np : Int) := ⟨u * g.pg.toNat, by rw [Int.natCast_mul, hpg]⟩
          have hnpb : np ≤ 20000 := by
            have h1 : (u : Int) * g.pg ≤ 256 * 64 := Int.mul_le_mul (by omega) HPG.out.2.2.1.2 (by have := HPG.out.2.2.1.1; omega) (by decide)
            omega
          have hlast : (np : Int) + g.pg ≤ (x.2.2.length : Int) := by
            rw [HL3.out, ← hnp]
            have h1 : ((u : Int) + 1) * g.pg ≤ g.bl * g.pg := Int.mul_le_mul_of_nonneg_right (by have := HOR.out.2; omega) (by have := HPG.out.2.2.1.1; omega)
            rw [Int.add_mul, Int.one_mul] at h1
            exact h1
          have HNP := Lib.hid hnp
          have HLA := Lib.hid hlast
          have HPQ := Lib.hid hpg
          have m1 : IntKind.i64.wrap ((u : Int) * g.pg) = (np : Int) := by rw [hnp, i64_w]; exact w64i _ (by omega) (by omega)
          have hpgb : g.pg ≤ 64 := HPG.out.2.2.1.2
          have hpg4 : 4 ≤ g.pg := HPG.out.2.2.1.1
          clear hnp hlast hpg
          go_wp2_with fail
          go_loopw [9] (fun i wr => ∃ q : Nat, (q : Int) ≤ g.pg ∧ i = .int .i64 q ∧ Hid (RAt wr p g t7 { s1 with er := x.1.set u true, la := x.2.1.set u (-1), pr := clearF g (u : Int) q x.2.2 } H8) ∧ Hid (Nxt w wr t t7)) (fun i _ => g.pg.toNat - (intOf i).toNat)
          case atStart => exact ⟨0, by omega, rfl, HJ2, HX2⟩
          case round =>
            clear HJ2 HX2
            obtain ⟨q, hq, rfl, HJ, HX⟩ := hrel
            have c2 := HJ.out.c2
            by_cases hqm : (q : Int) < g.pg
            · as_aux_lemma =>
              have m2 : IntKind.i64.wrap ((np : Int) + (q : Int)) = ((np + q : Nat) : Int) := (i64_w _).trans <| w_add hnpb (Int.le_trans (Int.le_of_lt hqm) hpgb)
              obtain ⟨nq, hnq⟩ : ∃ nq, nq = np + q := ⟨_, rfl⟩
              have HNQ := Lib.hid hnq
              have hlq : nq < (clearF g (u : Int) q x.2.2).length := by rw [clearF_len]; exact lt3 hnq HLA.out hqm
              obtain ⟨g9, k9, q9, _, z9, s9⟩ := HJ.out.e9 nq (by exact hlq)
              have c9 := HJ.out.c9
              have f9 := (s9 0).1.c9
              have f2 := (s9 0).1.c2
              rw [q9] at c9 f9
              change wr.cell? ⟨p, 9, none⟩ = some (.slice (some ⟨g9, 0, none⟩) (clearF g (u : Int) q x.2.2).length k9) at c9
              change World.cell? _ ⟨p, 9, none⟩ = some (.slice (some ⟨g9, 0, none⟩) (clearF g (u : Int) q x.2.2).length k9) at f9
              rw [← hnq] at m2
              have HJ3 := Lib.hid (s9 0).1.drew
              have HX3 := Lib.hid (HX.out.trans (s9 0).2).drew
              have i9 : (nq : Int) < ((clearF g (u : Int) q x.2.2).length : Int) := Int.ofNat_lt.2 hlq
              have HCL := Lib.hid (clearF_succ g (u : Int) q x.2.2)
              clear q9 s9 hlq hnq
              generalize hcl : (clearF g (u : Int) q x.2.2).length = ncl at c9 f9 i9
              clear hcl
              go_wp2_with fail
              go_region_held3 (fun W => W.cell? ⟨p, 9, none⟩ = some (.slice (some ⟨g9, 0, none⟩) ncl k9) ∧ W.cell? ⟨p, 2, none⟩ = some (.int .i64 g.pg)) (first | exact ⟨c9, c2⟩ | exact ⟨f9, f2⟩) (fail)
              clear c9 f9 c2 f2 i9 z9
              go_wp2_with fail
              go_roundw
              case rel => exact ⟨q + 1, by omega, by go_num, Lib.hid (by rw [HCL.out, HNP.out, show (np : Int) + (q : Int) = ((np + q : Nat) : Int) by omega, Int.toNat_natCast, ← HNQ.out]; exact HJ3.out), HX3⟩
              case measure => exact step_measure (show q < g.pg.toNat by omega)
            · as_aux_lemma =>
              have hqe : g.pg.toNat = q := by have := HPQ.out; omega
              have HFI := Lib.hid (eraseF_snoc g (bk.take k) (u : Int) (s.er, s.la, s.pr))
              rw [HXE.out, Int.toNat_natCast, hqe] at HFI
              clear hqe
              go_wp2_with fail
              go_roundw
              case rel => exact ⟨k + 1, hkn, by go_num, Lib.hid (by rw [HTA.out, HFI.out]; exact HJ.out), HX⟩
              case measure => exact step_measure hkn
        · as_aux_lemma =>
          have hke : n1 = k := by omega
          have hta : bk.take k = bk := List.take_of_length_le (by rw [HLB.out]; omega)
          rw [hta] at HJ
          subst hke
          clear hta hkn hk
          have hz := HJ.out.z
          have c21 := HJ.out.c21
          obtain ⟨A9, m9, hA9⟩ := HJ.out.l21
          rw [hA9] at c21
          clear hA9
          have hM := HJ.out.moved
          rw [HB8.out] at hM
          have HM := Lib.hid hM
          clear hM
          go_wp2_with fail
          go_ret
          exact ⟨by rw [HE.out]; rfl, _, ⟨_, by rw [HE.out]; have h9 := HM.out.1; rw [show ({ s1 with er := (bk.foldl (eraseF g) (s.er, s.la, s.pr)).1, la := (bk.foldl (eraseF g) (s.er, s.la, s.pr)).2.1, pr := (bk.foldl (eraseF g) (s.er, s.la, s.pr)).2.2 } : RS).blks = bk from HSE.out.2.2.2] at h9; exact h9⟩, HX.out.trans HM.out.2⟩
end
end Go.Proofs.Ytfmogmgdpamfgaa.Jd

namespace Go.Proofs.Ytfmogmgdpamfgaa.Jd
open Go.RowKit Go.Proofs.YtfmogmgdpamfgaaW.PrintWords Go.Proofs.YtfmogmgdpamfgaaW.PrintLast Go.Proofs.YtfmogmgdpamfgaaW.PrintMore
set_option linter.unusedVariables false
set_option linter.unusedSimpArgs false
theorem c_casesR (c : Int) : c = 144 ∨ c = 236 ∨ c = 239 ∨ c = 0 ∨ c = 5 ∨ c = 128 ∨ c = 96 ∨ (c ≠ 144 ∧ c ≠ 236 ∧ c ≠ 239 ∧ c ≠ 0 ∧ c ≠ 5 ∧ c ≠ 128 ∧ c ≠ 96) := by omega
section
variable {w w' : World} {p : Nat} {g : Ge} {t t' : Nat → Nat} {s : RS} {H : HR}
set_option maxHeartbeats 16000000 in
set_option maxRecDepth 100000 in
theorem rbegin_ok (c : Int) (h : RAt w p g t s H) (hm : s.rows.length ≤ 1000000 ∧ s.blks.length ≤ 1000000) : Calls Try.prog 134 #[.pointer (some ⟨p, 0, none⟩), .int .i64 c] w fun e w' => e = .returned (.bool (beginR s c).2) ∧ (∃ H', RAt w' p g t (beginR s c).1 H') ∧ Nxt w w' t t := by
  have c15 := h.c15
  have c17 := h.c17
  have c19 := h.c19
  have c20 := h.c20
  obtain ⟨A19, m19, q19⟩ := h.l19
  obtain ⟨A20, m20, q20⟩ := h.l20
  rw [q19] at c19
  rw [q20] at c20
  clear q19 q20
  have HJ := Lib.hid h
  have HL := Lib.hid (rfree_ok h)
  clear h
  by_cases hb : s.behind = true
  · rw [hb] at c15
    by_cases hc : c = 128
    · subst hc
      have HE := Lib.hid (show beginR s 128 = ({ { freeR s with op := 8 } with data := false }, true) from by unfold beginR openR; simp [hb])
      clear hm hb
      go_enter Try.func134, Try.ntmps134
      go_wp2_with (go_at_call 95; refine (HL.out).mono ?_; rintro e w1 ⟨rfl, h1, hn1⟩; have HF := Lib.hid ((h1.s10 8).s17 false); have HN := Lib.hid (hn1.trans (h1.n [(10, .int .i64 8), (17, .bool false)])); have hz := h1.z; have d10 := h1.c10; have d17 := h1.c17; clear h1 hn1 HL)
      all_goals
        go_ret
        exact ⟨by rw [HE.out]; rfl, ⟨_, by rw [HE.out]; exact HF.out⟩, HN.out⟩
    · have o1 := (bne_iff_ne.2 hc : (c != 128) = true)
      have HE := Lib.hid (show beginR s c = (s, false) from by unfold beginR openR; simp [hb, hc])
      clear hm hb hc
      go_enter Try.func134, Try.ntmps134
      go_wp2_with fail
      all_goals
        go_ret
        exact ⟨by rw [HE.out]; rfl, ⟨_, by rw [HE.out]; exact HJ.out⟩, Nxt.refl _ _⟩
  have hb : s.behind = false := by cases hbe : s.behind <;> simp_all
  rw [hb] at c15
  by_cases hr : s.rows ≠ []
  · have hl : 0 < s.rows.length := List.length_pos_iff.2 hr
    have o2 : decide (0 < s.rows.length) = true := decide_eq_true hl
    by_cases hc : c = 128
    · subst hc
      have HE := Lib.hid (show beginR s 128 = ({ { freeR s with op := 8 } with data := false }, true) from by unfold beginR openR; simp [hb, hr])
      clear hm hb hr hl
      go_enter Try.func134, Try.ntmps134
      go_wp2_with (go_at_call 95; refine (HL.out).mono ?_; rintro e w1 ⟨rfl, h1, hn1⟩; have HF := Lib.hid ((h1.s10 8).s17 false); have HN := Lib.hid (hn1.trans (h1.n [(10, .int .i64 8), (17, .bool false)])); have hz := h1.z; have d10 := h1.c10; have d17 := h1.c17; clear h1 hn1 HL)
      all_goals
        go_ret
        exact ⟨by rw [HE.out]; rfl, ⟨_, by rw [HE.out]; exact HF.out⟩, HN.out⟩
    · have o1 := (bne_iff_ne.2 hc : (c != 128) = true)
      have HE := Lib.hid (show beginR s c = (s, false) from by unfold beginR openR; simp [hb, hc, hr])
      clear hm hb hc hr hl
      go_enter Try.func134, Try.ntmps134
      go_wp2_with fail
      all_goals
        go_ret
        exact ⟨by rw [HE.out]; rfl, ⟨_, by rw [HE.out]; exact HJ.out⟩, Nxt.refl _ _⟩
  replace hr : s.rows = [] := Classical.not_not.1 hr
  have o2 : decide (0 < s.rows.length) = false := decide_eq_false (by rw [hr]; decide)
  by_cases hk : s.blks ≠ []
  · have hl : 0 < s.blks.length := List.length_pos_iff.2 hk
    have o3 : decide (0 < s.blks.length) = true := decide_eq_true hl
    by_cases hc : c = 96
    · subst hc
      have HE := Lib.hid (show beginR s 96 = ({ { freeR s with op := 9 } with data := false }, true) from by unfold beginR openR; simp [hb, hr, hk])
      clear hm hb hr hl hk
      go_enter Try.func134, Try.ntmps134
      go_wp2_with (go_at_call 95; refine (HL.out).mono ?_; rintro e w1 ⟨rfl, h1, hn1⟩; have HF := Lib.hid ((h1.s10 9).s17 false); have HN := Lib.hid (hn1.trans (h1.n [(10, .int .i64 9), (17, .bool false)])); have hz := h1.z; have d10 := h1.c10; have d17 := h1.c17; clear h1 hn1 HL)
      all_goals
        go_ret
        exact ⟨by rw [HE.out]; rfl, ⟨_, by rw [HE.out]; exact HF.out⟩, HN.out⟩
    · have o1 := (bne_iff_ne.2 hc : (c != 96) = true)
      have HE := Lib.hid (show beginR s c = (s, false) from by unfold beginR openR; simp [hb, hc, hr, hk])
      clear hm hb hc hr hl hk
      go_enter Try.func134, Try.ntmps134
      go_wp2_with fail
      all_goals
        go_ret
        exact ⟨by rw [HE.out]; rfl, ⟨_, by rw [HE.out]; exact HJ.out⟩, Nxt.refl _ _⟩
  replace hk : s.blks = [] := Classical.not_not.1 hk
  have o3 : decide (0 < s.blks.length) = false := decide_eq_false (by rw [hk]; decide)
  rcases c_casesR c with rfl | rfl | rfl | rfl | rfl | rfl | rfl | ⟨n1, n2, n3, n4, n5, n6, n7⟩
  · have HE := Lib.hid (show beginR s 144 = ({ { freeR s with op := 2 } with data := false }, true) from by unfold beginR openR; simp [hb, hr, hk])
    clear hm hb hr hk
    go_enter Try.func134, Try.ntmps134
    go_wp2_with (go_at_call 95; refine (HL.out).mono ?_; rintro e w1 ⟨rfl, h1, hn1⟩; have HF := Lib.hid ((h1.s10 2).s17 false); have HN := Lib.hid (hn1.trans (h1.n [(10, .int .i64 2), (17, .bool false)])); have hz := h1.z; have d10 := h1.c10; have d17 := h1.c17; clear h1 hn1 HL)
    all_goals
      go_ret
      exact ⟨by rw [HE.out]; rfl, ⟨_, by rw [HE.out]; exact HF.out⟩, HN.out⟩
  · have HE := Lib.hid (show beginR s 236 = ({ { freeR s with op := 3 } with data := false }, true) from by unfold beginR openR; simp [hb, hr, hk])
    clear hm hb hr hk
    go_enter Try.func134, Try.ntmps134
    go_wp2_with (go_at_call 95; refine (HL.out).mono ?_; rintro e w1 ⟨rfl, h1, hn1⟩; have HF := Lib.hid ((h1.s10 3).s17 false); have HN := Lib.hid (hn1.trans (h1.n [(10, .int .i64 3), (17, .bool false)])); have hz := h1.z; have d10 := h1.c10; have d17 := h1.c17; clear h1 hn1 HL)
    all_goals
      go_ret
      exact ⟨by rw [HE.out]; rfl, ⟨_, by rw [HE.out]; exact HF.out⟩, HN.out⟩
  · have HE := Lib.hid (show beginR s 239 = ({ { freeR s with op := 4 } with data := false }, true) from by unfold beginR openR; simp [hb, hr, hk])
    clear hm hb hr hk
    go_enter Try.func134, Try.ntmps134
    go_wp2_with (go_at_call 95; refine (HL.out).mono ?_; rintro e w1 ⟨rfl, h1, hn1⟩; have HF := Lib.hid ((h1.s10 4).s17 false); have HN := Lib.hid (hn1.trans (h1.n [(10, .int .i64 4), (17, .bool false)])); have hz := h1.z; have d10 := h1.c10; have d17 := h1.c17; clear h1 hn1 HL)
    all_goals
      go_ret
      exact ⟨by rw [HE.out]; rfl, ⟨_, by rw [HE.out]; exact HF.out⟩, HN.out⟩
  · have HE := Lib.hid (show beginR s 0 = ({ freeR s with op := 5 }, true) from by unfold beginR openR; simp [hb, hr, hk])
    clear hm hb hr hk
    go_enter Try.func134, Try.ntmps134
    go_wp2_with (go_at_call 95; refine (HL.out).mono ?_; rintro e w1 ⟨rfl, h1, hn1⟩; have HF := Lib.hid (h1.s10 5); have HN := Lib.hid (hn1.trans (h1.n [(10, .int .i64 5)])); have hz := h1.z; have d10 := h1.c10; have d17 := h1.c17; clear h1 hn1 HL)
    all_goals
      go_ret
      exact ⟨by rw [HE.out]; rfl, ⟨_, by rw [HE.out]; exact HF.out⟩, HN.out⟩
  · cases hda : s.data with
    | true =>
      rw [hda] at c17
      have HE := Lib.hid (show beginR s 5 = ({ freeR s with op := 7 }, true) from by unfold beginR openR; simp [hb, hr, hk, hda])
      clear hm hb hr hk hda
      go_enter Try.func134, Try.ntmps134
      go_wp2_with (go_at_call 95; refine (HL.out).mono ?_; rintro e w1 ⟨rfl, h1, hn1⟩; have HF := Lib.hid (h1.s10 7); have HN := Lib.hid (hn1.trans (h1.n [(10, .int .i64 7)])); have hz := h1.z; have d10 := h1.c10; have d17 := h1.c17; clear h1 hn1 HL)
      all_goals
        go_ret
        exact ⟨by rw [HE.out]; rfl, ⟨_, by rw [HE.out]; exact HF.out⟩, HN.out⟩
    | false =>
      rw [hda] at c17
      have HE := Lib.hid (show beginR s 5 = (s, false) from by unfold beginR openR; simp [hb, hr, hk, hda])
      clear hm hb hr hk hda
      go_enter Try.func134, Try.ntmps134
      go_wp2_with fail
      all_goals
        go_ret
        exact ⟨by rw [HE.out]; rfl, ⟨_, by rw [HE.out]; exact HJ.out⟩, Nxt.refl _ _⟩
  · have HE := Lib.hid (show beginR s 128 = ({ { freeR s with op := 8 } with data := false }, true) from by unfold beginR openR; simp [hb, hr, hk])
    clear hm hb hr hk
    go_enter Try.func134, Try.ntmps134
    go_wp2_with (go_at_call 95; refine (HL.out).mono ?_; rintro e w1 ⟨rfl, h1, hn1⟩; have HF := Lib.hid ((h1.s10 8).s17 false); have HN := Lib.hid (hn1.trans (h1.n [(10, .int .i64 8), (17, .bool false)])); have hz := h1.z; have d10 := h1.c10; have d17 := h1.c17; clear h1 hn1 HL)
    all_goals
      go_ret
      exact ⟨by rw [HE.out]; rfl, ⟨_, by rw [HE.out]; exact HF.out⟩, HN.out⟩
  · have HE := Lib.hid (show beginR s 96 = ({ { freeR s with op := 9 } with data := false }, true) from by unfold beginR openR; simp [hb, hr, hk])
    clear hm hb hr hk
    go_enter Try.func134, Try.ntmps134
    go_wp2_with (go_at_call 95; refine (HL.out).mono ?_; rintro e w1 ⟨rfl, h1, hn1⟩; have HF := Lib.hid ((h1.s10 9).s17 false); have HN := Lib.hid (hn1.trans (h1.n [(10, .int .i64 9), (17, .bool false)])); have hz := h1.z; have d10 := h1.c10; have d17 := h1.c17; clear h1 hn1 HL)
    all_goals
      go_ret
      exact ⟨by rw [HE.out]; rfl, ⟨_, by rw [HE.out]; exact HF.out⟩, HN.out⟩
  · have q1 := beq_f n1
    have q2 := beq_f n2
    have q3 := beq_f n3
    have q4 := beq_f n4
    have q5 := beq_f n5
    have q6 := beq_f n6
    have q7 := beq_f n7
    have HE := Lib.hid (show beginR s c = (s, false) from by unfold beginR openR; simp [hb, hr, hk, n1, n2, n3, n4, n5, n6, n7])
    clear hm hb hr hk n1 n2 n3 n4 n5 n6 n7
    go_enter Try.func134, Try.ntmps134
    go_wp2_with fail
    all_goals
      go_ret
      exact ⟨by rw [HE.out]; rfl, ⟨_, by rw [HE.out]; exact HJ.out⟩, Nxt.refl _ _⟩
end
end Go.Proofs.Ytfmogmgdpamfgaa.Jd

namespace Go.Proofs.Ytfmogmgdpamfgaa.Jd
open Go.RowKit Go.Proofs.YtfmogmgdpamfgaaW.PrintWords Go.Proofs.YtfmogmgdpamfgaaW.PrintLast Go.Proofs.YtfmogmgdpamfgaaW.PrintMore
set_option linter.unusedVariables false
set_option linter.unusedSimpArgs false
theorem loadR_bc {g : Ge} {s : RS} {c : Int} (h : (c ≠ 16 ∧ c ≠ 17 ∧ c ≠ 21) ∨ canR g s (num s.listed 2) = false) : loadR g s c = (s, false) := by
  unfold loadR
  simp only
  rw [if_pos h]
theorem op8_casesR (op : Int) : op = 8 ∨ op = 9 ∨ op = 5 ∨ op = 7 ∨ op = 1 ∨ op = 6 ∨ op = 2 ∨ (op ≠ 8 ∧ op ≠ 9 ∧ op ≠ 5 ∧ op ≠ 7 ∧ op ≠ 1 ∧ op ≠ 6 ∧ op ≠ 2) := by omega
section
variable {w w' : World} {p : Nat} {g : Ge} {t t' : Nat → Nat} {s : RS} {H : HR}
/-- What a method that answers yes or no leaves. -/
def OutR (p : Nat) (g : Ge) (t : Nat → Nat) (w : World) (x : RS × Bool) : Ending → World → Prop := fun e w' => e = .returned (.bool x.2) ∧ (∃ t', (∃ H', RAt w' p g t' x.1 H') ∧ Nxt w w' t t')
set_option maxHeartbeats 8000000 in
set_option maxRecDepth 100000 in
theorem rload_ok (c : Int) (hw : Wr g s) (h4 : s.listed.length = 4) (h : RAt w p g t s H) : Calls Try.prog 131 #[.pointer (some ⟨p, 0, none⟩), .int .i64 c] w (OutR p g t w (loadR g s c)) := by
  have HT := Lib.hid (rtwo_ok 2 h (by omega) (by omega) hw.lb)
  have HJ := Lib.hid h
  have HCN := Lib.hid (fun (W : World) (hW : RAt W p g t s H) => rcan_ok (num s.listed 2) hw hW)
  by_cases hc : c = 16 ∨ c = 17 ∨ c = 21
  · by_cases hcan : canR g s (num s.listed 2) = true
    · rcases hc with rfl | rfl | rfl
      · exact rload_16 hw h4 hcan h
      · exact rload_17 hw h4 hcan h
      · exact rload_21 hw h4 hcan h
    · have hcan : canR g s (num s.listed 2) = false := by cases hx : canR g s (num s.listed 2) <;> simp_all
      have HE := Lib.hid (loadR_bc (c := c) (.inr hcan))
      rw [hcan] at HCN
      generalize num s.listed 2 = rr at *
      clear h hw h4 hcan
      rcases hc with rfl | rfl | rfl
      all_goals
        go_enter Try.func131, Try.ntmps131
        go_wp2_with (first
          | (go_at_call 133; refine (HT.out).mono ?_; rintro e w1 ⟨rfl, hb1⟩; have HJ1 := Lib.hid (HJ.out.below hb1); have HX1 := Lib.hid ((Nxt.refl w t).below hb1); clear hb1)
          | (go_at_call 24; refine (HCN.out _ HJ1.out).mono ?_; rintro e w2 ⟨rfl, hb1⟩; have HJ2 := Lib.hid (HJ1.out.below hb1); have HX2 := Lib.hid (HX1.out.below hb1); clear hb1))
        go_ret
        exact ⟨by rw [HE.out]; rfl, _, ⟨_, by rw [HE.out]; exact HJ2.out⟩, HX2.out⟩
  · have HE := Lib.hid (loadR_bc (g := g) (s := s) (c := c) (.inl ⟨fun e => hc (.inl e), fun e => hc (.inr (.inl e)), fun e => hc (.inr (.inr e))⟩))
    have o1 : (c != 16) = true := bne_iff_ne.2 (fun e => hc (.inl e))
    have o2 : (c != 17) = true := bne_iff_ne.2 (fun e => hc (.inr (.inl e)))
    have o3 : (c != 21) = true := bne_iff_ne.2 (fun e => hc (.inr (.inr e)))
    clear h hw h4 hc HCN
    go_enter Try.func131, Try.ntmps131
    go_wp2_with (go_at_call 133; refine (HT.out).mono ?_; rintro e w1 ⟨rfl, hb1⟩; have HJ1 := Lib.hid (HJ.out.below hb1); have HX1 := Lib.hid ((Nxt.refl w t).below hb1); clear hb1)
    go_ret
    exact ⟨by rw [HE.out]; rfl, _, ⟨_, by rw [HE.out]; exact HJ1.out⟩, HX1.out⟩
theorem rerase_ok (c : Int) (hw : Wr g s) (h9 : s.op = 9) (h4 : s.listed.length = 2) (h : RAt w p g t s H) : Calls Try.prog 132 #[.pointer (some ⟨p, 0, none⟩), .int .i64 c] w (OutR p g t w (eraseR g s c)) := by
  by_cases hc : c = 208 ∨ c = 209
  · rcases hc with rfl | rfl
    · exact rerase_208 hw h9 h4 h
    · exact rerase_209 hw h9 h4 h
  · exact erase_no c hc h
set_option maxHeartbeats 16000000 in
set_option maxRecDepth 100000 in
theorem rcommand_ok (c : Int) (hw : Wr g s) (h : RAt w p g t s H) : Calls Try.prog 97 #[.pointer (some ⟨p, 0, none⟩), .int .i64 c] w (OutR p g t w (commandR g s c)) := by
  have HW := Lib.hid hw
  have HJ := Lib.hid h
  have HB := Lib.hid (rbegin_ok c h ⟨hw.ro.1, hw.bl.1⟩)
  have c10 := h.c10
  have c11 := h.c11
  have c12 := h.c12
  have c17 := h.c17
  have hl4 := hw.l4
  obtain ⟨A11, m11, q11⟩ := h.l11
  rw [q11] at c11
  clear q11 hw h
  obtain ⟨n, hn⟩ : ∃ n, n = s.listed.length := ⟨_, rfl⟩
  rw [← hn] at c11 hl4
  have HN := Lib.hid hn
  clear hn
  obtain ⟨op, hop⟩ : ∃ op, op = s.op := ⟨_, rfl⟩
  rw [← hop] at c10
  have HOP := Lib.hid hop
  clear hop
  rcases op8_casesR op with rfl | rfl | rfl | rfl | rfl | rfl | rfl | ⟨n8, n9, n5, n7, n1, n6, n2⟩
  · by_cases h4 : n = 4
    · subst h4
      by_cases hcn : 0 < s.cnt
      · have o1 : decide (0 < s.cnt) = true := decide_eq_true hcn
        have HE := Lib.hid (show commandR g s c = loadR g s c from by unfold commandR; simp [← HOP.out, ← HN.out, hcn])
        have HD := Lib.hid (rload_ok c HW.out HN.out.symm HJ.out)
        clear hcn
        go_enter Try.func97, Try.ntmps97
        go_wp2_with (go_at_call 131; refine (HD.out).mono ?_; rintro e w1 ⟨rfl, t1, ⟨H1, hj1⟩, hn1⟩; have HJ1 := Lib.hid hj1; have HX1 := Lib.hid hn1; clear hj1 hn1)
        go_ret
        exact ⟨by rw [HE.out]; rfl, _, ⟨_, by rw [HE.out]; exact HJ1.out⟩, HX1.out⟩
      · have o1 : decide (0 < s.cnt) = false := decide_eq_false hcn
        have HE := Lib.hid (show commandR g s c = (s, false) from by unfold commandR; simp [← HOP.out, ← HN.out, hcn])
        clear hcn
        go_enter Try.func97, Try.ntmps97
        go_wp2_with fail
        go_ret
        exact ⟨by rw [HE.out]; rfl, _, ⟨_, by rw [HE.out]; exact HJ.out⟩, Nxt.refl _ _⟩
    · have o1 : ((n : Int) == 4) = false := beq_f (by omega)
      have HE := Lib.hid (show commandR g s c = (s, false) from by unfold commandR; simp [← HOP.out, ← HN.out, h4])
      clear h4
      go_enter Try.func97, Try.ntmps97
      go_wp2_with fail
      go_ret
      exact ⟨by rw [HE.out]; rfl, _, ⟨_, by rw [HE.out]; exact HJ.out⟩, Nxt.refl _ _⟩
  · by_cases h4 : n = 2
    · subst h4
      have HE := Lib.hid (show commandR g s c = eraseR g s c from by unfold commandR; simp [← HOP.out, ← HN.out])
      have HD := Lib.hid (rerase_ok c HW.out HOP.out.symm HN.out.symm HJ.out)
      go_enter Try.func97, Try.ntmps97
      go_wp2_with (go_at_call 132; refine (HD.out).mono ?_; rintro e w1 ⟨rfl, t1, ⟨H1, hj1⟩, hn1⟩; have HJ1 := Lib.hid hj1; have HX1 := Lib.hid hn1; clear hj1 hn1)
      go_ret
      exact ⟨by rw [HE.out]; rfl, _, ⟨_, by rw [HE.out]; exact HJ1.out⟩, HX1.out⟩
    · have o1 : ((n : Int) == 2) = false := beq_f (by omega)
      have HE := Lib.hid (show commandR g s c = (s, false) from by unfold commandR; simp [← HOP.out, ← HN.out, h4])
      clear h4
      go_enter Try.func97, Try.ntmps97
      go_wp2_with fail
      go_ret
      exact ⟨by rw [HE.out]; rfl, _, ⟨_, by rw [HE.out]; exact HJ.out⟩, Nxt.refl _ _⟩
  · by_cases h4 : n = 4
    · subst h4
      by_cases hc : c = 48
      · subst hc
        have HE := Lib.hid (show commandR g s 48 = (startR { s with col := num s.listed 0, data := true }, true) from by unfold commandR; simp [← HOP.out, ← HN.out])
        have HT := Lib.hid (rtwo_ok 0 HJ.out (by rw [← HN.out]; decide) (by rw [← HN.out]; decide) HW.out.lb)
        go_enter Try.func97, Try.ntmps97
        go_wp2_with (first
          | (go_at_call 133; refine (HT.out).mono ?_; rintro e w1 ⟨rfl, hb1⟩; have hj1 := HJ.out.below hb1; have HX1 := Lib.hid (((Nxt.refl w t).below hb1).trans (hj1.n [(18, .int .i64 (num s.listed 0)), (17, .bool true)])); have d18 := hj1.c18; have d17 := hj1.c17; have hz := hj1.z; have HS := Lib.hid (rstart_ok ((hj1.s18 (num s.listed 0)).s17 true)); clear hb1 hj1)
          | (go_at_call 94; refine (HS.out).mono ?_; rintro e w2 ⟨rfl, hj2, hn2⟩; have HJ2 := Lib.hid hj2; have HX2 := Lib.hid (HX1.out.trans hn2); clear hj2 hn2))
        go_ret
        exact ⟨by rw [HE.out]; rfl, _, ⟨_, by rw [HE.out]; exact HJ2.out⟩, HX2.out⟩
      · have o1 := (bne_iff_ne.2 hc : (c != 48) = true)
        have HE := Lib.hid (show commandR g s c = (s, false) from by unfold commandR; simp [← HOP.out, ← HN.out, hc])
        clear hc
        go_enter Try.func97, Try.ntmps97
        go_wp2_with fail
        go_ret
        exact ⟨by rw [HE.out]; rfl, _, ⟨_, by rw [HE.out]; exact HJ.out⟩, Nxt.refl _ _⟩
    · have o1 : ((n : Int) == 4) = false := beq_f (by omega)
      by_cases h0 : n = 0
      · subst h0
        cases hda : s.data with
        | true =>
          rw [hda] at c17
          have HE := Lib.hid (show commandR g s c = beginR s c from by unfold commandR; simp [← HOP.out, ← HN.out, hda])
          clear hda h4
          go_enter Try.func97, Try.ntmps97
          go_wp2_with (go_at_call 134; refine (HB.out).mono ?_; rintro e w1 ⟨rfl, ⟨H1, hj1⟩, hn1⟩; have HJ1 := Lib.hid hj1; have HX1 := Lib.hid hn1; clear hj1 hn1)
          go_ret
          exact ⟨by rw [HE.out]; rfl, _, ⟨_, by rw [HE.out]; exact HJ1.out⟩, HX1.out⟩
        | false =>
          rw [hda] at c17
          have HE := Lib.hid (show commandR g s c = (s, false) from by unfold commandR; simp [← HOP.out, ← HN.out, hda])
          clear hda h4
          go_enter Try.func97, Try.ntmps97
          go_wp2_with fail
          go_ret
          exact ⟨by rw [HE.out]; rfl, _, ⟨_, by rw [HE.out]; exact HJ.out⟩, Nxt.refl _ _⟩
      · have o2 : ((n : Int) == 0) = false := beq_f (by omega)
        have h0L : s.listed ≠ [] := fun e => h0 (by rw [HN.out, e]; rfl)
        have HE := Lib.hid (show commandR g s c = (s, false) from by unfold commandR; simp [← HOP.out, ← HN.out, h0, h0L, h4])
        clear h0 h4 h0L
        go_enter Try.func97, Try.ntmps97
        go_wp2_with fail
        go_ret
        exact ⟨by rw [HE.out]; rfl, _, ⟨_, by rw [HE.out]; exact HJ.out⟩, Nxt.refl _ _⟩
  · by_cases h4 : n = 2
    · subst h4
      by_cases hc : c = 224
      · subst hc
        have HE := Lib.hid (show commandR g s 224 = ({ freeR { s with col := num s.listed 0 } with op := 6 }, true) from by unfold commandR; simp [← HOP.out, ← HN.out])
        have HT := Lib.hid (rtwo_ok 0 HJ.out (by rw [← HN.out]; decide) (by rw [← HN.out]; decide) HW.out.lb)
        go_enter Try.func97, Try.ntmps97
        go_wp2_with (first
          | (go_at_call 133; refine (HT.out).mono ?_; rintro e w1 ⟨rfl, hb1⟩; have hj1 := HJ.out.below hb1; have HX1 := Lib.hid (((Nxt.refl w t).below hb1).trans (hj1.n [(18, .int .i64 (num s.listed 0))])); have d18 := hj1.c18; have hz := hj1.z; have HS := Lib.hid (rfree_ok (hj1.s18 (num s.listed 0))); clear hb1 hj1)
          | (go_at_call 95; refine (HS.out).mono ?_; rintro e w2 ⟨rfl, hj2, hn2⟩; have HJ2 := Lib.hid (hj2.s10 6); have d10 := hj2.c10; have hz2 := hj2.z; have HX2 := Lib.hid ((HX1.out.trans hn2).trans (hj2.n [(10, .int .i64 6)])); clear hj2 hn2))
        go_ret
        exact ⟨by rw [HE.out]; rfl, _, ⟨_, by rw [HE.out]; exact HJ2.out⟩, HX2.out⟩
      · have o1 := (bne_iff_ne.2 hc : (c != 224) = true)
        have HE := Lib.hid (show commandR g s c = (s, false) from by unfold commandR; simp [← HOP.out, ← HN.out, hc])
        clear hc
        go_enter Try.func97, Try.ntmps97
        go_wp2_with fail
        go_ret
        exact ⟨by rw [HE.out]; rfl, _, ⟨_, by rw [HE.out]; exact HJ.out⟩, Nxt.refl _ _⟩
    · have o1 : ((n : Int) != 2) = true := bne_iff_ne.2 (by omega)
      have HE := Lib.hid (show commandR g s c = (s, false) from by unfold commandR; simp [← HOP.out, ← HN.out, h4])
      clear h4
      go_enter Try.func97, Try.ntmps97
      go_wp2_with fail
      go_ret
      exact ⟨by rw [HE.out]; rfl, _, ⟨_, by rw [HE.out]; exact HJ.out⟩, Nxt.refl _ _⟩
  · have HE := Lib.hid (show commandR g s c = beginR s c from by unfold commandR; simp [← HOP.out, ← HN.out])
    go_enter Try.func97, Try.ntmps97
    go_wp2_with (go_at_call 134; refine (HB.out).mono ?_; rintro e w1 ⟨rfl, ⟨H1, hj1⟩, hn1⟩; have HJ1 := Lib.hid hj1; have HX1 := Lib.hid hn1; clear hj1 hn1)
    go_ret
    exact ⟨by rw [HE.out]; rfl, _, ⟨_, by rw [HE.out]; exact HJ1.out⟩, HX1.out⟩
  · have HE := Lib.hid (show commandR g s c = beginR s c from by unfold commandR; simp [← HOP.out, ← HN.out])
    go_enter Try.func97, Try.ntmps97
    go_wp2_with (go_at_call 134; refine (HB.out).mono ?_; rintro e w1 ⟨rfl, ⟨H1, hj1⟩, hn1⟩; have HJ1 := Lib.hid hj1; have HX1 := Lib.hid hn1; clear hj1 hn1)
    go_ret
    exact ⟨by rw [HE.out]; rfl, _, ⟨_, by rw [HE.out]; exact HJ1.out⟩, HX1.out⟩
  · by_cases h4 : n = 1
    · subst h4
      have HE := Lib.hid (show commandR g s c = beginR s c from by unfold commandR; simp [← HOP.out, ← HN.out])
      go_enter Try.func97, Try.ntmps97
      go_wp2_with (go_at_call 134; refine (HB.out).mono ?_; rintro e w1 ⟨rfl, ⟨H1, hj1⟩, hn1⟩; have HJ1 := Lib.hid hj1; have HX1 := Lib.hid hn1; clear hj1 hn1)
      go_ret
      exact ⟨by rw [HE.out]; rfl, _, ⟨_, by rw [HE.out]; exact HJ1.out⟩, HX1.out⟩
    · have o1 : ((n : Int) == 1) = false := beq_f (by omega)
      have HE := Lib.hid (show commandR g s c = (s, false) from by unfold commandR; simp [← HOP.out, ← HN.out, h4])
      clear h4
      go_enter Try.func97, Try.ntmps97
      go_wp2_with fail
      go_ret
      exact ⟨by rw [HE.out]; rfl, _, ⟨_, by rw [HE.out]; exact HJ.out⟩, Nxt.refl _ _⟩
  · have HE := Lib.hid (show commandR g s c = (s, false) from by unfold commandR; simp [← HOP.out, ← HN.out, n8, n9, n5, n7, n1, n6, n2])
    have o8 := beq_f n8
    have o9 := beq_f n9
    have o5 := beq_f n5
    have o7 := beq_f n7
    have o1 := beq_f n1
    have o6 := beq_f n6
    have o2 := beq_f n2
    clear n8 n9 n5 n7 n1 n6 n2
    go_enter Try.func97, Try.ntmps97
    go_wp2_with fail
    go_ret
    exact ⟨by rw [HE.out]; rfl, _, ⟨_, by rw [HE.out]; exact HJ.out⟩, Nxt.refl _ _⟩
end
end Go.Proofs.Ytfmogmgdpamfgaa.Jd

