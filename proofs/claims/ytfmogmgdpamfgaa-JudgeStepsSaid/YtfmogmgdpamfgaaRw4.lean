import Derived.Test.YtfmogmgdpamfgaaRw3
import Derived.Test.YtfmogmgdpamfgaaJw6
namespace Go.Proofs.Ytfmogmgdpamfgaa.Jd
open Go.RowKit Go.Proofs.YtfmogmgdpamfgaaW.PrintWords Go.Proofs.YtfmogmgdpamfgaaW.PrintLast Go.Proofs.YtfmogmgdpamfgaaW.PrintMore
set_option linter.unusedVariables false
set_option linter.unusedSimpArgs false
theorem info3r : (Try.prog.info? 3).map (fun i => (i.zero, i.size, i.bytes)) = some (some (.int .i64 0), 1, 8) := by kernel_rfl
/-- A row that can go with those that are queued. -/
def goesR (g : Ge) (row o : Int) : Bool := (o % g.pg == row % g.pg) && !(o / g.pg % g.pl == row / g.pg % g.pl)
theorem loadR_rows {g : Ge} {s : RS} {c : Int} (h1 : s.rows.all (goesR g (num s.listed 2)) = false) : loadR g s c = (s, false) := by
  unfold loadR
  simp only
  split
  · rfl
  · rw [if_pos (by show (!(s.rows.all (goesR g (num s.listed 2)))) = true; rw [h1]; rfl)]
theorem all_not {l : List Int} {f : Int → Bool} {x : Int} (hx : x ∈ l) (hf : f x = false) : l.all f = false := by
  rw [List.all_eq_false]
  exact ⟨x, hx, by rw [hf]; decide⟩
theorem all_snoc {l : List Int} {f : Int → Bool} {x : Int} (h : l.all f = true) (hf : f x = true) : (l ++ [x]).all f = true := by
  rw [List.all_append, h]
  simp [hf]
theorem loadR_bad {g : Ge} {s : RS} {c : Int} (h : (s.behind = true ∧ (num s.listed 2 / g.pg ≠ s.chain ∨ c = 17)) ∨ (c = 21 ∧ s.rows ≠ [])) : loadR g s c = (s, false) := by
  unfold loadR
  simp only
  split
  · rfl
  · split
    · rfl
    · first | rfl | rw [if_pos h]
theorem loadR_yes {g : Ge} {s : RS} {c : Int} (hc : c = 16 ∨ c = 17 ∨ c = 21) (h0 : canR g s (num s.listed 2) = true) (h1 : s.rows.all (goesR g (num s.listed 2)) = true) (h : ¬ ((s.behind = true ∧ (num s.listed 2 / g.pg ≠ s.chain ∨ c = 17)) ∨ (c = 21 ∧ s.rows ≠ []))) :
    loadR g s c = (startR { s with data := false, la := s.la.set (num s.listed 2 / g.pg).toNat (num s.listed 2 % g.pg), pr := s.pr.set (num s.listed 2).toNat (wrap64 (s.pr.getD (num s.listed 2).toNat 0 + 1)), rows := if c = 17 then s.rows ++ [num s.listed 2] else [], behind := if c = 21 then true else s.behind, chain := if c = 21 then num s.listed 2 / g.pg else s.chain }, true) := by
  unfold loadR
  simp only
  rw [if_neg (by rw [h0]; rcases hc with rfl | rfl | rfl <;> simp), if_neg (by show ¬ ((!(s.rows.all (goesR g (num s.listed 2)))) = true); rw [h1]; decide), if_neg h]
  rcases hc with rfl | rfl | rfl <;> rfl
section
variable {w w' : World} {p : Nat} {g : Ge} {t t' : Nat → Nat} {s : RS} {H : HR}
set_option maxHeartbeats 16000000 in
set_option maxRecDepth 100000 in
theorem rload_16 (hw : Wr g s) (h4 : s.listed.length = 4) (hcan : canR g s (num s.listed 2) = true) (h : RAt w p g t s H) : Calls Try.prog 131 #[.pointer (some ⟨p, 0, none⟩), .int .i64 16] w fun e w' => e = .returned (.bool (loadR g s 16).2) ∧ (∃ t', (∃ H', RAt w' p g t' (loadR g s 16).1 H') ∧ Nxt w w' t t') := by
  have HT := Lib.hid (fun (W : World) (hW : RAt W p g t s H) => rtwo_ok 2 hW (by omega) (by omega) hw.lb)
  have hrng := num_b hw.lb 2
  have HLB : Hid (loadR g s 16 = loadR g s 16) := Lib.hid rfl
  obtain ⟨rr, hrr⟩ : ∃ rr, rr = num s.listed 2 := ⟨_, rfl⟩
  have HRR := Lib.hid hrr
  rw [← hrr] at HT hrng hcan
  obtain ⟨r, hr⟩ := Int.eq_ofNat_of_zero_le hrng.1
  subst hr
  have HCN := Lib.hid (fun (W : World) (hW : RAt W p g t s H) => rcan_ok (r : Int) hw hW)
  rw [hcan] at HCN
  have hlt : (r : Int) < (s.pr.length : Int) := by
    by_cases hx : (r : Int) < (s.pr.length : Int)
    · exact hx
    · exfalso
      unfold canR at hcan
      rw [if_pos (.inr (by omega))] at hcan
      cases hcan
  have hbk := (row_split hw.hg (show 0 ≤ (r : Int) by omega) (show (r : Int) < g.bl * g.pg by have := hw.np; omega)).2.2.2
  obtain ⟨b, hb⟩ := Int.eq_ofNat_of_zero_le hbk.1
  obtain ⟨q, hq⟩ := Int.eq_ofNat_of_zero_le hbk.2.1
  have hpg0 : ¬ g.pg = 0 := by have := hw.hg.2.2.1.1; omega
  have hpl0 : ¬ g.pl = 0 := by have := hw.hg.1.1; omega
  obtain ⟨bm, hbm⟩ := Int.eq_ofNat_of_zero_le (Int.emod_nonneg (b : Int) hpl0)
  have hbl : b < s.la.length := by rw [hw.nl]; omega
  have hb256 : b ≤ 256 := by have := hw.hg.2.1.2; omega
  have hro1 := hw.ro.1
  have HRO := Lib.hid hw.ro.2
  have HCA := Lib.hid hcan
  have HBL := Lib.hid hbl
  have HLT := Lib.hid (show r < s.pr.length by omega)
  have HHB := Lib.hid hb
  have HHQ := Lib.hid hq
  have HHM := Lib.hid hbm
  have HPG := Lib.hid hw.hg
  have t1 : (r : Int).tdiv g.pg = (b : Int) := by rw [Int.tdiv_eq_ediv_of_nonneg (by omega)]; exact hb
  have t2 : (r : Int).tmod g.pg = (q : Int) := by rw [Int.tmod_eq_emod_of_nonneg (by omega)]; exact hq
  have t3 : (b : Int).tmod g.pl = (bm : Int) := by rw [Int.tmod_eq_emod_of_nonneg (by omega)]; exact hbm
  have d1 : (r : Int) / g.pg = (b : Int) := hb
  have d2 : (r : Int) % g.pg = (q : Int) := hq
  have d3 : (b : Int) % g.pl = (bm : Int) := hbm
  have hbw : IntKind.i64.wrap (b : Int) = (b : Int) := IntWalk.i64_in _ (by omega)
  have HJ := Lib.hid h
  obtain ⟨n, hn⟩ : ∃ n, n = s.rows.length := ⟨_, rfl⟩
  have HNN := Lib.hid hn
  rw [← hn] at hro1
  clear h hw hcan hlt hbk hb hq hbm hbl hrng hrr hn h4
  go_enter Try.func131, Try.ntmps131
  go_upto_region 2 with (go_at_call 133; refine (HT.out _ HJ.out).mono ?_; rintro e w1 ⟨rfl, hb1⟩; have HJ1 := Lib.hid (HJ.out.below hb1); have HX1 := Lib.hid ((Nxt.refl w t).below hb1); clear hb1)
  go_upto_region 4 with (go_at_call 24; refine (HCN.out _ HJ1.out).mono ?_; rintro e w2 ⟨rfl, hb1⟩; have HJ2 := Lib.hid (HJ1.out.below hb1); have HX2 := Lib.hid (HX1.out.below hb1); clear hb1)
  clear HJ HJ1 HX1 HT HCN
  have c2 := HJ2.out.c2
  go_wp2_with fail
  clear c2
  go_loopw [7] (fun i wr => ∃ k : Nat, k ≤ n ∧ i = .int .i64 k ∧ Hid ((s.rows.take k).all (goesR g (r : Int)) = true) ∧ Hid (RAt wr p g t s H) ∧ Hid (Nxt w wr t t)) (fun i _ => n - (intOf i).toNat)
  case atStart => exact ⟨0, by omega, rfl, Lib.hid (by rw [List.take_zero]; rfl), HJ2, HX2⟩
  case round =>
    clear HJ2 HX2
    obtain ⟨k, hk, rfl, HOK, HJ, HX⟩ := hrel
    have c19 := HJ.out.c19
    have c0 := HJ.out.c0
    have c2 := HJ.out.c2
    by_cases hkn : k < n
    · as_aux_lemma =>
      have hk0 : (k : Int) < (n : Int) := by omega
      have hlen : k < s.rows.length := by rw [← HNN.out]; exact hkn
      obtain ⟨g1, k1, q1, x1, _, _⟩ := HJ.out.e19 k hlen
      rw [q1] at c19
      rw [← HNN.out] at c19
      have HTA := Lib.hid (take_snoc hlen)
      have hmem := getD_mem hlen
      have HME := Lib.hid hmem
      have hor := HRO.out _ hmem
      generalize s.rows.getD k 0 = oo at x1 HTA HME hor
      obtain ⟨u, hu⟩ := Int.eq_ofNat_of_zero_le hor.1
      subst hu
      obtain ⟨u1, hu1⟩ := Int.eq_ofNat_of_zero_le (show 0 ≤ (u : Int) / g.pg from Int.ediv_nonneg (by omega) (by have := HPG.out.2.2.1.1; omega))
      obtain ⟨u2, hu2⟩ := Int.eq_ofNat_of_zero_le (Int.emod_nonneg (u : Int) hpg0)
      obtain ⟨u3, hu3⟩ := Int.eq_ofNat_of_zero_le (Int.emod_nonneg (u1 : Int) hpl0)
      have hu16 : (u : Int) ≤ 20000 := by
        have h1 : g.bl * g.pg ≤ 256 * 64 := Int.mul_le_mul HPG.out.2.1.2 HPG.out.2.2.1.2 (by have := HPG.out.2.2.1.1; omega) (by decide)
        omega
      have hu1b : (u1 : Int) ≤ 20000 := by
        rw [← hu1]
        exact Int.le_trans (Int.ediv_le_self _ (by omega)) hu16
      have y1 : (u : Int).tdiv g.pg = (u1 : Int) := by rw [Int.tdiv_eq_ediv_of_nonneg (by omega)]; exact hu1
      have y2 : (u : Int).tmod g.pg = (u2 : Int) := by rw [Int.tmod_eq_emod_of_nonneg (by omega)]; exact hu2
      have y3 : (u1 : Int).tmod g.pl = (u3 : Int) := by rw [Int.tmod_eq_emod_of_nonneg (by omega)]; exact hu3
      have HG3 : Hid (goesR g (r : Int) (u : Int) = (((u2 : Int) == (q : Int)) && !((u3 : Int) == (bm : Int)))) := Lib.hid (by unfold goesR; rw [hu2, hu1, hu3, d2, d1, d3])
      have y4 : (u : Int) / g.pg = (u1 : Int) := hu1
      have y5 : (u : Int) % g.pg = (u2 : Int) := hu2
      have y6 : (u1 : Int) % g.pl = (u3 : Int) := hu3
      have hu1w : IntKind.i64.wrap (u1 : Int) = (u1 : Int) := IntWalk.i64_in _ (by omega)
      clear hu1 hu2 hu3 hor hmem q1 hlen
      by_cases hA : (u2 : Int) = (q : Int)
      · have hA1 := bne_eq_false_iff_eq.2 hA
        rw [beq_t hA, Bool.true_and] at HG3
        clear hA
        by_cases hB : (u3 : Int) = (bm : Int)
        · have hB1 := beq_t hB
          rw [hB1] at HG3
          clear hB
          have HE := Lib.hid (loadR_rows (c := 16) (all_not (f := goesR g (num s.listed 2)) HME.out (by rw [← HRR.out]; exact HG3.out)))
          go_upto_region 9 with fail
          go_quiet (fail)
          go_wp2
          go_ret
          exact ⟨by rw [HE.out]; rfl, _, ⟨_, by rw [HE.out]; exact HJ.out.drewN _⟩, HX.out.drewN _⟩
        · have hB1 := beq_f hB
          rw [hB1] at HG3
          clear hB
          go_upto_region 9 with fail
          go_quiet (fail)
          go_wp2
          go_roundw
          case rel => exact ⟨k + 1, hkn, by go_num, Lib.hid (by rw [HTA.out]; exact all_snoc HOK.out HG3.out), Lib.hid (HJ.out.drewN _), Lib.hid (HX.out.drewN _)⟩
          case measure => exact step_measure hkn
      · have hA1 := bne_iff_ne.2 hA
        rw [beq_f hA, Bool.false_and] at HG3
        clear hA
        have HE := Lib.hid (loadR_rows (c := 16) (all_not (f := goesR g (num s.listed 2)) HME.out (by rw [← HRR.out]; exact HG3.out)))
        go_upto_region 9 with fail
        go_quiet (fail)
        go_wp2
        go_ret
        exact ⟨by rw [HE.out]; rfl, _, ⟨_, by rw [HE.out]; exact HJ.out.drewN _⟩, HX.out.drewN _⟩
    · have hke : n = k := by omega
      have hta : s.rows.take k = s.rows := List.take_of_length_le (by rw [← HNN.out]; omega)
      rw [hta] at HOK
      subst hke
      clear hta hkn hk
      obtain ⟨A, m, hA⟩ := HJ.out.l19
      rw [hA] at c19
      rw [← HNN.out] at c19
      clear hA
      have c15 := HJ.out.c15
      have c16 := HJ.out.c16
      by_cases hbad : s.behind = true ∧ (b : Int) ≠ s.chain
      · have HE := Lib.hid (loadR_bad (g := g) (c := 16) (.inl ⟨hbad.1, .inl (by rw [← HRR.out, HHB.out]; exact hbad.2)⟩))
        rw [hbad.1] at c15
        have o1 := bne_iff_ne.2 hbad.2
        clear hbad
        go_wp2_with fail
        go_ret
        exact ⟨by rw [HE.out]; rfl, _, ⟨_, by rw [HE.out]; exact HJ.out⟩, HX.out⟩
      · have HE := Lib.hid (loadR_yes (g := g) (s := s) (c := 16) (.inl rfl) (by rw [← HRR.out]; exact HCA.out) (by rw [← HRR.out]; exact HOK.out) (by rw [← HRR.out, HHB.out]; simp; exact fun h1 => Classical.byContradiction (fun h2 => hbad ⟨h1, h2⟩)))
        rw [← HRR.out, HHB.out, HHQ.out] at HE
        simp only [Int.toNat_natCast, show ¬ ((16 : Int) = 17) by decide, show ¬ ((16 : Int) = 21) by decide, if_false] at HE
        have hcs : s.behind = false ∨ (s.behind = true ∧ ((b : Int) != s.chain) = false) := by
          cases hbe : s.behind with
          | false => exact .inl rfl
          | true => exact .inr ⟨rfl, bne_eq_false_iff_eq.2 (Classical.byContradiction (fun h2 => hbad ⟨hbe, h2⟩))⟩
        clear hbad
        rcases hcs with hbe | ⟨hbe, o1⟩
        all_goals
          rw [hbe] at c15
          as_aux_lemma =>
          go_upto_region 13 with fail
          have hz := HJ.out.z
          have c17 := HJ.out.c17
          have HJ3 := Lib.hid (HJ.out.s17 false)
          have HX3 := Lib.hid (HX.out.trans (HJ.out.n [(17, .bool false)]))
          simp only [sets] at HX3
          go_upto_region 14 with fail
          generalize hw3 : World.setCell _ ⟨p, 17, none⟩ (.bool false) = w3 at HJ3 HX3 ⊢
          clear hw3 c0 c2 c15 c16 c17 c19 hz HJ HX
          have c2 := HJ3.out.c2
          have c8 := HJ3.out.c8
          obtain ⟨g2, k2, q2, x2, z2, hs2⟩ := HJ3.out.e8 b HBL.out
          have f2 := (hs2 (q : Int)).1.c2
          have f8 := (hs2 (q : Int)).1.c8
          rw [q2] at c8 f8
          have HJ4 := Lib.hid (hs2 (q : Int)).1.drew
          have HX4 := Lib.hid (HX3.out.trans (hs2 (q : Int)).2).drew
          have i2 : (b : Int) < (s.la.length : Int) := by have := HBL.out; omega
          clear hs2 q2
          simp only at c8 f8
          generalize s.la.length = nla at *
          go_region_held3 (fun W => W.cell? ⟨p, 8, none⟩ = some (.slice (some ⟨g2, 0, none⟩) nla k2) ∧ W.cell? ⟨p, 2, none⟩ = some (.int .i64 g.pg)) (first | exact ⟨c8, c2⟩ | exact ⟨f8, f2⟩) (fail)
          generalize hw4 : World.drew _ = w4 at HJ4 HX4 ⊢
          clear hw4 c2 c8 f2 f8 x2 z2 i2 HJ3 HX3
          have HL9 : Hid (s.pr.length = s.pr.length) := Lib.hid rfl
          have c9 := HJ4.out.c9
          obtain ⟨g3, k3, q3, x3, z3, hs3⟩ := HJ4.out.e9 r HLT.out
          rw [q3] at c9
          simp only at c9 x3 hs3 HE
          have HJ5 := Lib.hid (hs3 (wrap64 (s.pr.getD r 0 + 1))).1.drew
          have HX5 := Lib.hid (HX4.out.trans (hs3 (wrap64 (s.pr.getD r 0 + 1))).2).drew
          have i3 : (r : Int) < (s.pr.length : Int) := by have := HLT.out; omega
          have hpw : IntKind.i64.wrap (s.pr.getD r 0 + 1) = wrap64 (s.pr.getD r 0 + 1) := i64_w _
          clear hs3 q3
          generalize s.pr.getD r 0 = pv at *
          generalize s.pr.length = npr at *
          go_upto_region 15 with fail
          have HS0 : Hid (w4.drew.cell? ⟨p, 9, none⟩ = some (.slice (some ⟨g3, 0, none⟩) npr k3) ∧ w4.drew.cell? ⟨g3, r, none⟩ = some (.int .i64 pv)) := Lib.hid ⟨c9, x3⟩
          refine wp_region_noPanic ?_
          refine start_ (n := 15) (S := fun W => W.cell? ⟨p, 9, none⟩ = some (.slice (some ⟨g3, 0, none⟩) npr k3) ∧ W.cell? ⟨g3, r, none⟩ = some (.int .i64 pv)) (ds := [14]) #[false, false, false, false, false, false, false, false, false, false, false, false, false, false, false] (by kernel_rfl) rfl rfl HS0.out (fun hHeld => ?_)
          refine pure_ (i := 0) (N := some 132) (v := ?_) (a' := ?_) #[true, false, false, false, false, false, false, false, false, false, false, false, false, false, false] rfl rfl (by kernel_rfl) (fun _ _ _ h => h) (Or.inl ⟨by rfl, ?_⟩) ?_ ?_
          rotate_left
          · intro w'
            go_simp
            with_reducible rfl
          rotate_left
          · simp only [Act.put, List.setIfInBounds_toArray, List.set_cons_zero, List.set_cons_succ]
            rfl
          refine pure_ (i := 1) (N := some 133) (v := ?_) (a' := ?_) #[true, true, false, false, false, false, false, false, false, false, false, false, false, false, false] rfl rfl (by kernel_rfl) (fun _ _ _ h => h) (Or.inl ⟨by rfl, ?_⟩) ?_ ?_
          rotate_left
          · intro w'
            go_simp
            with_reducible rfl
          rotate_left
          · simp only [Act.put, List.setIfInBounds_toArray, List.set_cons_zero, List.set_cons_succ]
            rfl
          refine pure_ (i := 2) (N := some 134) (v := ?_) (a' := ?_) #[true, true, true, false, false, false, false, false, false, false, false, false, false, false, false] rfl rfl (by kernel_rfl) (fun _ _ _ h => h) (Or.inl ⟨by rfl, ?_⟩) ?_ ?_
          rotate_left
          · intro w'
            go_simp
            with_reducible rfl
          rotate_left
          · simp only [Act.put, List.setIfInBounds_toArray, List.set_cons_zero, List.set_cons_succ]
            rfl
          refine pure_ (i := 4) (N := some 136) (v := ?_) (a' := ?_) #[true, true, true, false, true, false, false, false, false, false, false, false, false, false, false] rfl rfl (by kernel_rfl) (fun _ _ _ h => h) (Or.inl ⟨by rfl, ?_⟩) ?_ ?_
          rotate_left
          · intro w'
            go_simp
            with_reducible rfl
          rotate_left
          · simp only [Act.put, List.setIfInBounds_toArray, List.set_cons_zero, List.set_cons_succ]
            rfl
          refine pure_ (i := 5) (N := some 137) (v := ?_) (a' := ?_) #[true, true, true, false, true, true, false, false, false, false, false, false, false, false, false] rfl rfl (by kernel_rfl) (fun _ _ _ h => h) (Or.inl ⟨by rfl, ?_⟩) ?_ ?_
          rotate_left
          · intro w'
            go_simp
            with_reducible rfl
          rotate_left
          · simp only [Act.put, List.setIfInBounds_toArray, List.set_cons_zero, List.set_cons_succ]
            rfl
          refine pure_ (i := 6) (N := some 138) (v := ?_) (a' := ?_) #[true, true, true, false, true, true, true, false, false, false, false, false, false, false, false] rfl rfl (by kernel_rfl) (fun _ _ _ h => h) (Or.inl ⟨by rfl, ?_⟩) ?_ ?_
          rotate_left
          · intro w'
            go_simp
            with_reducible rfl
          rotate_left
          · simp only [Act.put, List.setIfInBounds_toArray, List.set_cons_zero, List.set_cons_succ]
            rfl
          refine pure_ (i := 7) (N := some 139) (v := ?_) (a' := ?_) #[true, true, true, false, true, true, true, true, false, false, false, false, false, false, false] rfl rfl (by kernel_rfl) (fun _ _ _ h => h) (Or.inl ⟨by rfl, ?_⟩) ?_ ?_
          rotate_left
          · intro w'
            go_simp
            with_reducible rfl
          rotate_left
          · simp only [Act.put, List.setIfInBounds_toArray, List.set_cons_zero, List.set_cons_succ]
            rfl
          refine pure_ (i := 9) (N := some 141) (v := ?_) (a' := ?_) #[true, true, true, false, true, true, true, true, false, true, false, false, false, false, false] rfl rfl (by kernel_rfl) (fun _ _ _ h => h) (Or.inl ⟨by rfl, ?_⟩) ?_ ?_
          rotate_left
          · intro w'
            go_simp
            with_reducible rfl
          rotate_left
          · simp only [Act.put, List.setIfInBounds_toArray, List.set_cons_zero, List.set_cons_succ]
            rfl
          refine take_ (i := 3) (N := some 135) (v := ?_) (a' := ?_) #[true, true, true, true, true, true, true, true, false, true, false, false, false, false, false] rfl rfl (by kernel_rfl) (fun _ _ _ h => h) (Or.inl ⟨by rfl, ?_⟩) hHeld ?_ ?_
          rotate_left
          · rintro w' ⟨s0, s1⟩
            go_simp
            with_reducible rfl
          rotate_left
          · simp only [Act.put, List.setIfInBounds_toArray, List.set_cons_zero, List.set_cons_succ]
            rfl
          refine take_ (i := 8) (N := some 140) (v := ?_) (a' := ?_) #[true, true, true, true, true, true, true, true, true, true, false, false, false, false, false] rfl rfl (by kernel_rfl) (fun _ _ _ h => h) (Or.inl ⟨by rfl, ?_⟩) hHeld ?_ ?_
          rotate_left
          · rintro w' ⟨s0, s1⟩
            go_simp
            with_reducible rfl
          rotate_left
          · simp only [Act.put, List.setIfInBounds_toArray, List.set_cons_zero, List.set_cons_succ]
            rfl
          refine pure_ (i := 10) (N := some 142) (v := ?_) (a' := ?_) #[true, true, true, true, true, true, true, true, true, true, true, false, false, false, false] rfl rfl (by kernel_rfl) (fun _ _ _ h => h) (Or.inl ⟨by rfl, ?_⟩) ?_ ?_
          rotate_left
          · intro w'
            go_simp
            with_reducible rfl
          rotate_left
          · simp only [Act.put, List.setIfInBounds_toArray, List.set_cons_zero, List.set_cons_succ]
            rfl
          refine take_ (i := 11) (N := some 143) (v := ?_) (a' := ?_) #[true, true, true, true, true, true, true, true, true, true, true, true, false, false, false] rfl rfl (by kernel_rfl) (fun _ _ _ h => h) (Or.inl ⟨by rfl, ?_⟩) hHeld ?_ ?_
          rotate_left
          · rintro w' ⟨s0, s1⟩
            go_simp
            with_reducible rfl
          rotate_left
          · simp only [Act.put, List.setIfInBounds_toArray, List.set_cons_zero, List.set_cons_succ]
            rfl
          refine pure_ (i := 12) (N := some 144) (v := ?_) (a' := ?_) #[true, true, true, true, true, true, true, true, true, true, true, true, true, false, false] rfl rfl (by kernel_rfl) (fun _ _ _ h => h) (Or.inl ⟨by rfl, ?_⟩) ?_ ?_
          rotate_left
          · intro w'
            go_simp
            with_reducible rfl
          rotate_left
          · simp only [Act.put, List.setIfInBounds_toArray, List.set_cons_zero, List.set_cons_succ]
            rfl
          refine pure_ (i := 13) (N := some 145) (v := ?_) (a' := ?_) #[true, true, true, true, true, true, true, true, true, true, true, true, true, true, false] rfl rfl (by kernel_rfl) (fun _ _ _ h => h) (Or.inl ⟨by rfl, ?_⟩) ?_ ?_
          rotate_left
          · intro w'
            go_simp
            with_reducible rfl
          rotate_left
          · simp only [Act.put, List.setIfInBounds_toArray, List.set_cons_zero, List.set_cons_succ]
            rfl
          refine last_ (i := 14) (N := none) #[true, true, true, true, true, true, true, true, true, true, true, true, true, true, true] rfl rfl (by kernel_rfl) (by decide) (fun K hK => ?_)
          refine skip_ (w1 := ?_) (by rfl) rfl ?_ ?_
          rotate_left
          · go_simp
            rfl
          refine hK.out _ _ ?_
          clear hK K
          refine done_ (by kernel_rfl) ?_
          refine NoPanic.normal ?_
          generalize hw5 : World.drew _ = w5 at HJ5 HX5 ⊢
          clear hw5 hHeld c9 x3 z3 i3 hpw HJ4 HX4 HS0
          have c19 := HJ5.out.c19
          have hz := HJ5.out.z
          obtain ⟨A5, m5, hA5⟩ := HJ5.out.l19
          simp only at hA5
          rw [hA5] at c19
          clear hA5
          have HJ6 := Lib.hid HJ5.out.s19
          have HX6 := Lib.hid (HX5.out.trans (HJ5.out.n [(19, .slice none 0 0)]))
          simp only [sets] at HX6
          have HST := Lib.hid (rstart_ok HJ6.out)
          go_wp2_with (go_at_call 94; refine (HST.out).mono ?_; rintro e w8 ⟨rfl, hj8, hn8⟩; have HJ8 := Lib.hid hj8; have HX8 := Lib.hid (HX6.out.trans hn8); clear hj8 hn8)
          go_ret
          exact ⟨by rw [HE.out]; rfl, _, ⟨_, by rw [HE.out]; exact HJ8.out⟩, HX8.out⟩
set_option maxHeartbeats 16000000 in
set_option maxRecDepth 100000 in
theorem rload_17 (hw : Wr g s) (h4 : s.listed.length = 4) (hcan : canR g s (num s.listed 2) = true) (h : RAt w p g t s H) : Calls Try.prog 131 #[.pointer (some ⟨p, 0, none⟩), .int .i64 17] w fun e w' => e = .returned (.bool (loadR g s 17).2) ∧ (∃ t', (∃ H', RAt w' p g t' (loadR g s 17).1 H') ∧ Nxt w w' t t') := by
  have HT := Lib.hid (fun (W : World) (hW : RAt W p g t s H) => rtwo_ok 2 hW (by omega) (by omega) hw.lb)
  have hrng := num_b hw.lb 2
  have HLB : Hid (loadR g s 17 = loadR g s 17) := Lib.hid rfl
  obtain ⟨rr, hrr⟩ : ∃ rr, rr = num s.listed 2 := ⟨_, rfl⟩
  have HRR := Lib.hid hrr
  rw [← hrr] at HT hrng hcan
  obtain ⟨r, hr⟩ := Int.eq_ofNat_of_zero_le hrng.1
  subst hr
  have HCN := Lib.hid (fun (W : World) (hW : RAt W p g t s H) => rcan_ok (r : Int) hw hW)
  rw [hcan] at HCN
  have hlt : (r : Int) < (s.pr.length : Int) := by
    by_cases hx : (r : Int) < (s.pr.length : Int)
    · exact hx
    · exfalso
      unfold canR at hcan
      rw [if_pos (.inr (by omega))] at hcan
      cases hcan
  have hbk := (row_split hw.hg (show 0 ≤ (r : Int) by omega) (show (r : Int) < g.bl * g.pg by have := hw.np; omega)).2.2.2
  obtain ⟨b, hb⟩ := Int.eq_ofNat_of_zero_le hbk.1
  obtain ⟨q, hq⟩ := Int.eq_ofNat_of_zero_le hbk.2.1
  have hpg0 : ¬ g.pg = 0 := by have := hw.hg.2.2.1.1; omega
  have hpl0 : ¬ g.pl = 0 := by have := hw.hg.1.1; omega
  obtain ⟨bm, hbm⟩ := Int.eq_ofNat_of_zero_le (Int.emod_nonneg (b : Int) hpl0)
  have hbl : b < s.la.length := by rw [hw.nl]; omega
  have hb256 : b ≤ 256 := by have := hw.hg.2.1.2; omega
  have hro1 := hw.ro.1
  have HRO := Lib.hid hw.ro.2
  have HCA := Lib.hid hcan
  have HBL := Lib.hid hbl
  have HLT := Lib.hid (show r < s.pr.length by omega)
  have HHB := Lib.hid hb
  have HHQ := Lib.hid hq
  have HHM := Lib.hid hbm
  have HPG := Lib.hid hw.hg
  have t1 : (r : Int).tdiv g.pg = (b : Int) := by rw [Int.tdiv_eq_ediv_of_nonneg (by omega)]; exact hb
  have t2 : (r : Int).tmod g.pg = (q : Int) := by rw [Int.tmod_eq_emod_of_nonneg (by omega)]; exact hq
  have t3 : (b : Int).tmod g.pl = (bm : Int) := by rw [Int.tmod_eq_emod_of_nonneg (by omega)]; exact hbm
  have d1 : (r : Int) / g.pg = (b : Int) := hb
  have d2 : (r : Int) % g.pg = (q : Int) := hq
  have d3 : (b : Int) % g.pl = (bm : Int) := hbm
  have hbw : IntKind.i64.wrap (b : Int) = (b : Int) := IntWalk.i64_in _ (by omega)
  have HJ := Lib.hid h
  obtain ⟨n, hn⟩ : ∃ n, n = s.rows.length := ⟨_, rfl⟩
  have HNN := Lib.hid hn
  rw [← hn] at hro1
  clear h hw hcan hlt hbk hb hq hbm hbl hrng hrr hn h4
  go_enter Try.func131, Try.ntmps131
  go_upto_region 2 with (go_at_call 133; refine (HT.out _ HJ.out).mono ?_; rintro e w1 ⟨rfl, hb1⟩; have HJ1 := Lib.hid (HJ.out.below hb1); have HX1 := Lib.hid ((Nxt.refl w t).below hb1); clear hb1)
  go_upto_region 4 with (go_at_call 24; refine (HCN.out _ HJ1.out).mono ?_; rintro e w2 ⟨rfl, hb1⟩; have HJ2 := Lib.hid (HJ1.out.below hb1); have HX2 := Lib.hid (HX1.out.below hb1); clear hb1)
  clear HJ HJ1 HX1 HT HCN
  have c2 := HJ2.out.c2
  go_wp2_with fail
  clear c2
  go_loopw [7] (fun i wr => ∃ k : Nat, k ≤ n ∧ i = .int .i64 k ∧ Hid ((s.rows.take k).all (goesR g (r : Int)) = true) ∧ Hid (RAt wr p g t s H) ∧ Hid (Nxt w wr t t)) (fun i _ => n - (intOf i).toNat)
  case atStart => exact ⟨0, by omega, rfl, Lib.hid (by rw [List.take_zero]; rfl), HJ2, HX2⟩
  case round =>
    clear HJ2 HX2
    obtain ⟨k, hk, rfl, HOK, HJ, HX⟩ := hrel
    have c19 := HJ.out.c19
    have c0 := HJ.out.c0
    have c2 := HJ.out.c2
    by_cases hkn : k < n
    · as_aux_lemma =>
      have hk0 : (k : Int) < (n : Int) := by omega
      have hlen : k < s.rows.length := by rw [← HNN.out]; exact hkn
      obtain ⟨g1, k1, q1, x1, _, _⟩ := HJ.out.e19 k hlen
      rw [q1] at c19
      rw [← HNN.out] at c19
      have HTA := Lib.hid (take_snoc hlen)
      have hmem := getD_mem hlen
      have HME := Lib.hid hmem
      have hor := HRO.out _ hmem
      generalize s.rows.getD k 0 = oo at x1 HTA HME hor
      obtain ⟨u, hu⟩ := Int.eq_ofNat_of_zero_le hor.1
      subst hu
      obtain ⟨u1, hu1⟩ := Int.eq_ofNat_of_zero_le (show 0 ≤ (u : Int) / g.pg from Int.ediv_nonneg (by omega) (by have := HPG.out.2.2.1.1; omega))
      obtain ⟨u2, hu2⟩ := Int.eq_ofNat_of_zero_le (Int.emod_nonneg (u : Int) hpg0)
      obtain ⟨u3, hu3⟩ := Int.eq_ofNat_of_zero_le (Int.emod_nonneg (u1 : Int) hpl0)
      have hu16 : (u : Int) ≤ 20000 := by
        have h1 : g.bl * g.pg ≤ 256 * 64 := Int.mul_le_mul HPG.out.2.1.2 HPG.out.2.2.1.2 (by have := HPG.out.2.2.1.1; omega) (by decide)
        omega
      have hu1b : (u1 : Int) ≤ 20000 := by
        rw [← hu1]
        exact Int.le_trans (Int.ediv_le_self _ (by omega)) hu16
      have y1 : (u : Int).tdiv g.pg = (u1 : Int) := by rw [Int.tdiv_eq_ediv_of_nonneg (by omega)]; exact hu1
      have y2 : (u : Int).tmod g.pg = (u2 : Int) := by rw [Int.tmod_eq_emod_of_nonneg (by omega)]; exact hu2
      have y3 : (u1 : Int).tmod g.pl = (u3 : Int) := by rw [Int.tmod_eq_emod_of_nonneg (by omega)]; exact hu3
      have HG3 : Hid (goesR g (r : Int) (u : Int) = (((u2 : Int) == (q : Int)) && !((u3 : Int) == (bm : Int)))) := Lib.hid (by unfold goesR; rw [hu2, hu1, hu3, d2, d1, d3])
      have y4 : (u : Int) / g.pg = (u1 : Int) := hu1
      have y5 : (u : Int) % g.pg = (u2 : Int) := hu2
      have y6 : (u1 : Int) % g.pl = (u3 : Int) := hu3
      have hu1w : IntKind.i64.wrap (u1 : Int) = (u1 : Int) := IntWalk.i64_in _ (by omega)
      clear hu1 hu2 hu3 hor hmem q1 hlen
      by_cases hA : (u2 : Int) = (q : Int)
      · have hA1 := bne_eq_false_iff_eq.2 hA
        rw [beq_t hA, Bool.true_and] at HG3
        clear hA
        by_cases hB : (u3 : Int) = (bm : Int)
        · have hB1 := beq_t hB
          rw [hB1] at HG3
          clear hB
          have HE := Lib.hid (loadR_rows (c := 17) (all_not (f := goesR g (num s.listed 2)) HME.out (by rw [← HRR.out]; exact HG3.out)))
          go_upto_region 9 with fail
          go_quiet (fail)
          go_wp2
          go_ret
          exact ⟨by rw [HE.out]; rfl, _, ⟨_, by rw [HE.out]; exact HJ.out.drewN _⟩, HX.out.drewN _⟩
        · have hB1 := beq_f hB
          rw [hB1] at HG3
          clear hB
          go_upto_region 9 with fail
          go_quiet (fail)
          go_wp2
          go_roundw
          case rel => exact ⟨k + 1, hkn, by go_num, Lib.hid (by rw [HTA.out]; exact all_snoc HOK.out HG3.out), Lib.hid (HJ.out.drewN _), Lib.hid (HX.out.drewN _)⟩
          case measure => exact step_measure hkn
      · have hA1 := bne_iff_ne.2 hA
        rw [beq_f hA, Bool.false_and] at HG3
        clear hA
        have HE := Lib.hid (loadR_rows (c := 17) (all_not (f := goesR g (num s.listed 2)) HME.out (by rw [← HRR.out]; exact HG3.out)))
        go_upto_region 9 with fail
        go_quiet (fail)
        go_wp2
        go_ret
        exact ⟨by rw [HE.out]; rfl, _, ⟨_, by rw [HE.out]; exact HJ.out.drewN _⟩, HX.out.drewN _⟩
    · have hke : n = k := by omega
      have hta : s.rows.take k = s.rows := List.take_of_length_le (by rw [← HNN.out]; omega)
      rw [hta] at HOK
      subst hke
      clear hta hkn hk
      obtain ⟨A, m, hA⟩ := HJ.out.l19
      rw [hA] at c19
      rw [← HNN.out] at c19
      clear hA
      have c15 := HJ.out.c15
      have c16 := HJ.out.c16
      cases hbe : s.behind with
      | true =>
        have HE := Lib.hid (loadR_bad (g := g) (c := 17) (.inl ⟨hbe, .inr rfl⟩))
        rw [hbe] at c15
        by_cases hch : (b : Int) = s.chain
        · have o1 := bne_eq_false_iff_eq.2 hch
          clear hch
          go_wp2_with fail
          go_ret
          exact ⟨by rw [HE.out]; rfl, _, ⟨_, by rw [HE.out]; exact HJ.out⟩, HX.out⟩
        · have o1 := bne_iff_ne.2 hch
          clear hch
          go_wp2_with fail
          go_ret
          exact ⟨by rw [HE.out]; rfl, _, ⟨_, by rw [HE.out]; exact HJ.out⟩, HX.out⟩
      | false =>
        rw [hbe] at c15
        have HE := Lib.hid (loadR_yes (g := g) (s := s) (c := 17) (.inr (.inl rfl)) (by rw [← HRR.out]; exact HCA.out) (by rw [← HRR.out]; exact HOK.out) (by rw [hbe]; simp))
        rw [← HRR.out, HHB.out, HHQ.out] at HE
        simp only [Int.toNat_natCast, if_true, show ¬ ((17 : Int) = 21) by decide, if_false] at HE
        clear hbe
        as_aux_lemma =>
        go_upto_region 13 with fail
        have hz := HJ.out.z
        have c17 := HJ.out.c17
        have HJ3 := Lib.hid (HJ.out.s17 false)
        have HX3 := Lib.hid (HX.out.trans (HJ.out.n [(17, .bool false)]))
        simp only [sets] at HX3
        go_upto_region 14 with fail
        generalize hw3 : World.setCell _ ⟨p, 17, none⟩ (.bool false) = w3 at HJ3 HX3 ⊢
        clear hw3 c0 c2 c15 c16 c17 c19 hz HJ HX
        have c2 := HJ3.out.c2
        have c8 := HJ3.out.c8
        obtain ⟨g2, k2, q2, x2, z2, hs2⟩ := HJ3.out.e8 b HBL.out
        have f2 := (hs2 (q : Int)).1.c2
        have f8 := (hs2 (q : Int)).1.c8
        rw [q2] at c8 f8
        have HJ4 := Lib.hid (hs2 (q : Int)).1.drew
        have HX4 := Lib.hid (HX3.out.trans (hs2 (q : Int)).2).drew
        have i2 : (b : Int) < (s.la.length : Int) := by have := HBL.out; omega
        clear hs2 q2
        simp only at c8 f8
        generalize s.la.length = nla at *
        go_region_held3 (fun W => W.cell? ⟨p, 8, none⟩ = some (.slice (some ⟨g2, 0, none⟩) nla k2) ∧ W.cell? ⟨p, 2, none⟩ = some (.int .i64 g.pg)) (first | exact ⟨c8, c2⟩ | exact ⟨f8, f2⟩) (fail)
        generalize hw4 : World.drew _ = w4 at HJ4 HX4 ⊢
        clear hw4 c2 c8 f2 f8 x2 z2 i2 HJ3 HX3
        have HL9 : Hid (s.pr.length = s.pr.length) := Lib.hid rfl
        have c9 := HJ4.out.c9
        obtain ⟨g3, k3, q3, x3, z3, hs3⟩ := HJ4.out.e9 r HLT.out
        rw [q3] at c9
        simp only at c9 x3 hs3 HE
        have HJ5 := Lib.hid (hs3 (wrap64 (s.pr.getD r 0 + 1))).1.drew
        have HX5 := Lib.hid (HX4.out.trans (hs3 (wrap64 (s.pr.getD r 0 + 1))).2).drew
        have i3 : (r : Int) < (s.pr.length : Int) := by have := HLT.out; omega
        have hpw : IntKind.i64.wrap (s.pr.getD r 0 + 1) = wrap64 (s.pr.getD r 0 + 1) := i64_w _
        clear hs3 q3
        generalize s.pr.getD r 0 = pv at *
        generalize s.pr.length = npr at *
        go_upto_region 15 with fail
        have HS0 : Hid (w4.drew.cell? ⟨p, 9, none⟩ = some (.slice (some ⟨g3, 0, none⟩) npr k3) ∧ w4.drew.cell? ⟨g3, r, none⟩ = some (.int .i64 pv)) := Lib.hid ⟨c9, x3⟩
        refine wp_region_noPanic ?_
        refine start_ (n := 15) (S := fun W => W.cell? ⟨p, 9, none⟩ = some (.slice (some ⟨g3, 0, none⟩) npr k3) ∧ W.cell? ⟨g3, r, none⟩ = some (.int .i64 pv)) (ds := [14]) #[false, false, false, false, false, false, false, false, false, false, false, false, false, false, false] (by kernel_rfl) rfl rfl HS0.out (fun hHeld => ?_)
        refine pure_ (i := 0) (N := some 132) (v := ?_) (a' := ?_) #[true, false, false, false, false, false, false, false, false, false, false, false, false, false, false] rfl rfl (by kernel_rfl) (fun _ _ _ h => h) (Or.inl ⟨by rfl, ?_⟩) ?_ ?_
        rotate_left
        · intro w'
          go_simp
          with_reducible rfl
        rotate_left
        · simp only [Act.put, List.setIfInBounds_toArray, List.set_cons_zero, List.set_cons_succ]
          rfl
        refine pure_ (i := 1) (N := some 133) (v := ?_) (a' := ?_) #[true, true, false, false, false, false, false, false, false, false, false, false, false, false, false] rfl rfl (by kernel_rfl) (fun _ _ _ h => h) (Or.inl ⟨by rfl, ?_⟩) ?_ ?_
        rotate_left
        · intro w'
          go_simp
          with_reducible rfl
        rotate_left
        · simp only [Act.put, List.setIfInBounds_toArray, List.set_cons_zero, List.set_cons_succ]
          rfl
        refine pure_ (i := 2) (N := some 134) (v := ?_) (a' := ?_) #[true, true, true, false, false, false, false, false, false, false, false, false, false, false, false] rfl rfl (by kernel_rfl) (fun _ _ _ h => h) (Or.inl ⟨by rfl, ?_⟩) ?_ ?_
        rotate_left
        · intro w'
          go_simp
          with_reducible rfl
        rotate_left
        · simp only [Act.put, List.setIfInBounds_toArray, List.set_cons_zero, List.set_cons_succ]
          rfl
        refine pure_ (i := 4) (N := some 136) (v := ?_) (a' := ?_) #[true, true, true, false, true, false, false, false, false, false, false, false, false, false, false] rfl rfl (by kernel_rfl) (fun _ _ _ h => h) (Or.inl ⟨by rfl, ?_⟩) ?_ ?_
        rotate_left
        · intro w'
          go_simp
          with_reducible rfl
        rotate_left
        · simp only [Act.put, List.setIfInBounds_toArray, List.set_cons_zero, List.set_cons_succ]
          rfl
        refine pure_ (i := 5) (N := some 137) (v := ?_) (a' := ?_) #[true, true, true, false, true, true, false, false, false, false, false, false, false, false, false] rfl rfl (by kernel_rfl) (fun _ _ _ h => h) (Or.inl ⟨by rfl, ?_⟩) ?_ ?_
        rotate_left
        · intro w'
          go_simp
          with_reducible rfl
        rotate_left
        · simp only [Act.put, List.setIfInBounds_toArray, List.set_cons_zero, List.set_cons_succ]
          rfl
        refine pure_ (i := 6) (N := some 138) (v := ?_) (a' := ?_) #[true, true, true, false, true, true, true, false, false, false, false, false, false, false, false] rfl rfl (by kernel_rfl) (fun _ _ _ h => h) (Or.inl ⟨by rfl, ?_⟩) ?_ ?_
        rotate_left
        · intro w'
          go_simp
          with_reducible rfl
        rotate_left
        · simp only [Act.put, List.setIfInBounds_toArray, List.set_cons_zero, List.set_cons_succ]
          rfl
        refine pure_ (i := 7) (N := some 139) (v := ?_) (a' := ?_) #[true, true, true, false, true, true, true, true, false, false, false, false, false, false, false] rfl rfl (by kernel_rfl) (fun _ _ _ h => h) (Or.inl ⟨by rfl, ?_⟩) ?_ ?_
        rotate_left
        · intro w'
          go_simp
          with_reducible rfl
        rotate_left
        · simp only [Act.put, List.setIfInBounds_toArray, List.set_cons_zero, List.set_cons_succ]
          rfl
        refine pure_ (i := 9) (N := some 141) (v := ?_) (a' := ?_) #[true, true, true, false, true, true, true, true, false, true, false, false, false, false, false] rfl rfl (by kernel_rfl) (fun _ _ _ h => h) (Or.inl ⟨by rfl, ?_⟩) ?_ ?_
        rotate_left
        · intro w'
          go_simp
          with_reducible rfl
        rotate_left
        · simp only [Act.put, List.setIfInBounds_toArray, List.set_cons_zero, List.set_cons_succ]
          rfl
        refine take_ (i := 3) (N := some 135) (v := ?_) (a' := ?_) #[true, true, true, true, true, true, true, true, false, true, false, false, false, false, false] rfl rfl (by kernel_rfl) (fun _ _ _ h => h) (Or.inl ⟨by rfl, ?_⟩) hHeld ?_ ?_
        rotate_left
        · rintro w' ⟨s0, s1⟩
          go_simp
          with_reducible rfl
        rotate_left
        · simp only [Act.put, List.setIfInBounds_toArray, List.set_cons_zero, List.set_cons_succ]
          rfl
        refine take_ (i := 8) (N := some 140) (v := ?_) (a' := ?_) #[true, true, true, true, true, true, true, true, true, true, false, false, false, false, false] rfl rfl (by kernel_rfl) (fun _ _ _ h => h) (Or.inl ⟨by rfl, ?_⟩) hHeld ?_ ?_
        rotate_left
        · rintro w' ⟨s0, s1⟩
          go_simp
          with_reducible rfl
        rotate_left
        · simp only [Act.put, List.setIfInBounds_toArray, List.set_cons_zero, List.set_cons_succ]
          rfl
        refine pure_ (i := 10) (N := some 142) (v := ?_) (a' := ?_) #[true, true, true, true, true, true, true, true, true, true, true, false, false, false, false] rfl rfl (by kernel_rfl) (fun _ _ _ h => h) (Or.inl ⟨by rfl, ?_⟩) ?_ ?_
        rotate_left
        · intro w'
          go_simp
          with_reducible rfl
        rotate_left
        · simp only [Act.put, List.setIfInBounds_toArray, List.set_cons_zero, List.set_cons_succ]
          rfl
        refine take_ (i := 11) (N := some 143) (v := ?_) (a' := ?_) #[true, true, true, true, true, true, true, true, true, true, true, true, false, false, false] rfl rfl (by kernel_rfl) (fun _ _ _ h => h) (Or.inl ⟨by rfl, ?_⟩) hHeld ?_ ?_
        rotate_left
        · rintro w' ⟨s0, s1⟩
          go_simp
          with_reducible rfl
        rotate_left
        · simp only [Act.put, List.setIfInBounds_toArray, List.set_cons_zero, List.set_cons_succ]
          rfl
        refine pure_ (i := 12) (N := some 144) (v := ?_) (a' := ?_) #[true, true, true, true, true, true, true, true, true, true, true, true, true, false, false] rfl rfl (by kernel_rfl) (fun _ _ _ h => h) (Or.inl ⟨by rfl, ?_⟩) ?_ ?_
        rotate_left
        · intro w'
          go_simp
          with_reducible rfl
        rotate_left
        · simp only [Act.put, List.setIfInBounds_toArray, List.set_cons_zero, List.set_cons_succ]
          rfl
        refine pure_ (i := 13) (N := some 145) (v := ?_) (a' := ?_) #[true, true, true, true, true, true, true, true, true, true, true, true, true, true, false] rfl rfl (by kernel_rfl) (fun _ _ _ h => h) (Or.inl ⟨by rfl, ?_⟩) ?_ ?_
        rotate_left
        · intro w'
          go_simp
          with_reducible rfl
        rotate_left
        · simp only [Act.put, List.setIfInBounds_toArray, List.set_cons_zero, List.set_cons_succ]
          rfl
        refine last_ (i := 14) (N := none) #[true, true, true, true, true, true, true, true, true, true, true, true, true, true, true] rfl rfl (by kernel_rfl) (by decide) (fun K hK => ?_)
        refine skip_ (w1 := ?_) (by rfl) rfl ?_ ?_
        rotate_left
        · go_simp
          rfl
        refine hK.out _ _ ?_
        clear hK K
        refine done_ (by kernel_rfl) ?_
        refine NoPanic.normal ?_
        generalize hw5 : World.drew _ = w5 at HJ5 HX5 ⊢
        clear hw5 hHeld c9 x3 z3 i3 hpw HJ4 HX4 HS0
        have c19 := HJ5.out.c19
        have hz := HJ5.out.z
        go_upto_region 17 with fail
        have HZ : Hid ((s.rows.length + 1) * 8 ≤ 140737488355328) := Lib.hid (by have := HNN.out; omega)
        have HR := Lib.hid HJ5.out.r19
        go_upto_region 19 with (at_builtin; refine Kd.R_append (Kd.int .i64) 0 rfl (.tmp 152) (.tmp 154) 44 3 _ 8 rfl Try.underlying44 info3r rfl (by decide) (by decide) H.r s.rows (r : Int) [.int .i64 (r : Int)] _ (fun _ => False) rfl rfl rfl (fun _ h => h.elim) (fun _ _ => trivial) HR.out (Below.refl _ _) (Nat.zero_le _) HZ.out ?_; intro v1 w6 hr1 _ hg1 hat1; obtain ⟨A1, c1, rfl⟩ := Kd.R_slice hr1; generalize (s.rows ++ [(r : Int)]).length = n1 at hr1 hg1 hat1 ⊢; obtain ⟨e19, hz6, hj6, hn6⟩ := HJ5.out.app19 hr1 hg1 hat1; have HJ6 := Lib.hid hj6; have HX6 := Lib.hid (HX5.out.trans hn6); clear hr1 hg1 hat1 hj6 hn6)
        generalize hw7 : World.setCell _ ⟨p, 19, none⟩ _ = w7 at HJ6 HX6 ⊢
        clear hw7 e19 hz6 c19 hz HR HZ HJ5 HX5
        have HST := Lib.hid (rstart_ok HJ6.out)
        go_wp2_with (go_at_call 94; refine (HST.out).mono ?_; rintro e w8 ⟨rfl, hj8, hn8⟩; have HJ8 := Lib.hid hj8; have HX8 := Lib.hid (HX6.out.trans hn8); clear hj8 hn8)
        go_ret
        exact ⟨by rw [HE.out]; rfl, _, ⟨_, by rw [HE.out]; exact HJ8.out⟩, HX8.out⟩
set_option maxHeartbeats 16000000 in
set_option maxRecDepth 100000 in
theorem rload_21 (hw : Wr g s) (h4 : s.listed.length = 4) (hcan : canR g s (num s.listed 2) = true) (h : RAt w p g t s H) : Calls Try.prog 131 #[.pointer (some ⟨p, 0, none⟩), .int .i64 21] w fun e w' => e = .returned (.bool (loadR g s 21).2) ∧ (∃ t', (∃ H', RAt w' p g t' (loadR g s 21).1 H') ∧ Nxt w w' t t') := by
  have HT := Lib.hid (fun (W : World) (hW : RAt W p g t s H) => rtwo_ok 2 hW (by omega) (by omega) hw.lb)
  have hrng := num_b hw.lb 2
  have HLB : Hid (loadR g s 21 = loadR g s 21) := Lib.hid rfl
  obtain ⟨rr, hrr⟩ : ∃ rr, rr = num s.listed 2 := ⟨_, rfl⟩
  have HRR := Lib.hid hrr
  rw [← hrr] at HT hrng hcan
  obtain ⟨r, hr⟩ := Int.eq_ofNat_of_zero_le hrng.1
  subst hr
  have HCN := Lib.hid (fun (W : World) (hW : RAt W p g t s H) => rcan_ok (r : Int) hw hW)
  rw [hcan] at HCN
  have hlt : (r : Int) < (s.pr.length : Int) := by
    by_cases hx : (r : Int) < (s.pr.length : Int)
    · exact hx
    · exfalso
      unfold canR at hcan
      rw [if_pos (.inr (by omega))] at hcan
      cases hcan
  have hbk := (row_split hw.hg (show 0 ≤ (r : Int) by omega) (show (r : Int) < g.bl * g.pg by have := hw.np; omega)).2.2.2
  obtain ⟨b, hb⟩ := Int.eq_ofNat_of_zero_le hbk.1
  obtain ⟨q, hq⟩ := Int.eq_ofNat_of_zero_le hbk.2.1
  have hpg0 : ¬ g.pg = 0 := by have := hw.hg.2.2.1.1; omega
  have hpl0 : ¬ g.pl = 0 := by have := hw.hg.1.1; omega
  obtain ⟨bm, hbm⟩ := Int.eq_ofNat_of_zero_le (Int.emod_nonneg (b : Int) hpl0)
  have hbl : b < s.la.length := by rw [hw.nl]; omega
  have hb256 : b ≤ 256 := by have := hw.hg.2.1.2; omega
  have hro1 := hw.ro.1
  have HRO := Lib.hid hw.ro.2
  have HCA := Lib.hid hcan
  have HBL := Lib.hid hbl
  have HLT := Lib.hid (show r < s.pr.length by omega)
  have HHB := Lib.hid hb
  have HHQ := Lib.hid hq
  have HHM := Lib.hid hbm
  have HPG := Lib.hid hw.hg
  have t1 : (r : Int).tdiv g.pg = (b : Int) := by rw [Int.tdiv_eq_ediv_of_nonneg (by omega)]; exact hb
  have t2 : (r : Int).tmod g.pg = (q : Int) := by rw [Int.tmod_eq_emod_of_nonneg (by omega)]; exact hq
  have t3 : (b : Int).tmod g.pl = (bm : Int) := by rw [Int.tmod_eq_emod_of_nonneg (by omega)]; exact hbm
  have d1 : (r : Int) / g.pg = (b : Int) := hb
  have d2 : (r : Int) % g.pg = (q : Int) := hq
  have d3 : (b : Int) % g.pl = (bm : Int) := hbm
  have hbw : IntKind.i64.wrap (b : Int) = (b : Int) := IntWalk.i64_in _ (by omega)
  have HJ := Lib.hid h
  obtain ⟨n, hn⟩ : ∃ n, n = s.rows.length := ⟨_, rfl⟩
  have HNN := Lib.hid hn
  rw [← hn] at hro1
  clear h hw hcan hlt hbk hb hq hbm hbl hrng hrr hn h4
  go_enter Try.func131, Try.ntmps131
  go_upto_region 2 with (go_at_call 133; refine (HT.out _ HJ.out).mono ?_; rintro e w1 ⟨rfl, hb1⟩; have HJ1 := Lib.hid (HJ.out.below hb1); have HX1 := Lib.hid ((Nxt.refl w t).below hb1); clear hb1)
  go_upto_region 4 with (go_at_call 24; refine (HCN.out _ HJ1.out).mono ?_; rintro e w2 ⟨rfl, hb1⟩; have HJ2 := Lib.hid (HJ1.out.below hb1); have HX2 := Lib.hid (HX1.out.below hb1); clear hb1)
  clear HJ HJ1 HX1 HT HCN
  have c2 := HJ2.out.c2
  go_wp2_with fail
  clear c2
  go_loopw [7] (fun i wr => ∃ k : Nat, k ≤ n ∧ i = .int .i64 k ∧ Hid ((s.rows.take k).all (goesR g (r : Int)) = true) ∧ Hid (RAt wr p g t s H) ∧ Hid (Nxt w wr t t)) (fun i _ => n - (intOf i).toNat)
  case atStart => exact ⟨0, by omega, rfl, Lib.hid (by rw [List.take_zero]; rfl), HJ2, HX2⟩
  case round =>
    clear HJ2 HX2
    obtain ⟨k, hk, rfl, HOK, HJ, HX⟩ := hrel
    have c19 := HJ.out.c19
    have c0 := HJ.out.c0
    have c2 := HJ.out.c2
    by_cases hkn : k < n
    · as_aux_lemma =>
      have hk0 : (k : Int) < (n : Int) := by omega
      have hlen : k < s.rows.length := by rw [← HNN.out]; exact hkn
      obtain ⟨g1, k1, q1, x1, _, _⟩ := HJ.out.e19 k hlen
      rw [q1] at c19
      rw [← HNN.out] at c19
      have HTA := Lib.hid (take_snoc hlen)
      have hmem := getD_mem hlen
      have HME := Lib.hid hmem
      have hor := HRO.out _ hmem
      generalize s.rows.getD k 0 = oo at x1 HTA HME hor
      obtain ⟨u, hu⟩ := Int.eq_ofNat_of_zero_le hor.1
      subst hu
      obtain ⟨u1, hu1⟩ := Int.eq_ofNat_of_zero_le (show 0 ≤ (u : Int) / g.pg from Int.ediv_nonneg (by omega) (by have := HPG.out.2.2.1.1; omega))
      obtain ⟨u2, hu2⟩ := Int.eq_ofNat_of_zero_le (Int.emod_nonneg (u : Int) hpg0)
      obtain ⟨u3, hu3⟩ := Int.eq_ofNat_of_zero_le (Int.emod_nonneg (u1 : Int) hpl0)
      have hu16 : (u : Int) ≤ 20000 := by
        have h1 : g.bl * g.pg ≤ 256 * 64 := Int.mul_le_mul HPG.out.2.1.2 HPG.out.2.2.1.2 (by have := HPG.out.2.2.1.1; omega) (by decide)
        omega
      have hu1b : (u1 : Int) ≤ 20000 := by
        rw [← hu1]
        exact Int.le_trans (Int.ediv_le_self _ (by omega)) hu16
      have y1 : (u : Int).tdiv g.pg = (u1 : Int) := by rw [Int.tdiv_eq_ediv_of_nonneg (by omega)]; exact hu1
      have y2 : (u : Int).tmod g.pg = (u2 : Int) := by rw [Int.tmod_eq_emod_of_nonneg (by omega)]; exact hu2
      have y3 : (u1 : Int).tmod g.pl = (u3 : Int) := by rw [Int.tmod_eq_emod_of_nonneg (by omega)]; exact hu3
      have HG3 : Hid (goesR g (r : Int) (u : Int) = (((u2 : Int) == (q : Int)) && !((u3 : Int) == (bm : Int)))) := Lib.hid (by unfold goesR; rw [hu2, hu1, hu3, d2, d1, d3])
      have y4 : (u : Int) / g.pg = (u1 : Int) := hu1
      have y5 : (u : Int) % g.pg = (u2 : Int) := hu2
      have y6 : (u1 : Int) % g.pl = (u3 : Int) := hu3
      have hu1w : IntKind.i64.wrap (u1 : Int) = (u1 : Int) := IntWalk.i64_in _ (by omega)
      clear hu1 hu2 hu3 hor hmem q1 hlen
      by_cases hA : (u2 : Int) = (q : Int)
      · have hA1 := bne_eq_false_iff_eq.2 hA
        rw [beq_t hA, Bool.true_and] at HG3
        clear hA
        by_cases hB : (u3 : Int) = (bm : Int)
        · have hB1 := beq_t hB
          rw [hB1] at HG3
          clear hB
          have HE := Lib.hid (loadR_rows (c := 21) (all_not (f := goesR g (num s.listed 2)) HME.out (by rw [← HRR.out]; exact HG3.out)))
          go_upto_region 9 with fail
          go_quiet (fail)
          go_wp2
          go_ret
          exact ⟨by rw [HE.out]; rfl, _, ⟨_, by rw [HE.out]; exact HJ.out.drewN _⟩, HX.out.drewN _⟩
        · have hB1 := beq_f hB
          rw [hB1] at HG3
          clear hB
          go_upto_region 9 with fail
          go_quiet (fail)
          go_wp2
          go_roundw
          case rel => exact ⟨k + 1, hkn, by go_num, Lib.hid (by rw [HTA.out]; exact all_snoc HOK.out HG3.out), Lib.hid (HJ.out.drewN _), Lib.hid (HX.out.drewN _)⟩
          case measure => exact step_measure hkn
      · have hA1 := bne_iff_ne.2 hA
        rw [beq_f hA, Bool.false_and] at HG3
        clear hA
        have HE := Lib.hid (loadR_rows (c := 21) (all_not (f := goesR g (num s.listed 2)) HME.out (by rw [← HRR.out]; exact HG3.out)))
        go_upto_region 9 with fail
        go_quiet (fail)
        go_wp2
        go_ret
        exact ⟨by rw [HE.out]; rfl, _, ⟨_, by rw [HE.out]; exact HJ.out.drewN _⟩, HX.out.drewN _⟩
    · have hke : n = k := by omega
      have hta : s.rows.take k = s.rows := List.take_of_length_le (by rw [← HNN.out]; omega)
      rw [hta] at HOK
      subst hke
      clear hta hkn hk
      obtain ⟨A, m, hA⟩ := HJ.out.l19
      rw [hA] at c19
      rw [← HNN.out] at c19
      clear hA
      have c15 := HJ.out.c15
      have c16 := HJ.out.c16
      by_cases hbad : s.behind = true ∧ (b : Int) ≠ s.chain
      · have HE := Lib.hid (loadR_bad (g := g) (c := 21) (.inl ⟨hbad.1, .inl (by rw [← HRR.out, HHB.out]; exact hbad.2)⟩))
        rw [hbad.1] at c15
        have o1 := bne_iff_ne.2 hbad.2
        clear hbad
        go_wp2_with fail
        go_ret
        exact ⟨by rw [HE.out]; rfl, _, ⟨_, by rw [HE.out]; exact HJ.out⟩, HX.out⟩
      · have hcs : s.behind = false ∨ (s.behind = true ∧ ((b : Int) != s.chain) = false) := by
          cases hbe : s.behind with
          | false => exact .inl rfl
          | true => exact .inr ⟨rfl, bne_eq_false_iff_eq.2 (Classical.byContradiction (fun h2 => hbad ⟨hbe, h2⟩))⟩
        by_cases hn0 : 0 < n
        · have o2 : decide (0 < n) = true := decide_eq_true hn0
          have HE := Lib.hid (loadR_bad (g := g) (s := s) (c := 21) (.inr ⟨rfl, fun h => by have := HNN.out; rw [h] at this; have h3 : n = 0 := this; omega⟩))
          clear hbad hn0
          rcases hcs with hbe | ⟨hbe, o1⟩
          all_goals
            rw [hbe] at c15
            go_wp2_with fail
            go_ret
            exact ⟨by rw [HE.out]; rfl, _, ⟨_, by rw [HE.out]; exact HJ.out⟩, HX.out⟩
        have o2 : decide (0 < n) = false := decide_eq_false hn0
        have HE := Lib.hid (loadR_yes (g := g) (s := s) (c := 21) (.inr (.inr rfl)) (by rw [← HRR.out]; exact HCA.out) (by rw [← HRR.out]; exact HOK.out) (by rw [← HRR.out, HHB.out]; simp; exact ⟨fun h1 => Classical.byContradiction (fun h2 => hbad ⟨h1, h2⟩), List.length_eq_zero_iff.1 (by have := HNN.out; omega)⟩))
        rw [← HRR.out, HHB.out, HHQ.out] at HE
        simp only [Int.toNat_natCast, show ¬ ((21 : Int) = 17) by decide, if_true, if_false] at HE
        clear hbad hn0
        rcases hcs with hbe | ⟨hbe, o1⟩
        all_goals
          rw [hbe] at c15
          as_aux_lemma =>
          go_upto_region 13 with fail
          have hz := HJ.out.z
          have c17 := HJ.out.c17
          have HJ3 := Lib.hid (HJ.out.s17 false)
          have HX3 := Lib.hid (HX.out.trans (HJ.out.n [(17, .bool false)]))
          simp only [sets] at HX3
          go_upto_region 14 with fail
          generalize hw3 : World.setCell _ ⟨p, 17, none⟩ (.bool false) = w3 at HJ3 HX3 ⊢
          clear hw3 c0 c2 c15 c16 c17 c19 hz HJ HX
          have c2 := HJ3.out.c2
          have c8 := HJ3.out.c8
          obtain ⟨g2, k2, q2, x2, z2, hs2⟩ := HJ3.out.e8 b HBL.out
          have f2 := (hs2 (q : Int)).1.c2
          have f8 := (hs2 (q : Int)).1.c8
          rw [q2] at c8 f8
          have HJ4 := Lib.hid (hs2 (q : Int)).1.drew
          have HX4 := Lib.hid (HX3.out.trans (hs2 (q : Int)).2).drew
          have i2 : (b : Int) < (s.la.length : Int) := by have := HBL.out; omega
          clear hs2 q2
          simp only at c8 f8
          generalize s.la.length = nla at *
          go_region_held3 (fun W => W.cell? ⟨p, 8, none⟩ = some (.slice (some ⟨g2, 0, none⟩) nla k2) ∧ W.cell? ⟨p, 2, none⟩ = some (.int .i64 g.pg)) (first | exact ⟨c8, c2⟩ | exact ⟨f8, f2⟩) (fail)
          generalize hw4 : World.drew _ = w4 at HJ4 HX4 ⊢
          clear hw4 c2 c8 f2 f8 x2 z2 i2 HJ3 HX3
          have HL9 : Hid (s.pr.length = s.pr.length) := Lib.hid rfl
          have c9 := HJ4.out.c9
          obtain ⟨g3, k3, q3, x3, z3, hs3⟩ := HJ4.out.e9 r HLT.out
          rw [q3] at c9
          simp only at c9 x3 hs3 HE
          have HJ5 := Lib.hid (hs3 (wrap64 (s.pr.getD r 0 + 1))).1.drew
          have HX5 := Lib.hid (HX4.out.trans (hs3 (wrap64 (s.pr.getD r 0 + 1))).2).drew
          have i3 : (r : Int) < (s.pr.length : Int) := by have := HLT.out; omega
          have hpw : IntKind.i64.wrap (s.pr.getD r 0 + 1) = wrap64 (s.pr.getD r 0 + 1) := i64_w _
          clear hs3 q3
          generalize s.pr.getD r 0 = pv at *
          generalize s.pr.length = npr at *
          go_upto_region 15 with fail
          have HS0 : Hid (w4.drew.cell? ⟨p, 9, none⟩ = some (.slice (some ⟨g3, 0, none⟩) npr k3) ∧ w4.drew.cell? ⟨g3, r, none⟩ = some (.int .i64 pv)) := Lib.hid ⟨c9, x3⟩
          refine wp_region_noPanic ?_
          refine start_ (n := 15) (S := fun W => W.cell? ⟨p, 9, none⟩ = some (.slice (some ⟨g3, 0, none⟩) npr k3) ∧ W.cell? ⟨g3, r, none⟩ = some (.int .i64 pv)) (ds := [14]) #[false, false, false, false, false, false, false, false, false, false, false, false, false, false, false] (by kernel_rfl) rfl rfl HS0.out (fun hHeld => ?_)
          refine pure_ (i := 0) (N := some 132) (v := ?_) (a' := ?_) #[true, false, false, false, false, false, false, false, false, false, false, false, false, false, false] rfl rfl (by kernel_rfl) (fun _ _ _ h => h) (Or.inl ⟨by rfl, ?_⟩) ?_ ?_
          rotate_left
          · intro w'
            go_simp
            with_reducible rfl
          rotate_left
          · simp only [Act.put, List.setIfInBounds_toArray, List.set_cons_zero, List.set_cons_succ]
            rfl
          refine pure_ (i := 1) (N := some 133) (v := ?_) (a' := ?_) #[true, true, false, false, false, false, false, false, false, false, false, false, false, false, false] rfl rfl (by kernel_rfl) (fun _ _ _ h => h) (Or.inl ⟨by rfl, ?_⟩) ?_ ?_
          rotate_left
          · intro w'
            go_simp
            with_reducible rfl
          rotate_left
          · simp only [Act.put, List.setIfInBounds_toArray, List.set_cons_zero, List.set_cons_succ]
            rfl
          refine pure_ (i := 2) (N := some 134) (v := ?_) (a' := ?_) #[true, true, true, false, false, false, false, false, false, false, false, false, false, false, false] rfl rfl (by kernel_rfl) (fun _ _ _ h => h) (Or.inl ⟨by rfl, ?_⟩) ?_ ?_
          rotate_left
          · intro w'
            go_simp
            with_reducible rfl
          rotate_left
          · simp only [Act.put, List.setIfInBounds_toArray, List.set_cons_zero, List.set_cons_succ]
            rfl
          refine pure_ (i := 4) (N := some 136) (v := ?_) (a' := ?_) #[true, true, true, false, true, false, false, false, false, false, false, false, false, false, false] rfl rfl (by kernel_rfl) (fun _ _ _ h => h) (Or.inl ⟨by rfl, ?_⟩) ?_ ?_
          rotate_left
          · intro w'
            go_simp
            with_reducible rfl
          rotate_left
          · simp only [Act.put, List.setIfInBounds_toArray, List.set_cons_zero, List.set_cons_succ]
            rfl
          refine pure_ (i := 5) (N := some 137) (v := ?_) (a' := ?_) #[true, true, true, false, true, true, false, false, false, false, false, false, false, false, false] rfl rfl (by kernel_rfl) (fun _ _ _ h => h) (Or.inl ⟨by rfl, ?_⟩) ?_ ?_
          rotate_left
          · intro w'
            go_simp
            with_reducible rfl
          rotate_left
          · simp only [Act.put, List.setIfInBounds_toArray, List.set_cons_zero, List.set_cons_succ]
            rfl
          refine pure_ (i := 6) (N := some 138) (v := ?_) (a' := ?_) #[true, true, true, false, true, true, true, false, false, false, false, false, false, false, false] rfl rfl (by kernel_rfl) (fun _ _ _ h => h) (Or.inl ⟨by rfl, ?_⟩) ?_ ?_
          rotate_left
          · intro w'
            go_simp
            with_reducible rfl
          rotate_left
          · simp only [Act.put, List.setIfInBounds_toArray, List.set_cons_zero, List.set_cons_succ]
            rfl
          refine pure_ (i := 7) (N := some 139) (v := ?_) (a' := ?_) #[true, true, true, false, true, true, true, true, false, false, false, false, false, false, false] rfl rfl (by kernel_rfl) (fun _ _ _ h => h) (Or.inl ⟨by rfl, ?_⟩) ?_ ?_
          rotate_left
          · intro w'
            go_simp
            with_reducible rfl
          rotate_left
          · simp only [Act.put, List.setIfInBounds_toArray, List.set_cons_zero, List.set_cons_succ]
            rfl
          refine pure_ (i := 9) (N := some 141) (v := ?_) (a' := ?_) #[true, true, true, false, true, true, true, true, false, true, false, false, false, false, false] rfl rfl (by kernel_rfl) (fun _ _ _ h => h) (Or.inl ⟨by rfl, ?_⟩) ?_ ?_
          rotate_left
          · intro w'
            go_simp
            with_reducible rfl
          rotate_left
          · simp only [Act.put, List.setIfInBounds_toArray, List.set_cons_zero, List.set_cons_succ]
            rfl
          refine take_ (i := 3) (N := some 135) (v := ?_) (a' := ?_) #[true, true, true, true, true, true, true, true, false, true, false, false, false, false, false] rfl rfl (by kernel_rfl) (fun _ _ _ h => h) (Or.inl ⟨by rfl, ?_⟩) hHeld ?_ ?_
          rotate_left
          · rintro w' ⟨s0, s1⟩
            go_simp
            with_reducible rfl
          rotate_left
          · simp only [Act.put, List.setIfInBounds_toArray, List.set_cons_zero, List.set_cons_succ]
            rfl
          refine take_ (i := 8) (N := some 140) (v := ?_) (a' := ?_) #[true, true, true, true, true, true, true, true, true, true, false, false, false, false, false] rfl rfl (by kernel_rfl) (fun _ _ _ h => h) (Or.inl ⟨by rfl, ?_⟩) hHeld ?_ ?_
          rotate_left
          · rintro w' ⟨s0, s1⟩
            go_simp
            with_reducible rfl
          rotate_left
          · simp only [Act.put, List.setIfInBounds_toArray, List.set_cons_zero, List.set_cons_succ]
            rfl
          refine pure_ (i := 10) (N := some 142) (v := ?_) (a' := ?_) #[true, true, true, true, true, true, true, true, true, true, true, false, false, false, false] rfl rfl (by kernel_rfl) (fun _ _ _ h => h) (Or.inl ⟨by rfl, ?_⟩) ?_ ?_
          rotate_left
          · intro w'
            go_simp
            with_reducible rfl
          rotate_left
          · simp only [Act.put, List.setIfInBounds_toArray, List.set_cons_zero, List.set_cons_succ]
            rfl
          refine take_ (i := 11) (N := some 143) (v := ?_) (a' := ?_) #[true, true, true, true, true, true, true, true, true, true, true, true, false, false, false] rfl rfl (by kernel_rfl) (fun _ _ _ h => h) (Or.inl ⟨by rfl, ?_⟩) hHeld ?_ ?_
          rotate_left
          · rintro w' ⟨s0, s1⟩
            go_simp
            with_reducible rfl
          rotate_left
          · simp only [Act.put, List.setIfInBounds_toArray, List.set_cons_zero, List.set_cons_succ]
            rfl
          refine pure_ (i := 12) (N := some 144) (v := ?_) (a' := ?_) #[true, true, true, true, true, true, true, true, true, true, true, true, true, false, false] rfl rfl (by kernel_rfl) (fun _ _ _ h => h) (Or.inl ⟨by rfl, ?_⟩) ?_ ?_
          rotate_left
          · intro w'
            go_simp
            with_reducible rfl
          rotate_left
          · simp only [Act.put, List.setIfInBounds_toArray, List.set_cons_zero, List.set_cons_succ]
            rfl
          refine pure_ (i := 13) (N := some 145) (v := ?_) (a' := ?_) #[true, true, true, true, true, true, true, true, true, true, true, true, true, true, false] rfl rfl (by kernel_rfl) (fun _ _ _ h => h) (Or.inl ⟨by rfl, ?_⟩) ?_ ?_
          rotate_left
          · intro w'
            go_simp
            with_reducible rfl
          rotate_left
          · simp only [Act.put, List.setIfInBounds_toArray, List.set_cons_zero, List.set_cons_succ]
            rfl
          refine last_ (i := 14) (N := none) #[true, true, true, true, true, true, true, true, true, true, true, true, true, true, true] rfl rfl (by kernel_rfl) (by decide) (fun K hK => ?_)
          refine skip_ (w1 := ?_) (by rfl) rfl ?_ ?_
          rotate_left
          · go_simp
            rfl
          refine hK.out _ _ ?_
          clear hK K
          refine done_ (by kernel_rfl) ?_
          refine NoPanic.normal ?_
          generalize hw5 : World.drew _ = w5 at HJ5 HX5 ⊢
          clear hw5 hHeld c9 x3 z3 i3 hpw HJ4 HX4 HS0
          have c19 := HJ5.out.c19
          have hz := HJ5.out.z
          obtain ⟨A5, m5, hA5⟩ := HJ5.out.l19
          simp only at hA5
          rw [hA5] at c19
          clear hA5
          have d15 := HJ5.out.c15
          have d16 := HJ5.out.c16
          have HJ6 := Lib.hid ((HJ5.out.s19.s15 true).s16 (b : Int))
          have HX6 := Lib.hid (HX5.out.trans (HJ5.out.n [(19, .slice none 0 0), (15, .bool true), (16, .int .i64 (b : Int))]))
          simp only [sets] at HX6
          have HST := Lib.hid (rstart_ok HJ6.out)
          go_wp2_with (go_at_call 94; refine (HST.out).mono ?_; rintro e w8 ⟨rfl, hj8, hn8⟩; have HJ8 := Lib.hid hj8; have HX8 := Lib.hid (HX6.out.trans hn8); clear hj8 hn8)
          go_ret
          exact ⟨by rw [HE.out]; rfl, _, ⟨_, by rw [HE.out]; exact HJ8.out⟩, HX8.out⟩
end
end Go.Proofs.Ytfmogmgdpamfgaa.Jd
