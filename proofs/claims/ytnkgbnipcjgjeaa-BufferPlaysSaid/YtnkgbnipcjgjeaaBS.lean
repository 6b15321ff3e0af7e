import Derived.Test.YtnkgbnipcjgjeaaBU
namespace Go.Proofs.Ytnkgbnipcjgjeaa
open Go.RowKit Go.Lib Go.Proofs.YtnkgbnipcjgjeaaW.PrintWords Go.Proofs.YtnkgbnipcjgjeaaW.PrintLast Go.Proofs.YtnkgbnipcjgjeaaW.PrintMore
set_option linter.unusedVariables false
set_option maxHeartbeats 8000000 in
set_option maxRecDepth 100000 in
theorem bplays_main (w : World) (n sz : Nat) (h1 : 1 ≤ n) (h2 : n ≤ 1024) (h3 : 1 ≤ sz) (h4 : sz ≤ 8192) (x2 : List Dof) {A2 : Option Addr} {c2 : Nat} (hle : x2.length ≤ 60) (g2 : Kd.C kDf w A2 x2.length x2) (hLW : ∀ z ∈ x2, ∀ y ∈ z.2.2, (Lit.int .i64 y).wf = true) :
    Calls Try.prog 7 #[.int .i64 n, .int .i64 sz, .slice A2 x2.length c2] w fun e w' => e = .returned (.bool true) ∧ Below w.heap.size w w' := by
  have HR := Lib.hid g2
  obtain ⟨m, hm⟩ : ∃ m, m = x2.length := ⟨_, rfl⟩
  rw [← hm] at hle ⊢
  have HM := Lib.hid hm
  have HNS := Lib.hid (show 1 ≤ n ∧ n ≤ 1024 ∧ 1 ≤ sz ∧ sz ≤ 8192 from ⟨h1, h2, h3, h4⟩)
  have b1 : decide ((n : Int) < 1) = false := decide_eq_false (by omega)
  have b2 : decide (1024 < (n : Int)) = false := decide_eq_false (by omega)
  have b3 : decide ((sz : Int) < 1) = false := decide_eq_false (by omega)
  have b4 : decide (8192 < (sz : Int)) = false := decide_eq_false (by omega)
  have b5 : decide (60 < (m : Int)) = false := decide_eq_false (by omega)
  have HLE := Lib.hid hle
  have HLW := Lib.hid hLW
  clear g2 hm h1 h2 h3 h4 hle hLW
  go_enter Try.func7, Try.ntmps7
  go_wp2_with (first | (go_at_call 30; refine (bawake_ok _).mono ?_; rintro e w1 ⟨rfl, hb⟩; have HB1 := Lib.hid hb; have HNW := Lib.hid (bnew_ok n sz w1 w.heap.size hb.size HNS.out.1 HNS.out.2.1 HNS.out.2.2.1 HNS.out.2.2.2); clear hb) | (go_at_call 31; refine (HNW.out).mono ?_; rintro e w2 ⟨⟨g, rfl, hB, hg⟩, hb⟩; have HBU := Lib.hid hB; have HB := Lib.hid (chainC (Nat.le_refl _) HB1.out hb); clear hB hg hb HB1 HNW))
  have HR2 : Hid (RBufIs (w2.alloc (.cells #[.slice none 0 0, .int .i64 n, .int .i64 sz] 62)) w.heap.size w2.heap.size (.slice none 0 0) [] n sz) := Lib.hid ⟨blk_new w2 _, HB.out.size, ⟨[], Kd.R_nil _ _ _ _ _, trivial⟩, HNS.out, Nat.zero_le _⟩
  have HBO : Hid (Both (w2.alloc (.cells #[.slice none 0 0, .int .i64 n, .int .i64 sz] 62)) w.heap.size g (.slice none 0 0) w2.heap.size (.slice none 0 0) [] [] n sz) := Lib.hid ⟨HBU.out.below (alloc_below w2 _), HR2.out, fun k hk => by cases hk⟩
  have HBB := Lib.hid (chainC (Nat.le_refl _) HB.out (alloc_below w2 (.cells #[.slice none 0 0, .int .i64 n, .int .i64 sz] 62)))
  obtain ⟨gr, hgr⟩ : ∃ gr, gr = w2.heap.size := ⟨_, rfl⟩
  rw [← hgr] at HBO ⊢
  clear HR2 HBU HB hgr
  generalize w2.alloc (.cells #[.slice none 0 0, .int .i64 n, .int .i64 sz] 62) = w3 at HBO HBB ⊢
  have hm60 : (m : Int) ≤ 60 := by have := HLE.out; omega
  go_loopw [56] (fun i wr => ∃ (k : Nat) (v vr : Value) (es : List Ent), k ≤ m ∧ i = .int .i64 k ∧ Hid (Both wr w.heap.size g v gr vr es es n sz) ∧ Hid (Good sz es) ∧ Hid (Below w.heap.size w wr)) (fun i _ => m - (intOf i).toNat)
  case atStart => exact ⟨0, _, _, _, by omega, rfl, HBO, Lib.hid ⟨by simp [sec], by simp⟩, HBB⟩
  case round =>
    clear HBO HBB
    obtain ⟨k, v, vr, es, hk, rfl, HBO, HG, HB⟩ := hrel
    by_cases hkm : k < m
    · have hkx : k < x2.length := by rw [← HM.out]; exact hkm
      obtain ⟨b, off, A1, c1, A3, c3, rfl, e0, e1, e2, e3, e4, hd, hC⟩ := rowD HR.out hkx
      have hlw := HLW.out _ (List.getElem_mem hkx)
      generalize x2[k] = d at e0 e1 e2 e3 e4 hd hC hlw
      obtain ⟨dk, ⟨s, kd, xs⟩, L⟩ := d
      have HLX : Hid (∀ y ∈ L, (Lit.int .i64 y).wf = true) := Lib.hid hlw
      clear hlw
      have hlt := World.block_lt_of_cell? w _ e0
      have a0 := (HB.out.cell (p := ⟨b, off + k * 5, none⟩) hlt).trans e0
      have a1 := (HB.out.cell (p := ⟨b, off + k * 5 + 1, none⟩) hlt).trans e1
      have a2 := (HB.out.cell (p := ⟨b, off + k * 5 + 2, none⟩) hlt).trans e2
      have a3 := (HB.out.cell (p := ⟨b, off + k * 5 + 3, none⟩) hlt).trans e3
      have a4 := (HB.out.cell (p := ⟨b, off + k * 5 + 4, none⟩) hlt).trans e4
      have hal := alloc_below wr (.cells #[.int .i64 dk, .int .i64 s, .int .i64 kd, .slice A1 xs.length c1, .slice A3 L.length c3] 64)
      have HB2 := Lib.hid (chainC (Nat.le_refl _) HB.out hal)
      have HD2 := Lib.hid (hd.move (Bt.below (Nat.le_refl _) HB2.out))
      have HC2 := Lib.hid (Kd.C_below hC HB2.out)
      have HCW := Lib.hid hC
      have HBO2 := Lib.hid (HBO.out.below hal)
      have HBX := Lib.hid (blk_new wr (.cells #[.int .i64 dk, .int .i64 s, .int .i64 kd, .slice A1 xs.length c1, .slice A3 L.length c3] 64))
      have hk0 : (k : Int) < (m : Int) := by omega
      clear e0 e1 e2 e3 e4 hd hC hlt hal hkx
      by_cases hx1 : 200 < xs.length
      · have hxd : decide (200 < (xs.length : Int)) = true := decide_eq_true (by omega)
        go_wp2_with fail
        go_ret
        exact ⟨rfl, HB2.out⟩
      · have hxd : decide (200 < (xs.length : Int)) = false := decide_eq_false (by omega)
        by_cases hx2 : 20 < L.length
        · have hxe : decide (20 < (L.length : Int)) = true := decide_eq_true (by omega)
          go_wp2_with fail
          go_ret
          exact ⟨rfl, HB2.out⟩
        · have hxe : decide (20 < (L.length : Int)) = false := decide_eq_false (by omega)
          have HLL : Hid (L.length ≤ 20 ∧ xs.length ≤ 200) := Lib.hid ⟨by omega, by omega⟩
          go_upto_block 2 with fail
          obtain ⟨bx, hbx⟩ : ∃ bx, bx = wr.heap.size := ⟨_, rfl⟩
          rw [← hbx] at HBX ⊢
          have HBXL : Hid (w.heap.size ≤ bx) := Lib.hid (by rw [hbx]; exact HB.out.size)
          clear hbx hx1 hx2 a0 a1 a2 a3 a4 HB HBO
          generalize wr.alloc (.cells #[.int .i64 dk, .int .i64 s, .int .i64 kd, .slice A1 xs.length c1, .slice A3 L.length c3] 64) = W at HB2 HD2 HC2 HBO2 HBX ⊢
          go_cut [12, 56] (fun v12 v56 wc => v12 = .bool true ∧ v56 = .int .i64 k ∧ ∃ (v vr : Value) (es : List Ent), Hid (Both wc w.heap.size g v gr vr es es n sz) ∧ Hid (Good sz es) ∧ Hid (Below w.heap.size w wc))
          case first =>
            have e0 := blk_cell HBX.out 0
            have e1 := blk_cell HBX.out 1
            have e2 := blk_cell HBX.out 2
            have e3 := blk_cell HBX.out 3
            have e4 := blk_cell HBX.out 4
            by_cases hk1 : dk = 1
            · subst hk1
              as_aux_lemma =>
                have HGP := Lib.hid (good_put (most := n) (s, kd, xs) HG.out)
                have hpb := fun W' (h : BufIs W' w.heap.size g v es n sz) (hd : DatF W' w.heap.size (A1, xs.length, c1) xs) => bput_any h s kd (A1, xs.length, c1) xs hd (by have := HLL.out.2; omega)
                have hpr := fun W' (h : RBufIs W' w.heap.size gr vr es n sz) (hd : DatF W' w.heap.size (A1, xs.length, c1) xs) => rput_any h s kd (A1, xs.length, c1) xs hd
                generalize (putR n sz es (s, kd, xs)).1 = pe at hpb hpr
                generalize putL n sz es (s, kd, xs) = es2 at hpb hpr HGP
                have HPB := Lib.hid hpb
                have HPR := Lib.hid hpr
                clear hpb hpr
                go_upto_region 19 with fail
                have HW1 := Lib.hid (HPB.out W.drew (HBO2.out.drewN 1).b (HD2.out.move (keep_drewN _ 1 _)))
                have HBOd : Hid (Both W.drew w.heap.size g v gr vr es es n sz) := Lib.hid (HBO2.out.drewN 1)
                have HBd : Hid (Below w.heap.size w W.drew) := Lib.hid (pw_below_drewN HB2.out 1)
                have HXd : Hid (W.drew.heap[bx]? = _) := Lib.hid HBX.out
                have HDd : Hid (DatF W.drew w.heap.size (A1, xs.length, c1) xs) := Lib.hid (HD2.out.move (keep_drewN _ 1 _))
                have f1 : W.drew.cell? ⟨bx, 1, none⟩ = some (.int .i64 s) := e1
                have f2 : W.drew.cell? ⟨bx, 2, none⟩ = some (.int .i64 kd) := e2
                have f3 : W.drew.cell? ⟨bx, 3, none⟩ = some (.slice A1 xs.length c1) := e3
                go_region_held3 (fun w' => w'.cell? ⟨bx, 1, none⟩ = some (.int .i64 s) ∧ w'.cell? ⟨bx, 2, none⟩ = some (.int .i64 kd) ∧ w'.cell? ⟨bx, 3, none⟩ = some (.slice A1 xs.length c1)) (go_keep) (first | (go_at_call 32; refine (HW1.out).mono ?_; rintro e w4 ⟨rfl, v4, hB4, hm4, hv4⟩; have HX4 := Lib.hid ((hm4.block bx (blk_lt HXd.out) (HBOd.out.far HXd.out (by decide) (by decide) (by decide)).1).trans HXd.out); have g1 := blk_cell HX4.out 1; have g2 := blk_cell HX4.out 2; have g3 := blk_cell HX4.out 3; have HBO4 := Lib.hid (HBOd.out.putB hB4 hm4 hv4); have HB4 := Lib.hid (HBOd.out.b.belowS HBd.out hm4); have HD4 := Lib.hid (HDd.out.move (Bt.mods HBOd.out.b.hN hm4 HBOd.out.b.notBt)); have HW2 := Lib.hid (HPR.out w4 HBO4.out.r HD4.out); clear hB4 hm4 hv4) | (go_at_call 36; refine (HW2.out).mono ?_; rintro e w5 ⟨rfl, v5, hB5, hm5, hv5⟩; have HX5 := Lib.hid ((hm5.block bx (blk_lt HX4.out) (HBO4.out.far HX4.out (by decide) (by decide) (by decide)).2).trans HX4.out); have j1 := blk_cell HX5.out 1; have j2 := blk_cell HX5.out 2; have j3 := blk_cell HX5.out 3; have HBO5 := Lib.hid (HBO4.out.putR hB5 hm5 hv5); have HB5 := Lib.hid (Mods.toBelow HB4.out hm5 HB4.out.size (fun i e => by rw [e]; exact HBO4.out.r.lo)); clear hB5 hm5 hv5))
                all_goals
                  go_wp2_with fail
                  go_meet
                  case rel => exact ⟨rfl, rfl, _, _, _, HBO5, HGP, HB5⟩
            · have hk1b : (dk == (1 : Int)) = false := beq_eq_false_iff_ne.2 hk1
              by_cases hk2 : dk = 2
              · subst hk2
                clear hk1 hk1b
                have HFI := Lib.hid (first_ok W A3 c3 L HC2.out)
                have HFI2 := Lib.hid (fun W' (hb : Below w.heap.size w W') => first_ok W' A3 c3 L (Kd.C_below HCW.out hb))
                generalize L.getD 0 0 = x at HFI HFI2
                by_cases hp : plc x es 0 < 0
                · skip
                  as_aux_lemma =>
                    have HGN := Lib.hid (bget_no HBO2.out.b x hp)
                    have hpn : decide (0 ≤ plc x es 0) = false := decide_eq_false (by omega)
                    have hrf := fun W' (h : RBufIs W' w.heap.size gr vr es n sz) => rfind_ok h x
                    generalize plc x es 0 = P at hp hpn hrf
                    have HRF := Lib.hid hrf
                    clear hrf
                    go_upto_region 22 with (first | (go_at_call 38; refine (HFI.out).mono ?_; rintro e w4 ⟨rfl, rfl⟩) | (go_at_call 37; refine (HGN.out).mono ?_; rintro e w5 ⟨rfl, hb5⟩; have HB5 := Lib.hid hb5; clear hb5))
                    have hal := alloc_below w5 (.cells #[.int .i64 0, .int .i64 0, .slice none 0 0] 54)
                    have hbl := blk_new w5 (.cells #[.int .i64 0, .int .i64 0, .slice none 0 0] 54)
                    have HBO6 := Lib.hid ((HBO2.out.below HB5.out).below hal)
                    have HB6 := Lib.hid (chainC (Nat.le_refl _) (chainC (Nat.le_refl _) HB2.out HB5.out) hal)
                    have hx6 := (hal.block bx (Nat.lt_of_lt_of_le (blk_lt HBX.out) HB5.out.size)).trans ((HB5.out.block bx (blk_lt HBX.out)).trans HBX.out)
                    obtain ⟨bz, hbz⟩ : ∃ bz, bz = w5.heap.size := ⟨_, rfl⟩
                    rw [← hbz] at hbl ⊢
                    generalize w5.alloc (.cells #[.int .i64 0, .int .i64 0, .slice none 0 0] 54) = W6 at HBO6 HB6 hx6 hbl ⊢
                    have i4 := blk_cell hx6 4
                    have z0 := blk_cell hbl 0
                    have z1 := blk_cell hbl 1
                    have z2 := blk_cell hbl 2
                    have hbzl := blk_lt hbl
                    have HF6 := Lib.hid (HFI2.out W6 HB6.out)
                    have HR6 := Lib.hid (HRF.out W6 HBO6.out.r)
                    clear hal hbl hx6 hbz
                    go_upto_region 23 with (first | (go_at_call 38; refine (HF6.out).mono ?_; rintro e w7 ⟨rfl, rfl⟩) | (go_at_call 39; refine (HR6.out).mono ?_; rintro e w8 ⟨rfl, rfl⟩))
                    have hsm := fun (W' : World) (b1 b2 : Nat) h1 h2 => same_one (W := W') (N0 := w.heap.size) (b1 := b1) (b2 := b2) (s := 0) (k := 0) (h1 := (none, 0, 0)) (h2 := (none, 0, 0)) (xs := []) h1 h2 (DatF.nil _ _ _ _) (DatF.nil _ _ _ _) (by simp) 1 1
                    have HSM := Lib.hid hsm
                    clear hsm
                    have HS0 : Hid (w8.drew.cell? ⟨bz, 0, none⟩ = some (.int .i64 0) ∧ w8.drew.cell? ⟨bz, 1, none⟩ = some (.int .i64 0) ∧ w8.drew.cell? ⟨bz, 2, none⟩ = some (.slice none 0 0)) := Lib.hid ⟨z0, z1, z2⟩
                    refine wp_region_noPanic ?_
                    refine start_ (n := 32) (S := fun w' => w'.cell? ⟨bz, 0, none⟩ = some (.int .i64 0) ∧ w'.cell? ⟨bz, 1, none⟩ = some (.int .i64 0) ∧ w'.cell? ⟨bz, 2, none⟩ = some (.slice none 0 0)) (ds := []) #[false, false, false, false, false, false, false, false, false, false, false, false, false, false, false, false, false, false, false, false, false, false, false, false, false, false, false, false, false, false, false, false] (by kernel_rfl) rfl rfl HS0.out (fun hHeld => ?_)
                    refine pure_ (i := 0) (N := some 99) (v := ?_) (a' := ?_) #[true, false, false, false, false, false, false, false, false, false, false, false, false, false, false, false, false, false, false, false, false, false, false, false, false, false, false, false, false, false, false, false] rfl rfl (by kernel_rfl) (fun _ _ _ h => h) (Or.inl ⟨by rfl, ?_⟩) ?_ ?_
                    rotate_left
                    · intro w'
                      go_simp
                      with_reducible rfl
                    rotate_left
                    · simp only [Act.put, List.setIfInBounds_toArray, List.set_cons_zero, List.set_cons_succ]
                      rfl
                    refine pure_ (i := 1) (N := some 100) (v := ?_) (a' := ?_) #[true, true, false, false, false, false, false, false, false, false, false, false, false, false, false, false, false, false, false, false, false, false, false, false, false, false, false, false, false, false, false, false] rfl rfl (by kernel_rfl) (fun _ _ _ h => h) (Or.inl ⟨by rfl, ?_⟩) ?_ ?_
                    rotate_left
                    · intro w'
                      go_simp
                      with_reducible rfl
                    rotate_left
                    · simp only [Act.put, List.setIfInBounds_toArray, List.set_cons_zero, List.set_cons_succ]
                      rfl
                    refine pure_ (i := 2) (N := some 101) (v := ?_) (a' := ?_) #[true, true, true, false, false, false, false, false, false, false, false, false, false, false, false, false, false, false, false, false, false, false, false, false, false, false, false, false, false, false, false, false] rfl rfl (by kernel_rfl) (fun _ _ _ h => h) (Or.inl ⟨by rfl, ?_⟩) ?_ ?_
                    rotate_left
                    · intro w'
                      go_simp
                      with_reducible rfl
                    rotate_left
                    · simp only [Act.put, List.setIfInBounds_toArray, List.set_cons_zero, List.set_cons_succ]
                      rfl
                    refine pure_ (i := 3) (N := some 102) (v := ?_) (a' := ?_) #[true, true, true, true, false, false, false, false, false, false, false, false, false, false, false, false, false, false, false, false, false, false, false, false, false, false, false, false, false, false, false, false] rfl rfl (by kernel_rfl) (fun _ _ _ h => h) (Or.inl ⟨by rfl, ?_⟩) ?_ ?_
                    rotate_left
                    · intro w'
                      go_simp
                      with_reducible rfl
                    rotate_left
                    · simp only [Act.put, List.setIfInBounds_toArray, List.set_cons_zero, List.set_cons_succ]
                      rfl
                    refine pure_ (i := 4) (N := some 103) (v := ?_) (a' := ?_) #[true, true, true, true, true, false, false, false, false, false, false, false, false, false, false, false, false, false, false, false, false, false, false, false, false, false, false, false, false, false, false, false] rfl rfl (by kernel_rfl) (fun _ _ _ h => h) (Or.inl ⟨by rfl, ?_⟩) ?_ ?_
                    rotate_left
                    · intro w'
                      go_simp
                      with_reducible rfl
                    rotate_left
                    · simp only [Act.put, List.setIfInBounds_toArray, List.set_cons_zero, List.set_cons_succ]
                      rfl
                    refine pure_ (i := 5) (N := some 104) (v := ?_) (a' := ?_) #[true, true, true, true, true, true, false, false, false, false, false, false, false, false, false, false, false, false, false, false, false, false, false, false, false, false, false, false, false, false, false, false] rfl rfl (by kernel_rfl) (fun _ _ _ h => h) (Or.inl ⟨by rfl, ?_⟩) ?_ ?_
                    rotate_left
                    · intro w'
                      go_simp
                      with_reducible rfl
                    rotate_left
                    · simp only [Act.put, List.setIfInBounds_toArray, List.set_cons_zero, List.set_cons_succ]
                      rfl
                    refine pure_ (i := 6) (N := some 105) (v := ?_) (a' := ?_) #[true, true, true, true, true, true, true, false, false, false, false, false, false, false, false, false, false, false, false, false, false, false, false, false, false, false, false, false, false, false, false, false] rfl rfl (by kernel_rfl) (fun _ _ _ h => h) (Or.inl ⟨by rfl, ?_⟩) ?_ ?_
                    rotate_left
                    · intro w'
                      go_simp
                      with_reducible rfl
                    rotate_left
                    · simp only [Act.put, List.setIfInBounds_toArray, List.set_cons_zero, List.set_cons_succ]
                      rfl
                    refine pure_ (i := 7) (N := some 106) (v := undef) (a' := ?_) #[true, true, true, true, true, true, true, true, false, false, false, false, false, false, false, false, false, false, false, false, false, false, false, false, false, false, false, false, false, false, false, false] rfl rfl (by kernel_rfl) (fun _ _ _ h => h) (Or.inr ⟨by rfl, rfl⟩) ?_ ?_
                    rotate_left
                    · simp only [Act.put, List.setIfInBounds_toArray, List.set_cons_zero, List.set_cons_succ]
                      rfl
                    refine pure_ (i := 8) (N := some 107) (v := undef) (a' := ?_) #[true, true, true, true, true, true, true, true, true, false, false, false, false, false, false, false, false, false, false, false, false, false, false, false, false, false, false, false, false, false, false, false] rfl rfl (by kernel_rfl) (fun _ _ _ h => h) (Or.inr ⟨by rfl, rfl⟩) ?_ ?_
                    rotate_left
                    · simp only [Act.put, List.setIfInBounds_toArray, List.set_cons_zero, List.set_cons_succ]
                      rfl
                    refine pure_ (i := 9) (N := some 108) (v := undef) (a' := ?_) #[true, true, true, true, true, true, true, true, true, true, false, false, false, false, false, false, false, false, false, false, false, false, false, false, false, false, false, false, false, false, false, false] rfl rfl (by kernel_rfl) (fun _ _ _ h => h) (Or.inr ⟨by rfl, rfl⟩) ?_ ?_
                    rotate_left
                    · simp only [Act.put, List.setIfInBounds_toArray, List.set_cons_zero, List.set_cons_succ]
                      rfl
                    refine pure_ (i := 10) (N := some 109) (v := undef) (a' := ?_) #[true, true, true, true, true, true, true, true, true, true, true, false, false, false, false, false, false, false, false, false, false, false, false, false, false, false, false, false, false, false, false, false] rfl rfl (by kernel_rfl) (fun _ _ _ h => h) (Or.inr ⟨by rfl, rfl⟩) ?_ ?_
                    rotate_left
                    · simp only [Act.put, List.setIfInBounds_toArray, List.set_cons_zero, List.set_cons_succ]
                      rfl
                    refine pure_ (i := 11) (N := some 110) (v := undef) (a' := ?_) #[true, true, true, true, true, true, true, true, true, true, true, true, false, false, false, false, false, false, false, false, false, false, false, false, false, false, false, false, false, false, false, false] rfl rfl (by kernel_rfl) (fun _ _ _ h => h) (Or.inr ⟨by rfl, rfl⟩) ?_ ?_
                    rotate_left
                    · simp only [Act.put, List.setIfInBounds_toArray, List.set_cons_zero, List.set_cons_succ]
                      rfl
                    refine pure_ (i := 12) (N := some 111) (v := undef) (a' := ?_) #[true, true, true, true, true, true, true, true, true, true, true, true, true, false, false, false, false, false, false, false, false, false, false, false, false, false, false, false, false, false, false, false] rfl rfl (by kernel_rfl) (fun _ _ _ h => h) (Or.inr ⟨by rfl, rfl⟩) ?_ ?_
                    rotate_left
                    · simp only [Act.put, List.setIfInBounds_toArray, List.set_cons_zero, List.set_cons_succ]
                      rfl
                    refine pure_ (i := 13) (N := some 112) (v := undef) (a' := ?_) #[true, true, true, true, true, true, true, true, true, true, true, true, true, true, false, false, false, false, false, false, false, false, false, false, false, false, false, false, false, false, false, false] rfl rfl (by kernel_rfl) (fun _ _ _ h => h) (Or.inr ⟨by rfl, rfl⟩) ?_ ?_
                    rotate_left
                    · simp only [Act.put, List.setIfInBounds_toArray, List.set_cons_zero, List.set_cons_succ]
                      rfl
                    refine pure_ (i := 14) (N := some 113) (v := undef) (a' := ?_) #[true, true, true, true, true, true, true, true, true, true, true, true, true, true, true, false, false, false, false, false, false, false, false, false, false, false, false, false, false, false, false, false] rfl rfl (by kernel_rfl) (fun _ _ _ h => h) (Or.inr ⟨by rfl, rfl⟩) ?_ ?_
                    rotate_left
                    · simp only [Act.put, List.setIfInBounds_toArray, List.set_cons_zero, List.set_cons_succ]
                      rfl
                    refine pure_ (i := 15) (N := some 114) (v := undef) (a' := ?_) #[true, true, true, true, true, true, true, true, true, true, true, true, true, true, true, true, false, false, false, false, false, false, false, false, false, false, false, false, false, false, false, false] rfl rfl (by kernel_rfl) (fun _ _ _ h => h) (Or.inr ⟨by rfl, rfl⟩) ?_ ?_
                    rotate_left
                    · simp only [Act.put, List.setIfInBounds_toArray, List.set_cons_zero, List.set_cons_succ]
                      rfl
                    refine pure_ (i := 16) (N := some 115) (v := undef) (a' := ?_) #[true, true, true, true, true, true, true, true, true, true, true, true, true, true, true, true, true, false, false, false, false, false, false, false, false, false, false, false, false, false, false, false] rfl rfl (by kernel_rfl) (fun _ _ _ h => h) (Or.inr ⟨by rfl, rfl⟩) ?_ ?_
                    rotate_left
                    · simp only [Act.put, List.setIfInBounds_toArray, List.set_cons_zero, List.set_cons_succ]
                      rfl
                    refine pure_ (i := 17) (N := some 116) (v := undef) (a' := ?_) #[true, true, true, true, true, true, true, true, true, true, true, true, true, true, true, true, true, true, false, false, false, false, false, false, false, false, false, false, false, false, false, false] rfl rfl (by kernel_rfl) (fun _ _ _ h => h) (Or.inr ⟨by rfl, rfl⟩) ?_ ?_
                    rotate_left
                    · simp only [Act.put, List.setIfInBounds_toArray, List.set_cons_zero, List.set_cons_succ]
                      rfl
                    refine pure_ (i := 18) (N := some 117) (v := ?_) (a' := ?_) #[true, true, true, true, true, true, true, true, true, true, true, true, true, true, true, true, true, true, true, false, false, false, false, false, false, false, false, false, false, false, false, false] rfl rfl (by kernel_rfl) (fun _ _ _ h => h) (Or.inl ⟨by rfl, ?_⟩) ?_ ?_
                    rotate_left
                    · intro w'
                      go_simp
                      with_reducible rfl
                    rotate_left
                    · simp only [Act.put, List.setIfInBounds_toArray, List.set_cons_zero, List.set_cons_succ]
                      rfl
                    refine pure_ (i := 19) (N := some 118) (v := ?_) (a' := ?_) #[true, true, true, true, true, true, true, true, true, true, true, true, true, true, true, true, true, true, true, true, false, false, false, false, false, false, false, false, false, false, false, false] rfl rfl (by kernel_rfl) (fun _ _ _ h => h) (Or.inl ⟨by rfl, ?_⟩) ?_ ?_
                    rotate_left
                    · intro w'
                      go_simp
                      with_reducible rfl
                    rotate_left
                    · simp only [Act.put, List.setIfInBounds_toArray, List.set_cons_zero, List.set_cons_succ]
                      rfl
                    refine pure_ (i := 20) (N := some 119) (v := ?_) (a' := ?_) #[true, true, true, true, true, true, true, true, true, true, true, true, true, true, true, true, true, true, true, true, true, false, false, false, false, false, false, false, false, false, false, false] rfl rfl (by kernel_rfl) (fun _ _ _ h => h) (Or.inl ⟨by rfl, ?_⟩) ?_ ?_
                    rotate_left
                    · intro w'
                      go_simp
                      with_reducible rfl
                    rotate_left
                    · simp only [Act.put, List.setIfInBounds_toArray, List.set_cons_zero, List.set_cons_succ]
                      rfl
                    refine pure_ (i := 21) (N := some 120) (v := ?_) (a' := ?_) #[true, true, true, true, true, true, true, true, true, true, true, true, true, true, true, true, true, true, true, true, true, true, false, false, false, false, false, false, false, false, false, false] rfl rfl (by kernel_rfl) (fun _ _ _ h => h) (Or.inl ⟨by rfl, ?_⟩) ?_ ?_
                    rotate_left
                    · intro w'
                      go_simp
                      with_reducible rfl
                    rotate_left
                    · simp only [Act.put, List.setIfInBounds_toArray, List.set_cons_zero, List.set_cons_succ]
                      rfl
                    refine pure_ (i := 22) (N := some 121) (v := ?_) (a' := ?_) #[true, true, true, true, true, true, true, true, true, true, true, true, true, true, true, true, true, true, true, true, true, true, true, false, false, false, false, false, false, false, false, false] rfl rfl (by kernel_rfl) (fun _ _ _ h => h) (Or.inl ⟨by rfl, ?_⟩) ?_ ?_
                    rotate_left
                    · intro w'
                      go_simp
                      with_reducible rfl
                    rotate_left
                    · simp only [Act.put, List.setIfInBounds_toArray, List.set_cons_zero, List.set_cons_succ]
                      rfl
                    refine pure_ (i := 25) (N := some 124) (v := ?_) (a' := ?_) #[true, true, true, true, true, true, true, true, true, true, true, true, true, true, true, true, true, true, true, true, true, true, true, false, false, true, false, false, false, false, false, false] rfl rfl (by kernel_rfl) (fun _ _ _ h => h) (Or.inl ⟨by rfl, ?_⟩) ?_ ?_
                    rotate_left
                    · intro w'
                      go_simp
                      with_reducible rfl
                    rotate_left
                    · simp only [Act.put, List.setIfInBounds_toArray, List.set_cons_zero, List.set_cons_succ]
                      rfl
                    refine take_ (i := 23) (N := some 122) (v := ?_) (a' := ?_) #[true, true, true, true, true, true, true, true, true, true, true, true, true, true, true, true, true, true, true, true, true, true, true, true, false, true, false, false, false, false, false, false] rfl rfl (by kernel_rfl) (fun _ _ _ h => h) (Or.inl ⟨by rfl, ?_⟩) hHeld ?_ ?_
                    rotate_left
                    · rintro w' ⟨s0, s1, s2⟩
                      go_simp
                      with_reducible rfl
                    rotate_left
                    · simp only [Act.put, List.setIfInBounds_toArray, List.set_cons_zero, List.set_cons_succ]
                      rfl
                    refine two_ (i := 24) (j := 26) (Ni := some 123) (Nj := some 125) #[true, true, true, true, true, true, true, true, true, true, true, true, true, true, true, true, true, true, true, true, true, true, true, true, true, true, false, false, false, false, false, false] #[true, true, true, true, true, true, true, true, true, true, true, true, true, true, true, true, true, true, true, true, true, true, true, true, false, true, true, false, false, false, false, false] rfl rfl rfl rfl (by kernel_rfl) (by decide) (by decide) (fun K hK => ?_) (fun K hK => ?_)
                    · refine value_ (w1 := ?_) (v := ?_) (by rfl) rfl ?_ ?_
                      rotate_left 2
                      · go_simp
                        constructor
                        · rfl
                        · rfl
                      clear hHeld
                      refine hK.out _ _ ?_ (fun hHeld => ?_)
                      · go_keep
                      clear hK K
                      refine norm_ (a' := ?_) ?_ ?_
                      rotate_left
                      · show Act.put _ (some 123) _ = _
                        simp only [Act.put, List.setIfInBounds_toArray, List.set_cons_zero, List.set_cons_succ]
                        rfl
                      refine one_ (i := 26) (N := some 125) #[true, true, true, true, true, true, true, true, true, true, true, true, true, true, true, true, true, true, true, true, true, true, true, true, true, true, true, false, false, false, false, false] rfl rfl (by kernel_rfl) (by decide) (fun K hK => ?_)
                      refine value_ (w1 := ?_) (v := ?_) (by rfl) rfl ?_ ?_
                      rotate_left 2
                      · go_simp
                        constructor
                        · rfl
                        · rfl
                      clear hHeld
                      refine hK.out _ _ ?_ (fun hHeld => ?_)
                      · go_keep
                      clear hK K
                      refine norm_ (a' := ?_) ?_ ?_
                      rotate_left
                      · show Act.put _ (some 125) _ = _
                        simp only [Act.put, List.setIfInBounds_toArray, List.set_cons_zero, List.set_cons_succ]
                        rfl
                      refine one_ (i := 27) (N := some 126) #[true, true, true, true, true, true, true, true, true, true, true, true, true, true, true, true, true, true, true, true, true, true, true, true, true, true, true, true, false, false, false, false] rfl rfl (by kernel_rfl) (by decide) (fun K hK => ?_)
                      refine goes_ (N := some 126) Try.func40 (by kernel_rfl) rfl #[.slice (some ⟨w8.heap.size, 0, none⟩) 1 1, .slice (some ⟨w8.heap.size + 1, 0, none⟩) 1 1] (by rfl) rfl rfl (by simp only [List.map_toArray, List.map_cons, List.map_nil]; rfl) ?_
                      refine (HSM.out (((w8.alloc _).alloc _).drew) _ _ (two_new w8 _ _ _ _).1 (two_new w8 _ _ _ _).2).mono ?_
                      rintro e w9 ⟨rfl, hq9⟩
                      refine ⟨_, rfl, ?_⟩
                      have HBO9 : Hid (Both w9 w.heap.size g v gr vr es es n sz) := Lib.hid (by obtain ⟨q, rfl⟩ := hq9; exact (((HBO6.out.below (alloc_below _ _)).below (alloc_below _ _)).drewN 1).drewN q)
                      have HB9 : Hid (Below w.heap.size w w9) := Lib.hid (by obtain ⟨q, rfl⟩ := hq9; exact pw_below_drewN (pw_below_drewN (chainC (Nat.le_refl _) (chainC (Nat.le_refl _) HB6.out (alloc_below _ _)) (alloc_below _ _)) 1) q)
                      have y0 : w9.cell? ⟨bz, 0, none⟩ = some (.int .i64 0) ∧ w9.cell? ⟨bz, 1, none⟩ = some (.int .i64 0) ∧ w9.cell? ⟨bz, 2, none⟩ = some (.slice none 0 0) := by obtain ⟨q, rfl⟩ := hq9; exact hHeld
                      clear hq9
                      clear hHeld
                      refine hK.out _ _ ?_ (fun hHeld => ?_)
                      · exact y0
                      clear hK K
                      refine norm_ (a' := ?_) ?_ ?_
                      rotate_left
                      · show Act.put _ (some 126) _ = _
                        simp only [Act.put, List.setIfInBounds_toArray, List.set_cons_zero, List.set_cons_succ]
                        rfl
                      refine pure_ (i := 28) (N := some 127) (v := ?_) (a' := ?_) #[true, true, true, true, true, true, true, true, true, true, true, true, true, true, true, true, true, true, true, true, true, true, true, true, true, true, true, true, true, false, false, false] rfl rfl (by kernel_rfl) (fun _ _ _ h => h) (Or.inl ⟨by rfl, ?_⟩) ?_ ?_
                      rotate_left
                      · intro w'
                        go_simp
                        with_reducible rfl
                      rotate_left
                      · simp only [Act.put, List.setIfInBounds_toArray, List.set_cons_zero, List.set_cons_succ]
                        rfl
                      refine pure_ (i := 29) (N := some 128) (v := ?_) (a' := ?_) #[true, true, true, true, true, true, true, true, true, true, true, true, true, true, true, true, true, true, true, true, true, true, true, true, true, true, true, true, true, true, false, false] rfl rfl (by kernel_rfl) (fun _ _ _ h => h) (Or.inl ⟨by rfl, ?_⟩) ?_ ?_
                      rotate_left
                      · intro w'
                        go_simp
                        with_reducible rfl
                      rotate_left
                      · simp only [Act.put, List.setIfInBounds_toArray, List.set_cons_zero, List.set_cons_succ]
                        rfl
                      refine pure_ (i := 30) (N := some 129) (v := ?_) (a' := ?_) #[true, true, true, true, true, true, true, true, true, true, true, true, true, true, true, true, true, true, true, true, true, true, true, true, true, true, true, true, true, true, true, false] rfl rfl (by kernel_rfl) (fun _ _ _ h => h) (Or.inl ⟨by rfl, ?_⟩) ?_ ?_
                      rotate_left
                      · intro w'
                        go_simp
                        with_reducible rfl
                      rotate_left
                      · simp only [Act.put, List.setIfInBounds_toArray, List.set_cons_zero, List.set_cons_succ]
                        rfl
                      refine pure_ (i := 31) (N := some 12) (v := ?_) (a' := ?_) #[true, true, true, true, true, true, true, true, true, true, true, true, true, true, true, true, true, true, true, true, true, true, true, true, true, true, true, true, true, true, true, true] rfl rfl (by kernel_rfl) (fun _ _ _ h => h) (Or.inl ⟨by rfl, ?_⟩) ?_ ?_
                      rotate_left
                      · intro w'
                        go_simp
                        with_reducible rfl
                      rotate_left
                      · simp only [Act.put, List.setIfInBounds_toArray, List.set_cons_zero, List.set_cons_succ]
                        rfl
                      refine done_ (by kernel_rfl) ?_
                      refine NoPanic.normal ?_
                      go_wp2_with fail
                      go_meet
                      case rel => exact ⟨rfl, rfl, _, _, _, HBO9, HG, HB9⟩
                    · refine value_ (w1 := ?_) (v := ?_) (by rfl) rfl ?_ ?_
                      rotate_left 2
                      · go_simp
                        constructor
                        · rfl
                        · rfl
                      clear hHeld
                      refine hK.out _ _ ?_ (fun hHeld => ?_)
                      · go_keep
                      clear hK K
                      refine norm_ (a' := ?_) ?_ ?_
                      rotate_left
                      · show Act.put _ (some 125) _ = _
                        simp only [Act.put, List.setIfInBounds_toArray, List.set_cons_zero, List.set_cons_succ]
                        rfl
                      refine one_ (i := 24) (N := some 123) #[true, true, true, true, true, true, true, true, true, true, true, true, true, true, true, true, true, true, true, true, true, true, true, true, true, true, true, false, false, false, false, false] rfl rfl (by kernel_rfl) (by decide) (fun K hK => ?_)
                      refine value_ (w1 := ?_) (v := ?_) (by rfl) rfl ?_ ?_
                      rotate_left 2
                      · go_simp
                        constructor
                        · rfl
                        · rfl
                      clear hHeld
                      refine hK.out _ _ ?_ (fun hHeld => ?_)
                      · go_keep
                      clear hK K
                      refine norm_ (a' := ?_) ?_ ?_
                      rotate_left
                      · show Act.put _ (some 123) _ = _
                        simp only [Act.put, List.setIfInBounds_toArray, List.set_cons_zero, List.set_cons_succ]
                        rfl
                      refine one_ (i := 27) (N := some 126) #[true, true, true, true, true, true, true, true, true, true, true, true, true, true, true, true, true, true, true, true, true, true, true, true, true, true, true, true, false, false, false, false] rfl rfl (by kernel_rfl) (by decide) (fun K hK => ?_)
                      refine goes_ (N := some 126) Try.func40 (by kernel_rfl) rfl #[.slice (some ⟨w8.heap.size + 1, 0, none⟩) 1 1, .slice (some ⟨w8.heap.size, 0, none⟩) 1 1] (by rfl) rfl rfl (by simp only [List.map_toArray, List.map_cons, List.map_nil]; rfl) ?_
                      refine (HSM.out (((w8.alloc _).alloc _).drew) _ _ (two_new w8 _ _ _ _).2 (two_new w8 _ _ _ _).1).mono ?_
                      rintro e w9 ⟨rfl, hq9⟩
                      refine ⟨_, rfl, ?_⟩
                      have HBO9 : Hid (Both w9 w.heap.size g v gr vr es es n sz) := Lib.hid (by obtain ⟨q, rfl⟩ := hq9; exact (((HBO6.out.below (alloc_below _ _)).below (alloc_below _ _)).drewN 1).drewN q)
                      have HB9 : Hid (Below w.heap.size w w9) := Lib.hid (by obtain ⟨q, rfl⟩ := hq9; exact pw_below_drewN (pw_below_drewN (chainC (Nat.le_refl _) (chainC (Nat.le_refl _) HB6.out (alloc_below _ _)) (alloc_below _ _)) 1) q)
                      have y0 : w9.cell? ⟨bz, 0, none⟩ = some (.int .i64 0) ∧ w9.cell? ⟨bz, 1, none⟩ = some (.int .i64 0) ∧ w9.cell? ⟨bz, 2, none⟩ = some (.slice none 0 0) := by obtain ⟨q, rfl⟩ := hq9; exact hHeld
                      clear hq9
                      clear hHeld
                      refine hK.out _ _ ?_ (fun hHeld => ?_)
                      · exact y0
                      clear hK K
                      refine norm_ (a' := ?_) ?_ ?_
                      rotate_left
                      · show Act.put _ (some 126) _ = _
                        simp only [Act.put, List.setIfInBounds_toArray, List.set_cons_zero, List.set_cons_succ]
                        rfl
                      refine pure_ (i := 28) (N := some 127) (v := ?_) (a' := ?_) #[true, true, true, true, true, true, true, true, true, true, true, true, true, true, true, true, true, true, true, true, true, true, true, true, true, true, true, true, true, false, false, false] rfl rfl (by kernel_rfl) (fun _ _ _ h => h) (Or.inl ⟨by rfl, ?_⟩) ?_ ?_
                      rotate_left
                      · intro w'
                        go_simp
                        with_reducible rfl
                      rotate_left
                      · simp only [Act.put, List.setIfInBounds_toArray, List.set_cons_zero, List.set_cons_succ]
                        rfl
                      refine pure_ (i := 29) (N := some 128) (v := ?_) (a' := ?_) #[true, true, true, true, true, true, true, true, true, true, true, true, true, true, true, true, true, true, true, true, true, true, true, true, true, true, true, true, true, true, false, false] rfl rfl (by kernel_rfl) (fun _ _ _ h => h) (Or.inl ⟨by rfl, ?_⟩) ?_ ?_
                      rotate_left
                      · intro w'
                        go_simp
                        with_reducible rfl
                      rotate_left
                      · simp only [Act.put, List.setIfInBounds_toArray, List.set_cons_zero, List.set_cons_succ]
                        rfl
                      refine pure_ (i := 30) (N := some 129) (v := ?_) (a' := ?_) #[true, true, true, true, true, true, true, true, true, true, true, true, true, true, true, true, true, true, true, true, true, true, true, true, true, true, true, true, true, true, true, false] rfl rfl (by kernel_rfl) (fun _ _ _ h => h) (Or.inl ⟨by rfl, ?_⟩) ?_ ?_
                      rotate_left
                      · intro w'
                        go_simp
                        with_reducible rfl
                      rotate_left
                      · simp only [Act.put, List.setIfInBounds_toArray, List.set_cons_zero, List.set_cons_succ]
                        rfl
                      refine pure_ (i := 31) (N := some 12) (v := ?_) (a' := ?_) #[true, true, true, true, true, true, true, true, true, true, true, true, true, true, true, true, true, true, true, true, true, true, true, true, true, true, true, true, true, true, true, true] rfl rfl (by kernel_rfl) (fun _ _ _ h => h) (Or.inl ⟨by rfl, ?_⟩) ?_ ?_
                      rotate_left
                      · intro w'
                        go_simp
                        with_reducible rfl
                      rotate_left
                      · simp only [Act.put, List.setIfInBounds_toArray, List.set_cons_zero, List.set_cons_succ]
                        rfl
                      refine done_ (by kernel_rfl) ?_
                      refine NoPanic.normal ?_
                      go_wp2_with fail
                      go_meet
                      case rel => exact ⟨rfl, rfl, _, _, _, HBO9, HG, HB9⟩
                · skip
                  as_aux_lemma =>
                    have hP0 : 0 ≤ plc x es 0 := by omega
                    obtain ⟨P, hP⟩ := Int.eq_ofNat_of_zero_le hP0
                    have hPl : P < es.length := by have := plc_lt x es 0; omega
                    have HGN := Lib.hid (bget_yes HBO2.out.b x P hP hPl (good_len HG.out HNS.out.2.2.2))
                    have hrf := fun W' (h : RBufIs W' w.heap.size gr vr es n sz) => rfind_ok h x
                    rw [hP] at hrf
                    have hpn : decide (0 ≤ (P : Int)) = true := decide_eq_true (by omega)
                    have hpt : (P : Int) ≤ 1024 := by have := HBO2.out.b.fit; have := HNS.out; omega
                    obtain ⟨⟨s1, k1, d1⟩, hen⟩ : ∃ en, es[P] = en := ⟨_, rfl⟩
                    rw [hen] at HGN
                    have HEN : Hid (es[P]? = some (s1, k1, d1)) := Lib.hid (by rw [List.getElem?_eq_getElem hPl, hen])
                    have HRF := Lib.hid hrf
                    have HD1 : Hid (d1.length ≤ 100000) := Lib.hid (by have := good_len HG.out HNS.out.2.2.2 _ (List.getElem_mem hPl); rw [hen] at this; exact this)
                    obtain ⟨Ar, cr, hsr, rfl, _, hcr, _, _⟩ := HBO2.out.r.form
                    have hnn : Ar ≠ none := fun e => by have := (RBufIs.nil0 (e ▸ HBO2.out.r)).2.2; omega
                    obtain ⟨ad, rfl⟩ := Option.ne_none_iff_exists'.1 hnn
                    obtain ⟨bb, rfl⟩ := HBO2.out.r.adr
                    obtain ⟨t, ht⟩ : ∃ t, t = es.length := ⟨_, rfl⟩
                    rw [← ht] at HBO2 hcr hrf HRF
                    have hsl := sl_mid2 bb cr t P (by omega)
                    have hw1 : IntKind.i64.wrap ((P : Int) + 1) = (P : Int) + 1 := IntWalk.i64_in _ (by omega)
                    have hpp : (0 : Int) ≤ (P : Int) := by omega
                    clear hP0 hP hPl hrf hen hp hnn ht hcr
                    go_upto_region 22 with (first | (go_at_call 38; refine (HFI.out).mono ?_; rintro e w4 ⟨rfl, rfl⟩) | (go_at_call 37; refine (HGN.out).mono ?_; rintro e w5 ⟨⟨⟨hA, hn', hc'⟩, rfl, hd5⟩, hb5⟩; have HB5 := Lib.hid hb5; have HD5 := Lib.hid hd5; clear hb5 hd5))
                    have hal := alloc_below w5 (.cells #[.int .i64 s1, .int .i64 k1, .slice hA hn' hc'] 54)
                    have hbl := blk_new w5 (.cells #[.int .i64 s1, .int .i64 k1, .slice hA hn' hc'] 54)
                    have HBO6 := Lib.hid ((HBO2.out.below HB5.out).below hal)
                    have HB6 := Lib.hid (chainC (Nat.le_refl _) (chainC (Nat.le_refl _) HB2.out HB5.out) hal)
                    have HD6 := Lib.hid (HD5.out.move (Bt.below (Nat.le_trans HB2.out.size HB5.out.size) hal))
                    have hx6 := (hal.block bx (Nat.lt_of_lt_of_le (blk_lt HBX.out) HB5.out.size)).trans ((HB5.out.block bx (blk_lt HBX.out)).trans HBX.out)
                    obtain ⟨bz, hbz⟩ : ∃ bz, bz = w5.heap.size := ⟨_, rfl⟩
                    rw [← hbz] at hbl ⊢
                    generalize w5.alloc (.cells #[.int .i64 s1, .int .i64 k1, .slice hA hn' hc'] 54) = W6 at HBO6 HB6 HD6 hx6 hbl ⊢
                    have i4 := blk_cell hx6 4
                    have z0 := blk_cell hbl 0
                    have z1 := blk_cell hbl 1
                    have z2 := blk_cell hbl 2
                    have hbzl := blk_lt hbl
                    have HF6 := Lib.hid (HFI2.out W6 HB6.out)
                    have HR6 := Lib.hid (HRF.out W6 HBO6.out.r)
                    clear hal hbl hx6 hbz
                    go_upto_region 23 with (first | (go_at_call 38; refine (HF6.out).mono ?_; rintro e w7 ⟨rfl, rfl⟩) | (go_at_call 39; refine (HR6.out).mono ?_; rintro e w8 ⟨rfl, rfl⟩))
                    have r0 : w8.drew.cell? ⟨gr, 0, none⟩ = some (.slice (some ⟨bb, 0, none⟩) t cr) := HBO6.out.r.c0
                    have HS0 : Hid (w8.drew.cell? ⟨bz, 0, none⟩ = some (.int .i64 s1) ∧ w8.drew.cell? ⟨bz, 1, none⟩ = some (.int .i64 k1) ∧ w8.drew.cell? ⟨bz, 2, none⟩ = some (.slice hA hn' hc') ∧ w8.drew.cell? ⟨gr, 0, none⟩ = some (.slice (some ⟨bb, 0, none⟩) t cr)) := Lib.hid ⟨z0, z1, z2, r0⟩
                    have HD8 : Hid (∀ o, DatF (w8.alloc o).drew w.heap.size (hA, hn', hc') d1) := Lib.hid (fun o => (HD6.out.move (Bt.below HB6.out.size (alloc_below w8 o))).move (keep_drewN _ 1 _))
                    have HBO8 : Hid (∀ o, Both (w8.alloc o).drew w.heap.size g v gr (.slice (some ⟨bb, 0, none⟩) t cr) es es n sz) := Lib.hid (fun o => (HBO6.out.below (alloc_below w8 o)).drewN 1)
                    have r1 : (w8.alloc (.cells #[.int .i64 s1, .int .i64 k1, .slice hA hn' hc'] 54)).cell? ⟨gr, 0, none⟩ = some (.slice (some ⟨bb, 0, none⟩) t cr) := (HBO8.out (.cells #[.int .i64 s1, .int .i64 k1, .slice hA hn' hc'] 54)).r.c0
                    have HB8 : Hid (∀ o, Below w.heap.size w (w8.alloc o).drew) := Lib.hid (fun o => pw_below_drewN (chainC (Nat.le_refl _) HB6.out (alloc_below w8 o)) 1)
                    refine wp_region_noPanic ?_
                    refine start_ (n := 32) (S := fun w' => w'.cell? ⟨bz, 0, none⟩ = some (.int .i64 s1) ∧ w'.cell? ⟨bz, 1, none⟩ = some (.int .i64 k1) ∧ w'.cell? ⟨bz, 2, none⟩ = some (.slice hA hn' hc') ∧ w'.cell? ⟨gr, 0, none⟩ = some (.slice (some ⟨bb, 0, none⟩) t cr)) (ds := []) #[false, false, false, false, false, false, false, false, false, false, false, false, false, false, false, false, false, false, false, false, false, false, false, false, false, false, false, false, false, false, false, false] (by kernel_rfl) rfl rfl HS0.out (fun hHeld => ?_)
                    refine pure_ (i := 0) (N := some 99) (v := ?_) (a' := ?_) #[true, false, false, false, false, false, false, false, false, false, false, false, false, false, false, false, false, false, false, false, false, false, false, false, false, false, false, false, false, false, false, false] rfl rfl (by kernel_rfl) (fun _ _ _ h => h) (Or.inl ⟨by rfl, ?_⟩) ?_ ?_
                    rotate_left
                    · intro w'
                      go_simp
                      with_reducible rfl
                    rotate_left
                    · simp only [Act.put, List.setIfInBounds_toArray, List.set_cons_zero, List.set_cons_succ]
                      rfl
                    refine pure_ (i := 1) (N := some 100) (v := ?_) (a' := ?_) #[true, true, false, false, false, false, false, false, false, false, false, false, false, false, false, false, false, false, false, false, false, false, false, false, false, false, false, false, false, false, false, false] rfl rfl (by kernel_rfl) (fun _ _ _ h => h) (Or.inl ⟨by rfl, ?_⟩) ?_ ?_
                    rotate_left
                    · intro w'
                      go_simp
                      with_reducible rfl
                    rotate_left
                    · simp only [Act.put, List.setIfInBounds_toArray, List.set_cons_zero, List.set_cons_succ]
                      rfl
                    refine pure_ (i := 2) (N := some 101) (v := ?_) (a' := ?_) #[true, true, true, false, false, false, false, false, false, false, false, false, false, false, false, false, false, false, false, false, false, false, false, false, false, false, false, false, false, false, false, false] rfl rfl (by kernel_rfl) (fun _ _ _ h => h) (Or.inl ⟨by rfl, ?_⟩) ?_ ?_
                    rotate_left
                    · intro w'
                      go_simp
                      with_reducible rfl
                    rotate_left
                    · simp only [Act.put, List.setIfInBounds_toArray, List.set_cons_zero, List.set_cons_succ]
                      rfl
                    refine pure_ (i := 3) (N := some 102) (v := ?_) (a' := ?_) #[true, true, true, true, false, false, false, false, false, false, false, false, false, false, false, false, false, false, false, false, false, false, false, false, false, false, false, false, false, false, false, false] rfl rfl (by kernel_rfl) (fun _ _ _ h => h) (Or.inl ⟨by rfl, ?_⟩) ?_ ?_
                    rotate_left
                    · intro w'
                      go_simp
                      with_reducible rfl
                    rotate_left
                    · simp only [Act.put, List.setIfInBounds_toArray, List.set_cons_zero, List.set_cons_succ]
                      rfl
                    refine pure_ (i := 4) (N := some 103) (v := ?_) (a' := ?_) #[true, true, true, true, true, false, false, false, false, false, false, false, false, false, false, false, false, false, false, false, false, false, false, false, false, false, false, false, false, false, false, false] rfl rfl (by kernel_rfl) (fun _ _ _ h => h) (Or.inl ⟨by rfl, ?_⟩) ?_ ?_
                    rotate_left
                    · intro w'
                      go_simp
                      with_reducible rfl
                    rotate_left
                    · simp only [Act.put, List.setIfInBounds_toArray, List.set_cons_zero, List.set_cons_succ]
                      rfl
                    refine pure_ (i := 5) (N := some 104) (v := ?_) (a' := ?_) #[true, true, true, true, true, true, false, false, false, false, false, false, false, false, false, false, false, false, false, false, false, false, false, false, false, false, false, false, false, false, false, false] rfl rfl (by kernel_rfl) (fun _ _ _ h => h) (Or.inl ⟨by rfl, ?_⟩) ?_ ?_
                    rotate_left
                    · intro w'
                      go_simp
                      with_reducible rfl
                    rotate_left
                    · simp only [Act.put, List.setIfInBounds_toArray, List.set_cons_zero, List.set_cons_succ]
                      rfl
                    refine pure_ (i := 6) (N := some 105) (v := ?_) (a' := ?_) #[true, true, true, true, true, true, true, false, false, false, false, false, false, false, false, false, false, false, false, false, false, false, false, false, false, false, false, false, false, false, false, false] rfl rfl (by kernel_rfl) (fun _ _ _ h => h) (Or.inl ⟨by rfl, ?_⟩) ?_ ?_
                    rotate_left
                    · intro w'
                      go_simp
                      with_reducible rfl
                    rotate_left
                    · simp only [Act.put, List.setIfInBounds_toArray, List.set_cons_zero, List.set_cons_succ]
                      rfl
                    refine pure_ (i := 9) (N := some 108) (v := ?_) (a' := ?_) #[true, true, true, true, true, true, true, false, false, true, false, false, false, false, false, false, false, false, false, false, false, false, false, false, false, false, false, false, false, false, false, false] rfl rfl (by kernel_rfl) (fun _ _ _ h => h) (Or.inl ⟨by rfl, ?_⟩) ?_ ?_
                    rotate_left
                    · intro w'
                      go_simp
                      with_reducible rfl
                    rotate_left
                    · simp only [Act.put, List.setIfInBounds_toArray, List.set_cons_zero, List.set_cons_succ]
                      rfl
                    refine pure_ (i := 10) (N := some 109) (v := ?_) (a' := ?_) #[true, true, true, true, true, true, true, false, false, true, true, false, false, false, false, false, false, false, false, false, false, false, false, false, false, false, false, false, false, false, false, false] rfl rfl (by kernel_rfl) (fun _ _ _ h => h) (Or.inl ⟨by rfl, ?_⟩) ?_ ?_
                    rotate_left
                    · intro w'
                      go_simp
                      with_reducible rfl
                    rotate_left
                    · simp only [Act.put, List.setIfInBounds_toArray, List.set_cons_zero, List.set_cons_succ]
                      rfl
                    refine pure_ (i := 11) (N := some 110) (v := ?_) (a' := ?_) #[true, true, true, true, true, true, true, false, false, true, true, true, false, false, false, false, false, false, false, false, false, false, false, false, false, false, false, false, false, false, false, false] rfl rfl (by kernel_rfl) (fun _ _ _ h => h) (Or.inl ⟨by rfl, ?_⟩) ?_ ?_
                    rotate_left
                    · intro w'
                      go_simp
                      with_reducible rfl
                    rotate_left
                    · simp only [Act.put, List.setIfInBounds_toArray, List.set_cons_zero, List.set_cons_succ]
                      rfl
                    refine pure_ (i := 13) (N := some 112) (v := ?_) (a' := ?_) #[true, true, true, true, true, true, true, false, false, true, true, true, false, true, false, false, false, false, false, false, false, false, false, false, false, false, false, false, false, false, false, false] rfl rfl (by kernel_rfl) (fun _ _ _ h => h) (Or.inl ⟨by rfl, ?_⟩) ?_ ?_
                    rotate_left
                    · intro w'
                      go_simp
                      with_reducible rfl
                    rotate_left
                    · simp only [Act.put, List.setIfInBounds_toArray, List.set_cons_zero, List.set_cons_succ]
                      rfl
                    refine pure_ (i := 14) (N := some 113) (v := ?_) (a' := ?_) #[true, true, true, true, true, true, true, false, false, true, true, true, false, true, true, false, false, false, false, false, false, false, false, false, false, false, false, false, false, false, false, false] rfl rfl (by kernel_rfl) (fun _ _ _ h => h) (Or.inl ⟨by rfl, ?_⟩) ?_ ?_
                    rotate_left
                    · intro w'
                      go_simp
                      with_reducible rfl
                    rotate_left
                    · simp only [Act.put, List.setIfInBounds_toArray, List.set_cons_zero, List.set_cons_succ]
                      rfl
                    refine pure_ (i := 15) (N := some 114) (v := ?_) (a' := ?_) #[true, true, true, true, true, true, true, false, false, true, true, true, false, true, true, true, false, false, false, false, false, false, false, false, false, false, false, false, false, false, false, false] rfl rfl (by kernel_rfl) (fun _ _ _ h => h) (Or.inl ⟨by rfl, ?_⟩) ?_ ?_
                    rotate_left
                    · intro w'
                      go_simp
                      with_reducible rfl
                    rotate_left
                    · simp only [Act.put, List.setIfInBounds_toArray, List.set_cons_zero, List.set_cons_succ]
                      rfl
                    refine take_ (i := 7) (N := some 106) (v := ?_) (a' := ?_) #[true, true, true, true, true, true, true, true, false, true, true, true, false, true, true, true, false, false, false, false, false, false, false, false, false, false, false, false, false, false, false, false] rfl rfl (by kernel_rfl) (fun _ _ _ h => h) (Or.inl ⟨by rfl, ?_⟩) hHeld ?_ ?_
                    rotate_left
                    · rintro w' ⟨s0, s1, s2, s3⟩
                      go_simp
                      with_reducible rfl
                    rotate_left
                    · simp only [Act.put, List.setIfInBounds_toArray, List.set_cons_zero, List.set_cons_succ]
                      rfl
                    refine take_ (i := 12) (N := some 111) (v := ?_) (a' := ?_) #[true, true, true, true, true, true, true, true, false, true, true, true, true, true, true, true, false, false, false, false, false, false, false, false, false, false, false, false, false, false, false, false] rfl rfl (by kernel_rfl) (fun _ _ _ h => h) (Or.inl ⟨by rfl, ?_⟩) hHeld ?_ ?_
                    rotate_left
                    · rintro w' ⟨s0, s1, s2, s3⟩
                      go_simp
                      with_reducible rfl
                    rotate_left
                    · simp only [Act.put, List.setIfInBounds_toArray, List.set_cons_zero, List.set_cons_succ]
                      rfl
                    refine pure_ (i := 16) (N := some 115) (v := ?_) (a' := ?_) #[true, true, true, true, true, true, true, true, false, true, true, true, true, true, true, true, true, false, false, false, false, false, false, false, false, false, false, false, false, false, false, false] rfl rfl (by kernel_rfl) (fun _ _ _ h => h) (Or.inl ⟨by rfl, ?_⟩) ?_ ?_
                    rotate_left
                    · intro w'
                      go_simp
                      with_reducible rfl
                    rotate_left
                    · simp only [Act.put, List.setIfInBounds_toArray, List.set_cons_zero, List.set_cons_succ]
                      rfl
                    refine one_ (i := 8) (N := some 107) #[true, true, true, true, true, true, true, true, true, true, true, true, true, true, true, true, true, false, false, false, false, false, false, false, false, false, false, false, false, false, false, false] rfl rfl (by kernel_rfl) (by decide) (fun K hK => ?_)
                    refine value_ (w1 := ?_) (v := ?_) (by rfl) rfl ?_ ?_
                    rotate_left 2
                    · go_simp
                      constructor
                      · rfl
                      · rfl
                    clear hHeld
                    refine hK.out _ _ ?_ (fun hHeld => ?_)
                    · go_keep
                    clear hK K
                    refine norm_ (a' := ?_) ?_ ?_
                    rotate_left
                    · show Act.put _ (some 107) _ = _
                      simp only [Act.put, List.setIfInBounds_toArray, List.set_cons_zero, List.set_cons_succ]
                      rfl
                    refine one_ (i := 17) (N := some 116) #[true, true, true, true, true, true, true, true, true, true, true, true, true, true, true, true, true, true, false, false, false, false, false, false, false, false, false, false, false, false, false, false] rfl rfl (by kernel_rfl) (by decide) (fun K hK => ?_)
                    refine goes_ (N := some 116) Try.func40 (by kernel_rfl) rfl #[.slice (some ⟨w8.heap.size, 0, none⟩) 1 1, .slice (some ⟨bb, P * 3, none⟩) 1 (cr - P)] (by rfl) rfl rfl (by simp only [List.map_toArray, List.map_cons, List.map_nil]; rfl) ?_
                    refine (same_mid HEN.out (h1 := (hA, hn', hc')) (W' := (w8.alloc _).drew) (blk_new w8 _) (HD8.out _) (HBO8.out _).r HD1.out 1 (cr - P)).mono ?_
                    rintro e w9 ⟨rfl, hq9⟩
                    refine ⟨_, rfl, ?_⟩
                    have HBO9 : Hid (Both w9 w.heap.size g v gr (.slice (some ⟨bb, 0, none⟩) t cr) es es n sz) := Lib.hid (by obtain ⟨q, rfl⟩ := hq9; exact (HBO8.out _).drewN q)
                    have HB9 : Hid (Below w.heap.size w w9) := Lib.hid (by obtain ⟨q, rfl⟩ := hq9; exact pw_below_drewN (HB8.out _) q)
                    have y0 : w9.cell? ⟨bz, 0, none⟩ = some (.int .i64 s1) ∧ w9.cell? ⟨bz, 1, none⟩ = some (.int .i64 k1) ∧ w9.cell? ⟨bz, 2, none⟩ = some (.slice hA hn' hc') ∧ w9.cell? ⟨gr, 0, none⟩ = some (.slice (some ⟨bb, 0, none⟩) t cr) := by obtain ⟨q, rfl⟩ := hq9; exact hHeld
                    clear hq9
                    clear hHeld
                    refine hK.out _ _ ?_ (fun hHeld => ?_)
                    · exact y0
                    clear hK K
                    refine norm_ (a' := ?_) ?_ ?_
                    rotate_left
                    · show Act.put _ (some 116) _ = _
                      simp only [Act.put, List.setIfInBounds_toArray, List.set_cons_zero, List.set_cons_succ]
                      rfl
                    refine pure_ (i := 18) (N := some 117) (v := ?_) (a' := ?_) #[true, true, true, true, true, true, true, true, true, true, true, true, true, true, true, true, true, true, true, false, false, false, false, false, false, false, false, false, false, false, false, false] rfl rfl (by kernel_rfl) (fun _ _ _ h => h) (Or.inl ⟨by rfl, ?_⟩) ?_ ?_
                    rotate_left
                    · intro w'
                      go_simp
                      with_reducible rfl
                    rotate_left
                    · simp only [Act.put, List.setIfInBounds_toArray, List.set_cons_zero, List.set_cons_succ]
                      rfl
                    refine pure_ (i := 19) (N := some 118) (v := ?_) (a' := ?_) #[true, true, true, true, true, true, true, true, true, true, true, true, true, true, true, true, true, true, true, true, false, false, false, false, false, false, false, false, false, false, false, false] rfl rfl (by kernel_rfl) (fun _ _ _ h => h) (Or.inl ⟨by rfl, ?_⟩) ?_ ?_
                    rotate_left
                    · intro w'
                      go_simp
                      with_reducible rfl
                    rotate_left
                    · simp only [Act.put, List.setIfInBounds_toArray, List.set_cons_zero, List.set_cons_succ]
                      rfl
                    refine pure_ (i := 20) (N := some 119) (v := undef) (a' := ?_) #[true, true, true, true, true, true, true, true, true, true, true, true, true, true, true, true, true, true, true, true, true, false, false, false, false, false, false, false, false, false, false, false] rfl rfl (by kernel_rfl) (fun _ _ _ h => h) (Or.inr ⟨by rfl, rfl⟩) ?_ ?_
                    rotate_left
                    · simp only [Act.put, List.setIfInBounds_toArray, List.set_cons_zero, List.set_cons_succ]
                      rfl
                    refine pure_ (i := 21) (N := some 120) (v := undef) (a' := ?_) #[true, true, true, true, true, true, true, true, true, true, true, true, true, true, true, true, true, true, true, true, true, true, false, false, false, false, false, false, false, false, false, false] rfl rfl (by kernel_rfl) (fun _ _ _ h => h) (Or.inr ⟨by rfl, rfl⟩) ?_ ?_
                    rotate_left
                    · simp only [Act.put, List.setIfInBounds_toArray, List.set_cons_zero, List.set_cons_succ]
                      rfl
                    refine pure_ (i := 22) (N := some 121) (v := undef) (a' := ?_) #[true, true, true, true, true, true, true, true, true, true, true, true, true, true, true, true, true, true, true, true, true, true, true, false, false, false, false, false, false, false, false, false] rfl rfl (by kernel_rfl) (fun _ _ _ h => h) (Or.inr ⟨by rfl, rfl⟩) ?_ ?_
                    rotate_left
                    · simp only [Act.put, List.setIfInBounds_toArray, List.set_cons_zero, List.set_cons_succ]
                      rfl
                    refine pure_ (i := 23) (N := some 122) (v := undef) (a' := ?_) #[true, true, true, true, true, true, true, true, true, true, true, true, true, true, true, true, true, true, true, true, true, true, true, true, false, false, false, false, false, false, false, false] rfl rfl (by kernel_rfl) (fun _ _ _ h => h) (Or.inr ⟨by rfl, rfl⟩) ?_ ?_
                    rotate_left
                    · simp only [Act.put, List.setIfInBounds_toArray, List.set_cons_zero, List.set_cons_succ]
                      rfl
                    refine pure_ (i := 24) (N := some 123) (v := undef) (a' := ?_) #[true, true, true, true, true, true, true, true, true, true, true, true, true, true, true, true, true, true, true, true, true, true, true, true, true, false, false, false, false, false, false, false] rfl rfl (by kernel_rfl) (fun _ _ _ h => h) (Or.inr ⟨by rfl, rfl⟩) ?_ ?_
                    rotate_left
                    · simp only [Act.put, List.setIfInBounds_toArray, List.set_cons_zero, List.set_cons_succ]
                      rfl
                    refine pure_ (i := 25) (N := some 124) (v := undef) (a' := ?_) #[true, true, true, true, true, true, true, true, true, true, true, true, true, true, true, true, true, true, true, true, true, true, true, true, true, true, false, false, false, false, false, false] rfl rfl (by kernel_rfl) (fun _ _ _ h => h) (Or.inr ⟨by rfl, rfl⟩) ?_ ?_
                    rotate_left
                    · simp only [Act.put, List.setIfInBounds_toArray, List.set_cons_zero, List.set_cons_succ]
                      rfl
                    refine pure_ (i := 26) (N := some 125) (v := undef) (a' := ?_) #[true, true, true, true, true, true, true, true, true, true, true, true, true, true, true, true, true, true, true, true, true, true, true, true, true, true, true, false, false, false, false, false] rfl rfl (by kernel_rfl) (fun _ _ _ h => h) (Or.inr ⟨by rfl, rfl⟩) ?_ ?_
                    rotate_left
                    · simp only [Act.put, List.setIfInBounds_toArray, List.set_cons_zero, List.set_cons_succ]
                      rfl
                    refine pure_ (i := 27) (N := some 126) (v := undef) (a' := ?_) #[true, true, true, true, true, true, true, true, true, true, true, true, true, true, true, true, true, true, true, true, true, true, true, true, true, true, true, true, false, false, false, false] rfl rfl (by kernel_rfl) (fun _ _ _ h => h) (Or.inr ⟨by rfl, rfl⟩) ?_ ?_
                    rotate_left
                    · simp only [Act.put, List.setIfInBounds_toArray, List.set_cons_zero, List.set_cons_succ]
                      rfl
                    refine pure_ (i := 28) (N := some 127) (v := undef) (a' := ?_) #[true, true, true, true, true, true, true, true, true, true, true, true, true, true, true, true, true, true, true, true, true, true, true, true, true, true, true, true, true, false, false, false] rfl rfl (by kernel_rfl) (fun _ _ _ h => h) (Or.inr ⟨by rfl, rfl⟩) ?_ ?_
                    rotate_left
                    · simp only [Act.put, List.setIfInBounds_toArray, List.set_cons_zero, List.set_cons_succ]
                      rfl
                    refine pure_ (i := 29) (N := some 128) (v := ?_) (a' := ?_) #[true, true, true, true, true, true, true, true, true, true, true, true, true, true, true, true, true, true, true, true, true, true, true, true, true, true, true, true, true, true, false, false] rfl rfl (by kernel_rfl) (fun _ _ _ h => h) (Or.inl ⟨by rfl, ?_⟩) ?_ ?_
                    rotate_left
                    · intro w'
                      go_simp
                      with_reducible rfl
                    rotate_left
                    · simp only [Act.put, List.setIfInBounds_toArray, List.set_cons_zero, List.set_cons_succ]
                      rfl
                    refine pure_ (i := 30) (N := some 129) (v := ?_) (a' := ?_) #[true, true, true, true, true, true, true, true, true, true, true, true, true, true, true, true, true, true, true, true, true, true, true, true, true, true, true, true, true, true, true, false] rfl rfl (by kernel_rfl) (fun _ _ _ h => h) (Or.inl ⟨by rfl, ?_⟩) ?_ ?_
                    rotate_left
                    · intro w'
                      go_simp
                      with_reducible rfl
                    rotate_left
                    · simp only [Act.put, List.setIfInBounds_toArray, List.set_cons_zero, List.set_cons_succ]
                      rfl
                    refine pure_ (i := 31) (N := some 12) (v := ?_) (a' := ?_) #[true, true, true, true, true, true, true, true, true, true, true, true, true, true, true, true, true, true, true, true, true, true, true, true, true, true, true, true, true, true, true, true] rfl rfl (by kernel_rfl) (fun _ _ _ h => h) (Or.inl ⟨by rfl, ?_⟩) ?_ ?_
                    rotate_left
                    · intro w'
                      go_simp
                      with_reducible rfl
                    rotate_left
                    · simp only [Act.put, List.setIfInBounds_toArray, List.set_cons_zero, List.set_cons_succ]
                      rfl
                    refine done_ (by kernel_rfl) ?_
                    refine NoPanic.normal ?_
                    go_wp2_with fail
                    go_meet
                    case rel => exact ⟨rfl, rfl, _, _, _, HBO9, HG, HB9⟩
              · have hk2b : (dk == (2 : Int)) = false := beq_eq_false_iff_ne.2 hk2
                by_cases hk3 : dk = 3
                · subst hk3
                  as_aux_lemma =>
                    clear hk1 hk1b hk2 hk2b
                    have HFI := Lib.hid (first_ok W A3 c3 L HC2.out)
                    have HXW := Lib.hid (wf_first HLX.out)
                    generalize L.getD 0 0 = x at HFI HXW
                    obtain ⟨Ar, cr, hsr, rfl, _, hcr, hCr, _⟩ := HBO2.out.r.form
                    have hnil := fun e : Ar = none => (RBufIs.nil0 (e ▸ HBO2.out.r))
                    obtain ⟨t, ht⟩ : ∃ t, t = es.length := ⟨_, rfl⟩
                    obtain ⟨KK, hKK⟩ : ∃ KK, KK = oldN x t := ⟨_, rfl⟩
                    have hKt : KK ≤ t := by rw [hKK]; exact oldN_le x t
                    have HKE : Hid (KK ≤ es.length) := Lib.hid (by omega)
                    have HTL : Hid ((es.take KK).length = KK) := Lib.hid (by rw [List.length_take]; omega)
                    have hsl := sl_pre Ar t cr KK (by omega) (fun e => (hnil e).2.1)
                    have HNIL : Hid (Ar = none → t = 0 ∧ cr = 0) := Lib.hid (fun e => ⟨by rw [ht]; exact (hnil e).1, (hnil e).2.1⟩)
                    have hol := bold_ok (HBO2.out.drewN 1).b x HXW.out (good_len HG.out HNS.out.2.2.2)
                    rw [← ht] at hol HBO2
                    rw [← hKK] at hol
                    have HOL := Lib.hid hol
                    have HBOd : Hid (Both W.drew w.heap.size g v gr (.slice Ar t cr) es es n sz) := Lib.hid (HBO2.out.drewN 1)
                    have HBd : Hid (Below w.heap.size w W.drew) := Lib.hid (pw_below_drewN HB2.out 1)
                    have f0 : W.drew.cell? ⟨gr, 0, none⟩ = some (.slice Ar t cr) := HBOd.out.r.c0
                    have hlg : gr < W.drew.heap.size := HBOd.out.r.ltg
                    have htq : t ≤ 1024 := by have := HBO2.out.b.fit; have := HNS.out; omega
                    have HKX : Hid ((x < 0 ∧ KK = 0) ∨ (¬ x < 0 ∧ (t : Int) < x ∧ KK = t) ∨ (x = (KK : Int))) := Lib.hid (by
                      rw [hKK]; unfold oldN
                      by_cases h1 : x < 0
                      · exact .inl ⟨h1, if_pos h1⟩
                      · by_cases h2 : (t : Int) < x
                        · exact .inr (.inl ⟨h1, h2, by rw [if_neg h1, if_pos h2]⟩)
                        · exact .inr (.inr (by rw [if_neg h1, if_neg h2]; omega)))
                    have HCR : Hid (t ≤ cr) := Lib.hid (by omega)
                    clear hKK ht hol hcr hCr hnil
                    obtain ⟨mx, hmx⟩ : ∃ mx : Int, (if x < 0 then (0 : Int) else x) = mx := ⟨_, rfl⟩
                    have hmn : (if (t : Int) < mx then (t : Int) else mx) = (KK : Int) := by
                      rw [← hmx]
                      rcases HKX.out with ⟨h1, h2⟩ | ⟨h1, h2, h3⟩ | h1
                      · rw [if_pos h1, if_neg (by omega)]; omega
                      · rw [if_neg h1, if_pos h2]; omega
                      · rw [if_neg (by omega), if_neg (by omega)]; exact h1
                    cases Ar with
                    | none =>
                      obtain ⟨h5, h6⟩ := HNIL.out rfl
                      obtain rfl : KK = 0 := by omega
                      subst h5 h6
                      have hmn0 : (if (0 : Int) < mx then (0 : Int) else mx) = 0 := hmn
                      clear hsl hmn
                      go_wp2_with (go_at_call 38; refine (HFI.out).mono ?_; rintro e w4 ⟨rfl, rfl⟩)
                      go_region_held3 (fun w' => w'.cell? ⟨gr, 0, none⟩ = some (.slice none 0 0)) (go_keep) (first | (go_at_call 33; refine (HOL.out).mono ?_; rintro e w5 ⟨⟨v5, rfl, hr5⟩, hb5⟩; have g0 := (hb5.cell (p := ⟨gr, 0, none⟩) hlg).trans f0; have HBO5 := Lib.hid (HBOd.out.below hb5); obtain ⟨A5, c5, hs5, hv5, _, _, hC5, hE5⟩ := hr5.form; rw [HTL.out] at hv5; subst hv5; have HSM := Lib.hid (bsame_take _ HKE.out A5 c5 hs5 hC5 hE5 HBO5.out.r (good_len HG.out HNS.out.2.2.2)); have HB5 := Lib.hid (chainC (Nat.le_refl _) HBd.out hb5); clear hr5 hb5 hC5 hE5) | (go_at_call 40; refine (HSM.out).mono ?_; rintro e w6 ⟨rfl, hq6⟩; have j0 : w6.cell? ⟨gr, 0, none⟩ = some (.slice none 0 0) := (by obtain ⟨q, rfl⟩ := hq6; exact g0); have HBO6 : Hid (Both w6 w.heap.size g v gr (.slice none 0 0) es es n sz) := Lib.hid (by obtain ⟨q, rfl⟩ := hq6; exact HBO5.out.drewN q); have HB6 : Hid (Below w.heap.size w w6) := Lib.hid (by obtain ⟨q, rfl⟩ := hq6; exact pw_below_drewN HB5.out q); clear hq6))
                      all_goals
                        go_wp2_with fail
                        go_meet
                        case rel => exact ⟨rfl, rfl, _, _, _, HBO6, HG, HB6⟩
                    | some ad =>
                      obtain ⟨bb, rfl⟩ := HBO2.out.r.adr
                      have hq1 : (KK : Int) ≤ (cr : Int) := by have := HCR.out; omega
                      have hq0 : (0 : Int) ≤ (KK : Int) := by omega
                      clear hsl
                      go_wp2_with (go_at_call 38; refine (HFI.out).mono ?_; rintro e w4 ⟨rfl, rfl⟩)
                      go_region_held3 (fun w' => w'.cell? ⟨gr, 0, none⟩ = some (.slice (some ⟨bb, 0, none⟩) t cr)) (go_keep) (first | (go_at_call 33; refine (HOL.out).mono ?_; rintro e w5 ⟨⟨v5, rfl, hr5⟩, hb5⟩; have g0 := (hb5.cell (p := ⟨gr, 0, none⟩) hlg).trans f0; have HBO5 := Lib.hid (HBOd.out.below hb5); obtain ⟨A5, c5, hs5, hv5, _, _, hC5, hE5⟩ := hr5.form; rw [HTL.out] at hv5; subst hv5; have HSM := Lib.hid (bsame_take _ HKE.out A5 c5 hs5 hC5 hE5 HBO5.out.r (good_len HG.out HNS.out.2.2.2)); have HB5 := Lib.hid (chainC (Nat.le_refl _) HBd.out hb5); clear hr5 hb5 hC5 hE5) | (go_at_call 40; refine (HSM.out).mono ?_; rintro e w6 ⟨rfl, hq6⟩; have j0 : w6.cell? ⟨gr, 0, none⟩ = some (.slice (some ⟨bb, 0, none⟩) t cr) := (by obtain ⟨q, rfl⟩ := hq6; exact g0); have HBO6 : Hid (Both w6 w.heap.size g v gr (.slice (some ⟨bb, 0, none⟩) t cr) es es n sz) := Lib.hid (by obtain ⟨q, rfl⟩ := hq6; exact HBO5.out.drewN q); have HB6 : Hid (Below w.heap.size w w6) := Lib.hid (by obtain ⟨q, rfl⟩ := hq6; exact pw_below_drewN HB5.out q); clear hq6))
                      all_goals
                        go_wp2_with fail
                        go_meet
                        case rel => exact ⟨rfl, rfl, _, _, _, HBO6, HG, HB6⟩
                · have hk3b : (dk == (3 : Int)) = false := beq_eq_false_iff_ne.2 hk3
                  by_cases hk4 : dk = 4
                  · subst hk4
                    as_aux_lemma =>
                      clear hk1 hk1b hk2 hk2b hk3 hk3b
                      have hgd := good_drop L HG.out
                      have hdb := fun W' (h : BufIs W' w.heap.size g v es n sz) (okS : Nat → Prop) (hF : Kd.F (Kd.int .i64) W' okS A3 L.length L) (hS : ∀ k, okS k → ¬ BufS g v k) => bdrop_ok h A3 c3 L okS hF hS (by have := HLL.out.1; omega)
                      have hdr := fun W' (h : RBufIs W' w.heap.size gr vr es n sz) (hC : Kd.C (Kd.int .i64) W' A3 L.length L) => rdrop_ok h A3 c3 L hC (by have := HLL.out.1; omega)
                      rw [drop_filter L HG.out.1] at hdb
                      generalize es.filter (keepE L) = es2 at hgd hdb hdr
                      generalize ((es.length : Int) - (es2.length : Int)) = cnt at hdb hdr
                      have HGD := Lib.hid hgd
                      have HDB := Lib.hid hdb
                      have HDR := Lib.hid hdr
                      clear hgd hdb hdr e0 e1 e2 e3
                      go_upto_region 28 with fail
                      have hlow : ∀ k, k < w.heap.size → ¬ BufS g v k := fun k hk hs => by have := HBO2.out.b.lowS k hs; omega
                      have HW1 := Lib.hid (HDB.out W.drew (HBO2.out.drewN 1).b (fun k => k < w.heap.size) (F_came HCW.out (pw_below_drewN HB2.out 1)) hlow)
                      have HBOd : Hid (Both W.drew w.heap.size g v gr vr es es n sz) := Lib.hid (HBO2.out.drewN 1)
                      have HBd : Hid (Below w.heap.size w W.drew) := Lib.hid (pw_below_drewN HB2.out 1)
                      have HXd : Hid (W.drew.heap[bx]? = _) := Lib.hid HBX.out
                      have f4 : W.drew.cell? ⟨bx, 4, none⟩ = some (.slice A3 L.length c3) := e4
                      clear hlow
                      go_region_held3 (fun w' => w'.cell? ⟨bx, 4, none⟩ = some (.slice A3 L.length c3)) (go_keep) (first | (go_at_call 35; refine (HW1.out).mono ?_; rintro e w4 ⟨rfl, v4, hB4, hv4, hm4⟩; have HX4 := Lib.hid ((hm4.block bx (blk_lt HXd.out) (HBOd.out.far HXd.out (by decide) (by decide) (by decide)).1).trans HXd.out); have g4 := blk_cell HX4.out 4; have HBO4 := Lib.hid (HBOd.out.putB hB4 hm4 (.inl hv4)); have HB4 := Lib.hid (HBOd.out.b.belowS HBd.out hm4); have HW2 := Lib.hid (HDR.out w4 HBO4.out.r (Kd.C_below HCW.out HB4.out)); clear hB4 hm4 hv4) | (go_at_call 41; refine (HW2.out).mono ?_; rintro e w5 ⟨rfl, v5, hB5, hm5, hv5⟩; have HX5 := Lib.hid ((hm5.block bx (blk_lt HX4.out) (HBO4.out.far HX4.out (by decide) (by decide) (by decide)).2).trans HX4.out); have j4 := blk_cell HX5.out 4; have HBO5 := Lib.hid (HBO4.out.putR hB5 hm5 (.inr hv5)); have HB5 := Lib.hid (Mods.toBelow HB4.out hm5 HB4.out.size (fun i e => by rw [e]; exact HBO4.out.r.lo)); clear hB5 hm5 hv5))
                      all_goals
                        go_wp2_with fail
                        go_meet
                        case rel => exact ⟨rfl, rfl, _, _, _, HBO5, HGD, HB5⟩
                  · have hk4b : (dk == (4 : Int)) = false := beq_eq_false_iff_ne.2 hk4
                    clear hk1 hk2 hk3 hk4
                    go_wp2_with fail
                    go_meet
                    case rel => exact ⟨rfl, rfl, _, _, _, HBO2, HG, HB2⟩
          case rest =>
            obtain ⟨rfl, rfl, v, vr, es, HBO, HG, HB⟩ := hcut
            clear HBX HBXL HC2 HD2 HB2 HBO2 HLL
            obtain ⟨Ar, cr, hsr, rfl, _, _, _, _⟩ := HBO.out.r.form
            obtain ⟨t, ht⟩ : ∃ t, t = es.length := ⟨_, rfl⟩
            have HBO1 : Hid (Both wc.drew w.heap.size g v gr (.slice Ar es.length cr) es es n sz) := Lib.hid (HBO.out.drewN 1)
            have HB1 : Hid (Below w.heap.size w wc.drew) := Lib.hid (pw_below_drewN HB.out 1)
            have htn : t ≤ 1024 := by have := HBO.out.b.fit; have := HNS.out; omega
            have hll := blen_ok HBO1.out.b
            have hff := bfull_ok HBO1.out.b
            have hold := fun W' (h : BufIs W' w.heap.size g v es n sz) => bold_ok h (es.length : Int) (WalkArith.wf_i64 (by omega)) (good_len HG.out HNS.out.2.2.2)
            rw [oldN_all _ _ (Int.le_refl _), List.take_length] at hold
            have hsame := fun (W' : World) (A5 : Option Addr) (c5 : Nat) (hs5 : List Eh) (hC5 : Kd.C kEh W' A5 hs5.length hs5) (hE5 : EAll W' w.heap.size hs5 es) (h : RBufIs W' w.heap.size gr (.slice Ar es.length cr) es n sz) => bsame_ok A5 c5 hs5 hC5 hE5 h (good_len HG.out HNS.out.2.2.2)
            have c0 := HBO1.out.r.c0
            rw [← ht] at hll hold hsame c0 HBO1
            have HT := Lib.hid ht.symm
            have HL := Lib.hid hll
            have HOLD := Lib.hid hold
            have HSAME := Lib.hid hsame
            have htt : ((t : Int) != (t : Int)) = false := by simp
            have ht5 : (t : Int) ≤ 1024 := by omega
            have hfb0 : decide (es.length = n) = ((t : Int) == (n : Int)) := by rw [Bool.eq_iff_iff, decide_eq_true_iff, beq_iff_eq]; omega
            rw [hfb0] at hff
            obtain ⟨bf, hbf⟩ : ∃ bf, ((t : Int) == (n : Int)) = bf := ⟨_, rfl⟩
            rw [hbf] at hff
            have hbb : (bf != bf) = false := by cases bf <;> rfl
            have HF := Lib.hid hff
            clear hll hold hff hfb0 ht hsame
            go_wp2_with fail
            go_region_held3 (fun w' => w'.cell? ⟨gr, 0, none⟩ = some (.slice Ar t cr)) (go_keep) (first | (go_at_call 34; refine (HL.out).mono ?_; rintro e w4 ⟨rfl, rfl⟩) | (go_at_call 42; refine (HF.out).mono ?_; rintro e w4 ⟨rfl, hq4⟩; have HBO4 : Hid (Both w4 w.heap.size g v gr (.slice Ar t cr) es es n sz) := Lib.hid (by obtain ⟨q, rfl⟩ := hq4; exact HBO1.out.drewN q); have f4 := HBO4.out.r.c0; have hlg4 := HBO4.out.r.ltg; have HB4 : Hid (Below w.heap.size w w4) := Lib.hid (by obtain ⟨q, rfl⟩ := hq4; exact pw_below_drewN HB1.out q); have HOL := Lib.hid (HOLD.out w4 HBO4.out.b); clear hq4) | (go_at_call 33; refine (HOL.out).mono ?_; rintro e w5 ⟨⟨v5, rfl, hr5⟩, hb5⟩; have f5 := (hb5.cell (p := ⟨gr, 0, none⟩) hlg4).trans f4; have HBO5 := Lib.hid (HBO4.out.below hb5); obtain ⟨A5, c5, hs5, rfl, hl5, _, hC5, hE5⟩ := hr5.form; have hsm := HSAME.out w5 A5 c5 hs5 hC5 hE5 HBO5.out.r; have HSM := Lib.hid hsm; have HB5 := Lib.hid (chainC (Nat.le_refl _) HB4.out hb5); rw [HT.out]; clear hr5 hb5 hC5 hE5 hsm hl5) | (go_at_call 40; refine (HSM.out).mono ?_; rintro e w6 ⟨rfl, hq6⟩; have f6 : w6.cell? ⟨gr, 0, none⟩ = some (.slice Ar t cr) := (by obtain ⟨q, rfl⟩ := hq6; exact f5); have HBO6 : Hid (Both w6 w.heap.size g v gr (.slice Ar t cr) es es n sz) := Lib.hid (by obtain ⟨q, rfl⟩ := hq6; exact HBO5.out.drewN q); have HB6 : Hid (Below w.heap.size w w6) := Lib.hid (by obtain ⟨q, rfl⟩ := hq6; exact pw_below_drewN HB5.out q); clear hq6))
            all_goals
              go_wp2_with fail
              go_roundw
              case rel => exact ⟨k + 1, _, _, _, hkm, by go_num, HBO6, HG, HB6⟩
              case measure => exact step_measure hkm
    · obtain rfl : k = m := by omega
      clear hkm
      go_wp2_with fail
      go_ret
      exact ⟨rfl, HB.out⟩
end Go.Proofs.Ytnkgbnipcjgjeaa
