import Derived.Test.YtfmogmgdpamfgaaJe3
namespace Go.Proofs.Ytfmogmgdpamfgaa.Jd
open Go.RowKit Go.Proofs.YtfmogmgdpamfgaaW.PrintWords Go.Proofs.YtfmogmgdpamfgaaW.PrintLast Go.Proofs.YtfmogmgdpamfgaaW.PrintMore
set_option linter.unusedVariables false
set_option linter.unusedSimpArgs false
theorem WfN.steps {g : Ge} (k : Int) : ∀ (l : List Int) {n : Nat} {s : JS}, WfN g n s → (∀ x ∈ l, 0 ≤ x ∧ x ≤ 255) → WfN g (n + l.length) (stepsP g s k l).1
  | [], n, s, h, _ => h
  | x :: xs, n, s, h, hb => by
    have h1 := h.step k x (hb x List.mem_cons_self)
    show WfN g (n + (xs.length + 1)) (if (stepP g s k x).2 = true then stepsP g (stepP g s k x).1 k xs else ((stepP g s k x).1, false)).1
    split
    · have h2 := WfN.steps k xs h1 (fun y hy => hb y (List.mem_cons_of_mem _ hy))
      exact h2.mono (by omega)
    · exact h1.mono (by omega)
/-- The judge of a script: it, the variable that holds it, the geometry. -/
def SA (w0 w : World) (N0 p jv b0 : Nat) (g : Ge) (s : JS) (gb n : Nat) : Prop := ∃ t, At w0 w N0 p g t s gb ∧ WfN g n s ∧ w.heap[jv]? = some (.cells #[.pointer (some ⟨p, 0, none⟩)] 26 (0, 0)) ∧ t jv = 0 ∧ GBox w b0 g ∧ t b0 = 0
section
variable {w0 w w' : World} {N0 p jv b0 gb n : Nat} {g : Ge} {s s' : JS}
theorem SA.below (h : SA w0 w N0 p jv b0 g s gb n) (hb : Below w.heap.size w w') : SA w0 w' N0 p jv b0 g s gb n := by
  obtain ⟨t, a, b, c, d, e, f⟩ := h
  exact ⟨t, a.below hb, b, (hb.block jv (blk_lt c)).trans c, d, e.below hb, f⟩
theorem SA.mono {m : Nat} (h : SA w0 w N0 p jv b0 g s gb n) (hm : n ≤ m) : SA w0 w N0 p jv b0 g s gb m := by
  obtain ⟨t, a, b, c, d, e, f⟩ := h
  exact ⟨t, a, b.mono hm, c, d, e, f⟩
theorem SA.v (h : SA w0 w N0 p jv b0 g s gb n) : w.cell? ⟨jv, 0, none⟩ = some (.pointer (some ⟨p, 0, none⟩)) := by
  obtain ⟨t, a, b, c, d, e, f⟩ := h
  exact blk_cell c 0
theorem SA.geo (h : SA w0 w N0 p jv b0 g s gb n) : GBox w b0 g := by
  obtain ⟨t, a, b, c, d, e, f⟩ := h
  exact e
theorem SA.b (h : SA w0 w N0 p jv b0 g s gb n) : Below N0 w0 w := by
  obtain ⟨t, a, _⟩ := h
  exact a.b
theorem SA.steps (h : SA w0 w N0 p jv b0 g s gb n) (hn : n ≤ 700000) (k : Int) (l : List Int) (hby : ∀ x ∈ l, 0 ≤ x ∧ x ≤ 255) (hl : l.length ≤ 100) {E : JS × Bool} (hE : stepsP g s k l = E) (c ty : Nat) : Calls Try.prog 15 #[.int .i64 k, .slice (some ⟨w.heap.size, 0, none⟩) l.length c, .pointer (some ⟨jv, 0, none⟩)] (w.alloc (.cells (l.map (Value.int .u8)).toArray ty)) fun e w' => e = .returned (.bool E.2) ∧ SA w0 w' N0 p jv b0 g E.1 gb (n + 100) := by
  subst hE
  obtain ⟨t, a, b, c1, d, e, f⟩ := h
  have hab := alloc_below w (.cells (l.map (Value.int .u8)).toArray ty)
  have hz : t w.heap.size = 0 := by
    by_cases e : t w.heap.size = 0
    · exact e
    · exact absurd (JG.lt a.j _ e) (Nat.lt_irrefl _)
  have a1 := a.below hab
  have v1 := (hab.block jv (blk_lt c1)).trans c1
  have g1 := e.below hab
  refine (stepc_ok (c := c) k l hby hl b (by omega) a1.j (blk_new w _) hz v1 d).mono ?_
  rintro e' w2 ⟨rfl, t', hj, hx⟩
  have v2 := nxt_keep hx v1 d
  have g2 := nxt_keep hx g1 f
  exact ⟨rfl, t', a1.next hj hx, (b.steps k l hby).mono (by omega), v2.1, v2.2, g2.1, g2.2⟩
theorem SA.busy (h : SA w0 w N0 p jv b0 g s gb n) : Calls Try.prog 17 #[.pointer (some ⟨p, 0, none⟩)] w fun e w' => e = .returned (.bool s.busy) ∧ w' = w := by
  obtain ⟨t, a, b, c1, d, e, f⟩ := h
  obtain ⟨l1, r1, e1, d1, hj⟩ := a.j
  exact busy_ok hj b.pos
theorem SA.can (h : SA w0 w N0 p jv b0 g s gb n) (hn : n ≤ 700000) (row : Int) : Calls Try.prog 18 #[.pointer (some ⟨p, 0, none⟩), .int .i64 row] w fun e w' => e = .returned (.bool (canP g s row)) ∧ SA w0 w' N0 p jv b0 g s gb n := by
  have h0 := h
  obtain ⟨t, a, b, c1, d, e, f⟩ := h
  obtain ⟨l1, r1, e1, d1, hj⟩ := a.j
  refine (can_ok row b.hg b.c.sh hj).mono ?_
  rintro e' w2 ⟨rfl, hb⟩
  exact ⟨rfl, h0.below hb⟩
end
theorem e_d0' {g : Ge} (hg : g.ok) {b : Nat} {r0 r1 : Int} (hn : num [r0, r1] 0 = (b : Int) * g.pg) (h : inR g (num [r0, r1] 0) = true) : stepsP g (Zo (newP g).blocks 9 [r0, r1] 0) 1 [208] = (Zb (fbP g b 0) false [(b : Int)], true) := by
  have h1 := e_d0 g (newP g).blocks r0 r1 h
  have h2 : num [r0, r1] 0 / g.pg = (b : Int) := by
    rw [hn, Int.mul_ediv_cancel _ (by have := hg.2.2.1; omega)]
  rw [h2, fb_fresh] at h1
  exact h1
theorem and_one (st : Int) (h : 0 ≤ st ∧ st ≤ 255) : (bits .and .u8 st 1 = 0 ∨ bits .and .u8 st 1 = 1) := by
  have h0 : ∀ n : Fin 256, (bits .and .u8 ((n.val : Nat) : Int) 1 = 0 ∨ bits .and .u8 ((n.val : Nat) : Int) 1 = 1) := by decide +kernel
  have := h0 ⟨st.toNat, by omega⟩
  rw [show (((⟨st.toNat, by omega⟩ : Fin 256).val : Nat) : Int) = st from by show (st.toNat : Int) = st; omega] at this
  exact this
theorem or_e0 : bits .or .u8 224 0 = 224 ∧ bits .or .u8 224 1 = 225 := by decide +kernel
section
variable {g : Ge}
set_option maxHeartbeats 16000000 in
set_option maxRecDepth 100000 in
theorem jer_ok (hg : g.ok) (hs : g.bl ≤ 16 ∧ g.pg ≤ 12) (w : World) (b st : Int) (hb : 0 ≤ b ∧ b ≤ 255) (hst : 0 ≤ st ∧ st ≤ 255) (hsm : ∀ w, Calls Try.prog 12 #[g.v] w fun e w' => e = .returned (.bool true) ∧ Below w.heap.size w w') : Calls Try.prog 3 #[g.v, .int .u8 b, .int .u8 st] w fun e w' => e = .returned (.bool true) ∧ Below w.heap.size w w' := by
  have HSM := Lib.hid hsm
  have HRI := Lib.hid (gright_ok hg)
  have HNW := Lib.hid (jnew_ok hg)
  have HGG := Lib.hid hg
  have HS := Lib.hid hs
  have HST := Lib.hid hst
  have hbb : ∃ bN : Nat, bN < g.bl.toNat ∧ b.tmod g.bl = (bN : Int) ∧ ¬ g.bl = 0 := by
    have := hg.2.1
    refine ⟨(b % g.bl).toNat, ?_, ?_, by omega⟩
    · have := Int.emod_lt_of_pos b (show 0 < g.bl by omega)
      have := Int.emod_nonneg b (show g.bl ≠ 0 by omega)
      omega
    · rw [Int.tmod_eq_emod_of_nonneg hb.1]
      have := Int.emod_nonneg b (show g.bl ≠ 0 by omega)
      omega
  obtain ⟨bN, hbN, hmod, hbl0⟩ := hbb
  have HBN := Lib.hid hbN
  have hbw : IntKind.i64.wrap b = b := IntWalk.i64_in _ (by omega)
  clear hsm hg hs hb hst hbN
  have hab := alloc_below w (.cells #[.int .i64 g.pl, .int .i64 g.bl, .int .i64 g.pg, .int .i64 g.ch, .int .i64 g.ck, .int .i64 g.ru, .int .i64 g.pa] 23)
  have hgb := GBox.new w g
  have HB0 := Lib.hid hab
  have HG0 := Lib.hid hgb
  clear hab hgb
  unfold Ge.v
  go_enter Try.func3, Try.ntmps3
  go_upto_region 1 with fail
  generalize w.alloc (.cells #[.int .i64 g.pl, .int .i64 g.bl, .int .i64 g.pg, .int .i64 g.ch, .int .i64 g.ck, .int .i64 g.ru, .int .i64 g.pa] 23) = w0 at HB0 HG0 ⊢
  generalize hb0 : w.heap.size = b0 at HG0 ⊢
  have HBE := Lib.hid hb0
  clear hb0
  go_upto_region 3 with (go_at_call 11; refine (awake_ok _).mono ?_; rintro e w1 ⟨rfl, hb1⟩; have HB1 := Lib.hid (chainC (Nat.le_refl _) HB0.out hb1); have HG1 := Lib.hid (HG0.out.below hb1); clear hb1)
  obtain ⟨c0, c1, c2, c3, c4, c5, c6⟩ := HG1.out.c
  go_upto_region 5 with (first | (go_at_call 12; refine (HSM.out _).mono ?_; rintro e w3 ⟨rfl, hb3⟩; have HB3 := Lib.hid (chainC (Nat.le_refl _) HB1.out hb3); have HG3 := Lib.hid (HG1.out.below hb3); clear c0 c1 c2 c3 c4 c5 c6 hb3; obtain ⟨c0, c1, c2, c3, c4, c5, c6⟩ := HG3.out.c) | (go_at_call 13; refine (HRI.out _).mono ?_; rintro e w4 ⟨rfl, hb4⟩; have HB4 := Lib.hid (chainC (Nat.le_refl _) HB3.out hb4); have HG4 := Lib.hid (HG3.out.below hb4); clear hb4))
  clear c0 c1 c2 c3 c4 c5 c6 HB0 HB1 HB3 HG0 HG1 HG3
  obtain ⟨c0, c1, c2, c3, c4, c5, c6⟩ := HG4.out.c
  go_upto_region 8 with (go_at_call 14; refine (HNW.out _).mono ?_; rintro e w8 ⟨p, t, gb, rfl, hjg, hb8, hlo⟩; have HB8 := Lib.hid (chainC (Nat.le_refl _) HB4.out hb8); have HG8 := Lib.hid (HG4.out.below hb8); have HJ8 := Lib.hid hjg; have HLO := Lib.hid hlo; clear hb8 hjg hlo)
  clear c0 c1 c2 c3 c4 c5 c6
  have hA8 : At w w8 w.heap.size p g t (newP g) gb := ⟨HJ8.out, HB8.out, fun k hk => Nat.le_trans HB4.out.size (HLO.out k hk), HB8.out.size⟩
  have hab8 := alloc_below w8 (.cells #[.pointer (some ⟨p, 0, none⟩)] 26)
  have hlz : t w8.heap.size = 0 := by
    by_cases e : t w8.heap.size = 0
    · exact e
    · exact absurd (JG.lt HJ8.out _ e) (Nat.lt_irrefl _)
  have hbz : t b0 = 0 := by
    by_cases e : t b0 = 0
    · exact e
    · have h1 := HLO.out _ e
      have h2 := blk_lt HG4.out
      omega
  have hsa : SA w (w8.alloc (.cells #[.pointer (some ⟨p, 0, none⟩)] 26)) w.heap.size p w8.heap.size b0 g (newP g) gb 0 := ⟨t, hA8.below hab8, WfN.new HGG.out, blk_new w8 _, hlz, HG8.out.below hab8, hbz⟩
  have HSA := Lib.hid hsa
  clear hA8 hab8 hlz hbz hsa HJ8 HLO HG8 HB8 HB4 HG4
  generalize w8.alloc (.cells #[.pointer (some ⟨p, 0, none⟩)] 26) = w9 at HSA ⊢
  generalize w8.heap.size = jv at HSA ⊢
  obtain ⟨c0, c1, c2, c3, c4, c5, c6⟩ := HSA.out.geo.c
  have v0 := HSA.out.v
  obtain ⟨rN, hrN⟩ : ∃ rN : Nat, (bN : Int) * g.pg = (rN : Int) := by
    refine ⟨((bN : Int) * g.pg).toNat, ?_⟩
    have := Int.mul_nonneg (show (0 : Int) ≤ bN by omega) (show 0 ≤ g.pg by have := HGG.out.2.2.1; omega)
    omega
  have hr200 : rN < 192 := by
    have h1 : (bN : Int) * g.pg ≤ 15 * g.pg := Int.mul_le_mul_of_nonneg_right (by have := HBN.out; have := HS.out.1; omega) (by have := HGG.out.2.2.1; omega)
    have := HS.out.2
    omega
  have HRN := Lib.hid hrN
  have hrw : wrap64 ((bN : Int) * g.pg) = (rN : Int) := by rw [hrN]; exact w64i _ (by omega) (by omega)
  clear hrN
  go_upto_region 11 with fail
  rw [hrw]
  clear hrw hbw hmod hbl0
  have hnum : num [(rN : Int), (rN : Int) / 256] 0 = (bN : Int) * g.pg := by
    rw [HRN.out]
    show (rN : Int) + 256 * ((rN : Int) / 256) = rN
    omega
  have hin0 : inR g (num [(rN : Int), (rN : Int) / 256] 0) = true := by
    rw [hnum]
    have := row_in (g := g) (b := bN) (q := 0) (by have := HGG.out.2.2.1; omega) (by have := HBN.out; have := HGG.out.2.1; omega) (by have := HGG.out.2.2.1; omega)
    simpa using this
  have HADR := Lib.hid (e_adr g (newP g).blocks _ _ hin0)
  have HD0 := Lib.hid (e_d0' HGG.out hnum hin0)
  have HBY2 : Hid (∀ x ∈ [(rN : Int), (rN : Int) / 256], 0 ≤ x ∧ x ≤ 255) := Lib.hid (by
    intro x hx
    simp only [List.mem_cons, List.not_mem_nil, or_false] at hx
    rcases hx with rfl | rfl <;> omega)
  clear hnum hin0
  have hpg12 : g.pg ≤ 12 := HS.out.2
  have hpg4 : 4 ≤ g.pg := HGG.out.2.2.1.1
  go_upto_region 12 with (first
    | (go_at_call 15; refine (HSA.out.steps (by omega) 1 [255, 112] (by decide) (by decide) (e_ff g _) 2 _).mono ?_; rintro e wa1 ⟨rfl, hsa⟩; have HSA1 := Lib.hid hsa; clear HSA hsa v0; have v0 := HSA1.out.v)
    | (go_at_call 15; refine (HSA1.out.steps (by omega) 4 [224] (by decide) (by decide) (e_e0 g _ _) 1 _).mono ?_; rintro e wa2 ⟨rfl, hsa⟩; have HSA2 := Lib.hid hsa; clear HSA1 hsa v0; have v0 := HSA2.out.v)
    | (go_at_call 15; refine (HSA2.out.steps (by omega) 1 [96] (by decide) (by decide) (e_60 g _) 1 _).mono ?_; rintro e wa3 ⟨rfl, hsa⟩; have HSA3 := Lib.hid hsa; clear HSA2 hsa v0; have v0 := HSA3.out.v)
    | (go_at_call 15; refine (HSA3.out.steps (by omega) 2 [(rN : Int), (rN : Int) / 256] HBY2.out (by show 2 ≤ 100; decide) HADR.out 2 _).mono ?_; rintro e wa4 ⟨rfl, hsa⟩; have HSA4 := Lib.hid hsa; clear HSA3 hsa v0; have v0 := HSA4.out.v)
    | (go_at_call 15; refine (HSA4.out.steps (by omega) 1 [208] (by decide) (by decide) HD0.out 1 _).mono ?_; rintro e wa5 ⟨rfl, hsa⟩; have HSA5 := Lib.hid hsa; have HSB5 := Lib.hid hsa; clear HSA4 hsa v0; have v0 := HSA5.out.v)
    | (go_at_call 17; refine (HSB5.out.busy).mono ?_; rintro e wx ⟨rfl, rfl⟩; clear HSB5)
    | (go_at_call 15; refine (HSA5.out.steps (by omega) 1 [112] (by decide) (by decide) (e_70 g _ _) 1 _).mono ?_; rintro e wa6 ⟨rfl, hsa⟩; have HSA6 := Lib.hid hsa; clear HSA5 hsa v0; have v0 := HSA6.out.v)
    | (go_at_call 15; refine (HSA6.out.steps (by omega) 4 [128] (by decide) (by decide) (e_80 g _ _) 1 _).mono ?_; rintro e wa7 ⟨rfl, hsa⟩; have HSA7 := Lib.hid hsa; have HSB7 := Lib.hid hsa; clear HSA6 hsa v0; have v0 := HSA7.out.v)
    | (go_at_call 17; refine (HSB7.out.busy).mono ?_; rintro e wx ⟨rfl, rfl⟩; clear HSB7))
  rcases and_one st HST.out with hand | hand
  · as_aux_lemma =>
    have hor := or_e0.1
    go_upto_region 14 with (first
      | (go_at_call 15; refine (HSA7.out.steps (by omega) 4 [224] (by decide) (by decide) (e_e0 g _ _) 1 _).mono ?_; rintro e wa8 ⟨rfl, hsa⟩; have HSA8 := Lib.hid hsa; have HSB8 := Lib.hid hsa; clear HSA7 hsa v0; have v0 := HSA8.out.v)
      | (go_at_call 17; refine (HSB8.out.busy).mono ?_; rintro e wx ⟨rfl, rfl⟩; clear HSB8))
    clear c0 c1 c2 c3 c4 c5 c6
    obtain ⟨c0, c1, c2, c3, c4, c5, c6⟩ := HSA8.out.geo.c
    have HCA : Hid (∀ q : Nat, (q : Int) < g.pg → canP g (Zs (fbP g bN 0)) ((rN : Int) + q) = true) := Lib.hid (fun q hq => by rw [← HRN.out]; exact can_new HGG.out HBN.out (by omega))
    go_wp2_with fail
    clear c0 c1 c2 c3 c4 c5 c6
    go_loopw [107] (fun i wr => ∃ q : Nat, (q : Int) ≤ g.pg ∧ i = .int .i64 q ∧ Hid (SA w wr w.heap.size p jv b0 g (Zs (fbP g bN 0)) gb 1000)) (fun i _ => g.pg.toNat - (intOf i).toNat)
    case atStart => exact ⟨0, by omega, rfl, Lib.hid (HSA8.out.mono (by omega))⟩
    case round =>
      clear HSA8 v0
      obtain ⟨q, hq, rfl, HSA9⟩ := hrel
      have v0 := HSA9.out.v
      by_cases hqm : (q : Int) < g.pg
      · have HC9 := Lib.hid (HSA9.out.can (by omega) ((rN : Int) + q))
        have hcq := HCA.out q hqm
        rw [hcq] at HC9
        clear hcq
        go_wp2_with (go_at_call 18; refine (HC9.out).mono ?_; rintro e wx ⟨rfl, hsa⟩; have HSAx := Lib.hid hsa; clear hsa)
        go_roundw
        case rel => exact ⟨q + 1, by omega, by go_num, HSAx⟩
        case measure => exact step_measure (show q < g.pg.toNat by omega)
      · have HSA9x := HSA9.out
        obtain ⟨c0, c1, c2, c3, c4, c5, c6⟩ := HSA9.out.geo.c
        go_upto_region 22 with fail
        clear HSA9 v0
        have HSP := Lib.hid HSA9x
        go_wp2_with fail
        clear c0 c1 c2 c3 c4 c5 c6
        go_loopw [129] (fun i wr => ∃ q : Nat, (q : Int) ≤ g.pg ∧ i = .int .i64 q ∧ Hid (SA w wr w.heap.size p jv b0 g (Zs (fbP g bN q)) gb (1000 + 1000 * q))) (fun i _ => g.pg.toNat - (intOf i).toNat)
        case atStart => exact ⟨0, by omega, rfl, HSP⟩
        case round =>
          clear HSP
          obtain ⟨q, hq, rfl, HSA9⟩ := hrel
          have v0 := HSA9.out.v
          by_cases hqm : (q : Int) < g.pg
          · as_aux_lemma =>
            obtain ⟨kN, hkN⟩ : ∃ kN : Nat, (rN : Int) + q = (kN : Int) := ⟨rN + q, by omega⟩
            have hkw : wrap64 ((rN : Int) + q) = (kN : Int) := by rw [hkN]; exact w64i _ (by omega) (by omega)
            have hk204 : kN < 204 := by omega
            have hqn : q < g.pg.toNat := by omega
            have hgpg : 0 < g.pg := by omega
            have hnum4 : num [0, 0, (kN : Int), (kN : Int) / 256] 2 = (bN : Int) * g.pg + q := by
              rw [HRN.out, hkN]
              show (kN : Int) + 256 * ((kN : Int) / 256) = kN
              omega
            have hin4 : inR g (num [0, 0, (kN : Int), (kN : Int) / 256] 2) = true := by
              rw [hnum4]
              exact row_in hgpg (by have := HBN.out; have := HGG.out.2.1; omega) hqm
            have hraw : 1 ≤ g.raw := by
              have h1 := HGG.out.2.2.2.1.1
              have h2 := HGG.out.2.2.2.2.1.1
              have h3 : 0 ≤ g.ch * (g.ck + 2) := Int.mul_nonneg (by omega) (by omega)
              show 1 ≤ g.ch * (g.ck + 2) + 31
              omega
            have HA4 := Lib.hid (e_adr4 g (fbP g bN q) (kN : Int) ((kN : Int) / 256) hin4 (by omega))
            have HWR := Lib.hid (e_wr g (fbP g bN q) [0, 0, (kN : Int), (kN : Int) / 256] rfl st hraw)
            have H10 : Hid (stepsP g (Zo (fbP g bN q) 8 [0, 0, (kN : Int), (kN : Int) / 256] 1) 1 [16, 112] = (Zb (fbP g bN (q + 1)) true [], true)) := Lib.hid (by
              rw [e_10 g _ _ _ (by rw [hnum4]; exact can_next HGG.out HBN.out hqn), hnum4, (row_div hgpg hqm).1, (row_div hgpg hqm).2, fb_prog HBN.out hqn])
            have HBY4 : Hid (∀ x ∈ [(0 : Int), 0, (kN : Int), (kN : Int) / 256], 0 ≤ x ∧ x ≤ 255) := Lib.hid (by
              intro x hx
              simp only [List.mem_cons, List.not_mem_nil, or_false] at hx
              rcases hx with rfl | rfl | rfl | rfl <;> omega)
            have HBS : Hid (∀ x ∈ [st], 0 ≤ x ∧ x ≤ 255) := Lib.hid (by
              intro x hx
              rcases List.mem_singleton.1 hx with rfl
              exact HST.out)
            have HCO : Hid (∀ q2 : Nat, q2 < q → canP g (Zs (fbP g bN (q + 1))) ((rN : Int) + q2) = false) := Lib.hid (fun q2 hq2 => by rw [← HRN.out]; exact can_old HGG.out HBN.out hqn hq2)
            have HCT : Hid (canP g (Zs (fbP g bN (q + 1))) (kN : Int) = decide (1 < g.pa)) := Lib.hid (by rw [← hkN, ← HRN.out]; exact can_this HGG.out HBN.out hqn)
            have HKN := Lib.hid hkN
            clear hnum4 hin4 hraw hgpg hqn hkN HCA HSA9x
            go_upto_region 26 with fail
            try rw [HKN.out]
            try rw [hkw]
            clear hkw
            go_upto_region 28 with (first
              | (go_at_call 15; refine (HSA9.out.steps (by omega) 1 [128] (by decide) (by decide) (e_begin g _) 1 _).mono ?_; rintro e wb1 ⟨rfl, hsa⟩; have HSB1 := Lib.hid hsa; clear HSA9 hsa v0; have v0 := HSB1.out.v)
              | (go_at_call 15; refine (HSB1.out.steps (by omega) 2 [0, 0, (kN : Int), (kN : Int) / 256] HBY4.out (by show 4 ≤ 100; decide) HA4.out 4 _).mono ?_; rintro e wb2 ⟨rfl, hsa⟩; have HSB2 := Lib.hid hsa; clear HSB1 hsa v0; have v0 := HSB2.out.v)
              | (go_at_call 15; refine (HSB2.out.steps (by omega) 3 [st] HBS.out (by show 1 ≤ 100; decide) HWR.out 1 _).mono ?_; rintro e wb3 ⟨rfl, hsa⟩; have HSB3 := Lib.hid hsa; clear HSB2 hsa v0; have v0 := HSB3.out.v)
              | (go_at_call 15; refine (HSB3.out.steps (by omega) 1 [16, 112] (by decide) (by decide) H10.out 2 _).mono ?_; rintro e wb4 ⟨rfl, hsa⟩; have HSB4 := Lib.hid hsa; clear HSB3 hsa v0; have v0 := HSB4.out.v)
              | (go_at_call 15; refine (HSB4.out.steps (by omega) 4 [128, 224] (by decide) (by decide) (e_rd g _ _) 2 _).mono ?_; rintro e wb5 ⟨rfl, hsa⟩; have HSB5 := Lib.hid hsa; clear HSB4 hsa v0; have v0 := HSB5.out.v))
            have HSI := Lib.hid (HSB5.out.mono (show _ ≤ 1500 + 1000 * q by omega))
            clear HSB5 v0 HA4 HWR H10 HBY4 HBS
            go_wp2_with fail
            go_loopw [170] (fun i wr => ∃ q2 : Nat, (q2 : Int) ≤ (q : Int) ∧ i = .int .i64 q2 ∧ Hid (SA w wr w.heap.size p jv b0 g (Zs (fbP g bN (q + 1))) gb (1500 + 1000 * q))) (fun i _ => q - (intOf i).toNat)
            case atStart => exact ⟨0, by omega, rfl, HSI⟩
            case round =>
              clear HSI
              obtain ⟨q2, hq2, rfl, HSI⟩ := hrel
              have v0 := HSI.out.v
              by_cases hqm2 : (q2 : Int) < (q : Int)
              · have HC9 := Lib.hid (HSI.out.can (by omega) ((rN : Int) + q2))
                have hcq := HCO.out q2 (by omega)
                rw [hcq] at HC9
                clear hcq
                go_wp2_with (go_at_call 18; refine (HC9.out).mono ?_; rintro e wx ⟨rfl, hsa⟩; have HSAx := Lib.hid hsa; clear hsa)
                go_roundw
                case rel => exact ⟨q2 + 1, by omega, by go_num, HSAx⟩
                case measure => exact step_measure (show q2 < q by omega)
              · go_upto_region 34 with fail
                have hdb : Below wr.heap.size wr wr.drew := ⟨rfl, rfl, rfl, Nat.le_refl _, fun _ _ => rfl⟩
                have HC9 := Lib.hid ((HSI.out.below hdb).can (by omega) (kN : Int))
                obtain ⟨B, hB⟩ : ∃ B, decide (1 < g.pa) = B := ⟨_, rfl⟩
                rw [HCT.out, hB] at HC9
                have HHB := Lib.hid hB
                obtain ⟨_, _, _, _, _, _, c6⟩ := HSI.out.geo.c
                clear HCT HCO hdb
                cases B
                all_goals
                  go_region_held3 (fun W => W.cell? ⟨jv, 0, none⟩ = some (.pointer (some ⟨p, 0, none⟩)) ∧ W.cell? ⟨b0, 6, none⟩ = some (.int .i64 g.pa)) (first | exact ⟨v0, c6⟩ | exact ⟨f0, f6⟩) (first | (go_at_call 18; refine (HC9.out).mono ?_; rintro e wx ⟨rfl, hsa⟩; have HSAx := Lib.hid hsa; obtain ⟨_, _, _, _, _, _, f6⟩ := hsa.geo.c; have f0 := hsa.v; clear hsa))
                  have hB := HHB.out
                  go_wp2_with fail
                  go_roundw
                  case rel => exact ⟨q + 1, by omega, by go_num, Lib.hid (HSAx.out.mono (by omega))⟩
                  case measure => exact step_measure (show q < g.pg.toNat by omega)
          · go_wp2_with fail
            go_ret
            exact ⟨rfl, HBE.out ▸ HSA9.out.b⟩
  · as_aux_lemma =>
    have hor := or_e0.2
    go_upto_region 14 with (first
      | (go_at_call 15; refine (HSA7.out.steps (by omega) 4 [225] (by decide) (by decide) (e_e1 g _ _) 1 _).mono ?_; rintro e wa8 ⟨rfl, hsa⟩; have HSA8 := Lib.hid hsa; have HSB8 := Lib.hid hsa; clear HSA7 hsa v0; have v0 := HSA8.out.v)
      | (go_at_call 17; refine (HSB8.out.busy).mono ?_; rintro e wx ⟨rfl, rfl⟩; clear HSB8))
    clear c0 c1 c2 c3 c4 c5 c6
    obtain ⟨c0, c1, c2, c3, c4, c5, c6⟩ := HSA8.out.geo.c
    have HCA : Hid (∀ q : Nat, (q : Int) < g.pg → canP g (Zs (lostB (fbP g bN 0) [(bN : Int)])) ((rN : Int) + q) = false) := Lib.hid (fun q hq => by rw [← HRN.out]; exact can_lost HGG.out HBN.out (by omega))
    go_wp2_with fail
    clear c0 c1 c2 c3 c4 c5 c6
    go_loopw [107] (fun i wr => ∃ q : Nat, (q : Int) ≤ g.pg ∧ i = .int .i64 q ∧ Hid (SA w wr w.heap.size p jv b0 g (Zs (lostB (fbP g bN 0) [(bN : Int)])) gb 1000)) (fun i _ => g.pg.toNat - (intOf i).toNat)
    case atStart => exact ⟨0, by omega, rfl, Lib.hid (HSA8.out.mono (by omega))⟩
    case round =>
      clear HSA8 v0
      obtain ⟨q, hq, rfl, HSA9⟩ := hrel
      have v0 := HSA9.out.v
      by_cases hqm : (q : Int) < g.pg
      · have HC9 := Lib.hid (HSA9.out.can (by omega) ((rN : Int) + q))
        have hcq := HCA.out q hqm
        rw [hcq] at HC9
        clear hcq
        go_wp2_with (go_at_call 18; refine (HC9.out).mono ?_; rintro e wx ⟨rfl, hsa⟩; have HSAx := Lib.hid hsa; clear hsa)
        go_roundw
        case rel => exact ⟨q + 1, by omega, by go_num, HSAx⟩
        case measure => exact step_measure (show q < g.pg.toNat by omega)
      · have HC9 := Lib.hid (HSA9.out.can (by omega) (rN : Int))
        have hcq := HCA.out 0 (by omega)
        rw [show ((rN : Int) + (0 : Nat)) = rN from by omega] at hcq
        rw [hcq] at HC9
        clear hcq
        go_wp2_with (go_at_call 18; refine (HC9.out).mono ?_; rintro e wx ⟨rfl, hsa⟩; have HSAx := Lib.hid hsa; clear hsa)
        go_ret
        exact ⟨rfl, HBE.out ▸ HSAx.out.b⟩
end
end Go.Proofs.Ytfmogmgdpamfgaa.Jd

/- JudgeErases, of any geometry, block and status: the law's function answers true, and touches nothing that was there. -/
namespace Go.Proofs.Ytfmogmgdpamfgaa
open Go.RowKit Go.Proofs.YtfmogmgdpamfgaaW.PrintWords Go.Proofs.YtfmogmgdpamfgaaW.PrintLast Go.Proofs.YtfmogmgdpamfgaaW.PrintMore
set_option linter.unusedVariables false
theorem Jd.wf8e {x : Int} (h : (Lit.int .u8 x).wf = true) : 0 ≤ x ∧ x ≤ 255 := by
  simp [Lit.wf, IntKind.min, IntKind.max, IntKind.bits, IntKind.signed] at h
  exact h
theorem Jd.jer_all (g : Jd.Ge) (w : World) (b st : Int) (hb : 0 ≤ b ∧ b ≤ 255) (hst : 0 ≤ st ∧ st ≤ 255) : Calls Try.prog 3 #[g.v, .int .u8 b, .int .u8 st] w fun e w' => e = .returned (.bool true) ∧ Below w.heap.size w w' := by
  obtain ⟨B, hsz, hs⟩ := Jd.small_any g
  cases B with
  | false => exact Jd.jer_no w b st false hs (.inl rfl)
  | true =>
    by_cases h3 : g.ok
    · have h4 := hsz rfl
      exact Jd.jer_ok h3 ⟨h4.1, h4.2.1⟩ w b st hb hst hs
    · exact Jd.jer_no w b st true hs (.inr h3)
theorem judgeErases_walk (w : World) (x0 : (Int × Int × Int × Int × Int × Int × Int)) (hw0 : ((Lit.int .i64 x0.1).wf = true ∧ (Lit.int .i64 x0.2.1).wf = true ∧ (Lit.int .i64 x0.2.2.1).wf = true ∧ (Lit.int .i64 x0.2.2.2.1).wf = true ∧ (Lit.int .i64 x0.2.2.2.2.1).wf = true ∧ (Lit.int .i64 x0.2.2.2.2.2.1).wf = true ∧ (Lit.int .i64 x0.2.2.2.2.2.2).wf = true)) (x1 : Int) (hw1 : (Lit.int .u8 x1).wf = true) (x2 : Int) (hw2 : (Lit.int .u8 x2).wf = true) :
    Calls Try.prog 3 #[.agg #[.int .i64 x0.1, .int .i64 x0.2.1, .int .i64 x0.2.2.1, .int .i64 x0.2.2.2.1, .int .i64 x0.2.2.2.2.1, .int .i64 x0.2.2.2.2.2.1, .int .i64 x0.2.2.2.2.2.2], .int .u8 x1, .int .u8 x2] w fun e w' => e = .returned (.bool true) ∧ Below w.heap.size w w' :=
  Jd.jer_all ⟨x0.1, x0.2.1, x0.2.2.1, x0.2.2.2.1, x0.2.2.2.2.1, x0.2.2.2.2.2.1, x0.2.2.2.2.2.2⟩ w x1 x2 (Jd.wf8e hw1) (Jd.wf8e hw2)
end Go.Proofs.Ytfmogmgdpamfgaa

