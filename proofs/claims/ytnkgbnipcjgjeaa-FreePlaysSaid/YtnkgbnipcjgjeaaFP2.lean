import Derived.Test.YtnkgbnipcjgjeaaRE
import Derived.Deep.DeepCutAuto
namespace Go.Proofs.Ytnkgbnipcjgjeaa
open Go.RowKit Go.Shelf Go.Sort Go.Lib Go.Proofs.YtnkgbnipcjgjeaaW.PrintWords Go.Proofs.YtnkgbnipcjgjeaaW.PrintLast Go.Proofs.YtnkgbnipcjgjeaaW.PrintMore
set_option linter.unusedVariables false
theorem RP.drewN {w : World} {g B : Nat} {l : List (Int × Int)} (h : RP w g B l) (q : Nat) : RP (w.drewN q) g B l := by
  obtain ⟨v1, v2, h0, h1, h2⟩ := h
  exact ⟨v1, v2, h0, Kd.R_drewN h1 q, Kd.R_drewN h2 q⟩
theorem RP.mods {w w' : World} {g B b : Nat} {l : List (Int × Int)} (h : RP w g B l) (hm : Mods w w' (fun k => k = b)) (hb : b < B) (hne : g ≠ b) : RP w' g B l :=
  h.grown (b := b) ⟨hm.os, hm.tape, hm.output, hm.size, fun k hk hn => hm.block k hk (fun e => hn (by rw [e]))⟩ hb hne
theorem mdel_same {l : List (Int × Int)} {x : Int} (h : mget l x = none) : mdel l x = l := by
  induction l with
  | nil => rfl
  | cons p r ih =>
    unfold mget at h
    unfold mdel
    by_cases e : p.1 = x
    · rw [if_pos e] at h; cases h
    · rw [if_neg e] at h
      rw [if_neg e, ih h]
theorem rp_new (w : World) (B : Nat) : RP (w.alloc (.cells #[.slice none 0 0, .slice none 0 0] 39)) w.heap.size B [] := ⟨_, _, blk_new w _, two_nil _ _ _⟩
set_option maxHeartbeats 8000000 in
set_option maxRecDepth 100000 in
theorem freePlays_walk (w : World) (x0 : (List (Int × Int × Int))) {A0_0 : Option Addr} {c0_0 : Nat} (l0_0 : x0.length ≤ c0_0) (g0_0 : Kd.C (Kd.pair (Kd.int .i64) (Kd.pair (Kd.int .i64) (Kd.int .i64))) w A0_0 x0.length x0) (hw0 : (∀ z0 ∈ x0, ((Lit.int .i64 z0.1).wf = true ∧ (Lit.int .i64 z0.2.1).wf = true ∧ (Lit.int .i64 z0.2.2).wf = true))) :
    Calls Try.prog 4 #[.slice A0_0 x0.length c0_0] w fun e w' => e = .returned (.bool true) ∧ Below w.heap.size w w' := by
  have HR := Lib.hid (show Kd.C kDo w A0_0 x0.length x0 from g0_0)
  have HW := Lib.hid hw0
  clear g0_0 hw0 l0_0
  obtain ⟨n, hn⟩ : ∃ n, n = x0.length := ⟨_, rfl⟩
  rw [← hn]
  have HN := Lib.hid hn
  clear hn
  have hu22 := Try.underlying22
  have hu28 := Try.underlying28
  have ha28 := Try.isAgg28
  have hu39 := Try.underlying39
  have ha39 := Try.isAgg39
  go_enter Try.func4, Try.ntmps4
  go_wp2_with fail
  refine (awake_ok _).mono ?_
  rintro e w1 ⟨rfl, hb⟩
  have HB := Lib.hid hb
  clear hb
  by_cases hl : 60 < n
  · go_wp2_with fail
    go_ret
    exact ⟨rfl, HB.out⟩
  · have hn2 : (n : Int) ≤ 60 := by omega
    go_wp2_with fail
    refine (new_ok _).mono ?_
    rintro e w2 ⟨⟨g, b, rfl, hp, hgs, hbs⟩, hb⟩
    have hgs' : w.heap.size ≤ g := Nat.le_trans HB.out.size hgs
    have hbs' : w.heap.size ≤ b := Nat.le_trans HB.out.size hbs
    replace HB := Lib.hid (chainC (Nat.le_refl _) HB.out hb)
    obtain ⟨B, hB⟩ : ∃ B, B = w2.heap.size := ⟨_, rfl⟩
    have HWB : Hid (w.heap.size ≤ B) := Lib.hid (by rw [hB]; exact HB.out.size)
    have hgB : g < B := by rw [hB]; exact hp.ltg
    have hbB : b < B := by rw [hB]; exact hp.ltb
    have HP := Lib.hid (hp.below ((Below.refl _ _).alloc (Nat.le_refl _) (.cells #[.slice none 0 0, .slice none 0 0] 39)))
    have HQ := Lib.hid (rp_new w2 B)
    replace HB := Lib.hid (HB.out.alloc HB.out.size (.cells #[.slice none 0 0, .slice none 0 0] 39))
    have HGS := Lib.hid hgs'
    have HBS := Lib.hid hbs'
    have HGB := Lib.hid hgB
    have HBB := Lib.hid hbB
    have HBB2 := Lib.hid hB
    clear hb hp hgs hbs hgs' hbs' hgB hbB hB
    go_wp2_with fail
    rw [← HBB2.out] at HQ ⊢
    have HBL : Hid (B < (w2.alloc (.cells #[.slice none 0 0, .slice none 0 0] 39)).heap.size) := Lib.hid (by rw [HBB2.out, show (w2.alloc (.cells #[.slice none 0 0, .slice none 0 0] 39)).heap.size = w2.heap.size + 1 from by simp]; omega)
    clear HBB2
    generalize (w2.alloc (.cells #[.slice none 0 0, .slice none 0 0] 39)) = w5 at HB HP HQ HBL ⊢
    go_loopw [23] (fun i wr => ∃ (k : Nat) (l : List (Int × Int)), k ≤ n ∧ i = .int .i64 k ∧ Hid (PoolIs wr g b l) ∧ Hid (RP wr B B l) ∧ Hid (l.length ≤ k) ∧ Hid (B < wr.heap.size) ∧ Hid (Below w.heap.size w wr)) (fun i _ => n - (intOf i).toNat)
    case atStart => exact ⟨0, [], by omega, rfl, HP, HQ, Lib.hid (Nat.le_refl _), HBL, HB⟩
    case round =>
      clear HP HQ HB HBL
      obtain ⟨k, l, hk, rfl, HP, HQ, HLK, HBL, HB⟩ := hrel
      by_cases hkn : k < n
      · have hlen : k < x0.length := by rw [← HN.out]; exact hkn
        obtain ⟨bl, off, rfl, hbb, hcell⟩ := row3 (Kd.C_below HR.out HB.out) (by omega)
        obtain ⟨e0, e1, e2⟩ := hcell k hlen
        have hmem : gD x0 k ∈ x0 := by unfold gD; rw [List.getD_eq_getElem?_getD, List.getElem?_eq_getElem hlen]; exact List.getElem_mem hlen
        have hwf := HW.out _ hmem
        generalize gD x0 k = d at e0 e1 e2 hwf
        obtain ⟨dk, x, y⟩ := d
        have HX := Lib.hid (show okI x from hwf.2.1)
        have hk0 : (k : Int) < (n : Int) := by omega
        have HPA := Lib.hid (HP.out.below ((Below.refl _ _).alloc (Nat.le_refl _) (.cells #[.int .i64 dk, .int .i64 x, .int .i64 y] 28)))
        have HQA := Lib.hid (HQ.out.below ((Below.refl _ _).alloc (Nat.le_refl _) (.cells #[.int .i64 dk, .int .i64 x, .int .i64 y] 28)))
        have HBA := Lib.hid (HB.out.alloc HB.out.size (.cells #[.int .i64 dk, .int .i64 x, .int .i64 y] 28))
        have HSA := Lib.hid (blk_new wr (.cells #[.int .i64 dk, .int .i64 x, .int .i64 y] 28))
        have HBLA : Hid (B < (wr.alloc (.cells #[.int .i64 dk, .int .i64 x, .int .i64 y] 28)).heap.size) := Lib.hid (by have := HBL.out; simp; omega)
        clear hlen hcell hmem hwf hbb
        go_upto_block 2 with fail
        go_cut [7, 23] (fun v7 v23 wc => v7 = .bool true ∧ v23 = .int .i64 k ∧ ∃ l', Hid (PoolIs wc g b l') ∧ Hid (RP wc B B l') ∧ Hid (l'.length ≤ k + 1) ∧ Hid (B < wc.heap.size) ∧ Hid (Below w.heap.size w wc))
        case first =>
          have hl1000 : l.length ≤ 1000 := by have := HLK.out; omega
          clear e0 e1 e2
          by_cases hd1 : dk = 1
          · subst hd1
            cases hpb : putB l x y with
            | false =>
              have hno : ¬ (0 ≤ x ∧ x < 256 ∧ 0 ≤ y ∧ y ≤ 2147483648) ∨ 0 ≤ posI l x := by
                by_cases hr : 0 ≤ x ∧ x < 256 ∧ 0 ≤ y ∧ y ≤ 2147483648
                · refine .inr ?_
                  unfold putB at hpb
                  rw [decide_eq_true hr, Bool.true_and] at hpb
                  cases hm : mget l x with
                  | none => rw [hm] at hpb; cases hpb
                  | some v =>
                    obtain ⟨j, hj, _⟩ := posI_some HP.out.nodup hm
                    rw [hj]; omega
                · exact .inl hr
              have HC1 := Lib.hid (put_err g b l x y _ (HPA.out.drewN 1) hpb)
              have HC2 := Lib.hid (rput_no B l x y _ (HQA.out.drewN 1).rr hl1000 hno)
              have f1 := blk_cell HSA.out 1
              have f2 := blk_cell HSA.out 2
              clear hpb hno
              go_wp2_with fail
              go_region_held3 (fun w' => w'.cell? ⟨wr.heap.size, 1, none⟩ = some (.int .i64 x) ∧ w'.cell? ⟨wr.heap.size, 2, none⟩ = some (.int .i64 y)) (go_keep) (first | (go_at_call 17; refine (HC1.out).mono ?_; rintro e w8 ⟨rfl, rfl⟩) | (go_at_call 22; refine (HC2.out).mono ?_; rintro e w8 ⟨rfl, rfl⟩))
              all_goals
                go_wp2_with fail
                go_meet
                case rel => exact ⟨rfl, rfl, l, Lib.hid (HPA.out.drewN 1), Lib.hid (HQA.out.drewN 1), Lib.hid (Nat.le_succ_of_le HLK.out), HBLA, Lib.hid (HBA.out.drew)⟩
            | true =>
              have hnone : mget l x = none := by
                unfold putB at hpb
                rw [Bool.and_eq_true] at hpb
                cases h : mget l x with
                | none => rfl
                | some v => rw [h] at hpb; exact absurd hpb.2 (by simp)
              have hrange : 0 ≤ x ∧ x < 256 ∧ 0 ≤ y ∧ y ≤ 2147483648 := by
                unfold putB at hpb
                rw [Bool.and_eq_true] at hpb
                exact of_decide_eq_true hpb.1
              have HC1 := Lib.hid (put_ok g b l x y _ (HPA.out.drewN 1) hpb)
              have HPO := Lib.hid (posI_none hnone)
              have HRG := Lib.hid hrange
              have HL := Lib.hid hl1000
              have f1 := blk_cell HSA.out 1
              have f2 := blk_cell HSA.out 2
              have hbw : b < wr.heap.size := by have := HBB.out; have := HBL.out; omega
              clear hpb hnone hrange hl1000
              go_wp2_with fail
              go_region_held3 (fun w' => w'.cell? ⟨wr.heap.size, 1, none⟩ = some (.int .i64 x) ∧ w'.cell? ⟨wr.heap.size, 2, none⟩ = some (.int .i64 y)) (go_keep) (first | (go_at_call 17; refine (HC1.out).mono ?_; rintro e w7 ⟨rfl, hp7, hg7, hs7⟩; have hq7 := (HQA.out.drewN 1).grown hg7 HBB.out (fun e => by have := HBB.out; omega); have hsa7 := blk_grown (w := ((wr.alloc (.cells #[.int .i64 1, .int .i64 x, .int .i64 y] 28)).drewN 1)) HSA.out hg7 (fun e => by injection e with e; omega); have HSA7 := Lib.hid hsa7; have f17 := blk_cell hsa7 1; have f27 := blk_cell hsa7 2; have hb7 : B < w7.heap.size := Nat.lt_of_lt_of_le HBLA.out hg7.size; have HB7 := Lib.hid (HBA.out.drew.grown hg7 HBA.out.size (fun k e => by injection e with e; have := HBS.out; omega)); have HC2 := Lib.hid (rput_ok B B l x y w7 w7 hq7 HL.out HRG.out HPO.out (Below.refl B w7) (Nat.le_of_lt hb7) (Nat.le_refl B)); have HP7 := Lib.hid hp7; clear hp7 hg7 hs7 hq7 hsa7) | (go_at_call 22; refine (HC2.out).mono ?_; rintro e w8 ⟨rfl, hq8, hb8, hf8⟩; have hsa8 := hf8 _ _ _ _ HSA7.out (by decide) (by have := HBL.out; omega); have f18 := blk_cell hsa8 1; have f28 := blk_cell hsa8 2; have HQ8 := Lib.hid hq8; have HP8 := Lib.hid (HP7.out.at_ (hb8.block g HGB.out) (hb8.block b HBB.out)); have HB8 := Lib.hid (HB7.out.trans (hb8.mono HWB.out)); clear hq8 hb8 hf8 hsa8))
              all_goals
                go_wp2_with fail
                go_meet
                case rel => exact ⟨rfl, rfl, l ++ [(x, y)], HP8, HQ8, Lib.hid (by have := HLK.out; simp; omega), Lib.hid HQ8.out.lt, HB8⟩
          · by_cases hd2 : dk = 2
            · subst hd2
              by_cases hne : l = []
              · subst hne
                have hr := rnext_ok B [] _ HQA.out.rr (by simp)
                rw [minI_nil rfl] at hr
                have HC1 := Lib.hid hr
                have HP1 : Hid (∀ q, PoolIs ((wr.alloc (.cells #[.int .i64 2, .int .i64 x, .int .i64 y] 28)).drewN q) g b []) := Lib.hid (fun q => HPA.out.drewN q)
                have HQ1 : Hid (∀ q, RP ((wr.alloc (.cells #[.int .i64 2, .int .i64 x, .int .i64 y] 28)).drewN q) B B []) := Lib.hid (fun q => HQA.out.drewN q)
                have HB1 : Hid (∀ q, Below w.heap.size w ((wr.alloc (.cells #[.int .i64 2, .int .i64 x, .int .i64 y] 28)).drewN q)) := Lib.hid (fun q => pw_below_drewN HBA.out q)
                clear hr
                go_wp2_with fail
                refine (HC1.out).mono ?_
                rintro e w7 ⟨rfl, ⟨q, rfl⟩⟩
                have HC2 := Lib.hid (next_none _ (HP1.out q))
                go_wp2_with fail
                refine (HC2.out).mono ?_
                rintro e w8 ⟨rfl, hb8⟩
                have HP8 := Lib.hid ((HP1.out q).below hb8)
                have HQ8 := Lib.hid ((HQ1.out q).below hb8)
                have HB8 := Lib.hid (chainC (Nat.le_refl _) (HB1.out q) hb8)
                have hsa8 := blk_below (w := (wr.alloc (.cells #[.int .i64 2, .int .i64 x, .int .i64 y] 28)).drewN q) HSA.out hb8
                have f08 := blk_cell hsa8 0
                have HSA8 := Lib.hid hsa8
                clear hb8 hsa8 HC1 HC2 HP1 HQ1 HB1
                have HC3 := Lib.hid (take_none _ HP8.out)
                go_wp2_with fail
                refine (HC3.out).mono ?_
                rintro e w9 ⟨rfl, hb9⟩
                have HP9 := Lib.hid (HP8.out.below hb9)
                have HQ9 := Lib.hid (HQ8.out.below hb9)
                have HB9 := Lib.hid (chainC (Nat.le_refl _) HB8.out hb9)
                have f09 := blk_cell (blk_below HSA8.out hb9) 0
                clear hb9 HP8 HQ8 HB8
                go_wp2_with fail
                go_meet
                case rel => exact ⟨rfl, rfl, [], HP9, HQ9, Lib.hid (Nat.zero_le _), Lib.hid HQ9.out.lt, HB9⟩
              · obtain ⟨j, hj, hjl, hsr⟩ := minI_ok hne
                have hr := rnext_ok B l _ HQA.out.rr hl1000
                rw [hj] at hr
                have HC1 := Lib.hid hr
                have HP1 : Hid (∀ q, PoolIs ((wr.alloc (.cells #[.int .i64 2, .int .i64 x, .int .i64 y] 28)).drewN q) g b l) := Lib.hid (fun q => HPA.out.drewN q)
                have HQ1 : Hid (∀ q, RP ((wr.alloc (.cells #[.int .i64 2, .int .i64 x, .int .i64 y] 28)).drewN q) B B l) := Lib.hid (fun q => HQA.out.drewN q)
                have HB1 : Hid (∀ q, Below w.heap.size w ((wr.alloc (.cells #[.int .i64 2, .int .i64 x, .int .i64 y] 28)).drewN q)) := Lib.hid (fun q => pw_below_drewN HBA.out q)
                have hjp : l[j]? = some ((gP l j).1, (gP l j).2) := by rw [List.getElem?_eq_getElem hjl, ← gP_get l hjl]
                have HDE := Lib.hid ((m_some HP.out.nodup hjp).2.2)
                have HNX : Hid (∀ W, PoolIs W g b l → _) := Lib.hid (fun W hW => next_ok W hW hl1000 hsr)
                have HTK : Hid (∀ W, PoolIs W g b l → _) := Lib.hid (fun W hW => take_ok W hW hl1000 hsr)
                have HOU : Hid (∀ W, RR W B l → _) := Lib.hid (fun W hW => rout_ok B j l W hW hl1000 hjl)
                have HCE : Hid (∀ W, RP W B B l → ∃ A1 c1 A2 c2, W.heap[B]? = some (.cells #[.slice A1 l.length c1, .slice A2 l.length c2] 39 (0, 0)) ∧ ∃ b1 o1 b2 o2, A1 = some ⟨b1, o1, none⟩ ∧ A2 = some ⟨b2, o2, none⟩ ∧ W.cell? ⟨b1, o1 + j, none⟩ = some (.int .i64 (gP l j).1) ∧ W.cell? ⟨b2, o2 + j, none⟩ = some (.int .i64 (gP l j).2)) := Lib.hid (fun W hW => by
                  obtain ⟨A1, c1, A2, c2, h0, _, _, h3⟩ := hW.rr.cells
                  obtain ⟨b1, o1, b2, o2, e1, e2, _, _, h4⟩ := h3 (by omega)
                  exact ⟨A1, c1, A2, c2, h0, b1, o1, b2, o2, e1, e2, h4 j hjl⟩)
                have HLE : Hid ((l.eraseIdx j).length ≤ k + 1) := Lib.hid (by have := HLK.out; rw [List.length_eraseIdx_of_lt hjl]; omega)
                obtain ⟨N0, hN0⟩ : ∃ N0, N0 = l.length := ⟨_, rfl⟩
                rw [← hN0] at HCE hjl
                have hj0 : (0 : Int) ≤ (j : Int) := by omega
                have hjN : (j : Int) < (N0 : Int) := by omega
                generalize gP l j = p at HDE HNX HTK HCE
                obtain ⟨p1, p2⟩ := p
                have hs1 : (p1 == p1) = true := by simp
                have hs2 : (p2 == p2) = true := by simp
                clear hr hne hj hsr hjp hN0 hl1000
                go_wp2_with fail
                refine (HC1.out).mono ?_
                rintro e w7 ⟨rfl, ⟨q, rfl⟩⟩
                have HC2 := Lib.hid (HNX.out _ (HP1.out q))
                go_wp2_with fail
                refine (HC2.out).mono ?_
                rintro e w8 ⟨rfl, hb8⟩
                have HP8 := Lib.hid ((HP1.out q).below hb8)
                have HQ8 := Lib.hid ((HQ1.out q).below hb8)
                have HB8 := Lib.hid (chainC (Nat.le_refl _) (HB1.out q) hb8)
                have hsa8 := blk_below (w := (wr.alloc (.cells #[.int .i64 2, .int .i64 x, .int .i64 y] 28)).drewN q) HSA.out hb8
                have f08 := blk_cell hsa8 0
                have HSA8 := Lib.hid hsa8
                clear hb8 hsa8 HC1 HC2 HP1 HQ1 HB1
                have HC3 := Lib.hid (HTK.out _ HP8.out)
                go_wp2_with fail
                refine (HC3.out).mono ?_
                rintro e w9 ⟨rfl, hp9, hm9⟩
                have HP9 := Lib.hid hp9
                have HQ9 := Lib.hid (HQ8.out.mods hm9 HBB.out (fun e => by have := HBB.out; omega))
                have HB9 := Lib.hid (Mods.toBelow HB8.out hm9 HB8.out.size (fun i e => by rw [e]; exact HBS.out))
                have f09 := blk_cell (hm9.blk HSA8.out (fun e => by have := HBB.out; have := HBL.out; omega)) 0
                have HC4 := Lib.hid (HOU.out _ HQ9.out.rr)
                obtain ⟨A1, c1, A2, c2, hblk, b1, o1, b2, o2, rfl, rfl, h1, h2⟩ := HCE.out _ HQ9.out
                have g0 := blk_cell hblk 0
                have g1 := blk_cell hblk 1
                clear hp9 hm9 HP8 HB8 HC3 hblk
                go_wp2_with fail
                refine (HC4.out).mono ?_
                rintro e w10 ⟨rfl, hq10, hm10⟩
                have HQ10 := Lib.hid (hq10.lower (B' := B) (Nat.le_of_lt HQ9.out.lt))
                have HP10 := Lib.hid (HP9.out.mods hm10 (fun e => by have := HGB.out; omega) (fun e => by have := HBB.out; omega))
                rw [show mdel l p1 = l.eraseIdx j from HDE.out] at HP10
                have HB10 := Lib.hid (Mods.toBelow HB9.out hm10 HB9.out.size (fun i e => by rw [e]; exact HWB.out))
                clear hq10 hm10 HC4
                go_wp2_with fail
                go_meet
                case rel => exact ⟨rfl, rfl, _, HP10, HQ10, HLE, Lib.hid HQ10.out.lt, HB10⟩
            · by_cases hd3 : dk = 3
              · subst hd3
                by_cases hne : l = []
                · subst hne
                  have hr := rnext_ok B [] _ HQA.out.rr (by simp)
                  rw [minI_nil rfl] at hr
                  have HC1 := Lib.hid hr
                  have HP1 : Hid (∀ q, PoolIs ((wr.alloc (.cells #[.int .i64 3, .int .i64 x, .int .i64 y] 28)).drewN q) g b []) := Lib.hid (fun q => HPA.out.drewN q)
                  have HQ1 : Hid (∀ q, RP ((wr.alloc (.cells #[.int .i64 3, .int .i64 x, .int .i64 y] 28)).drewN q) B B []) := Lib.hid (fun q => HQA.out.drewN q)
                  have HB1 : Hid (∀ q, Below w.heap.size w ((wr.alloc (.cells #[.int .i64 3, .int .i64 x, .int .i64 y] 28)).drewN q)) := Lib.hid (fun q => pw_below_drewN HBA.out q)
                  clear hr
                  go_wp2_with fail
                  refine (HC1.out).mono ?_
                  rintro e w7 ⟨rfl, ⟨q, rfl⟩⟩
                  have HC2 := Lib.hid (next_none _ (HP1.out q))
                  go_wp2_with fail
                  refine (HC2.out).mono ?_
                  rintro e w8 ⟨rfl, hb8⟩
                  have HP8 := Lib.hid ((HP1.out q).below hb8)
                  have HQ8 := Lib.hid ((HQ1.out q).below hb8)
                  have HB8 := Lib.hid (chainC (Nat.le_refl _) (HB1.out q) hb8)
                  have hsa8 := blk_below (w := (wr.alloc (.cells #[.int .i64 3, .int .i64 x, .int .i64 y] 28)).drewN q) HSA.out hb8
                  have f08 := blk_cell hsa8 0
                  have HSA8 := Lib.hid hsa8
                  clear hb8 hsa8 HC1 HC2 HP1 HQ1 HB1
                  go_wp2_with fail
                  go_meet
                  case rel => exact ⟨rfl, rfl, [], HP8, HQ8, Lib.hid (Nat.zero_le _), Lib.hid HQ8.out.lt, HB8⟩
                · obtain ⟨j, hj, hjl, hsr⟩ := minI_ok hne
                  have hr := rnext_ok B l _ HQA.out.rr hl1000
                  rw [hj] at hr
                  have HC1 := Lib.hid hr
                  have HP1 : Hid (∀ q, PoolIs ((wr.alloc (.cells #[.int .i64 3, .int .i64 x, .int .i64 y] 28)).drewN q) g b l) := Lib.hid (fun q => HPA.out.drewN q)
                  have HQ1 : Hid (∀ q, RP ((wr.alloc (.cells #[.int .i64 3, .int .i64 x, .int .i64 y] 28)).drewN q) B B l) := Lib.hid (fun q => HQA.out.drewN q)
                  have HB1 : Hid (∀ q, Below w.heap.size w ((wr.alloc (.cells #[.int .i64 3, .int .i64 x, .int .i64 y] 28)).drewN q)) := Lib.hid (fun q => pw_below_drewN HBA.out q)
                  have hjp : l[j]? = some ((gP l j).1, (gP l j).2) := by rw [List.getElem?_eq_getElem hjl, ← gP_get l hjl]
                  have HDE := Lib.hid ((m_some HP.out.nodup hjp).2.2)
                  have HNX : Hid (∀ W, PoolIs W g b l → _) := Lib.hid (fun W hW => next_ok W hW hl1000 hsr)
                  have HTK : Hid (∀ W, PoolIs W g b l → _) := Lib.hid (fun W hW => take_ok W hW hl1000 hsr)
                  have HOU : Hid (∀ W, RR W B l → _) := Lib.hid (fun W hW => rout_ok B j l W hW hl1000 hjl)
                  have HCE : Hid (∀ W, RP W B B l → ∃ A1 c1 A2 c2, W.heap[B]? = some (.cells #[.slice A1 l.length c1, .slice A2 l.length c2] 39 (0, 0)) ∧ ∃ b1 o1 b2 o2, A1 = some ⟨b1, o1, none⟩ ∧ A2 = some ⟨b2, o2, none⟩ ∧ W.cell? ⟨b1, o1 + j, none⟩ = some (.int .i64 (gP l j).1) ∧ W.cell? ⟨b2, o2 + j, none⟩ = some (.int .i64 (gP l j).2)) := Lib.hid (fun W hW => by
                    obtain ⟨A1, c1, A2, c2, h0, _, _, h3⟩ := hW.rr.cells
                    obtain ⟨b1, o1, b2, o2, e1, e2, _, _, h4⟩ := h3 (by omega)
                    exact ⟨A1, c1, A2, c2, h0, b1, o1, b2, o2, e1, e2, h4 j hjl⟩)
                  have HLE : Hid ((l.eraseIdx j).length ≤ k + 1) := Lib.hid (by have := HLK.out; rw [List.length_eraseIdx_of_lt hjl]; omega)
                  obtain ⟨N0, hN0⟩ : ∃ N0, N0 = l.length := ⟨_, rfl⟩
                  rw [← hN0] at HCE hjl
                  have hj0 : (0 : Int) ≤ (j : Int) := by omega
                  have hjN : (j : Int) < (N0 : Int) := by omega
                  generalize gP l j = p at HDE HNX HTK HCE
                  obtain ⟨p1, p2⟩ := p
                  have hs1 : (p1 == p1) = true := by simp
                  have hs2 : (p2 == p2) = true := by simp
                  clear hr hne hj hsr hjp hN0 hl1000
                  go_wp2_with fail
                  refine (HC1.out).mono ?_
                  rintro e w7 ⟨rfl, ⟨q, rfl⟩⟩
                  have HC2 := Lib.hid (HNX.out _ (HP1.out q))
                  go_wp2_with fail
                  refine (HC2.out).mono ?_
                  rintro e w8 ⟨rfl, hb8⟩
                  have HP8 := Lib.hid ((HP1.out q).below hb8)
                  have HQ8 := Lib.hid ((HQ1.out q).below hb8)
                  have HB8 := Lib.hid (chainC (Nat.le_refl _) (HB1.out q) hb8)
                  have hsa8 := blk_below (w := (wr.alloc (.cells #[.int .i64 3, .int .i64 x, .int .i64 y] 28)).drewN q) HSA.out hb8
                  have f08 := blk_cell hsa8 0
                  have HSA8 := Lib.hid hsa8
                  clear hb8 hsa8 HC1 HC2 HP1 HQ1 HB1
                  obtain ⟨A1, c1, A2, c2, hblk, b1, o1, b2, o2, rfl, rfl, h1, h2⟩ := HCE.out _ HQ8.out
                  have g0 := blk_cell hblk 0
                  have g1 := blk_cell hblk 1
                  clear hblk
                  go_wp2_with fail
                  go_meet
                  case rel => exact ⟨rfl, rfl, _, HP8, HQ8, Lib.hid (Nat.le_succ_of_le HLK.out), Lib.hid HQ8.out.lt, HB8⟩
              · by_cases hd4 : dk = 4
                · subst hd4
                  have HF := Lib.hid (find_ok B l x _ HQA.out.rr hl1000)
                  have HD := Lib.hid (drop_ok g b l x _ HPA.out HX.out)
                  have hbw : b < wr.heap.size := by have := HBB.out; have := HBL.out; omega
                  cases hmg : mget l x with
                  | none =>
                    rw [posI_none hmg] at HF
                    rw [hmg, mdel_same hmg] at HD
                    clear hmg hl1000
                    go_wp2_with fail
                    refine (HF.out).mono ?_
                    rintro e w7 ⟨rfl, rfl⟩
                    go_wp2_with fail
                    refine (HD.out).mono ?_
                    rintro e w8 ⟨rfl, hp8, hg8, _⟩
                    have HP8 := Lib.hid hp8
                    have HQ8 := Lib.hid (HQA.out.grown hg8 HBB.out (fun e => by have := HBB.out; omega))
                    have HB8 := Lib.hid (HBA.out.grown hg8 HBA.out.size (fun k e => by injection e with e; have := HBS.out; omega))
                    clear hp8 hg8
                    go_wp2_with fail
                    go_meet
                    case rel => exact ⟨rfl, rfl, _, HP8, HQ8, Lib.hid (Nat.le_succ_of_le HLK.out), Lib.hid HQ8.out.lt, HB8⟩
                  | some v =>
                    obtain ⟨j, hj, hjl, hgj, hde⟩ := posI_some HP.out.nodup hmg
                    rw [hj] at HF
                    rw [hmg, hde] at HD
                    have HOU : Hid (∀ W, RR W B l → _) := Lib.hid (fun W hW => rout_ok B j l W hW hl1000 hjl)
                    have HLE : Hid ((l.eraseIdx j).length ≤ k + 1) := Lib.hid (by have := HLK.out; rw [List.length_eraseIdx_of_lt hjl]; omega)
                    have hj0 : (0 : Int) ≤ (j : Int) := by omega
                    clear hmg hl1000 hj hjl hgj hde
                    go_wp2_with fail
                    refine (HF.out).mono ?_
                    rintro e w7 ⟨rfl, rfl⟩
                    go_wp2_with fail
                    refine (HD.out).mono ?_
                    rintro e w8 ⟨rfl, hp8, hg8, _⟩
                    have HP8 := Lib.hid hp8
                    have HQ8 := Lib.hid (HQA.out.grown hg8 HBB.out (fun e => by have := HBB.out; omega))
                    have HB8 := Lib.hid (HBA.out.grown hg8 HBA.out.size (fun k e => by injection e with e; have := HBS.out; omega))
                    have HC4 := Lib.hid (HOU.out _ HQ8.out.rr)
                    clear hp8 hg8
                    go_wp2_with fail
                    refine (HC4.out).mono ?_
                    rintro e w10 ⟨rfl, hq10, hm10⟩
                    have HQ10 := Lib.hid (hq10.lower (B' := B) (Nat.le_of_lt HQ8.out.lt))
                    have HP10 := Lib.hid (HP8.out.mods hm10 (fun e => by have := HGB.out; omega) (fun e => by have := HBB.out; omega))
                    have HB10 := Lib.hid (Mods.toBelow HB8.out hm10 HB8.out.size (fun i e => by rw [e]; exact HWB.out))
                    clear hq10 hm10 HC4
                    go_wp2_with fail
                    go_meet
                    case rel => exact ⟨rfl, rfl, _, HP10, HQ10, HLE, Lib.hid HQ10.out.lt, HB10⟩
                · by_cases hd5 : dk = 5
                  · subst hd5
                    have hfind := find_ok B l x _ (HQA.out.drewN 1).rr hl1000
                    have hhas := has_ok g b l x _ (HPA.out.drewN 1) HX.out
                    have hb2 : (decide (0 ≤ posI l x)) = (mget l x).isSome := by
                      cases hmg : mget l x with
                      | none => rw [posI_none hmg]; rfl
                      | some v =>
                        obtain ⟨j, hj, _⟩ := posI_some HP.out.nodup hmg
                        rw [hj]
                        exact decide_eq_true (by omega)
                    have f1 := blk_cell HSA.out 1
                    generalize (mget l x).isSome = bb at hhas hb2
                    generalize posI l x = jj at hfind hb2
                    have HF := Lib.hid hfind
                    have HH := Lib.hid hhas
                    have hbb : (bb == bb) = true := by simp
                    clear hfind hhas hl1000
                    go_wp2_with fail
                    go_region_held3 (fun w' => w'.cell? ⟨wr.heap.size, 1, none⟩ = some (.int .i64 x)) (go_keep) (first | (go_at_call 28; refine (HH.out).mono ?_; rintro e w8 ⟨rfl, rfl⟩) | (go_at_call 27; refine (HF.out).mono ?_; rintro e w8 ⟨rfl, rfl⟩))
                    all_goals
                      (try rw [hb2, hbb])
                      go_wp2_with fail
                      go_meet
                      case rel => exact ⟨by first | rfl | simp [hb2], rfl, l, Lib.hid (HPA.out.drewN 1), Lib.hid (HQA.out.drewN 1), Lib.hid (Nat.le_succ_of_le HLK.out), HBLA, Lib.hid (HBA.out.drew)⟩
                  · have b1 : (dk == 1) = false := beq_eq_false_iff_ne.2 hd1
                    have b2 : (dk == 2) = false := beq_eq_false_iff_ne.2 hd2
                    have b3 : (dk == 3) = false := beq_eq_false_iff_ne.2 hd3
                    have b4 : (dk == 4) = false := beq_eq_false_iff_ne.2 hd4
                    have b5 : (dk == 5) = false := beq_eq_false_iff_ne.2 hd5
                    clear hd1 hd2 hd3 hd4 hd5 hl1000
                    go_wp2_with fail
                    go_meet
                    case rel => exact ⟨rfl, rfl, l, HPA, HQA, Lib.hid (Nat.le_succ_of_le HLK.out), HBLA, HBA⟩
        case rest =>
          clear e0 e1 e2
          obtain ⟨rfl, rfl, l', HP, HQ, HLK, HBL, HB⟩ := hcut
          have hl60 : l'.length ≤ 1000 := by have := HLK.out; omega
          have hrr := HQ.out.rr
          have HLI := Lib.hid (list_ok wc.drew (HP.out.drewN 1) hl60)
          have HLE := Lib.hid (len_ok g b l' wc.drew (HP.out.drewN 1))
          obtain ⟨A1, c1, A2, c2, hblk, hcc1, hcc2, hc1, hc2⟩ := hrr
          have HRR : Hid (RR wc.drew B l') := Lib.hid ⟨A1, c1, A2, c2, hblk, hcc1, hcc2, hc1, hc2⟩
          have HL := Lib.hid hl60
          have HLS : Hid ((listP l').length ≤ 100000) := Lib.hid (by unfold listP; rw [List.length_map, (sortP_perm l').length_eq]; omega)
          have f0 : wc.cell? ⟨B, 0, none⟩ = some (.slice A1 l'.length c1) := blk_cell hblk 0
          have HBD := Lib.hid (HB.out.drew)
          have HBLD : B < wc.drew.heap.size := HBL.out
          obtain ⟨N0, hN0⟩ : ∃ N0, N0 = l'.length := ⟨_, rfl⟩
          rw [← hN0] at f0 HLE
          have hbne : ((N0 : Int) != (N0 : Int)) = false := by simp
          clear hl60 hblk hcc1 hcc2 hc1 hc2 hN0
          go_wp2_with fail
          go_region_held3 (fun w' => w'.cell? ⟨B, 0, none⟩ = some (.slice A1 N0 c1)) (go_keep) (first | (go_at_call 20; refine (HLE.out).mono ?_; rintro e w8 ⟨rfl, rfl⟩) | (go_at_call 19; refine (HLI.out).mono ?_; rintro e w8 ⟨⟨v, rfl, hr⟩, hb⟩; obtain ⟨A, c, rfl, hcap, hC⟩ := Kd.R_reads hr; have f8 : w8.cell? ⟨B, 0, none⟩ = some (.slice A1 N0 c1) := (hb.cell (p := ⟨B, 0, none⟩) HBLD).trans f0; have HC8 := Lib.hid hC; have HCC8 := Lib.hid hcap; have HRL8 := Lib.hid (rlist_ok B l' w8 (HRR.out.below hb) HL.out); have hs8 := hb.size; have HB8 := Lib.hid (chainC (Nat.le_refl _) HBD.out hb); have HP8 := Lib.hid ((HP.out.drewN 1).below hb); have HQ8 := Lib.hid (RP.below (w := wc.drew) (HQ.out.drewN 1) hb); clear hr hb hcap hC) | (go_at_call 29; refine (HRL8.out).mono ?_; rintro e w9 ⟨⟨A9, c9, rfl, hc9, hC9⟩, hb9⟩; have f9 : w9.cell? ⟨B, 0, none⟩ = some (.slice A1 N0 c1) := (hb9.cell (p := ⟨B, 0, none⟩) (Nat.lt_of_lt_of_le HBLD hs8)).trans f8; have HI9 := Lib.hid (ints_call w9 (Kd.C_below HC8.out hb9) HCC8.out hC9 hc9 HLS.out); have HB9 := Lib.hid (chainC (Nat.le_refl _) HB8.out hb9); have HP9 := Lib.hid (HP8.out.below hb9); have HQ9 := Lib.hid (HQ8.out.below hb9); have HL9 := Lib.hid (Nat.lt_of_lt_of_le HBLD (Nat.le_trans hs8 hb9.size)); clear hc9 hC9 hb9) | (go_at_call 18; refine (HI9.out).mono ?_; rintro e w10 ⟨rfl, ⟨q, rfl⟩⟩))
          all_goals
            go_wp2_with fail
            go_roundw
            case rel => exact ⟨k + 1, l', hkn, by go_num, Lib.hid (HP9.out.drewN q), Lib.hid (HQ9.out.drewN q), HLK, HL9, Lib.hid (pw_below_drewN HB9.out q)⟩
            case measure => exact step_measure hkn
      · have hk2 : k = n := by omega
        subst hk2
        clear hkn
        go_wp2_with fail
        go_ret
        exact ⟨rfl, HB.out⟩
end Go.Proofs.Ytnkgbnipcjgjeaa
