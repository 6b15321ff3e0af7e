import Derived.Test.YtnkgbnipcjgjeaaDV
namespace Go.Proofs.Ytnkgbnipcjgjeaa
open Go.RowKit Go.Shelf Go.Sort Go.Lib Go.Proofs.YtnkgbnipcjgjeaaW.PrintWords Go.Proofs.YtnkgbnipcjgjeaaW.PrintLast Go.Proofs.YtnkgbnipcjgjeaaW.PrintMore
set_option linter.unusedVariables false
set_option maxHeartbeats 8000000 in
set_option maxRecDepth 100000 in
theorem dplays_main (w : World) (n sz : Nat) (h1 : 1 ≤ n) (h2 : n ≤ 50) (h3 : 1 ≤ sz) (h4 : sz ≤ 50) (x2 : (List (Int × Int × (List Int)))) {A2_0 : Option Addr} {c2_0 : Nat} (hle : x2.length ≤ 60) (g2_0 : Kd.C kDoR w A2_0 x2.length x2) (hw2 : (∀ z0 ∈ x2, ((Lit.int .i64 z0.1).wf = true ∧ (Lit.int .i64 z0.2.1).wf = true ∧ (∀ z1 ∈ z0.2.2, (Lit.int .u8 z1).wf = true)))) :
    Calls Try.prog 11 #[.int .i64 n, .int .i64 sz, .slice A2_0 x2.length c2_0] w fun e w' => e = .returned (.bool true) ∧ Below w.heap.size w w' := by
  have HR := Lib.hid g2_0
  have HW := Lib.hid hw2
  clear g2_0 hw2
  obtain ⟨m, hm⟩ : ∃ m, m = x2.length := ⟨_, rfl⟩
  rw [← hm] at hle ⊢
  have HN := Lib.hid hm
  clear hm
  have hu89 := Try.underlying89
  have hu96 := Try.underlying96
  have ha96 := Try.isAgg96
  have b1 : decide ((n : Int) < 1) = false := decide_eq_false (by omega)
  have b2 : decide (65536 < (n : Int)) = false := decide_eq_false (by omega)
  have b3 : decide ((sz : Int) < 1) = false := decide_eq_false (by omega)
  have b4 : decide (8192 < (sz : Int)) = false := decide_eq_false (by omega)
  have b5 : decide (50 < (n : Int)) = false := decide_eq_false (by omega)
  have b6 : decide (50 < (sz : Int)) = false := decide_eq_false (by omega)
  have b7 : decide (60 < (m : Int)) = false := decide_eq_false (by omega)
  have HN1 := Lib.hid h1
  have HN2 := Lib.hid h2
  have HS1 := Lib.hid h3
  have HS2 := Lib.hid h4
  have HM60 := Lib.hid hle
  have HNW := Lib.hid (fun W => dnew_ok n sz W h1 (by omega) h3 (by omega))
  clear h1 h2 h3 h4 hle
  go_enter Try.func11, Try.ntmps11
  go_wp2_with fail
  refine (dawake_ok _).mono ?_
  rintro e w1 ⟨rfl, hb⟩
  have HB1 := Lib.hid hb
  clear hb
  go_wp2_with fail
  refine (HNW.out _).mono ?_
  rintro e w2 ⟨⟨g, b, rfl, hr, hgs, hbs⟩, hb⟩
  have HGB : Hid (w.heap.size ≤ g) := Lib.hid (Nat.le_trans HB1.out.size hgs)
  have HBB : Hid (w.heap.size ≤ b) := Lib.hid (Nat.le_trans HB1.out.size hbs)
  have HRE := Lib.hid hr
  have HB2 := Lib.hid (chainC (Nat.le_refl _) HB1.out hb)
  clear hr hgs hbs hb HB1 HNW
  go_wp2_with (at_make; refine Kd.R_make kH (w0 := w2) w2.heap.size 102 rfl rfl 101 (.tmp 67) (.tmp 67) rfl (n : Int) (by first | rfl | (go_simp; done)) (by first | rfl | (go_simp; done)) Try.underlying101 (.slice none 0 0) 24 info102 rfl (by decide) (by decide) ((none, 0, 0) : Hdr) (ok := fun _ => True) (okp := fun _ => True) rfl (fun _ h => h) trivial (by omega) (by have := HN2.out; simp; omega) (Below.refl _ _) (Nat.le_refl _) ?_; intro v1 w3 hr3 hb3 hg3 hat3; rw [Int.toNat_natCast] at hr3; obtain ⟨vb, cq, cs, rfl, hvb, hvs, hcq, hcs⟩ := hdr_row hr3 (by have := HN1.out; omega); have HVS := Lib.hid hvs; have HCS := Lib.hid hcs; have HCQ := Lib.hid hcq; have HVB := Lib.hid hvb; have HB3 := Lib.hid hb3; clear hr3 hb3 hg3 hat3 hvs hcs hcq hvb)
  obtain ⟨c9, hc9⟩ : ∃ c9, c9 = w3.heap.size := ⟨_, rfl⟩
  rw [← hc9]
  have HC9 := Lib.hid hc9
  have hlt3 := HB3.out.size
  have HVA : Hid (ValsIs (w3.alloc (.cells #[.slice (some ⟨vb, 0, none⟩) n cq] 101)) w.heap.size c9 vb n cq (fun _ => .slice none 0 0) (fun _ => []) (fun _ => [])) := Lib.hid (vals_nil (by rw [hc9]; exact blk_new w3 _) ((Below.heap_alloc w3 _ vb (blk_lt HVS.out)).trans HVS.out) HCQ.out HCS.out ⟨by have := HB2.out.size; omega, by have := HB2.out.size; have := HVB.out; omega⟩)
  have HRA := Lib.hid ((HRE.out.below HB3.out).below (alloc_below w3 (.cells #[.slice (some ⟨vb, 0, none⟩) n cq] 101)))
  have HBA := Lib.hid (chainC (Nat.le_refl _) (chainC (Nat.le_refl _) HB2.out HB3.out) (alloc_below w3 (.cells #[.slice (some ⟨vb, 0, none⟩) n cq] 101)))
  have HGV : Hid (g < vb ∧ b < vb ∧ vb < c9) := Lib.hid ⟨Nat.lt_of_lt_of_le HRE.out.ltg HVB.out, Nat.lt_of_lt_of_le HRE.out.ltb HVB.out, by rw [hc9]; exact blk_lt HVS.out⟩
  clear hc9 hlt3 HVS HCS HVB HRE HB2 HB3
  have HNN : Hid (w.heap.size ≤ (w3.alloc (.cells #[.slice (some ⟨vb, 0, none⟩) n cq] 101)).heap.size) := Lib.hid HBA.out.size
  generalize (w3.alloc (.cells #[.slice (some ⟨vb, 0, none⟩) n cq] 101)) = w4 at HVA HRA HBA HNN ⊢
  go_loopw [71] (fun i wr => ∃ (k : Nat) (V : Nat → Value) (H : Nat → List Hdr) (R : Nat → List (List Int)), k ≤ n ∧ i = .int .i64 k ∧ Hid (ValsIs wr w.heap.size c9 vb n cq V H R) ∧ Hid (∀ i, i < k → R i = [zeros sz]) ∧ Hid (RecIs wr g b n sz (fun _ => False) []) ∧ Hid (Below w.heap.size w wr)) (fun i _ => n - (intOf i).toNat)
  case atStart => exact ⟨0, _, _, _, by omega, rfl, HVA, Lib.hid (fun i hi => by omega), HRA, HBA⟩
  case round =>
    clear HVA HRA HBA HNN
    obtain ⟨k, V, H, R, hk, rfl, HVA, HRV, HRE, HB⟩ := hrel
    by_cases hkn : k < n
    · have hk0 : (k : Int) < (n : Int) := by omega
      have hkq : (k : Int) < (cq : Int) := by have := HCQ.out; omega
      have hvd : ValsIs wr.drew w.heap.size c9 vb n cq V H R := HVA.out.at_ rfl rfl (fun _ _ _ _ => rfl) (fun _ _ => rfl) (Nat.le_refl _)
      have b0 : wr.cell? ⟨c9, 0, none⟩ = some (.slice (some ⟨vb, 0, none⟩) n cq) := HVA.out.boxc
      have b0d : wr.drew.cell? ⟨c9, 0, none⟩ = some (.slice (some ⟨vb, 0, none⟩) n cq) := b0
      have hcl : c9 < wr.drew.heap.size := hvd.ltc
      have hvl : vb < wr.drew.heap.size := hvd.ltv
      have HVD := Lib.hid hvd
      have hne9 : c9 ≠ vb := by have := HGV.out.2.2; omega
      clear hvd
      obtain ⟨w5, hrun5, hr5, hb5, hs5⟩ := make8 wr.drew sz (by have := HS2.out; omega)
      have hNN : w.heap.size ≤ wr.drew.heap.size := HB.out.size
      have hz : (zeros sz).length = sz := List.length_replicate
      have hg5 := r_g5 (N0 := w.heap.size) hr5
      have hone := HVD.out.one hkn hNN hb5 hg5.2.1 hg5.2.2
      rw [hz] at hone
      have hbe6 := hb5.alloc hb5.size (.cells #[.slice (some ⟨wr.drew.heap.size, 0, none⟩) sz sz] 52)
      have hbs7 : Mods wr (((w5.alloc (.cells #[.slice (some ⟨wr.drew.heap.size, 0, none⟩) sz sz] 52))).setCell ⟨vb, k, none⟩ (.slice (some ⟨w5.heap.size, 0, none⟩) 1 1)) (fun k => k = vb) := (Mods.of_below (w := wr) ⟨hbe6.os, hbe6.tape, hbe6.output, hbe6.size, hbe6.block⟩ (fun k => k = vb)).setCell (p := ⟨vb, k, none⟩) (.inl rfl) _
      obtain ⟨zb, hzb⟩ : ∃ zb, zb = wr.drew.heap.size := ⟨_, rfl⟩
      rw [← hzb] at hrun5 hone hbe6 hbs7
      have f5 : w5.cell? ⟨c9, 0, none⟩ = some (.slice (some ⟨vb, 0, none⟩) n cq) := (hb5.cell (p := ⟨c9, 0, none⟩) hcl).trans b0d
      have f6 : (w5.alloc (.cells #[.slice (some ⟨zb, 0, none⟩) sz sz] 52)).cell? ⟨c9, 0, none⟩ = some (.slice (some ⟨vb, 0, none⟩) n cq) := blk_alloc_cell f5 _
      obtain ⟨cs6, hv6, _, _⟩ := HVD.out.outer
      have hv6' : (w5.alloc (.cells #[.slice (some ⟨zb, 0, none⟩) sz sz] 52)).heap[vb]? = some (.cells cs6 102 (0, 0)) := (Below.heap_alloc w5 _ vb (Nat.lt_of_lt_of_le hvl hb5.size)).trans ((hb5.block vb hvl).trans hv6)
      have f6v : (w5.alloc (.cells #[.slice (some ⟨zb, 0, none⟩) sz sz] 52)).cell? ⟨vb, k, none⟩ = some (V k) := blk_alloc_cell ((hb5.cell (p := ⟨vb, k, none⟩) hvl).trans (HVD.out.rowc hkn)) _
      have f6z : (w5.alloc (.cells #[.slice (some ⟨zb, 0, none⟩) sz sz] 52)).frozen? ⟨vb, k, none⟩ = false := blk_frozen hv6' k
      have f7 : ((w5.alloc (.cells #[.slice (some ⟨zb, 0, none⟩) sz sz] 52)).setCell ⟨vb, k, none⟩ (.slice (some ⟨w5.heap.size, 0, none⟩) 1 1)).cell? ⟨c9, 0, none⟩ = some (.slice (some ⟨vb, 0, none⟩) n cq) := (cell_block (p := ⟨c9, 0, none⟩) (Below.heap_setCell _ ⟨vb, k, none⟩ _ c9 hne9)).trans f6
      have HONE := Lib.hid hone
      have HMO := Lib.hid hbs7
      have HRE7 := Lib.hid (HRE.out.mods HMO.out (fun e => by have := HGV.out.1; omega) (fun e => by have := HGV.out.2.1; omega) (fun k hk => hk.elim))
      have HB7 := Lib.hid (Mods.toBelow HB.out HMO.out HB.out.size (fun i e => by rw [e]; exact HVA.out.lo.2))
      clear hr5 hb5 hs5 hNN hz hg5 hone hbe6 hbs7 hzb hv6 hv6' hcl hvl HMO
      go_wp2_with fail
      go_region_held3 (fun w' => w'.cell? ⟨c9, 0, none⟩ = some (.slice (some ⟨vb, 0, none⟩) n cq)) (go_keep) (fail)
      all_goals
        go_wp2_with fail
        rw [show wrap64 ((k : Int) + 1) = (k : Int) + 1 from wrap_succ hkn HN2.out]
        exact ⟨⟨k + 1, _, _, _, hkn, by go_num, HONE, Lib.hid (fun i hi => by
          by_cases e : i = k
          · rw [e, upd_same]
          · rw [upd_ne _ _ e]; exact HRV.out i (by omega)), HRE7, HB7⟩, step_measure hkn⟩
    · have hk2 : k = n := by omega
      have hkb : decide ((k : Int) < (n : Int)) = false := decide_eq_false (by omega)
      have HR0 : Hid (∀ i, i < n → R i = ofV [] sz (i : Int)) := Lib.hid (fun i hi => HRV.out i (by omega))
      clear hk2 hk hkn
      generalize (k : Int) = kk at hkb ⊢
      clear HRV
      go_wp2_with fail
      go_loopw [84] (fun i wr => ∃ (k : Nat) (l : Rec) (F : Nat → Prop) (V : Nat → Value) (H : Nat → List Hdr) (R : Nat → List (List Int)), k ≤ m ∧ i = .int .i64 k ∧ Hid (ValsIs wr w.heap.size c9 vb n cq V H R) ∧ Hid (∀ i, i < n → R i = ofV l sz (i : Int)) ∧ Hid (RecIs wr g b n sz F l) ∧ Hid (∀ q, F q → q ≠ c9 ∧ q ≠ vb ∧ ∀ i, i < n → (V i).ownBlock ≠ some q) ∧ Hid (∀ p ∈ l, p.2.length ≤ k + 1) ∧ Hid (l.length ≤ k) ∧ Hid (Below w.heap.size w wr)) (fun i _ => m - (intOf i).toNat)
      case atStart => exact ⟨0, [], fun _ => False, V, H, R, by omega, rfl, HVA, HR0, HRE, Lib.hid (fun q h => h.elim), Lib.hid (fun p hp => by simp at hp), Lib.hid (Nat.le_refl _), HB⟩
      case round =>
        clear HVA HR0 HRE HB
        clear V H R
        obtain ⟨k, l, F, V, H, R, hk, rfl, HVA, HRV, HRE, HFS, HLN, HLL, HB⟩ := hrel
        by_cases hkn : k < m
        · have hlen : k < x2.length := by rw [← HN.out]; exact hkn
          obtain ⟨bl, off, rfl, hbb, hcell⟩ := rowR (Kd.C_below HR.out HB.out) (by omega)
          obtain ⟨Ad, cd, e0, e1, e2, e3, e4⟩ := hcell k hlen
          obtain ⟨bl0, off0, he0, _, hcell0⟩ := rowR HR.out (by omega)
          obtain ⟨Ad0, cd0, _, _, e20, _, e40⟩ := hcell0 k hlen
          injection he0 with he0
          injection he0 with heb heo _
          subst heb heo
          rw [(HB.out.cell (p := ⟨bl, off + k * 3 + 2, none⟩) (World.block_lt_of_cell? w _ e20)).trans e20] at e2
          injection e2 with e2
          injection e2 with eA _ eC
          subst eA eC
          have e2 := (HB.out.cell (p := ⟨bl, off + k * 3 + 2, none⟩) (World.block_lt_of_cell? w _ e20)).trans e20
          have hmem : gR x2 k ∈ x2 := by unfold gR; rw [List.getD_eq_getElem?_getD, List.getElem?_eq_getElem hlen]; exact List.getElem_mem hlen
          have hwf := HW.out _ hmem
          generalize gR x2 k = d at e0 e1 e2 e20 e3 e4 e40 hwf
          obtain ⟨dk, x, dd⟩ := d
          have HX := Lib.hid (show okI x from hwf.2.1)
          have HDD : Hid (isB dd) := Lib.hid (fun z hz => u8_wf (hwf.2.2 z hz))
          have HE3 := Lib.hid e3
          have HC0 : Hid (kB.C w Ad0 dd.length dd) := Lib.hid e40
          have hk0 : (k : Int) < (m : Int) := by omega
          have hm60 : (m : Int) ≤ 60 := by have := HM60.out; omega
          have HLN2 : Hid (∀ p ∈ l, p.2.length ≤ k + 1 + 1) := Lib.hid (fun p hp => Nat.le_succ_of_le (HLN.out p hp))
          have HLL2 : Hid (l.length ≤ k + 1) := Lib.hid (Nat.le_succ_of_le HLL.out)
          have HCT : Hid (∀ s, (ofV l sz s).length ≤ k + 1) := Lib.hid (fun s => ofV_len HLN.out (by omega) s)
          have HRA := Lib.hid (HRE.out.below (alloc_below wr (.cells #[.int .i64 dk, .int .i64 x, .slice Ad0 dd.length cd0] 96)))
          have HBA := Lib.hid (chainC (Nat.le_refl _) HB.out (alloc_below wr (.cells #[.int .i64 dk, .int .i64 x, .slice Ad0 dd.length cd0] 96)))
          have HVL := Lib.hid (HVA.out.below (alloc_below wr (.cells #[.int .i64 dk, .int .i64 x, .slice Ad0 dd.length cd0] 96)) HB.out.size)
          have HSA := Lib.hid (blk_new wr (.cells #[.int .i64 dk, .int .i64 x, .slice Ad0 dd.length cd0] 96))
          clear hlen hcell hcell0 hmem hwf hbb e3 e4 e20 e40
          go_upto_region 18 with fail
          go_cut [14, 84] (fun v14 v84 wc => v14 = .bool (decide (0 ≤ x ∧ x < (n : Int))) ∧ v84 = .int .i64 k ∧ wc = (wr.alloc (.cells #[.int .i64 dk, .int .i64 x, .slice Ad0 dd.length cd0] 96)))
          case first =>
            by_cases q1 : 0 ≤ x
            · by_cases q2 : x < (n : Int)
              · have hd := decide_eq_true (show 0 ≤ x ∧ x < (n : Int) from ⟨q1, q2⟩)
                have HD := Lib.hid hd
                clear hd
                go_wp2_with fail
                go_meet
                case rel => exact ⟨congrArg Value.bool HD.out.symm, rfl, rfl⟩
              · have hd := decide_eq_false (show ¬ (0 ≤ x ∧ x < (n : Int)) from fun h => q2 h.2)
                have HD := Lib.hid hd
                clear hd
                go_wp2_with fail
                go_meet
                case rel => exact ⟨congrArg Value.bool HD.out.symm, rfl, rfl⟩
            · have hd := decide_eq_false (show ¬ (0 ≤ x ∧ x < (n : Int)) from fun h => q1 h.1)
              have HD := Lib.hid hd
              clear hd
              go_wp2_with fail
              go_meet
              case rel => exact ⟨congrArg Value.bool HD.out.symm, rfl, rfl⟩
          case rest =>
            obtain ⟨rfl, rfl, rfl⟩ := hcut
            clear e0 e1 e2
            obtain ⟨bt, hbt⟩ : ∃ bt, bt = decide (0 ≤ x ∧ x < (n : Int)) := ⟨_, rfl⟩
            rw [← hbt]
            have HBT := Lib.hid hbt
            clear hbt
            obtain ⟨sb, hsb⟩ : ∃ sb, sb = wr.heap.size := ⟨_, rfl⟩
            rw [← hsb] at HSA ⊢
            have HSNE : Hid (sb ≠ b ∧ sb ≠ g ∧ sb ≠ c9 ∧ sb ≠ vb ∧ sb < (wr.alloc (.cells #[.int .i64 dk, .int .i64 x, .slice Ad0 dd.length cd0] 96)).heap.size) := Lib.hid ⟨fun e => by have := HRE.out.ltb; omega, fun e => by have := HRE.out.ltg; omega, fun e => by have := HVA.out.ltc; omega, fun e => by have := HVA.out.ltv; omega, by rw [hsb]; simp⟩
            have HNE9 : Hid (c9 ≠ vb) := Lib.hid (by have := HGV.out.2.2; omega)
            have HNN : Hid (w.heap.size ≤ (wr.alloc (.cells #[.int .i64 dk, .int .i64 x, .slice Ad0 dd.length cd0] 96)).heap.size) := Lib.hid HBA.out.size
            clear hsb HVA HRE HB
            generalize (wr.alloc (.cells #[.int .i64 dk, .int .i64 x, .slice Ad0 dd.length cd0] 96)) = W at HRA HBA HVL HSA HNN HSNE ⊢
            have HCW := Lib.hid (Kd.C_below HC0.out HBA.out)
            have s0 : W.cell? ⟨sb, 0, none⟩ = some (.int .i64 dk) := blk_cell HSA.out 0
            have s1 : W.cell? ⟨sb, 1, none⟩ = some (.int .i64 x) := blk_cell HSA.out 1
            have s2 : W.cell? ⟨sb, 2, none⟩ = some (.slice Ad0 dd.length cd0) := blk_cell HSA.out 2
            go_upto_block 4 with fail
            go_cut [15, 84] (fun v15 v84 wc => v15 = .bool true ∧ v84 = .int .i64 k ∧ ∃ (l : Rec) (F : Nat → Prop) (V : Nat → Value) (H : Nat → List Hdr) (R : Nat → List (List Int)), Hid (ValsIs wc w.heap.size c9 vb n cq V H R) ∧ Hid (∀ i, i < n → R i = ofV l sz (i : Int)) ∧ Hid (RecIs wc g b n sz F l) ∧ Hid (∀ q, F q → q ≠ c9 ∧ q ≠ vb ∧ ∀ i, i < n → (V i).ownBlock ≠ some q) ∧ Hid (∀ p ∈ l, p.2.length ≤ k + 1 + 1) ∧ Hid (l.length ≤ k + 1) ∧ Hid (Below w.heap.size w wc))
            case first =>
              by_cases hd1 : dk = 1
              · subst hd1
                as_aux_lemma =>
                  by_cases hin : 0 ≤ x ∧ x < (n : Int)
                  · obtain rfl : bt = true := by rw [HBT.out]; exact decide_eq_true hin
                    obtain ⟨s, rfl⟩ := Int.eq_ofNat_of_zero_le hin.1
                    have hsn : s < n := by omega
                    by_cases hl1 : dd.length = sz
                    · have HC := Lib.hid (dwrite_ok (s : Int) dd Ad0 cd0 HRA.out HX.out HCW.out HE3.out HDD.out hin hl1 (by have := HCT.out (s : Int); have := HM60.out; omega))
                      have hle : ((dd.length : Int) == (sz : Int)) = true := by rw [beq_iff_eq]; omega
                      have hs0 : (s : Int) < (n : Int) := hin.2
                      have HL1 := Lib.hid hl1
                      clear hl1 hin
                      go_wp2_with fail
                      refine (HC.out).mono ?_
                      rintro e wB ⟨rfl, hr, hm⟩
                      have HRB := Lib.hid hr
                      have HVB := Lib.hid (vals_rec HVL.out HRA.out hm HNN.out HBB.out)
                      have HFB := Lib.hid (foot_nx HVL.out HFS.out (Nx.fp W wB F))
                      have HBB2 := Lib.hid (Mods.toBelow HBA.out hm HBA.out.size (fun i e => by rw [e]; exact HBB.out))
                      have HSB2 := Lib.hid (hm.blk HSA.out HSNE.out.1)
                      have HKB := Lib.hid (g5_rec HRA.out hm HNN.out HBB.out)
                      clear hr hm
                      clear s0 s1 s2
                      go_wp2_with fail
                      have HRd := Lib.hid (HRB.out.drewN 1)
                      have HVd : Hid (ValsIs wB.drew w.heap.size c9 vb n cq V H R) := Lib.hid (HVB.out.at_ rfl rfl (fun _ _ _ _ => rfl) (fun _ _ => rfl) (Nat.le_refl _))
                      have HBd : Hid (Below w.heap.size w wB.drew) := Lib.hid (pw_below_drewN HBB2.out 1)
                      have HSd : Hid (wB.drew.heap[sb]? = _) := Lib.hid HSB2.out
                      have s0 : wB.cell? ⟨sb, 0, none⟩ = some (.int .i64 1) := blk_cell HSB2.out 0
                      have s1 : wB.cell? ⟨sb, 1, none⟩ = some (.int .i64 (s : Int)) := blk_cell HSB2.out 1
                      have s1d : wB.drew.cell? ⟨sb, 1, none⟩ = some (.int .i64 (s : Int)) := s1
                      have b0d : wB.drew.cell? ⟨c9, 0, none⟩ = some (.slice (some ⟨vb, 0, none⟩) n cq) := HVd.out.boxc
                      have b1d : wB.drew.cell? ⟨vb, s, none⟩ = some (V s) := HVd.out.rowc hsn
                      have b1a : (wB.drew.alloc (.cells #[.slice Ad0 dd.length cd0] 52)).cell? ⟨vb, s, none⟩ = some (V s) := blk_alloc_cell b1d _
                      have b2a : (wB.drew.alloc (.cells #[.slice Ad0 dd.length cd0] 52)).cell? ⟨c9, 0, none⟩ = some (.slice (some ⟨vb, 0, none⟩) n cq) := blk_alloc_cell b0d _
                      have b3a : (wB.drew.alloc (.cells #[.slice Ad0 dd.length cd0] 52)).cell? ⟨sb, 1, none⟩ = some (.int .i64 (s : Int)) := blk_alloc_cell s1d _
                      have b1e : (wB.alloc (.cells #[.slice Ad0 dd.length cd0] 52)).drew.cell? ⟨vb, s, none⟩ = some (V s) := b1a
                      have b2e : (wB.alloc (.cells #[.slice Ad0 dd.length cd0] 52)).drew.cell? ⟨c9, 0, none⟩ = some (.slice (some ⟨vb, 0, none⟩) n cq) := b2a
                      have b3e : (wB.alloc (.cells #[.slice Ad0 dd.length cd0] 52)).drew.cell? ⟨sb, 1, none⟩ = some (.int .i64 (s : Int)) := b3a
                      have HQ := Lib.hid (HVd.out.rows s hsn)
                      have HFR : Hid (∀ k, wB.drew.heap.size ≤ k → ∀ j, j < n → j ≠ s → (V j).ownBlock ≠ some k) := Lib.hid (fun k hk j hj _ e => by have := (HVd.out.own hj e).1; omega)
                      have HLN8 : Hid ((H s).length + 1 ≤ 1000) := Lib.hid (by
                        obtain ⟨_, _, _, _, _, h⟩ := HVd.out.form hsn
                        rw [h, HRV.out s hsn]
                        have := HCT.out (s : Int)
                        have := HM60.out
                        omega)
                      have hsq : (s : Int) < (cq : Int) := by have := HCQ.out; omega
                      have HSN := Lib.hid hsn
                      have HS0 : Hid (wB.drew.cell? ⟨c9, 0, none⟩ = some (.slice (some ⟨vb, 0, none⟩) n cq) ∧ wB.drew.cell? ⟨sb, 1, none⟩ = some (.int .i64 (s : Int)) ∧ wB.drew.cell? ⟨vb, s, none⟩ = some (V s)) := Lib.hid ⟨b0d, s1d, b1d⟩
                      refine wp_region_noPanic ?_
                      refine start_ (n := 13) (S := fun w' => w'.cell? ⟨c9, 0, none⟩ = some (.slice (some ⟨vb, 0, none⟩) n cq) ∧ w'.cell? ⟨sb, 1, none⟩ = some (.int .i64 (s : Int)) ∧ w'.cell? ⟨vb, s, none⟩ = some (V s)) (ds := [12]) #[false, false, false, false, false, false, false, false, false, false, false, false, false] (by kernel_rfl) rfl rfl HS0.out (fun hHeld => ?_)
                      refine pure_ (i := 1) (N := some 140) (v := ?_) (a' := ?_) #[false, true, false, false, false, false, false, false, false, false, false, false, false] rfl rfl (by kernel_rfl) (fun _ _ _ h => h) (Or.inl ⟨by rfl, ?_⟩) ?_ ?_
                      rotate_left
                      · intro w'
                        go_simp
                        with_reducible rfl
                      rotate_left
                      · simp only [Act.put, List.setIfInBounds_toArray, List.set_cons_zero, List.set_cons_succ]
                        rfl
                      refine pure_ (i := 4) (N := some 143) (v := ?_) (a' := ?_) #[false, true, false, false, true, false, false, false, false, false, false, false, false] rfl rfl (by kernel_rfl) (fun _ _ _ h => h) (Or.inl ⟨by rfl, ?_⟩) ?_ ?_
                      rotate_left
                      · intro w'
                        go_simp
                        with_reducible rfl
                      rotate_left
                      · simp only [Act.put, List.setIfInBounds_toArray, List.set_cons_zero, List.set_cons_succ]
                        rfl
                      refine pure_ (i := 8) (N := some 147) (v := ?_) (a' := ?_) #[false, true, false, false, true, false, false, false, true, false, false, false, false] rfl rfl (by kernel_rfl) (fun _ _ _ h => h) (Or.inl ⟨by rfl, ?_⟩) ?_ ?_
                      rotate_left
                      · intro w'
                        go_simp
                        with_reducible rfl
                      rotate_left
                      · simp only [Act.put, List.setIfInBounds_toArray, List.set_cons_zero, List.set_cons_succ]
                        rfl
                      refine take_ (i := 0) (N := some 139) (v := ?_) (a' := ?_) #[true, true, false, false, true, false, false, false, true, false, false, false, false] rfl rfl (by kernel_rfl) (fun _ _ _ h => h) (Or.inl ⟨by rfl, ?_⟩) hHeld ?_ ?_
                      rotate_left
                      · rintro w' ⟨s0, s1, s2⟩
                        go_simp
                        with_reducible rfl
                      rotate_left
                      · simp only [Act.put, List.setIfInBounds_toArray, List.set_cons_zero, List.set_cons_succ]
                        rfl
                      refine take_ (i := 2) (N := some 141) (v := ?_) (a' := ?_) #[true, true, true, false, true, false, false, false, true, false, false, false, false] rfl rfl (by kernel_rfl) (fun _ _ _ h => h) (Or.inl ⟨by rfl, ?_⟩) hHeld ?_ ?_
                      rotate_left
                      · rintro w' ⟨s0, s1, s2⟩
                        go_simp
                        with_reducible rfl
                      rotate_left
                      · simp only [Act.put, List.setIfInBounds_toArray, List.set_cons_zero, List.set_cons_succ]
                        rfl
                      refine take_ (i := 3) (N := some 142) (v := ?_) (a' := ?_) #[true, true, true, true, true, false, false, false, true, false, false, false, false] rfl rfl (by kernel_rfl) (fun _ _ _ h => h) (Or.inl ⟨by rfl, ?_⟩) hHeld ?_ ?_
                      rotate_left
                      · rintro w' ⟨s0, s1, s2⟩
                        go_simp
                        with_reducible rfl
                      rotate_left
                      · simp only [Act.put, List.setIfInBounds_toArray, List.set_cons_zero, List.set_cons_succ]
                        rfl
                      refine take_ (i := 5) (N := some 144) (v := ?_) (a' := ?_) #[true, true, true, true, true, true, false, false, true, false, false, false, false] rfl rfl (by kernel_rfl) (fun _ _ _ h => h) (Or.inl ⟨by rfl, ?_⟩) hHeld ?_ ?_
                      rotate_left
                      · rintro w' ⟨s0, s1, s2⟩
                        go_simp
                        with_reducible rfl
                      rotate_left
                      · simp only [Act.put, List.setIfInBounds_toArray, List.set_cons_zero, List.set_cons_succ]
                        rfl
                      refine pure_ (i := 6) (N := some 145) (v := ?_) (a' := ?_) #[true, true, true, true, true, true, true, false, true, false, false, false, false] rfl rfl (by kernel_rfl) (fun _ _ _ h => h) (Or.inl ⟨by rfl, ?_⟩) ?_ ?_
                      rotate_left
                      · intro w'
                        go_simp
                        with_reducible rfl
                      rotate_left
                      · simp only [Act.put, List.setIfInBounds_toArray, List.set_cons_zero, List.set_cons_succ]
                        rfl
                      refine take_ (i := 7) (N := some 146) (v := ?_) (a' := ?_) #[true, true, true, true, true, true, true, true, true, false, false, false, false] rfl rfl (by kernel_rfl) (fun _ _ _ h => h) (Or.inl ⟨by rfl, ?_⟩) hHeld ?_ ?_
                      rotate_left
                      · rintro w' ⟨s0, s1, s2⟩
                        go_simp
                        with_reducible rfl
                      rotate_left
                      · simp only [Act.put, List.setIfInBounds_toArray, List.set_cons_zero, List.set_cons_succ]
                        rfl
                      refine one_ (i := 9) (N := some 148) #[true, true, true, true, true, true, true, true, true, true, false, false, false] rfl rfl (by kernel_rfl) (by decide) (fun K hK => ?_)
                      refine value_ (w1 := ?_) (v := ?_) (by rfl) rfl ?_ ?_
                      rotate_left 2
                      · go_simp
                        constructor
                        · rfl
                        · rfl
                      clear hHeld
                      refine hK.out _ _ ?_ (fun hHeld => ?_)
                      · exact ⟨b2e, b3e, b1e⟩
                      clear hK K
                      refine norm_ (a' := ?_) ?_ ?_
                      rotate_left
                      · show Act.put _ (some 148) _ = _
                        simp only [Act.put, List.setIfInBounds_toArray, List.set_cons_zero, List.set_cons_succ]
                        rfl
                      refine one_ (i := 10) (N := some 149) #[true, true, true, true, true, true, true, true, true, true, true, false, false] rfl rfl (by kernel_rfl) (by decide) (fun K hK => ?_)
                      refine Kd.Q_append_step kH (w0 := w) w.heap.size (by rfl) (.tmp 146) (.tmp 148) 102 52 _ 24 rfl Try.underlying102 info52 rfl (by decide) (by decide) _ (H s) (Ad0, dd.length, cd0) [.slice Ad0 dd.length cd0] _ (fun _ => False) rfl rfl rfl (fun _ h => h.elim) HFR.out HQ.out HBd.out HBd.out.size (by have := HLN8.out; omega) ?_
                      intro v5 w5 hq5 hb5 hg5 hat5
                      obtain ⟨A5, c5, rfl, _, _⟩ := Kd.Q_reads hq5
                      obtain ⟨L5, hL5⟩ : ∃ L5, L5 = (H s ++ [((Ad0, dd.length, cd0) : Hdr)]).length := ⟨_, rfl⟩
                      rw [← hL5] at hq5 hat5 ⊢
                      clear hL5
                      have f1 : w5.cell? ⟨sb, 1, none⟩ = some (.int .i64 (s : Int)) := blk_cell (vals_far HVd.out HSN.out hg5 HSd.out (by decide)) 1
                      have f0 : w5.cell? ⟨c9, 0, none⟩ = some (.slice (some ⟨vb, 0, none⟩) n cq) := blk_cell (vals_far HVd.out HSN.out hg5 HVd.out.box (by decide)) 0
                      obtain ⟨cs5, hv5, _, hcs5⟩ := HVd.out.outer
                      have f5 := vals_far HVd.out HSN.out hg5 hv5 (by decide)
                      have f2 : w5.cell? ⟨vb, s, none⟩ = some (V s) := (blk_cell f5 s).trans (hcs5 s HSN.out)
                      have f2z : w5.frozen? ⟨vb, s, none⟩ = false := blk_frozen f5 s
                      have HFIN := Lib.hid (more_fin HVd.out HRd.out HFB.out HBd.out HSN.out hg5 (xs := dd) (by exact hq5) hat5 HE3.out (g5_then HKB.out (c_g5 HC0.out HBA.out)))
                      clear hq5 hb5 hg5 hat5 hv5 hcs5 f5
                      clear hHeld
                      refine hK.out _ _ ?_ (fun hHeld => ?_)
                      · exact ⟨f0, f1, f2⟩
                      clear hK K
                      refine norm_ (a' := ?_) ?_ ?_
                      rotate_left
                      · show Act.put _ (some 149) _ = _
                        simp only [Act.put, List.setIfInBounds_toArray, List.set_cons_zero, List.set_cons_succ]
                        rfl
                      refine pure_ (i := 11) (N := some 150) (v := ?_) (a' := ?_) #[true, true, true, true, true, true, true, true, true, true, true, true, false] rfl rfl (by kernel_rfl) (fun _ _ _ h => h) (Or.inl ⟨by rfl, ?_⟩) ?_ ?_
                      rotate_left
                      · intro w'
                        go_simp
                        with_reducible rfl
                      rotate_left
                      · simp only [Act.put, List.setIfInBounds_toArray, List.set_cons_zero, List.set_cons_succ]
                        rfl
                      refine last_ (i := 12) (N := none) #[true, true, true, true, true, true, true, true, true, true, true, true, true] rfl rfl (by kernel_rfl) (by decide) (fun K hK => ?_)
                      refine skip_ (w1 := ?_) (by rfl) rfl ?_ ?_
                      rotate_left
                      · go_simp
                        rfl
                      refine hK.out _ _ ?_
                      clear hK K
                      refine done_ (by kernel_rfl) ?_
                      refine NoPanic.normal ?_
                      go_wp2_with fail
                      go_meet
                      case rel => exact ⟨rfl, rfl, _, _, _, _, _, Lib.hid HFIN.out.1, Lib.hid (R_more HRV.out (dd)), Lib.hid HFIN.out.2.1, Lib.hid HFIN.out.2.2.1, Lib.hid (put_lens2 HLN2.out (by rw [List.length_append]; have := HCT.out (s : Int); simp; omega)), Lib.hid (by have := mput_len l (s : Int) (ofV l sz (s : Int) ++ [dd]); have := HLL.out; omega), Lib.hid HFIN.out.2.2.2⟩
                    · have HC := Lib.hid (dwrite_bad2 (s : Int) dd.length Ad0 cd0 HRA.out hin hl1)
                      have hle : ((dd.length : Int) == (sz : Int)) = false := by rw [beq_eq_false_iff_ne]; omega
                      clear hin hl1
                      go_wp2_with fail
                      refine (HC.out).mono ?_
                      rintro e wB ⟨rfl, rfl⟩
                      go_wp2_with fail
                      go_meet
                      case rel => exact ⟨rfl, rfl, l, F, V, H, R, HVL, HRV, HRA, HFS, HLN2, HLL2, HBA⟩
                  · obtain rfl : bt = false := by rw [HBT.out]; exact decide_eq_false hin
                    have HC := Lib.hid (dwrite_bad1 x (.slice Ad0 dd.length cd0) HRA.out hin)
                    clear hin
                    go_wp2_with fail
                    refine (HC.out).mono ?_
                    rintro e wB ⟨rfl, rfl⟩
                    go_wp2_with fail
                    go_meet
                    case rel => exact ⟨rfl, rfl, l, F, V, H, R, HVL, HRV, HRA, HFS, HLN2, HLL2, HBA⟩
              · by_cases hd2 : dk = 2
                · subst hd2
                  clear hd1
                  as_aux_lemma =>
                    obtain ⟨w5, hrun5, hr5, hb5, hs5⟩ := make8 W sz (by have := HS2.out; omega)
                    obtain ⟨zb, hzb⟩ : ∃ zb, zb = W.heap.size := ⟨_, rfl⟩
                    have HRA5 := Lib.hid (HRA.out.below hb5)
                    have HVL5 := Lib.hid (HVL.out.below hb5 HNN.out)
                    have HBA5 := Lib.hid (chainC (Nat.le_refl _) HBA.out hb5)
                    have HNN5 : Hid (w.heap.size ≤ w5.heap.size) := Lib.hid HBA5.out.size
                    have HSA5 := Lib.hid ((hb5.block sb HSNE.out.2.2.2.2).trans HSA.out)
                    have HG5 := Lib.hid (r_g5 (N0 := w.heap.size) hr5).2
                    rw [← hzb] at hrun5 HG5
                    have s0w : w5.cell? ⟨sb, 0, none⟩ = some (.int .i64 2) := blk_cell HSA5.out 0
                    have s1w : w5.cell? ⟨sb, 1, none⟩ = some (.int .i64 x) := blk_cell HSA5.out 1
                    have hzz : (zeros sz).length = sz := List.length_replicate
                    have HZZ := Lib.hid hzz
                    clear hr5 hb5 hs5 hzb hzz
                    by_cases hin : 0 ≤ x ∧ x < (n : Int)
                    · obtain rfl : bt = true := by rw [HBT.out]; exact decide_eq_true hin
                      obtain ⟨s, rfl⟩ := Int.eq_ofNat_of_zero_le hin.1
                      have hsn : s < n := by omega
                      have HC := Lib.hid (dtrim_ok (s : Int) HRA5.out HX.out hin (by have := HCT.out (s : Int); have := HM60.out; omega))
                      have hs0 : (s : Int) < (n : Int) := hin.2
                      clear hin
                      go_wp2_with fail
                      refine (HC.out).mono ?_
                      rintro e wB ⟨rfl, F', hr, hnx, hm⟩
                      have HRB := Lib.hid hr
                      have HVB := Lib.hid (vals_rec HVL5.out HRA5.out hm HNN5.out HBB.out)
                      have HFB := Lib.hid (foot_nx HVL5.out HFS.out hnx)
                      have HBB2 := Lib.hid (Mods.toBelow HBA5.out hm HBA5.out.size (fun i e => by rw [e]; exact HBB.out))
                      have HSB2 := Lib.hid (hm.blk HSA5.out HSNE.out.1)
                      have HKB := Lib.hid (g5_rec HRA5.out hm HNN5.out HBB.out)
                      clear hr hm
                      clear s0 s1 s2 s0w s1w hnx hrun5
                      have HGC := HG5.out
                      rw [HZZ.out] at HGC
                      have HGC := Lib.hid HGC
                      go_wp2_with fail
                      have HRd := Lib.hid (HRB.out.drewN 1)
                      have HVd : Hid (ValsIs wB.drew w.heap.size c9 vb n cq V H R) := Lib.hid (HVB.out.at_ rfl rfl (fun _ _ _ _ => rfl) (fun _ _ => rfl) (Nat.le_refl _))
                      have HBd : Hid (Below w.heap.size w wB.drew) := Lib.hid (pw_below_drewN HBB2.out 1)
                      have HSd : Hid (wB.drew.heap[sb]? = _) := Lib.hid HSB2.out
                      have s0 : wB.cell? ⟨sb, 0, none⟩ = some (.int .i64 2) := blk_cell HSB2.out 0
                      have s1 : wB.cell? ⟨sb, 1, none⟩ = some (.int .i64 (s : Int)) := blk_cell HSB2.out 1
                      have s1d : wB.drew.cell? ⟨sb, 1, none⟩ = some (.int .i64 (s : Int)) := s1
                      have b0d : wB.drew.cell? ⟨c9, 0, none⟩ = some (.slice (some ⟨vb, 0, none⟩) n cq) := HVd.out.boxc
                      have b1d : wB.drew.cell? ⟨vb, s, none⟩ = some (V s) := HVd.out.rowc hsn
                      have b1a : (wB.drew.alloc (.cells #[.slice (some ⟨zb, 0, none⟩) sz sz] 52)).cell? ⟨vb, s, none⟩ = some (V s) := blk_alloc_cell b1d _
                      have b2a : (wB.drew.alloc (.cells #[.slice (some ⟨zb, 0, none⟩) sz sz] 52)).cell? ⟨c9, 0, none⟩ = some (.slice (some ⟨vb, 0, none⟩) n cq) := blk_alloc_cell b0d _
                      have b3a : (wB.drew.alloc (.cells #[.slice (some ⟨zb, 0, none⟩) sz sz] 52)).cell? ⟨sb, 1, none⟩ = some (.int .i64 (s : Int)) := blk_alloc_cell s1d _
                      have b1e : (wB.alloc (.cells #[.slice (some ⟨zb, 0, none⟩) sz sz] 52)).drew.cell? ⟨vb, s, none⟩ = some (V s) := b1a
                      have b2e : (wB.alloc (.cells #[.slice (some ⟨zb, 0, none⟩) sz sz] 52)).drew.cell? ⟨c9, 0, none⟩ = some (.slice (some ⟨vb, 0, none⟩) n cq) := b2a
                      have b3e : (wB.alloc (.cells #[.slice (some ⟨zb, 0, none⟩) sz sz] 52)).drew.cell? ⟨sb, 1, none⟩ = some (.int .i64 (s : Int)) := b3a
                      have HQ := Lib.hid (HVd.out.rows s hsn)
                      have HFR : Hid (∀ k, wB.drew.heap.size ≤ k → ∀ j, j < n → j ≠ s → (V j).ownBlock ≠ some k) := Lib.hid (fun k hk j hj _ e => by have := (HVd.out.own hj e).1; omega)
                      have HLN8 : Hid ((H s).length + 1 ≤ 1000) := Lib.hid (by
                        obtain ⟨_, _, _, _, _, h⟩ := HVd.out.form hsn
                        rw [h, HRV.out s hsn]
                        have := HCT.out (s : Int)
                        have := HM60.out
                        omega)
                      have hsq : (s : Int) < (cq : Int) := by have := HCQ.out; omega
                      have HSN := Lib.hid hsn
                      have HS0 : Hid (wB.drew.cell? ⟨c9, 0, none⟩ = some (.slice (some ⟨vb, 0, none⟩) n cq) ∧ wB.drew.cell? ⟨sb, 1, none⟩ = some (.int .i64 (s : Int)) ∧ wB.drew.cell? ⟨vb, s, none⟩ = some (V s)) := Lib.hid ⟨b0d, s1d, b1d⟩
                      refine wp_region_noPanic ?_
                      refine start_ (n := 13) (S := fun w' => w'.cell? ⟨c9, 0, none⟩ = some (.slice (some ⟨vb, 0, none⟩) n cq) ∧ w'.cell? ⟨sb, 1, none⟩ = some (.int .i64 (s : Int)) ∧ w'.cell? ⟨vb, s, none⟩ = some (V s)) (ds := [12]) #[false, false, false, false, false, false, false, false, false, false, false, false, false] (by kernel_rfl) rfl rfl HS0.out (fun hHeld => ?_)
                      refine pure_ (i := 1) (N := some 140) (v := ?_) (a' := ?_) #[false, true, false, false, false, false, false, false, false, false, false, false, false] rfl rfl (by kernel_rfl) (fun _ _ _ h => h) (Or.inl ⟨by rfl, ?_⟩) ?_ ?_
                      rotate_left
                      · intro w'
                        go_simp
                        with_reducible rfl
                      rotate_left
                      · simp only [Act.put, List.setIfInBounds_toArray, List.set_cons_zero, List.set_cons_succ]
                        rfl
                      refine pure_ (i := 4) (N := some 143) (v := ?_) (a' := ?_) #[false, true, false, false, true, false, false, false, false, false, false, false, false] rfl rfl (by kernel_rfl) (fun _ _ _ h => h) (Or.inl ⟨by rfl, ?_⟩) ?_ ?_
                      rotate_left
                      · intro w'
                        go_simp
                        with_reducible rfl
                      rotate_left
                      · simp only [Act.put, List.setIfInBounds_toArray, List.set_cons_zero, List.set_cons_succ]
                        rfl
                      refine pure_ (i := 8) (N := some 147) (v := ?_) (a' := ?_) #[false, true, false, false, true, false, false, false, true, false, false, false, false] rfl rfl (by kernel_rfl) (fun _ _ _ h => h) (Or.inl ⟨by rfl, ?_⟩) ?_ ?_
                      rotate_left
                      · intro w'
                        go_simp
                        with_reducible rfl
                      rotate_left
                      · simp only [Act.put, List.setIfInBounds_toArray, List.set_cons_zero, List.set_cons_succ]
                        rfl
                      refine take_ (i := 0) (N := some 139) (v := ?_) (a' := ?_) #[true, true, false, false, true, false, false, false, true, false, false, false, false] rfl rfl (by kernel_rfl) (fun _ _ _ h => h) (Or.inl ⟨by rfl, ?_⟩) hHeld ?_ ?_
                      rotate_left
                      · rintro w' ⟨s0, s1, s2⟩
                        go_simp
                        with_reducible rfl
                      rotate_left
                      · simp only [Act.put, List.setIfInBounds_toArray, List.set_cons_zero, List.set_cons_succ]
                        rfl
                      refine take_ (i := 2) (N := some 141) (v := ?_) (a' := ?_) #[true, true, true, false, true, false, false, false, true, false, false, false, false] rfl rfl (by kernel_rfl) (fun _ _ _ h => h) (Or.inl ⟨by rfl, ?_⟩) hHeld ?_ ?_
                      rotate_left
                      · rintro w' ⟨s0, s1, s2⟩
                        go_simp
                        with_reducible rfl
                      rotate_left
                      · simp only [Act.put, List.setIfInBounds_toArray, List.set_cons_zero, List.set_cons_succ]
                        rfl
                      refine take_ (i := 3) (N := some 142) (v := ?_) (a' := ?_) #[true, true, true, true, true, false, false, false, true, false, false, false, false] rfl rfl (by kernel_rfl) (fun _ _ _ h => h) (Or.inl ⟨by rfl, ?_⟩) hHeld ?_ ?_
                      rotate_left
                      · rintro w' ⟨s0, s1, s2⟩
                        go_simp
                        with_reducible rfl
                      rotate_left
                      · simp only [Act.put, List.setIfInBounds_toArray, List.set_cons_zero, List.set_cons_succ]
                        rfl
                      refine take_ (i := 5) (N := some 144) (v := ?_) (a' := ?_) #[true, true, true, true, true, true, false, false, true, false, false, false, false] rfl rfl (by kernel_rfl) (fun _ _ _ h => h) (Or.inl ⟨by rfl, ?_⟩) hHeld ?_ ?_
                      rotate_left
                      · rintro w' ⟨s0, s1, s2⟩
                        go_simp
                        with_reducible rfl
                      rotate_left
                      · simp only [Act.put, List.setIfInBounds_toArray, List.set_cons_zero, List.set_cons_succ]
                        rfl
                      refine pure_ (i := 6) (N := some 145) (v := ?_) (a' := ?_) #[true, true, true, true, true, true, true, false, true, false, false, false, false] rfl rfl (by kernel_rfl) (fun _ _ _ h => h) (Or.inl ⟨by rfl, ?_⟩) ?_ ?_
                      rotate_left
                      · intro w'
                        go_simp
                        with_reducible rfl
                      rotate_left
                      · simp only [Act.put, List.setIfInBounds_toArray, List.set_cons_zero, List.set_cons_succ]
                        rfl
                      refine take_ (i := 7) (N := some 146) (v := ?_) (a' := ?_) #[true, true, true, true, true, true, true, true, true, false, false, false, false] rfl rfl (by kernel_rfl) (fun _ _ _ h => h) (Or.inl ⟨by rfl, ?_⟩) hHeld ?_ ?_
                      rotate_left
                      · rintro w' ⟨s0, s1, s2⟩
                        go_simp
                        with_reducible rfl
                      rotate_left
                      · simp only [Act.put, List.setIfInBounds_toArray, List.set_cons_zero, List.set_cons_succ]
                        rfl
                      refine one_ (i := 9) (N := some 148) #[true, true, true, true, true, true, true, true, true, true, false, false, false] rfl rfl (by kernel_rfl) (by decide) (fun K hK => ?_)
                      refine value_ (w1 := ?_) (v := ?_) (by rfl) rfl ?_ ?_
                      rotate_left 2
                      · go_simp
                        constructor
                        · rfl
                        · rfl
                      clear hHeld
                      refine hK.out _ _ ?_ (fun hHeld => ?_)
                      · exact ⟨b2e, b3e, b1e⟩
                      clear hK K
                      refine norm_ (a' := ?_) ?_ ?_
                      rotate_left
                      · show Act.put _ (some 148) _ = _
                        simp only [Act.put, List.setIfInBounds_toArray, List.set_cons_zero, List.set_cons_succ]
                        rfl
                      refine one_ (i := 10) (N := some 149) #[true, true, true, true, true, true, true, true, true, true, true, false, false] rfl rfl (by kernel_rfl) (by decide) (fun K hK => ?_)
                      refine Kd.Q_append_step kH (w0 := w) w.heap.size (by rfl) (.tmp 146) (.tmp 148) 102 52 _ 24 rfl Try.underlying102 info52 rfl (by decide) (by decide) _ (H s) ((some ⟨zb, 0, none⟩), sz, sz) [.slice (some ⟨zb, 0, none⟩) sz sz] _ (fun _ => False) rfl rfl rfl (fun _ h => h.elim) HFR.out HQ.out HBd.out HBd.out.size (by have := HLN8.out; omega) ?_
                      intro v5 w5 hq5 hb5 hg5 hat5
                      obtain ⟨A5, c5, rfl, _, _⟩ := Kd.Q_reads hq5
                      obtain ⟨L5, hL5⟩ : ∃ L5, L5 = (H s ++ [(((some ⟨zb, 0, none⟩), sz, sz) : Hdr)]).length := ⟨_, rfl⟩
                      rw [← hL5] at hq5 hat5 ⊢
                      clear hL5
                      have f1 : w5.cell? ⟨sb, 1, none⟩ = some (.int .i64 (s : Int)) := blk_cell (vals_far HVd.out HSN.out hg5 HSd.out (by decide)) 1
                      have f0 : w5.cell? ⟨c9, 0, none⟩ = some (.slice (some ⟨vb, 0, none⟩) n cq) := blk_cell (vals_far HVd.out HSN.out hg5 HVd.out.box (by decide)) 0
                      obtain ⟨cs5, hv5, _, hcs5⟩ := HVd.out.outer
                      have f5 := vals_far HVd.out HSN.out hg5 hv5 (by decide)
                      have f2 : w5.cell? ⟨vb, s, none⟩ = some (V s) := (blk_cell f5 s).trans (hcs5 s HSN.out)
                      have f2z : w5.frozen? ⟨vb, s, none⟩ = false := blk_frozen f5 s
                      have HFIN := Lib.hid (more_fin HVd.out HRd.out HFB.out HBd.out HSN.out hg5 (xs := zeros sz) (by rw [HZZ.out]; exact hq5) hat5 (by rw [HZZ.out]; exact Nat.le_refl _) (g5_then HKB.out HG5.out.2))
                      clear hq5 hb5 hg5 hat5 hv5 hcs5 f5
                      clear hHeld
                      refine hK.out _ _ ?_ (fun hHeld => ?_)
                      · exact ⟨f0, f1, f2⟩
                      clear hK K
                      refine norm_ (a' := ?_) ?_ ?_
                      rotate_left
                      · show Act.put _ (some 149) _ = _
                        simp only [Act.put, List.setIfInBounds_toArray, List.set_cons_zero, List.set_cons_succ]
                        rfl
                      refine pure_ (i := 11) (N := some 150) (v := ?_) (a' := ?_) #[true, true, true, true, true, true, true, true, true, true, true, true, false] rfl rfl (by kernel_rfl) (fun _ _ _ h => h) (Or.inl ⟨by rfl, ?_⟩) ?_ ?_
                      rotate_left
                      · intro w'
                        go_simp
                        with_reducible rfl
                      rotate_left
                      · simp only [Act.put, List.setIfInBounds_toArray, List.set_cons_zero, List.set_cons_succ]
                        rfl
                      refine last_ (i := 12) (N := none) #[true, true, true, true, true, true, true, true, true, true, true, true, true] rfl rfl (by kernel_rfl) (by decide) (fun K hK => ?_)
                      refine skip_ (w1 := ?_) (by rfl) rfl ?_ ?_
                      rotate_left
                      · go_simp
                        rfl
                      refine hK.out _ _ ?_
                      clear hK K
                      refine done_ (by kernel_rfl) ?_
                      refine NoPanic.normal ?_
                      go_wp2_with fail
                      go_meet
                      case rel => exact ⟨rfl, rfl, _, _, _, _, _, Lib.hid HFIN.out.1, Lib.hid (R_more HRV.out (zeros sz)), Lib.hid HFIN.out.2.1, Lib.hid HFIN.out.2.2.1, Lib.hid (put_lens2 HLN2.out (by rw [List.length_append]; have := HCT.out (s : Int); simp; omega)), Lib.hid (by have := mput_len l (s : Int) (ofV l sz (s : Int) ++ [zeros sz]); have := HLL.out; omega), Lib.hid HFIN.out.2.2.2⟩
                    · obtain rfl : bt = false := by rw [HBT.out]; exact decide_eq_false hin
                      have HC := Lib.hid (dtrim_bad x HRA5.out hin)
                      clear hin
                      go_wp2_with fail
                      refine (HC.out).mono ?_
                      rintro e wB ⟨rfl, rfl⟩
                      go_wp2_with fail
                      go_meet
                      case rel => exact ⟨rfl, rfl, l, F, V, H, R, HVL5, HRV, HRA5, HFS, HLN2, HLL2, HBA5⟩
                · by_cases hd3 : dk = 3
                  · subst hd3
                    clear hd1 hd2
                    as_aux_lemma =>
                      by_cases hin : 0 ≤ x ∧ x < (n : Int)
                      · obtain rfl : bt = true := by rw [HBT.out]; exact decide_eq_true hin
                        obtain ⟨s, rfl⟩ := Int.eq_ofNat_of_zero_le hin.1
                        have hsn : s < n := by omega
                        have hlen : ∀ r ∈ R s, r.length ≤ 100000 := fun r hr => by
                          rw [HRV.out s hsn] at hr
                          have := ((ofV_isB HRA.out (s : Int)).2 r hr).1
                          have := HS2.out
                          omega
                        have hcn : (ofV l sz (s : Int)).length ≤ 1000 := by have := HCT.out (s : Int); have := HM60.out; omega
                        have hvi := vin_ok HVL.out s hsn HN2.out Ad0 cd0 dd HCW.out HE3.out (by rw [HRV.out s hsn]; exact hcn) hlen
                        rw [HRV.out s hsn] at hvi
                        have HVI := Lib.hid hvi
                        have hmy := fun q => dmay_ok (s : Int) dd Ad0 cd0 (HRA.out.drewN q) HX.out (Kd.C_drewN HCW.out q) HE3.out HDD.out hcn
                        by_cases hmem : dd ∈ ofV l sz (s : Int)
                        · rw [decide_eq_true hmem] at hvi
                          have hs0 : (s : Int) < (n : Int) := hin.2
                          have hyes : ((0 ≤ (s : Int) ∧ (s : Int) < (n : Int)) ∧ dd ∈ ofV l sz (s : Int)) := ⟨hin, hmem⟩
                          rw [decide_eq_true hyes] at hmy
                          have HYES := Lib.hid hyes
                          have HVI := Lib.hid hvi
                          have HMY := Lib.hid hmy
                          have HCNN := Lib.hid hcn
                          clear hin hvi hmy hmem hyes hcn hlen
                          go_wp2_with fail
                          refine (HVI.out).mono ?_
                          rintro e w6 ⟨rfl, ⟨q, rfl⟩⟩
                          have s1q : (W.drewN q).cell? ⟨sb, 1, none⟩ = some (.int .i64 (s : Int)) := s1
                          have s2q : (W.drewN q).cell? ⟨sb, 2, none⟩ = some (.slice Ad0 dd.length cd0) := s2
                          go_wp2_with fail
                          refine (HMY.out q).mono ?_
                          rintro e w7 ⟨rfl, hb7⟩
                          have HRA7 := Lib.hid ((HRA.out.drewN q).below hb7)
                          have HVL7 := Lib.hid ((HVL.out.at_ (w' := W.drewN q) rfl rfl (fun _ _ _ _ => rfl) (fun _ _ => rfl) (Nat.le_refl _)).below hb7 HNN.out)
                          have HBA7 := Lib.hid (chainC (Nat.le_refl _) (pw_below_drewN HBA.out q) hb7)
                          have HNN7 : Hid (w.heap.size ≤ w7.heap.size) := Lib.hid HBA7.out.size
                          have HSA7 := Lib.hid ((hb7.block sb HSNE.out.2.2.2.2).trans HSA.out)
                          have s1w : w7.cell? ⟨sb, 1, none⟩ = some (.int .i64 (s : Int)) := blk_cell HSA7.out 1
                          have s2w : w7.cell? ⟨sb, 2, none⟩ = some (.slice Ad0 dd.length cd0) := blk_cell HSA7.out 2
                          have HST := Lib.hid (dsettle_ok (s : Int) dd Ad0 cd0 HRA7.out HX.out (Kd.C_below (Kd.C_drewN HCW.out q) hb7) HE3.out HDD.out HCNN.out HYES.out)
                          clear hb7
                          go_wp2_with fail
                          refine (HST.out).mono ?_
                          rintro e wB ⟨rfl, F', hr, hnx, hm⟩
                          have HRB := Lib.hid hr
                          have HVB := Lib.hid (vals_rec HVL7.out HRA7.out hm HNN7.out HBB.out)
                          have HFB := Lib.hid (foot_nx HVL7.out HFS.out hnx)
                          have HBB2 := Lib.hid (Mods.toBelow HBA7.out hm HBA7.out.size (fun i e => by rw [e]; exact HBB.out))
                          have HSB2 := Lib.hid (hm.blk HSA7.out HSNE.out.1)
                          have HKB := Lib.hid (g5_rec HRA7.out hm HNN7.out HBB.out)
                          clear hr hm
                          have s1B : wB.cell? ⟨sb, 1, none⟩ = some (.int .i64 (s : Int)) := blk_cell HSB2.out 1
                          have s2B : wB.cell? ⟨sb, 2, none⟩ = some (.slice Ad0 dd.length cd0) := blk_cell HSB2.out 2
                          have b0B : wB.cell? ⟨c9, 0, none⟩ = some (.slice (some ⟨vb, 0, none⟩) n cq) := HVB.out.boxc
                          have b1B : wB.cell? ⟨vb, s, none⟩ = some (V s) := HVB.out.rowc hsn
                          obtain ⟨cs5, hv5, _, _⟩ := HVB.out.outer
                          have b1z : wB.frozen? ⟨vb, s, none⟩ = false := blk_frozen hv5 s
                          have b1a : (wB.alloc (.cells #[.slice Ad0 dd.length cd0] 52)).cell? ⟨vb, s, none⟩ = some (V s) := blk_alloc_cell b1B _
                          have hv5a : (wB.alloc (.cells #[.slice Ad0 dd.length cd0] 52)).heap[vb]? = some (.cells cs5 102 (0, 0)) := (Below.heap_alloc wB _ vb (blk_lt hv5)).trans hv5
                          have b1za : (wB.alloc (.cells #[.slice Ad0 dd.length cd0] 52)).frozen? ⟨vb, s, none⟩ = false := blk_frozen hv5a s
                          have hsq : (s : Int) < (cq : Int) := by have := HCQ.out; omega
                          have hfin := one_fin HVB.out HRB.out HFB.out HBB2.out hsn HE3.out (g5_then HKB.out (c_g5 HC0.out HBA7.out))
                          have HFIN := Lib.hid hfin
                          have HRM := Lib.hid (R_put (l := l) HRV.out (s := s) [dd])
                          clear hfin hnx hsn hv5 hv5a s0 s1 s2 s1q s2q s1w s2w
                          go_wp2_with fail
                          go_meet
                          case rel => exact ⟨rfl, rfl, _, _, _, _, _, Lib.hid HFIN.out.1, HRM, Lib.hid HFIN.out.2.1, Lib.hid HFIN.out.2.2.1, Lib.hid (put_lens2 HLN2.out (by simp)), Lib.hid (by have := mput_len l (s : Int) [dd]; have := HLL.out; omega), Lib.hid HFIN.out.2.2.2⟩
                        · rw [decide_eq_false hmem] at hvi
                          have hno : ¬ ((0 ≤ (s : Int) ∧ (s : Int) < (n : Int)) ∧ dd ∈ ofV l sz (s : Int)) := fun h => hmem h.2
                          rw [decide_eq_false hno] at hmy
                          have HNO := Lib.hid hno
                          have HVI := Lib.hid hvi
                          have HMY := Lib.hid hmy
                          have HCNN := Lib.hid hcn
                          clear hin hvi hmy hmem hno hcn hlen
                          go_wp2_with fail
                          refine (HVI.out).mono ?_
                          rintro e w6 ⟨rfl, ⟨q, rfl⟩⟩
                          have s1q : (W.drewN q).cell? ⟨sb, 1, none⟩ = some (.int .i64 (s : Int)) := s1
                          have s2q : (W.drewN q).cell? ⟨sb, 2, none⟩ = some (.slice Ad0 dd.length cd0) := s2
                          go_wp2_with fail
                          refine (HMY.out q).mono ?_
                          rintro e w7 ⟨rfl, hb7⟩
                          have HRA7 := Lib.hid ((HRA.out.drewN q).below hb7)
                          have HVL7 := Lib.hid ((HVL.out.at_ (w' := W.drewN q) rfl rfl (fun _ _ _ _ => rfl) (fun _ _ => rfl) (Nat.le_refl _)).below hb7 HNN.out)
                          have HBA7 := Lib.hid (chainC (Nat.le_refl _) (pw_below_drewN HBA.out q) hb7)
                          have HSA7 := Lib.hid ((hb7.block sb HSNE.out.2.2.2.2).trans HSA.out)
                          have s1w : w7.cell? ⟨sb, 1, none⟩ = some (.int .i64 (s : Int)) := blk_cell HSA7.out 1
                          have s2w : w7.cell? ⟨sb, 2, none⟩ = some (.slice Ad0 dd.length cd0) := blk_cell HSA7.out 2
                          have HST := Lib.hid (dsettle_bad (s : Int) dd Ad0 cd0 HRA7.out HX.out (Kd.C_below (Kd.C_drewN HCW.out q) hb7) HE3.out HDD.out HCNN.out HNO.out)
                          clear hb7
                          go_wp2_with fail
                          refine (HST.out).mono ?_
                          rintro e w8 ⟨rfl, hb8⟩
                          have HRA8 := Lib.hid (HRA7.out.below hb8)
                          have HVL8 := Lib.hid (HVL7.out.below hb8 HBA7.out.size)
                          have HBA8 := Lib.hid (chainC (Nat.le_refl _) HBA7.out hb8)
                          clear hb8
                          go_wp2_with fail
                          go_meet
                          case rel => exact ⟨rfl, rfl, l, F, V, H, R, HVL8, HRV, HRA8, HFS, HLN2, HLL2, HBA8⟩
                      · obtain rfl : bt = false := by rw [HBT.out]; exact decide_eq_false hin
                        have hno : ¬ ((0 ≤ x ∧ x < (n : Int)) ∧ dd ∈ ofV l sz x) := fun h => hin h.1
                        have hcn : (ofV l sz x).length ≤ 1000 := by have := HCT.out x; have := HM60.out; omega
                        have hmy := fun q => dmay_ok x dd Ad0 cd0 (HRA.out.drewN q) HX.out (Kd.C_drewN HCW.out q) HE3.out HDD.out hcn
                        rw [decide_eq_false hno] at hmy
                        have HNO := Lib.hid hno
                        have HMY := Lib.hid hmy
                        have HCNN := Lib.hid hcn
                        clear hin hmy hno hcn
                        go_wp2_with fail
                        refine (HMY.out 0).mono ?_
                        rintro e w7 ⟨rfl, hb7⟩
                        have HRA7 := Lib.hid ((HRA.out.drewN 0).below hb7)
                        have HVL7 := Lib.hid ((HVL.out.at_ (w' := W.drewN 0) rfl rfl (fun _ _ _ _ => rfl) (fun _ _ => rfl) (Nat.le_refl _)).below hb7 HNN.out)
                        have HBA7 := Lib.hid (chainC (Nat.le_refl _) (pw_below_drewN HBA.out 0) hb7)
                        have HSA7 := Lib.hid ((hb7.block sb HSNE.out.2.2.2.2).trans HSA.out)
                        have s1w : w7.cell? ⟨sb, 1, none⟩ = some (.int .i64 x) := blk_cell HSA7.out 1
                        have s2w : w7.cell? ⟨sb, 2, none⟩ = some (.slice Ad0 dd.length cd0) := blk_cell HSA7.out 2
                        have HST := Lib.hid (dsettle_bad x dd Ad0 cd0 HRA7.out HX.out (Kd.C_below (Kd.C_drewN HCW.out 0) hb7) HE3.out HDD.out HCNN.out HNO.out)
                        clear hb7
                        go_wp2_with fail
                        refine (HST.out).mono ?_
                        rintro e w8 ⟨rfl, hb8⟩
                        have HRA8 := Lib.hid (HRA7.out.below hb8)
                        have HVL8 := Lib.hid (HVL7.out.below hb8 HBA7.out.size)
                        have HBA8 := Lib.hid (chainC (Nat.le_refl _) HBA7.out hb8)
                        clear hb8
                        go_wp2_with fail
                        go_meet
                        case rel => exact ⟨rfl, rfl, l, F, V, H, R, HVL8, HRV, HRA8, HFS, HLN2, HLL2, HBA8⟩
                  · by_cases hd4 : dk = 4
                    · subst hd4
                      clear hd1 hd2 hd3
                      as_aux_lemma =>
                        have HC := Lib.hid (dflush_ok HRA.out HN1.out (fun p hp => by have := HLN2.out p hp; have := HM60.out; omega))
                        go_wp2_with fail
                        refine (HC.out).mono ?_
                        rintro e wB ⟨rfl, hr, hm⟩
                        have HRB := Lib.hid hr
                        have HVB := Lib.hid (vals_rec HVL.out HRA.out hm HNN.out HBB.out)
                        have HBB2 := Lib.hid (Mods.toBelow HBA.out hm HBA.out.size (fun i e => by rw [e]; exact HBB.out))
                        have b0 : wB.cell? ⟨c9, 0, none⟩ = some (.slice (some ⟨vb, 0, none⟩) n cq) := HVB.out.boxc
                        have HOV : Hid (∀ s, ofV l sz s ≠ []) := Lib.hid (fun s => (ofV_isB HRA.out s).1)
                        clear hr hm s0 s1 s2
                        go_wp2_with fail
                        clear b0
                        go_loopw [204] (fun i wr => ∃ (q : Nat) (V : Nat → Value) (H : Nat → List Hdr) (R : Nat → List (List Int)), q ≤ n ∧ i = .int .i64 q ∧ Hid (ValsIs wr w.heap.size c9 vb n cq V H R) ∧ Hid (∀ i, i < n → R i = if i < q then ofV (flL l) sz (i : Int) else ofV l sz (i : Int)) ∧ Hid (RecIs wr g b n sz F (flL l)) ∧ Hid (FootOk F c9 vb n V) ∧ Hid (Below w.heap.size w wr)) (fun i _ => n - (intOf i).toNat)
                        case atStart => exact ⟨0, V, H, R, by omega, rfl, HVB, Lib.hid (fun i hi => by rw [if_neg (by omega)]; exact HRV.out i hi), HRB, HFS, HBB2⟩
                        case round =>
                          clear HVB HRB HBB2 HVL HRV HFS HRA HBA HSA HC V H R
                          obtain ⟨q, V, H, R, hq, rfl, HVB, HRV, HRB, HFS, HBB2⟩ := hrel
                          by_cases hqn : q < n
                          · have hq0 : (q : Int) < (n : Int) := by omega
                            have hq50 : (n : Int) ≤ 50 := by have := HN2.out; omega
                            have hqq : (q : Int) < (cq : Int) := by have := HCQ.out; omega
                            have hr1 := HRV.out q hqn
                            rw [if_neg (by omega)] at hr1
                            have hne : R q ≠ [] := by rw [hr1]; exact HOV.out _
                            have hVd : ValsIs wr.drew w.heap.size c9 vb n cq V H R := HVB.out.at_ rfl rfl (fun _ _ _ _ => rfl) (fun _ _ => rfl) (Nat.le_refl _)
                            obtain ⟨bq, oq, m1, cp, hVq, hcp, hlm, hcut⟩ := hVd.cut hqn HBB2.out.size hne
                            have b0 : wr.cell? ⟨c9, 0, none⟩ = some (.slice (some ⟨vb, 0, none⟩) n cq) := HVB.out.boxc
                            have b0d : wr.drew.cell? ⟨c9, 0, none⟩ = some (.slice (some ⟨vb, 0, none⟩) n cq) := b0
                            have b1 := HVB.out.rowc hqn
                            rw [hVq] at b1
                            have hrow := rec_row (w1 := wr.drew) (HRB.out.drewN 1) hVd HFS.out hqn ⟨rfl, rfl, rfl, Nat.le_refl _, fun _ _ _ => rfl⟩ (.slice (some ⟨bq, oq + m1, none⟩) 1 (cp - m1))
                            have HCUT := Lib.hid hcut
                            have HROW := Lib.hid hrow.1
                            have HBR := Lib.hid (below_row (pw_below_drewN HBB2.out 1) hVd hqn hrow.2)
                            have HFU := Lib.hid (foot_upd (wB := wr) (s := q) (v1 := .slice (some ⟨bq, oq + m1, none⟩) 1 (cp - m1)) HFS.out (fun k hk => (HRB.out.foot k hk).1) (.inl (by rw [hVq]; rfl)))
                            have HRU : Hid (∀ i, i < n → upd R q [(R q).getLastD []] i = if i < q + 1 then ofV (flL l) sz (i : Int) else ofV l sz (i : Int)) := Lib.hid (fun i hi => by
                              by_cases e : i = q
                              · subst e; rw [upd_same, if_pos (by omega), ofV_fl, hr1]
                              · rw [upd_ne _ _ e, HRV.out i hi]
                                by_cases h : i < q
                                · rw [if_pos h, if_pos (by omega)]
                                · rw [if_neg h, if_neg (by omega)])
                            have hm60 : m1 + 1 ≤ 1000 := by rw [← hlm, hr1]; have := HCT.out (q : Int); have := HM60.out; omega
                            have hls := fun W' => last_slice bq oq m1 cp hcp W'
                            obtain ⟨cs5, hv5, _, _⟩ := HVB.out.outer
                            have b1z : wr.drew.frozen? ⟨vb, q, none⟩ = false := blk_frozen hv5 q
                            have b1d : wr.drew.cell? ⟨vb, q, none⟩ = some (.slice (some ⟨bq, oq, none⟩) (m1 + 1) cp) := b1
                            have hi : ((m1 + 1 : Nat) : Int) - 1 = (m1 : Int) := by omega
                            have hi2 : (m1 : Int) + 1 - 1 = (m1 : Int) := by omega
                            have f6 : (wr.setCell ⟨vb, q, none⟩ (.slice (some ⟨bq, oq + m1, none⟩) 1 (cp - m1))).drew.cell? ⟨c9, 0, none⟩ = some (.slice (some ⟨vb, 0, none⟩) n cq) := (cell_block (p := ⟨c9, 0, none⟩) (Below.heap_setCell _ ⟨vb, q, none⟩ _ c9 HNE9.out)).trans b0d
                            have hmm : (m1 : Int) ≤ (m1 : Int) + 1 := by omega
                            have hw1 : IntKind.i64.wrap (m1 : Int) = (m1 : Int) := IntWalk.i64_in _ (by omega)
                            clear hrow hVd hcut hVq hlm hr1 hne hv5
                            go_wp2_with fail
                            go_region_held3 (fun w' => w'.cell? ⟨c9, 0, none⟩ = some (.slice (some ⟨vb, 0, none⟩) n cq)) (go_keep) (fail)
                            all_goals
                              go_wp2_with fail
                              go_roundw
                              case rel => exact ⟨q + 1, _, _, _, hqn, by go_num, HCUT, HRU, HROW, HFU, HBR⟩
                              case measure => exact step_measure hqn
                          · have hq2 : q = n := by omega
                            subst hq2
                            have HRV2 : Hid (∀ i, i < q → R i = ofV (flL l) sz (i : Int)) := Lib.hid (fun i hi => by rw [HRV.out i hi, if_pos hi])
                            have HLF : Hid (∀ p ∈ flL l, p.2.length ≤ k + 1 + 1) := Lib.hid (fun p hp => by rw [fl_one l p hp]; omega)
                            have HLL3 : Hid ((flL l).length ≤ k + 1) := Lib.hid (by unfold flL; rw [List.length_map]; exact HLL2.out)
                            clear hqn hq
                            go_wp2_with fail
                            go_meet
                            case rel => exact ⟨rfl, rfl, flL l, F, V, H, R, HVB, HRV2, HRB, HFS, HLF, HLL3, HBB2⟩
                    · skip
                      have b1 : (dk == (1 : Int)) = false := beq_eq_false_iff_ne.2 hd1
                      have b2 : (dk == (2 : Int)) = false := beq_eq_false_iff_ne.2 hd2
                      have b3 : (dk == (3 : Int)) = false := beq_eq_false_iff_ne.2 hd3
                      have b4 : (dk == (4 : Int)) = false := beq_eq_false_iff_ne.2 hd4
                      clear hd1 hd2 hd3 hd4
                      go_wp2_with fail
                      go_meet
                      case rel => exact ⟨rfl, rfl, l, F, V, H, R, HVL, HRV, HRA, HFS, HLN2, HLL2, HBA⟩
            case rest =>
              clear HRA HBA HVL HSA HLN2 HLL2 HCT HRV HFS HLN HLL HC0 HE3 HDD HX HSNE HNN HCW HBT s0 s1 s2 V H R l F
              obtain ⟨rfl, rfl, l, F, V, H, R, HVA, HRV, HRE, HFS, HLN, HLL, HB⟩ := hcut
              have HCT : Hid (∀ s, (ofV l sz s).length ≤ k + 1 + 1) := Lib.hid (fun s => ofV_len HLN.out (by omega) s)
              have b0 : wc.cell? ⟨c9, 0, none⟩ = some (.slice (some ⟨vb, 0, none⟩) n cq) := HVA.out.boxc
              go_wp2_with fail
              clear b0
              go_loopw [23, 220] (fun o i wr => ∃ (s : Nat), s ≤ n ∧ i = .int .i64 s ∧ o = .int .i64 (cntV l sz s) ∧ Hid (ValsIs wr w.heap.size c9 vb n cq V H R) ∧ Hid (RecIs wr g b n sz F l) ∧ Hid (Below w.heap.size w wr)) (fun _ i _ => n - (intOf i).toNat)
              case atStart => exact ⟨0, by omega, rfl, rfl, HVA, HRE, HB⟩
              case round =>
                clear HVA HRE HB
                obtain ⟨s, hs, rfl, rfl, HVA, HRE, HB⟩ := hrel
                by_cases hsn : s < n
                · have hs0 : (s : Int) < (n : Int) := by omega
                  have hn50 : (n : Int) ≤ 50 := by have := HN2.out; omega
                  have hsq : (s : Int) < (cq : Int) := by have := HCQ.out; omega
                  have hct := HCT.out (s : Int)
                  have hov := ofV_isB HRE.out (s : Int)
                  obtain ⟨A, cp, hV, hcp, hC, hHl⟩ := HVA.out.form hsn
                  have hst := HVA.out.bytes s hsn
                  have b1 := HVA.out.rowc hsn
                  rw [hV] at b1
                  rw [HRV.out s hsn] at b1 hcp hC hHl hst
                  have hla := dlast_ok (s : Int) HRE.out (okI_of (by omega) (by omega)) (by omega) (by have := HM60.out; omega)
                  obtain ⟨M1, hM⟩ : ∃ M1, (ofV l sz (s : Int)).length = M1 + 1 := ⟨(ofV l sz (s : Int)).length - 1, by have := List.length_pos_iff.2 hov.1; omega⟩
                  have hcv : cntV l sz (s + 1) = cntV l sz s + if 1 < (ofV l sz (s : Int)).length then 1 else 0 := rfl
                  generalize ofV l sz (s : Int) = Q at b1 hcp hC hHl hst hla hM hcv hov hct
                  obtain ⟨T, hT⟩ : ∃ T, T = Q.getLastD [] := ⟨_, rfl⟩
                  rw [← hT] at hla
                  have hml : M1 < (H s).length := by omega
                  have hh1 := List.getElem?_eq_getElem hml
                  obtain ⟨xs, hx1, hx2, hx3, hx4⟩ := All2.get hst hh1
                  obtain rfl : xs = T := by rw [hT, List.getLastD_eq_getLast?, List.getLast?_eq_getElem?, hM, Nat.add_sub_cancel, hx1]; rfl
                  rw [← hHl] at hC
                  obtain ⟨ba, oa, rfl, _, hcell⟩ := rowH_of_C hC (by omega)
                  have e0 := hcell M1 _ hh1
                  have hxl := (hov.2 _ (List.mem_of_getElem? hx1)).1
                  generalize (H s)[M1] = hd at e0 hx2 hx3 hx4
                  obtain ⟨hA, hn', hc'⟩ := hd
                  have hx2' : hn' = xs.length := hx2
                  subst hx2'
                  obtain ⟨ML, hML⟩ : ∃ ML, ML = Q.length := ⟨_, rfl⟩
                  rw [← hML] at b1 hM hcv hct
                  have hi : (ML : Int) - 1 = (M1 : Int) := by omega
                  have hb1 : (M1 : Int) < (ML : Int) := by omega
                  have hm60' : ML ≤ 62 := by have := HM60.out; omega
                  have hwr : IntKind.i64.wrap (M1 : Int) = (M1 : Int) := IntWalk.i64_in _ (by omega)
                  have bx : wr.cell? ⟨c9, 0, none⟩ = some (.slice (some ⟨vb, 0, none⟩) n cq) := HVA.out.boxc
                  have HX3 := Lib.hid hx3
                  have HX4 := Lib.hid hx4
                  have HXL : Hid (xs.length ≤ 100000) := Lib.hid (by have := HS2.out; omega)
                  have HLA := Lib.hid hla
                  have HCV := Lib.hid hcv
                  have hcl := cntV_le l sz s
                  have hlt0 := World.block_lt_of_cell? wr _ e0
                  clear hct hov hV hcp hC hHl hst hla hM hcv hT hml hh1 hx1 hx3 hx4 hcell hxl hML
                  generalize cntV l sz s = cv at HCV hcl ⊢
                  go_wp2_with fail
                  refine (HLA.out).mono ?_
                  rintro e w7 ⟨⟨v7, rfl, hv7⟩, hb7⟩
                  obtain ⟨A7, c7, rfl⟩ := Kd.R_slice hv7
                  have e07 := (hb7.cell (p := ⟨ba, oa + M1, none⟩) hlt0).trans e0
                  have hNw : w.heap.size ≤ wr.heap.size := HB.out.size
                  have hsm := same_call A7 c7 xs hA hc' xs w7 (own_C hv7).2.2 (own_C hv7).2.1 (HX4.out w7 (fun q hq => by
                    rcases hq with hq | ⟨cs, fr, hq⟩
                    · exact hb7.block q (Nat.lt_of_lt_of_le hq hNw)
                    · exact hb7.block q (blk_lt hq))) HX3.out HXL.out
                  rw [decide_eq_true rfl] at hsm
                  have HSM := Lib.hid hsm
                  have HVA7 := Lib.hid (HVA.out.below hb7 HB.out.size)
                  have HRE7 := Lib.hid (HRE.out.below hb7)
                  have HB7 := Lib.hid (chainC (Nat.le_refl _) HB.out hb7)
                  clear hv7 hb7 hsm hNw e0 b1 hlt0 bx
                  go_wp2_with fail
                  refine (HSM.out).mono ?_
                  rintro e w8 ⟨rfl, ⟨q, rfl⟩⟩
                  have HVA8 : Hid (ValsIs (w7.drewN q) w.heap.size c9 vb n cq V H R) := Lib.hid (HVA7.out.at_ rfl rfl (fun _ _ _ _ => rfl) (fun _ _ => rfl) (Nat.le_refl _))
                  have HRE8 := Lib.hid (HRE7.out.drewN q)
                  have HB8 := Lib.hid (pw_below_drewN HB7.out q)
                  by_cases hbig : 1 < ML
                  · have hbb : decide (1 < (ML : Int)) = true := decide_eq_true (by omega)
                    have hcv := HCV.out
                    rw [if_pos hbig] at hcv
                    have HCV2 := Lib.hid hcv
                    clear hbig hcv
                    go_wp2_with fail
                    go_roundw
                    case rel => exact ⟨s + 1, hsn, by go_num, by rw [HCV2.out]; go_num, HVA8, HRE8, HB8⟩
                    case measure => exact step_measure hsn
                  · have hbb : decide (1 < (ML : Int)) = false := decide_eq_false (by omega)
                    have hcv := HCV.out
                    rw [if_neg hbig] at hcv
                    have HCV2 := Lib.hid hcv
                    clear hbig hcv
                    go_wp2_with fail
                    go_roundw
                    case rel => exact ⟨s + 1, hsn, by go_num, by rw [HCV2.out]; rfl, HVA8, HRE8, HB8⟩
                    case measure => exact step_measure hsn
                · have hk2 : s = n := by omega
                  subst hk2
                  rw [cntV_open HRE.out]
                  have HO := Lib.hid (dopen_ok HRE.out HN1.out (by have := HLL.out; have := HM60.out; omega))
                  generalize openN l = op at HO ⊢
                  clear hsn hs
                  go_wp2_with fail
                  refine (HO.out).mono ?_
                  rintro e w8 ⟨rfl, hb8⟩
                  have HVA8 := Lib.hid (HVA.out.below hb8 HB.out.size)
                  have HRE8 := Lib.hid (HRE.out.below hb8)
                  have HB8 := Lib.hid (chainC (Nat.le_refl _) HB.out hb8)
                  have hoo : ((op : Int) != (op : Int)) = false := by simp
                  clear hb8
                  go_wp2_with fail
                  go_roundw
                  case rel => exact ⟨k + 1, l, F, V, H, R, hkn, by go_num, HVA8, HRV, HRE8, HFS, HLN, HLL, HB8⟩
                  case measure => exact step_measure hkn
        · have hk2 : k = m := by omega
          subst hk2
          clear hkn hk
          go_wp2_with fail
          go_ret
          exact ⟨rfl, HB.out⟩
end Go.Proofs.Ytnkgbnipcjgjeaa
