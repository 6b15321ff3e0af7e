import Derived.Test.YtnkgbnipcjgjeaaDM
namespace Go.Proofs.Ytnkgbnipcjgjeaa
open Go.RowKit Go.Shelf Go.Sort Go.Lib Go.Proofs.YtnkgbnipcjgjeaaW.PrintWords Go.Proofs.YtnkgbnipcjgjeaaW.PrintLast Go.Proofs.YtnkgbnipcjgjeaaW.PrintMore
set_option linter.unusedVariables false
theorem okI3 : okI 3 := okI_of (by omega) (by omega)
theorem put_lens2 {l : Rec} {s : Int} {rows : List (List Int)} {k : Nat} (h : ∀ p ∈ l, p.2.length ≤ k) (hr : rows.length ≤ k) : ∀ p ∈ mput l s rows, p.2.length ≤ k := fun p hp => by
  rcases mem_mput p hp with rfl | hp
  · exact hr
  · exact h p hp
set_option maxHeartbeats 8000000 in
set_option maxRecDepth 100000 in
theorem durableFits_walk (w : World) (x0 : (List (Int × Int × (List Int)))) {A0_0 : Option Addr} {c0_0 : Nat} (l0_0 : x0.length ≤ c0_0) (g0_0 : Kd.C (Kd.pair (Kd.int .i64) (Kd.pair (Kd.int .i64) (Kd.slice 5 (Kd.int .u8)))) w A0_0 x0.length x0) (hw0 : (∀ z0 ∈ x0, ((Lit.int .i64 z0.1).wf = true ∧ (Lit.int .i64 z0.2.1).wf = true ∧ (∀ z1 ∈ z0.2.2, (Lit.int .u8 z1).wf = true)))) (x1 : (List Int)) {A1_0 : Option Addr} {c1_0 : Nat} (l1_0 : x1.length ≤ c1_0) (g1_0 : Kd.C (Kd.int .u8) w A1_0 x1.length x1) (hw1 : (∀ z0 ∈ x1, (Lit.int .u8 z0).wf = true)) :
    Calls Try.prog 12 #[.slice A0_0 x0.length c0_0, .slice A1_0 x1.length c1_0] w fun e w' => e = .returned (.bool true) ∧ Below w.heap.size w w' := by
  have HR := Lib.hid (show Kd.C kDoR w A0_0 x0.length x0 from g0_0)
  have HW := Lib.hid hw0
  have HX1 := Lib.hid g1_0
  have HL1 := Lib.hid l1_0
  have HBX : Hid (isB x1) := Lib.hid (fun z hz => u8_wf (hw1 z hz))
  clear g0_0 hw0 l0_0 g1_0 l1_0 hw1
  obtain ⟨n, hn⟩ : ∃ n, n = x0.length := ⟨_, rfl⟩
  rw [← hn]
  have HN := Lib.hid hn
  clear hn
  have hu89 := Try.underlying89
  have hu96 := Try.underlying96
  have ha96 := Try.isAgg96
  go_enter Try.func12, Try.ntmps12
  go_wp2_with fail
  refine (dawake_ok _).mono ?_
  rintro e w1 ⟨rfl, hb⟩
  have HB := Lib.hid hb
  clear hb
  by_cases hl : 60 < n
  · go_wp2_with (first | (go_at_call 61; refine (dlast_nil _ 0).mono ?_; rintro e w2 ⟨rfl, rfl⟩) | (go_at_call 57; refine (dmay_nil _ 0 none 0 0).mono ?_; rintro e w3 ⟨rfl, hb3⟩; have HB3 := Lib.hid (chainC (Nat.le_refl _) HB.out hb3); clear hb3) | (go_at_call 55; refine (dwrite_nil _ 0 _).mono ?_; rintro e w4 ⟨rfl, rfl⟩) | (go_at_call 56; refine (dtrim_nil _ 0).mono ?_; rintro e w5 ⟨rfl, rfl⟩) | (go_at_call 60; refine (dflush_nil _).mono ?_; rintro e w6 ⟨rfl, rfl⟩) | (go_at_call 59; refine (dsettle_nil _ 0 none 0 0).mono ?_; rintro e w7 ⟨rfl, rfl⟩) | (go_at_call 62; refine (dopen_nil _).mono ?_; rintro e w8 ⟨rfl, rfl⟩))
    go_ret
    exact ⟨rfl, HB3.out⟩
  · have hn2 : (n : Int) ≤ 60 := by omega
    go_wp2_with (first | (go_at_call 61; refine (dlast_nil _ 0).mono ?_; rintro e w2 ⟨rfl, rfl⟩) | (go_at_call 57; refine (dmay_nil _ 0 none 0 0).mono ?_; rintro e w3 ⟨rfl, hb3⟩; have HB3 := Lib.hid (chainC (Nat.le_refl _) HB.out hb3); clear hb3) | (go_at_call 55; refine (dwrite_nil _ 0 _).mono ?_; rintro e w4 ⟨rfl, rfl⟩) | (go_at_call 56; refine (dtrim_nil _ 0).mono ?_; rintro e w5 ⟨rfl, rfl⟩) | (go_at_call 60; refine (dflush_nil _).mono ?_; rintro e w6 ⟨rfl, rfl⟩) | (go_at_call 59; refine (dsettle_nil _ 0 none 0 0).mono ?_; rintro e w7 ⟨rfl, rfl⟩) | (go_at_call 62; refine (dopen_nil _).mono ?_; rintro e w8 ⟨rfl, rfl⟩))
    refine (dnew_ok 8 2 _ (by omega) (by omega) (by omega) (by omega)).mono ?_
    rintro e w9 ⟨⟨g, b, rfl, hr, hgs, hbs⟩, hb⟩
    have HBB : Hid (w.heap.size ≤ b) := Lib.hid (Nat.le_trans HB3.out.size hbs)
    have HR0 := Lib.hid hr
    replace HB := Lib.hid (chainC (Nat.le_refl _) HB3.out hb)
    clear hr hgs hbs hb HB3
    go_wp2_with fail
    go_loopw [68] (fun i wr => ∃ (k : Nat) (l : Rec) (F : Nat → Prop), k ≤ n ∧ i = .int .i64 k ∧ Hid (RecIs wr g b 8 2 F l) ∧ Hid (∀ p ∈ l, p.2.length ≤ k + 1) ∧ Hid (l.length ≤ k) ∧ Hid (Below w.heap.size w wr)) (fun i _ => n - (intOf i).toNat)
    case atStart => exact ⟨0, [], fun _ => False, by omega, rfl, HR0, Lib.hid (fun p hp => by simp at hp), Lib.hid (Nat.le_refl _), HB⟩
    case round =>
      clear HR0 HB
      obtain ⟨k, l, F, hk, rfl, HRE, HLN, HLL, HB⟩ := hrel
      have HCT : Hid (∀ s, (ofV l 2 s).length ≤ k + 1) := Lib.hid (fun s => ofV_len HLN.out (by omega) s)
      by_cases hkn : k < n
      · have hlen : k < x0.length := by rw [← HN.out]; exact hkn
        obtain ⟨bl, off, rfl, hbb, hcell⟩ := rowR (Kd.C_below HR.out HB.out) (by omega)
        obtain ⟨Ad, cd, e0, e1, e2, e3, e4⟩ := hcell k hlen
        have hmem : gR x0 k ∈ x0 := by unfold gR; rw [List.getD_eq_getElem?_getD, List.getElem?_eq_getElem hlen]; exact List.getElem_mem hlen
        have hwf := HW.out _ hmem
        generalize gR x0 k = d at e0 e1 e2 e3 e4 hwf
        obtain ⟨dk, x, dd⟩ := d
        have HX := Lib.hid (show okI x from hwf.2.1)
        have HDD : Hid (isB dd) := Lib.hid (fun z hz => u8_wf (hwf.2.2 z hz))
        have HE3 := Lib.hid e3
        have HRA := Lib.hid (HRE.out.below (alloc_below wr (.cells #[.int .i64 dk, .int .i64 x, .slice Ad dd.length cd] 96)))
        have HBA := Lib.hid (chainC (Nat.le_refl _) HB.out (alloc_below wr (.cells #[.int .i64 dk, .int .i64 x, .slice Ad dd.length cd] 96)))
        have HCA := Lib.hid (Kd.C_alloc e4 (.cells #[.int .i64 dk, .int .i64 x, .slice Ad dd.length cd] 96))
        have HLN2 : Hid (∀ p ∈ l, p.2.length ≤ k + 1 + 1) := Lib.hid (fun p hp => Nat.le_succ_of_le (HLN.out p hp))
        have HLL2 : Hid (l.length ≤ k + 1) := Lib.hid (Nat.le_succ_of_le HLL.out)
        have hk0 : (k : Int) < (n : Int) := by omega
        clear hlen hcell hmem hwf hbb e3 e4
        by_cases hd1 : dk = 1
        · subst hd1
          by_cases hin : 0 ≤ x ∧ x < (8 : Nat)
          · by_cases hl1 : dd.length = 2
            · have HC := Lib.hid (dwrite_ok x dd Ad cd HRA.out HX.out HCA.out HE3.out HDD.out hin hl1 (by have := HCT.out x; omega))
              clear hin hl1
              go_wp2_with fail
              refine (HC.out).mono ?_
              rintro e w10 ⟨rfl, hr, hm⟩
              have HR10 := Lib.hid hr
              have HB10 := Lib.hid (Mods.toBelow HBA.out hm HBA.out.size (fun i e => by rw [e]; exact HBB.out))
              clear hr hm
              go_wp2_with fail
              go_roundw
              case rel => exact ⟨k + 1, _, _, hkn, by go_num, HR10, Lib.hid (put_lens2 HLN2.out (by rw [List.length_append]; have := HCT.out x; simp; omega)), Lib.hid (by have := mput_len l x (ofV l 2 x ++ [dd]); have := HLL.out; omega), HB10⟩
              case measure => exact step_measure hkn
            · have HC := Lib.hid (dwrite_bad2 x dd.length Ad cd HRA.out hin hl1)
              clear hin hl1
              go_wp2_with fail
              refine (HC.out).mono ?_
              rintro e w10 ⟨rfl, rfl⟩
              go_wp2_with fail
              go_roundw
              case rel => exact ⟨k + 1, l, F, hkn, by go_num, HRA, HLN2, HLL2, HBA⟩
              case measure => exact step_measure hkn
          · have HC := Lib.hid (dwrite_bad1 x (.slice Ad dd.length cd) HRA.out hin)
            clear hin
            go_wp2_with fail
            refine (HC.out).mono ?_
            rintro e w10 ⟨rfl, rfl⟩
            go_wp2_with fail
            go_roundw
            case rel => exact ⟨k + 1, l, F, hkn, by go_num, HRA, HLN2, HLL2, HBA⟩
            case measure => exact step_measure hkn
        · by_cases hd2 : dk = 2
          · subst hd2
            clear hd1
            by_cases hin : 0 ≤ x ∧ x < (8 : Nat)
            · have HC := Lib.hid (dtrim_ok x HRA.out HX.out hin (by have := HCT.out x; omega))
              clear hin
              go_wp2_with fail
              refine (HC.out).mono ?_
              rintro e w10 ⟨rfl, F', hr, hnx, hm⟩
              have HR10 := Lib.hid hr
              have HB10 := Lib.hid (Mods.toBelow HBA.out hm HBA.out.size (fun i e => by rw [e]; exact HBB.out))
              clear hr hm hnx
              go_wp2_with fail
              go_roundw
              case rel => exact ⟨k + 1, _, _, hkn, by go_num, HR10, Lib.hid (put_lens2 HLN2.out (by rw [List.length_append]; have := HCT.out x; simp; omega)), Lib.hid (by have := mput_len l x (ofV l 2 x ++ [zeros 2]); have := HLL.out; omega), HB10⟩
              case measure => exact step_measure hkn
            · have HC := Lib.hid (dtrim_bad x HRA.out hin)
              clear hin
              go_wp2_with fail
              refine (HC.out).mono ?_
              rintro e w10 ⟨rfl, rfl⟩
              go_wp2_with fail
              go_roundw
              case rel => exact ⟨k + 1, l, F, hkn, by go_num, HRA, HLN2, HLL2, HBA⟩
              case measure => exact step_measure hkn
          · by_cases hd4 : dk = 4
            · subst hd4
              clear hd1 hd2
              have HC := Lib.hid (dflush_ok HRA.out (by omega) (fun p hp => by have := HLN.out p hp; omega))
              go_wp2_with fail
              refine (HC.out).mono ?_
              rintro e w10 ⟨rfl, hr, hm⟩
              have HR10 := Lib.hid hr
              have HB10 := Lib.hid (Mods.toBelow HBA.out hm HBA.out.size (fun i e => by rw [e]; exact HBB.out))
              clear hr hm
              go_wp2_with fail
              go_roundw
              case rel => exact ⟨k + 1, _, _, hkn, by go_num, HR10, Lib.hid (fun p hp => by rw [fl_one l p hp]; omega), Lib.hid (by unfold flL; rw [List.length_map]; exact HLL2.out), HB10⟩
              case measure => exact step_measure hkn
            · have b1 : (dk == 1) = false := beq_eq_false_iff_ne.2 hd1
              have b2 : (dk == 2) = false := beq_eq_false_iff_ne.2 hd2
              have b4 : (dk == 4) = false := beq_eq_false_iff_ne.2 hd4
              clear hd1 hd2 hd4
              go_wp2_with fail
              go_roundw
              case rel => exact ⟨k + 1, l, F, hkn, by go_num, HRA, HLN2, HLL2, HBA⟩
              case measure => exact step_measure hkn
      · have hk2 : k = n := by omega
        subst hk2
        have HLE : Hid (l.length ≤ 100000) := Lib.hid (by have := HLL.out; omega)
        clear hkn hk HLL
        go_wp2_with fail
        go_loopw [93] (fun i wr => ∃ (s : Nat), s ≤ 8 ∧ i = .int .i64 s ∧ Hid (RecIs wr g b 8 2 F l) ∧ Hid (Below w.heap.size w wr)) (fun i _ => 8 - (intOf i).toNat)
        case atStart => exact ⟨0, by omega, rfl, HRE, HB⟩
        case round =>
          clear HRE HB
          obtain ⟨s, hs, rfl, HRE, HB⟩ := hrel
          by_cases hs8 : s < 8
          · have hs0 : (s : Int) < 8 := by omega
            have hcn : (ofV l 2 (s : Int)).length ≤ 1000 := by have := HCT.out (s : Int); omega
            have hoi : okI (s : Int) := okI_of (by omega) (by omega)
            have hov := ofV_isB HRE.out (s : Int)
            have hLm := last_mem hov.1
            have hLB := (hov.2 _ hLm).2
            have HLA := Lib.hid (dlast_ok (s : Int) HRE.out hoi (by omega) hcn)
            obtain ⟨T, hT⟩ : ∃ T, T = (ofV l 2 (s : Int)).getLastD [] := ⟨_, rfl⟩
            rw [← hT] at hLm hLB HLA
            have HCN := Lib.hid hcn
            have HOI := Lib.hid hoi
            have HLM := Lib.hid hLm
            have HLB := Lib.hid hLB
            clear hcn hoi hov hLm hLB hT
            go_wp2_with fail
            refine (HLA.out).mono ?_
            rintro e w7 ⟨⟨v, rfl, hv⟩, hb⟩
            obtain ⟨A, c, rfl⟩ := Kd.R_slice hv
            obtain ⟨_, hc, hC⟩ := own_C hv
            have hm := dmay_ok (s : Int) T A c (HRE.out.below hb) HOI.out hC hc HLB.out HCN.out
            rw [decide_eq_true ⟨⟨by omega, by omega⟩, HLM.out⟩] at hm
            have HM := Lib.hid hm
            have HR7 := Lib.hid (HRE.out.below hb)
            have HB7 := Lib.hid (chainC (Nat.le_refl _) HB.out hb)
            clear hv hc hC hm hb
            go_wp2_with fail
            refine (HM.out).mono ?_
            rintro e w8 ⟨rfl, hb8⟩
            have HR8 := Lib.hid (HR7.out.below hb8)
            have HB8 := Lib.hid (chainC (Nat.le_refl _) HB7.out hb8)
            clear hb8
            go_wp2_with fail
            go_roundw
            case rel => exact ⟨s + 1, hs8, by go_num, HR8, HB8⟩
            case measure => exact step_measure hs8
          · obtain rfl : s = 8 := by omega
            have hov := ofV_isB HRE.out 3
            have hLm := last_mem hov.1
            have hLB := (hov.2 _ hLm).2
            have hLl := (hov.2 _ hLm).1
            have HLA := Lib.hid (dlast_ok 3 HRE.out okI3 (by omega) (by have := HCT.out 3; omega))
            have hfl := ofV_fl l 2 3
            obtain ⟨T, hT⟩ : ∃ T, T = (ofV l 2 3).getLastD [] := ⟨_, rfl⟩
            rw [← hT] at hLm hLB HLA hLl hfl
            have HLB := Lib.hid hLB
            have HLl := Lib.hid hLl
            have HFL := Lib.hid hfl
            clear hs8 hs hov hLm hLB hLl hT hfl
            go_wp2_with fail
            refine (HLA.out).mono ?_
            rintro e w20 ⟨⟨v, rfl, hv⟩, hb20⟩
            obtain ⟨A, c, rfl⟩ := Kd.R_slice hv
            have HV20 : Hid (kB.R 5 w20 wr.heap.size (fun k => k ≠ b) (.slice A T.length c) T) := Lib.hid (Kd.R_mono (Kd.R_bound hv) (fun k hk => by have := HRE.out.ltb; omega))
            have HB20 := Lib.hid (chainC (Nat.le_refl _) HB.out hb20)
            have HF := Lib.hid (dflush_ok (HRE.out.below hb20) (by omega) (fun p hp => by have := HLN.out p hp; omega))
            clear hv hb20
            go_wp2_with fail
            refine (HF.out).mono ?_
            rintro e w21 ⟨rfl, hr21, hm21⟩
            have HV21 := Lib.hid (hm21.R HV20.out (fun k hk => hk))
            have HB21 := Lib.hid (Mods.toBelow HB20.out hm21 HB20.out.size (fun i e => by rw [e]; exact HBB.out))
            have HR21 := Lib.hid hr21
            have ho := dopen_ok hr21 (by omega) (by unfold flL; rw [List.length_map]; exact HLE.out)
            rw [openN_fl] at ho
            have HO := Lib.hid ho
            clear hr21 hm21 ho
            go_wp2_with fail
            refine (HO.out).mono ?_
            rintro e w22 ⟨rfl, hb22⟩
            have HR22 := Lib.hid (HR21.out.below hb22)
            have HB22 := Lib.hid (chainC (Nat.le_refl _) HB21.out hb22)
            have HV22 := Lib.hid (Kd.R_below HV21.out hb22)
            have hm := dmay_ok 3 x1 A1_0 c1_0 HR22.out okI3 (Kd.C_below HX1.out HB22.out) HL1.out HBX.out (by rw [HFL.out]; simp)
            rw [HFL.out, show decide ((0 ≤ (3 : Int) ∧ (3 : Int) < (8 : Nat)) ∧ x1 ∈ [T]) = decide (T = x1) from decide_eq_decide.2 ⟨fun h => (List.mem_singleton.1 h.2).symm, fun h => ⟨⟨by omega, by omega⟩, List.mem_singleton.2 h.symm⟩⟩] at hm
            obtain ⟨tb, htb⟩ : ∃ tb, tb = decide (T = x1) := ⟨_, rfl⟩
            rw [← htb] at hm
            have HM := Lib.hid hm
            have HTB := Lib.hid htb
            have htt : (tb != tb) = false := by simp
            have hte : (tb == tb) = true := by simp
            clear hb22 hm htb
            go_wp2_with fail
            refine (HM.out).mono ?_
            rintro e w23 ⟨rfl, hb23⟩
            have HR23 := Lib.hid (HR22.out.below hb23)
            have HB23 := Lib.hid (chainC (Nat.le_refl _) HB22.out hb23)
            have HV23 := Lib.hid (Kd.R_below HV22.out hb23)
            have hsm := same_call A c T A1_0 c1_0 x1 w23 (own_C HV23.out).2.2 (own_C HV23.out).2.1 (Kd.C_below HX1.out HB23.out) HL1.out (by have := HLl.out; omega)
            rw [← HTB.out] at hsm
            have HSM := Lib.hid hsm
            clear hb23 hsm
            go_wp2_with fail
            refine (HSM.out).mono ?_
            rintro e w24 ⟨rfl, ⟨q, rfl⟩⟩
            have HR24 := Lib.hid (HR23.out.drewN q)
            have HB24 := Lib.hid (pw_below_drewN HB23.out q)
            have HV24 := Lib.hid (Kd.R_drewN HV23.out q)
            clear HSM HM HO HF HLA HR21 HR22 HR23 HV20 HV21 HV22 HV23 HB20 HB21 HB22 HB23 HRE HB
            generalize w23.drewN q = w25 at HR24 HB24 HV24 ⊢
            by_cases hx2 : x1.length = 2
            · have HX2 := Lib.hid hx2
              have HC := Lib.hid (dwrite_ok 3 x1 A1_0 c1_0 HR24.out okI3 (Kd.C_below HX1.out HB24.out) HL1.out HBX.out (by omega) hx2 (by rw [HFL.out]; simp))
              clear hx2
              go_wp2_with fail
              refine (HC.out).mono ?_
              rintro e w26 ⟨rfl, hr26, hm26⟩
              have HV26 := Lib.hid (hm26.R HV24.out (fun k hk => hk))
              have HB26 := Lib.hid (Mods.toBelow HB24.out hm26 HB24.out.size (fun i e => by rw [e]; exact HBB.out))
              rw [HFL.out] at hr26
              have HO3 : Hid (ofV (mput (flL l) 3 ([T] ++ [x1])) 2 3 = [T, x1]) := Lib.hid (by rw [ofV_put, if_pos rfl]; rfl)
              generalize mput (flL l) 3 ([T] ++ [x1]) = l3 at hr26 HO3
              have HR26 := Lib.hid hr26
              have hm := dmay_ok 3 T A c hr26 okI3 (own_C HV26.out).2.2 (own_C HV26.out).2.1 HLB.out (by rw [HO3.out]; simp)
              rw [HO3.out, decide_eq_true ⟨⟨by omega, by omega⟩, List.mem_cons_self⟩] at hm
              have HM := Lib.hid hm
              clear hr26 hm26 hm
              go_wp2_with fail
              refine (HM.out).mono ?_
              rintro e w27 ⟨rfl, hb27⟩
              have HR27 := Lib.hid (HR26.out.below hb27)
              have HB27 := Lib.hid (chainC (Nat.le_refl _) HB26.out hb27)
              have HV27 := Lib.hid (Kd.R_below HV26.out hb27)
              have hm := dmay_ok 3 x1 A1_0 c1_0 HR27.out okI3 (Kd.C_below HX1.out HB27.out) HL1.out HBX.out (by rw [HO3.out]; simp)
              rw [HO3.out, decide_eq_true ⟨⟨by omega, by omega⟩, by simp⟩] at hm
              have HM2 := Lib.hid hm
              clear hb27 hm
              go_wp2_with fail
              refine (HM2.out).mono ?_
              rintro e w28 ⟨rfl, hb28⟩
              have HR28 := Lib.hid (HR27.out.below hb28)
              have HB28 := Lib.hid (chainC (Nat.le_refl _) HB27.out hb28)
              have HV28 := Lib.hid (Kd.R_below HV27.out hb28)
              have HSE := Lib.hid (dsettle_ok 3 T A c HR28.out okI3 (own_C HV28.out).2.2 (own_C HV28.out).2.1 HLB.out (by rw [HO3.out]; simp) ⟨by omega, by rw [HO3.out]; exact List.mem_cons_self⟩)
              clear hb28
              go_wp2_with fail
              refine (HSE.out).mono ?_
              rintro e w29 ⟨rfl, F4, hr29, hnx29, hm29⟩
              have HV29 := Lib.hid (hm29.R HV28.out (fun k hk => hk))
              have HB29 := Lib.hid (Mods.toBelow HB28.out hm29 HB28.out.size (fun i e => by rw [e]; exact HBB.out))
              have HO4 : Hid (ofV (mput l3 3 [T]) 2 3 = [T]) := Lib.hid (by rw [ofV_put, if_pos rfl])
              generalize mput l3 3 [T] = l4 at hr29 HO4
              have HR29 := Lib.hid hr29
              have hm := dmay_ok 3 T A c hr29 okI3 (own_C HV29.out).2.2 (own_C HV29.out).2.1 HLB.out (by rw [HO4.out]; simp)
              rw [HO4.out, decide_eq_true ⟨⟨by omega, by omega⟩, List.mem_cons_self⟩] at hm
              have HM3 := Lib.hid hm
              clear hr29 hnx29 hm29 hm
              go_wp2_with fail
              refine (HM3.out).mono ?_
              rintro e w30 ⟨rfl, hb30⟩
              have HR30 := Lib.hid (HR29.out.below hb30)
              have HB30 := Lib.hid (chainC (Nat.le_refl _) HB29.out hb30)
              have HV30 := Lib.hid (Kd.R_below HV29.out hb30)
              have hm := dmay_ok 3 x1 A1_0 c1_0 HR30.out okI3 (Kd.C_below HX1.out HB30.out) HL1.out HBX.out (by rw [HO4.out]; simp)
              rw [HO4.out, show decide ((0 ≤ (3 : Int) ∧ (3 : Int) < (8 : Nat)) ∧ x1 ∈ [T]) = decide (T = x1) from decide_eq_decide.2 ⟨fun h => (List.mem_singleton.1 h.2).symm, fun h => ⟨⟨by omega, by omega⟩, List.mem_singleton.2 h.symm⟩⟩, ← HTB.out] at hm
              have HM4 := Lib.hid hm
              clear hb30 hm
              go_wp2_with fail
              refine (HM4.out).mono ?_
              rintro e w31 ⟨rfl, hb31⟩
              have HB31 := Lib.hid (chainC (Nat.le_refl _) HB30.out hb31)
              have HV31 := Lib.hid (Kd.R_below HV30.out hb31)
              have hsm := same_call A c T A1_0 c1_0 x1 w31 (own_C HV31.out).2.2 (own_C HV31.out).2.1 (Kd.C_below HX1.out HB31.out) HL1.out (by have := HLl.out; omega)
              rw [← HTB.out] at hsm
              have HSM := Lib.hid hsm
              clear hb31 hsm
              go_wp2_with fail
              refine (HSM.out).mono ?_
              rintro e w32 ⟨rfl, ⟨q2, rfl⟩⟩
              go_wp2_with fail
              go_ret
              exact ⟨rfl, pw_below_drewN HB31.out q2⟩
            · have HC := Lib.hid (dwrite_bad2 3 x1.length A1_0 c1_0 HR24.out (by omega) hx2)
              have hne : ((x1.length : Int) != 2) = true := by rw [bne_iff_ne]; omega
              clear hx2
              go_wp2_with fail
              refine (HC.out).mono ?_
              rintro e w26 ⟨rfl, rfl⟩
              go_wp2_with fail
              go_ret
              exact ⟨rfl, HB24.out⟩
end Go.Proofs.Ytnkgbnipcjgjeaa
