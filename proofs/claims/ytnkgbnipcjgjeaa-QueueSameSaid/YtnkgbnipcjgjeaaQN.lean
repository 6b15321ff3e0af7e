import Derived.Test.YtnkgbnipcjgjeaaQM
import Derived.Deep.DeepCutAuto
import Derived.StillTailTactics
namespace Go.Proofs.Ytnkgbnipcjgjeaa.Qu
open Go.RowKit Go.Proofs.Ytnkgbnipcjgjeaa.QW Go.Proofs.Ytnkgbnipcjgjeaa.Mo Go.Proofs.YtnkgbnipcjgjeaaW.PrintWords Go.Proofs.YtnkgbnipcjgjeaaW.PrintLast Go.Proofs.YtnkgbnipcjgjeaaW.PrintMore
set_option linter.unusedVariables false
abbrev nmod := ModIs
theorem run_range (l : List S116) (k : Nat) : runP l (List.range (k + 1)) = askK l (runP l (List.range k)) k := by rw [List.range_succ]; exact run_snoc l _ k
set_option maxHeartbeats 16000000 in
set_option maxRecDepth 100000 in
theorem qsame_main (w : World) (x0 : List S116) {A0 : Option Addr} {c0 : Nat} (l0 : x0.length ≤ c0) (g0 : Kd.C k116 w A0 x0.length x0) (hw : WfL x0) (hf : fewV x0 x0 = true) (ha : anyWrong x0 = false) :
    Calls Try.prog 13 #[.slice A0 x0.length c0] w fun e w' => e = .returned (.bool true) ∧ Below w.heap.size w w' := by
  have hl := few_40 hf
  have hfew : ∀ W, Below w.heap.size w W → Calls Try.prog 64 #[.slice A0 x0.length c0] W fun e w' => e = .returned (.bool true) ∧ Below W.heap.size W w' := fun W hb => by
    have h := few_call A0 c0 x0 W (Kd.C_below g0 hb) l0
    rw [hf] at h; exact h
  have hbet : ∀ W, Below w.heap.size w W → Calls Try.prog 65 #[.slice A0 x0.length c0] W fun e w' => (∃ v, e = .returned (.tuple #[v, .int .i64 0]) ∧ Kd.R (Kd.int .i64) 3 w' W.heap.size (fun _ => True) v (ordI x0)) ∧ Below W.heap.size W w' := fun W hb => by
    have h := better_ok segOk A0 c0 x0 W (Kd.C_below g0 hb) l0 (by omega) ha
    rw [betL_ord] at h; exact h
  have hcov := fun W hb => cov_call A0 c0 x0 W (Kd.C_below g0 hb) l0 (by omega)
  have hrc := fun (W : World) (hb : Below w.heap.size w W) (a : Nat) (h : a < x0.length) => rcov_call A0 c0 x0 W (Kd.C_below g0 hb) l0 (by omega) a h
  have hol := ord_len x0
  have HF := Lib.hid hfew
  have HT := Lib.hid hbet
  have HV : Hid (∀ W, Below w.heap.size w W → Calls Try.prog 67 #[.slice A0 x0.length c0] W fun e w' => ∃ v, e = .returned v ∧ Kd.R (Kd.int .i64) 3 w' W.heap.size (fun _ => True) v (covL x0 x0.length 0) ∧ Below W.heap.size W w') := Lib.hid hcov
  have HRC : Hid (∀ W, Below w.heap.size w W → ∀ a : Nat, a < x0.length → Calls Try.prog 72 #[.slice A0 x0.length c0, .int .i64 (a : Int)] W fun e w' => e = .returned (.bool (covA x0 a)) ∧ Below W.heap.size W w') := Lib.hid hrc
  have HR := Lib.hid g0
  have HW := Lib.hid hw
  have HC := Lib.hid l0
  have HL := Lib.hid hl
  clear hfew hf g0 l0 hbet ha hcov hrc hw
  obtain ⟨n, hn⟩ : ∃ n, n = x0.length := ⟨_, rfl⟩
  rw [← hn] at HF HT HV HRC hol hl ⊢
  have HN := Lib.hid hn
  clear hn
  have hu116 := Try.underlying116
  have ha116 := Try.isAgg116
  go_enter Try.func13, Try.ntmps13
  go_wp2_with fail
  refine (awake_ok segOk _).mono ?_
  rintro e w1 ⟨rfl, hb⟩
  have HB := Lib.hid hb
  clear hb
  go_wp2_with (go_at_call 64; refine (HF.out _ HB.out).mono ?_; rintro e w2 ⟨rfl, hb⟩; have HB2 := Lib.hid (chainC (Nat.le_refl _) HB.out hb); clear hb; clear HB)
  go_wp2_with (go_at_call 65; refine (HT.out _ HB2.out).mono ?_; rintro e w3 ⟨⟨v3, rfl, hv3⟩, hb⟩; have HO3 := Lib.hid hv3; obtain ⟨A5, c5, rfl⟩ := Kd.R_slice hv3; have HB3 := Lib.hid (chainC (Nat.le_refl _) HB2.out hb); clear hb hv3; clear HB2)
  go_wp2_with fail
  refine (mnew_ok 16 2 _ w.heap.size HB3.out.size (by omega) (by omega) (by omega) (by omega)).mono ?_
  rintro e w4 ⟨⟨gx, bx, rfl, hx, hxg, hxb⟩, hb4⟩
  have HX := Lib.hid hx
  have HB4 := Lib.hid (chainC (Nat.le_refl _) HB3.out hb4)
  have HO4 := Lib.hid ((OrdF.own HO3.out).move (w' := w4) (fun k hk => by obtain ⟨cs, fr, h1⟩ := hk; exact hb4.block k (blk_lt h1)))
  clear hx hb4 hxg hxb HB3 HO3
  go_wp2_with fail
  refine (mnew_ok 16 2 _ w.heap.size HB4.out.size (by omega) (by omega) (by omega) (by omega)).mono ?_
  rintro e w5 ⟨⟨gy, by_, rfl, hy, hyg, hyb⟩, hb5⟩
  have HS := Lib.hid (show St w w5 gx bx gy by_ [] [] A5 (ordI x0).length c5 (ordI x0) from ⟨HX.out.below hb5, hy, fun e => by have := HX.out.ltb; omega, HO4.out.move (fun k hk => by obtain ⟨cs, fr, h1⟩ := hk; exact hb5.block k (blk_lt h1)), chainC (Nat.le_refl _) HB4.out hb5⟩)
  clear hy hb5 hyg hyb HB4 HO4 HX
  have hoI : (ordI x0).length = (ordK x0).length := List.length_map ..
  obtain ⟨no, hno⟩ : ∃ no, no = (ordI x0).length := ⟨_, rfl⟩
  rw [← hno] at HS hoI ⊢
  obtain ⟨nc, hnc⟩ : ∃ nc, nc = (covL x0 n 0).length := ⟨_, rfl⟩
  rw [← hoI, ← hnc] at hol
  have HNO := Lib.hid hno
  have HNC := Lib.hid hnc
  clear hno hnc hoI
  have hsum : (IntKind.i64.wrap ((no : Int) + (nc : Int)) != (n : Int)) = false := by rw [IntWalk.i64_in _ (by omega)]; simp; omega
  go_wp2_with (go_at_call 67; refine (HV.out _ HS.out.below).mono ?_; rintro e w6 ⟨v6, rfl, hv6, hb6⟩; have HS6 := Lib.hid (HS.out.more hb6); obtain ⟨A6, c6, rfl⟩ := Kd.R_slice hv6; rw [← HNC.out]; clear hv6 hb6; clear HS)
  have hno40 : no ≤ 40 := by omega
  clear HF HT HV HNC hsum hol
  go_loopw [67] (fun i wr => ∃ k : Nat, k ≤ n ∧ i = .int .i64 k ∧ Hid (∀ j, j < k → (x0.getD j z116).f0 = 1 → (x0.getD j z116).f2.length = 2) ∧ Hid (St w wr gx bx gy by_ [] [] A5 no c5 (ordI x0))) (fun i _ => n - (intOf i).toNat)
  case atStart => exact ⟨0, by omega, rfl, Lib.hid (fun j hj => by omega), HS6⟩
  case round =>
    clear HS6
    obtain ⟨k, hk, rfl, HP, HS⟩ := hrel
    by_cases hkn : k < n
    · have hk0 : (k : Int) < (n : Int) := by omega
      have hlen : k < x0.length := by rw [← HN.out]; exact hkn
      obtain ⟨bl, off, rfl, hbb, hcell⟩ := row116 (Kd.C_below HR.out HS.out.below) (by omega)
      obtain ⟨A2, c2, e0, e1, e2, e3, e4⟩ := hcell k hlen
      obtain ⟨d, hd⟩ : ∃ d, d = x0.getD k z116 := ⟨_, rfl⟩
      rw [← hd] at e0 e1 e2 e3 e4
      have HD := Lib.hid hd
      clear hd hcell hbb e3 e4 hlen
      obtain ⟨d0, d1, d2⟩ := d
      simp only at e0 e1 e2
      have HSA := Lib.hid (HS.out.more (alloc_below wr (.cells #[.int .i64 d0, .int .i64 d1, .slice A2 d2.length c2] 116)))
      have HB1 := Lib.hid (blk_new wr (.cells #[.int .i64 d0, .int .i64 d1, .slice A2 d2.length c2] 116))
      have HPN : Hid ((d0 = 1 → d2.length = 2) → ∀ j, j < k + 1 → (x0.getD j z116).f0 = 1 → (x0.getD j z116).f2.length = 2) := Lib.hid (fun h j hj => by
        by_cases e : j = k
        · rw [e, ← HD.out]; exact h
        · exact HP.out j (by omega))
      clear HP HS
      generalize d2.length = m at *
      have q0 := blk_cell HB1.out 0
      have q2 := blk_cell HB1.out 2
      by_cases h1 : d0 = 1
      · subst h1
        by_cases h2 : m = 2
        · have hm2 : ((m : Int) != 2) = false := by rw [h2]; rfl
          have H2 := Lib.hid h2
          clear h2
          go_wp2_with fail
          go_roundw
          case rel => exact ⟨k + 1, hkn, by go_num, Lib.hid (HPN.out (fun _ => H2.out)), HSA⟩
          case measure => exact step_measure hkn
        · have hm2 : ((m : Int) != 2) = true := by rw [bne_iff_ne]; omega
          go_wp2_with fail
          go_ret
          exact ⟨rfl, HSA.out.below⟩
      · have hd1 : (d0 == 1) = false := by simpa using h1
        go_wp2_with fail
        go_roundw
        case rel => exact ⟨k + 1, hkn, by go_num, Lib.hid (HPN.out (fun h => absurd h h1)), HSA⟩
        case measure => exact step_measure hkn
    · have hke : n = k := by omega
      subst hke
      clear hkn hk
      have HX2 : Hid (runP x0 (List.range 0) = []) := Lib.hid rfl
      go_wp2_with (at_make; refine Kd.R_make kH (w0 := w) w.heap.size 52 rfl rfl 102 (.tmp 82) (.tmp 82) rfl (n : Int) (by first | rfl | (go_simp; done)) (by first | rfl | (go_simp; done)) Try.underlying102 (.slice none 0 0) 24 info52 rfl (by decide) (by decide) ((none, 0, 0) : Hdr) (ok := fun _ => True) (okp := fun _ => True) rfl (fun _ h => h) trivial (by omega) (by simp; omega) HS.out.below HS.out.below.size ?_; intro v1 w7 hr7 hb7 hg7 hat7; rw [Int.toNat_natCast] at hr7; obtain ⟨A7, c7, rfl⟩ := Kd.R_slice hr7; have HT7 := Lib.hid (ToldF.make (T := TT x0) hr7); rw [List.length_replicate]; have HS7 := Lib.hid (HS.out.more (below_grown hg7)); clear hr7 hb7 hg7 hat7; clear HS)
      go_loopw [86] (fun i wr => ∃ k : Nat, k ≤ n ∧ i = .int .i64 k ∧ Hid (ToldF wr w.heap.size A7 n k (TT x0)) ∧ Hid (St w wr gx bx gy by_ (runP x0 (List.range k)) [] A5 no c5 (ordI x0))) (fun i _ => n - (intOf i).toNat)
      case atStart => exact ⟨0, by omega, rfl, HT7, HS7⟩
      case round =>
        clear HT7 HS7
        obtain ⟨k, hk, rfl, HT, HS⟩ := hrel
        by_cases hkn : k < n
        · have hk0 : (k : Int) < (n : Int) := by omega
          have hlen : k < x0.length := by rw [← HN.out]; exact hkn
          obtain ⟨bl, off, rfl, hbb, hcell⟩ := row116 (Kd.C_below HR.out HS.out.below) (by omega)
          obtain ⟨A2, c2, e0, e1, e2, e3, e4⟩ := hcell k hlen
          have hmem : x0.getD k z116 ∈ x0 := by rw [List.getD_eq_getElem?_getD, List.getElem?_eq_getElem hlen]; exact List.getElem_mem hlen
          have hwf := (HW.out _ hmem).2.1
          have hp2 := HP.out k hkn
          have htt : TT x0 k = askR 16 2 (runP x0 (List.range k)) (x0.getD k z116).f0 (x0.getD k z116).f1 := rfl
          have hst : runP x0 (List.range (k + 1)) = askL 16 2 (runP x0 (List.range k)) (x0.getD k z116).f0 (x0.getD k z116).f1 (x0.getD k z116).f2 := run_range x0 k
          generalize x0.getD k z116 = d at *
          obtain ⟨d0, d1, d2⟩ := d
          simp only at e0 e1 e2 e3 e4 hwf hp2 htt hst
          have HSA := Lib.hid (HS.out.more (alloc_below wr (.cells #[.int .i64 d0, .int .i64 d1, .slice A2 d2.length c2] 116)))
          have HTA := Lib.hid (HT.out.below HS.out.below.size (alloc_below wr (.cells #[.int .i64 d0, .int .i64 d1, .slice A2 d2.length c2] 116)))
          have HB1 := Lib.hid (blk_new wr (.cells #[.int .i64 d0, .int .i64 d1, .slice A2 d2.length c2] 116))
          have HA := Lib.hid (ask_ok d0 d1 d2 A2 c2 HSA.out.x hwf (Kd.C_alloc e4 (.cells #[.int .i64 d0, .int .i64 d1, .slice A2 d2.length c2] 116)) e3 hp2)
          rw [← htt, ← hst] at HA
          clear hmem hwf hp2 htt hst hcell hbb hlen e3 e4 HT HS
          generalize d2.length = m at *
          have hbx : wr.heap.size < (wr.alloc (.cells #[.int .i64 d0, .int .i64 d1, .slice A2 m c2] 116)).heap.size := by simp
          go_upto_region 23 with fail
          obtain ⟨g, cur, rfl, hgN, hg, hcells⟩ := HTA.out (by omega)
          generalize wr.alloc (.cells #[.int .i64 d0, .int .i64 d1, .slice A2 m c2] 116) = w8 at HSA HTA HB1 HA hbx hg ⊢
          generalize wr.heap.size = bx8 at HB1 hbx ⊢
          have q0 : w8.cell? ⟨bx8, 0, none⟩ = some (.int .i64 d0) := blk_cell HB1.out 0
          have q1 : w8.cell? ⟨bx8, 1, none⟩ = some (.int .i64 d1) := blk_cell HB1.out 1
          have q2 : w8.cell? ⟨bx8, 2, none⟩ = some (.slice A2 m c2) := blk_cell HB1.out 2
          obtain ⟨u8, hcu, _⟩ := hcells k hkn
          have HG := Lib.hid hg
          have HCU := Lib.hid hcu
          clear hg hcu hcells e0 e1 e2
          go_wp2_with (first | (go_at_call 68; (refine (HA.out).mono ?_; rintro e w9 ⟨⟨A9, c9, rfl, hd9⟩, hx9, hm9⟩; have HD9 := Lib.hid hd9; have HS9 := Lib.hid (HSA.out.updX hx9 hm9); have hg9 : w9.heap[g]? = some (.cells cur 52 (0, 0)) := (hm9.block g (blk_lt HG.out) (fun e => by subst e; obtain ⟨_, _, hbm⟩ := HSA.out.x.bmap; rw [HG.out] at hbm; cases hbm)).trans HG.out; have HG9 := Lib.hid hg9; have fc9 : w9.cell? ⟨g, k, none⟩ = some u8 := (blk_cell hg9 k).trans HCU.out; have fz9 : w9.frozen? ⟨g, k, none⟩ = false := blk_frozen hg9 k; have HM9 := Lib.hid hm9; clear hd9 hx9 hm9)))
          have HT9 := Lib.hid (ToldF.put (HTA.out.move (w' := w9) (fun g' cs e fr hg' _ => HM9.out.block g' (blk_lt hg') (fun e2 => by subst e2; obtain ⟨_, _, hbm⟩ := HSA.out.x.bmap; rw [hg'] at hbm; cases hbm)) (Bt.mods HSA.out.below.size HM9.out (fun q e2 => by subst e2; exact HSA.out.x.notBt))) hkn rfl HD9.out)
          have HS10 := Lib.hid (HS9.out.set (j := k) HG9.out hgN (.inl rfl) (.slice A9 (TT x0 k).length c9))
          go_roundw
          case rel => exact ⟨k + 1, hkn, by go_num, HT9, HS10⟩
          case measure => exact step_measure hkn
        · have hke : n = k := by omega
          subst hke
          clear hkn hk HX2
          go_wp2_with (at_make; refine Kd.R_make kBo (w0 := w) w.heap.size 4 rfl rfl 118 (.tmp 100) (.tmp 100) rfl (n : Int) (by first | rfl | (go_simp; done)) (by first | rfl | (go_simp; done)) Try.underlying118 (.bool false) 1 info4 rfl (by decide) (by decide) false (ok := fun _ => True) (okp := fun _ => True) rfl (fun _ h => h) trivial (by omega) (by simp; omega) HS.out.below HS.out.below.size ?_; intro v1 w7 hr7 hb7 hg7 hat7; rw [Int.toNat_natCast] at hr7; obtain ⟨A8, c8, rfl⟩ := Kd.R_slice hr7; have HM7 := Lib.hid (MetF.make hr7); rw [List.length_replicate]; have HT7 := Lib.hid (HT.out.below HS.out.below.size (below_grown hg7)); have HS7 := Lib.hid (HS.out.more (below_grown hg7)); clear hr7 hb7 hg7 hat7; clear HS HT)
          have hok : no = (ordK x0).length := by rw [HNO.out]; exact List.length_map ..
          have HOK := Lib.hid hok
          clear hok
          go_loopw [104] (fun i wr => ∃ j : Nat, j ≤ no ∧ i = .int .i64 j ∧ Hid (ToldF wr w.heap.size A7 n n (TT x0)) ∧ Hid (MetF wr w.heap.size A8 n (fun q => decide (q ∈ (ordK x0).take j))) ∧ Hid (St w wr gx bx gy by_ (runP x0 (List.range n)) (runP x0 ((ordK x0).take j)) A5 no c5 (ordI x0))) (fun i _ => no - (intOf i).toNat)
          case atStart => exact ⟨0, by omega, rfl, HT7, HM7, HS7⟩
          case round =>
            clear HT7 HM7 HS7
            obtain ⟨j, hj, rfl, HT, HM, HS⟩ := hrel
            by_cases hjn : j < no
            · have hj0 : (j : Int) < (no : Int) := by omega
              have hjl : j < (ordK x0).length := by rw [← HOK.out]; exact hjn
              obtain ⟨k, hjk⟩ : ∃ k, (ordK x0)[j]? = some k := ⟨_, List.getElem?_eq_getElem hjl⟩
              have HJK := Lib.hid hjk
              have hkm := (ord_mem x0 k).1 (List.mem_of_getElem? hjk)
              have hkn : k < n := by rw [HN.out]; exact hkm.1
              have hkx := hkm.1
              obtain ⟨b5, o5, rfl, _, hc5⟩ := row_of_C (Kd.F_now HS.out.ord.2.2) (by rw [← HNO.out]; omega)
              have e5 : wr.cell? ⟨b5, o5 + j, none⟩ = some (.int .i64 (k : Int)) := by
                rw [hc5 j (by rw [← HNO.out]; exact hjn)]
                unfold ordI
                rw [List.getD_eq_getElem?_getD, List.getElem?_map, hjk]
                rfl
              obtain ⟨bl, off, rfl, hbb, hcell⟩ := row116 (Kd.C_below HR.out HS.out.below) (by omega)
              obtain ⟨A2, c2, e0, e1, e2, e3, e4⟩ := hcell k hkx
              obtain ⟨g8, cur8, rfl, hg8N, hg8, hcells8⟩ := HM.out (by omega)
              obtain ⟨u8, hu8, hu8v⟩ := hcells8 k hkn
              have hu8f : u8 = .bool false := by rw [hu8v]; exact congrArg Value.bool (decide_eq_false (not_met x0 hjk))
              have f8 : wr.cell? ⟨g8, k, none⟩ = some (.bool false) := (blk_cell hg8 k).trans (hu8.trans (by rw [hu8f]))
              have z8 : wr.frozen? ⟨g8, k, none⟩ = false := blk_frozen hg8 k
              have b0 : decide ((k : Int) < 0) = false := decide_eq_false (by omega)
              have b1 : decide ((n : Int) ≤ (k : Int)) = false := decide_eq_false (by omega)
              have k1 : (k : Int) < (n : Int) := by omega
              have HM9 := Lib.hid (MetF.put (f' := fun q => decide (q ∈ (ordK x0).take (j + 1))) HM.out hkn (fun i hne => by
                show decide (i ∈ (ordK x0).take (j + 1)) = decide (i ∈ (ordK x0).take j)
                rw [take_snoc x0 hjk]
                exact decide_eq_decide.2 ⟨fun h => by
                  rcases List.mem_append.1 h with h | h
                  · exact h
                  · exact absurd (by simpa using h) hne, fun h => List.mem_append_left _ h⟩) (by
                show decide (k ∈ (ordK x0).take (j + 1)) = true
                rw [take_snoc x0 hjk]
                exact decide_eq_true (by simp)))
              have HT9 := Lib.hid (ToldF.far (j := k) HT.out hg8 hg8N HS.out.below.size (.bool true))
              have HS9 := Lib.hid (HS.out.set (j := k) hg8 hg8N (.inr rfl) (.bool true))
              have HG8 := Lib.hid hg8N
              have HKX := Lib.hid hkx
              clear HM HT HS hcells8 hu8 hu8v hu8f hg8 hcell hbb hkm hjl hkx hc5 hjk e3 e4 e1 e2 hg8N
              go_upto_region 32 with fail
              generalize wr.setCell ⟨g8, k, none⟩ (.bool true) = w8 at HM9 HT9 HS9 ⊢
              clear e5 f8 z8 e0
              obtain ⟨bl', off', ea, hbb, hcell⟩ := row116 (Kd.C_below HR.out HS9.out.below) (by have := HKX.out; omega)
              injection ea with ea
              injection ea with ea1 ea2 _
              subst ea1 ea2
              obtain ⟨A2, c2, e0, e1, e2, e3, e4⟩ := hcell k HKX.out
              clear hcell hbb e1 e2 e3 e4
              obtain ⟨d0, hd0⟩ : ∃ d0, d0 = (x0.getD k z116).f0 := ⟨_, rfl⟩
              rw [← hd0] at e0
              have HD0 := Lib.hid hd0
              clear hd0
              go_upto_if 130 with fail
              clear e0
              go_cut [17] (fun v17 wc => v17 = .int .i64 k ∧ Hid (ToldF wc w.heap.size A7 n n (TT x0)) ∧ Hid (MetF wc w.heap.size (some ⟨g8, 0, none⟩) n (fun q => decide (q ∈ (ordK x0).take (j + 1)))) ∧ Hid (St w wc gx bx gy by_ (runP x0 (List.range n)) (runP x0 ((ordK x0).take j)) (some ⟨b5, o5, none⟩) no c5 (ordI x0)))
              case first =>
                by_cases h4 : d0 = 4
                · subst h4
                  have k0 : (0 : Int) ≤ (k : Int) := by omega
                  go_wp2_with fail
                  go_loopw [132] (fun i wr => ∃ q : Nat, q ≤ k ∧ i = .int .i64 q ∧ Hid (ToldF wr w.heap.size A7 n n (TT x0)) ∧ Hid (MetF wr w.heap.size (some ⟨g8, 0, none⟩) n (fun q => decide (q ∈ (ordK x0).take (j + 1)))) ∧ Hid (St w wr gx bx gy by_ (runP x0 (List.range n)) (runP x0 ((ordK x0).take j)) (some ⟨b5, o5, none⟩) no c5 (ordI x0))) (fun i _ => k - (intOf i).toNat)
                  case atStart => exact ⟨0, by omega, rfl, HT9, HM9, HS9⟩
                  case round =>
                    clear HT9 HM9 HS9
                    obtain ⟨q, hq, rfl, HT, HM, HS⟩ := hrel
                    by_cases hqk : q < k
                    · have hqn : q < n := by omega
                      have q0 : (q : Int) < (k : Int) := by omega
                      have q1 : (q : Int) < (n : Int) := by omega
                      obtain ⟨g', cur8, ea, hg8N, hg8, hcells8⟩ := HM.out (by omega)
                      injection ea with ea
                      injection ea with ea _ _
                      subst ea
                      obtain ⟨u8, hu8, hu8v⟩ := hcells8 q hqn
                      by_cases hmq : q ∈ (ordK x0).take (j + 1)
                      · have f8 : wr.cell? ⟨g8, q, none⟩ = some (.bool true) := (blk_cell hg8 q).trans (hu8.trans (by rw [hu8v]; exact congrArg (fun b => some (Value.bool b)) (decide_eq_true hmq)))
                        clear hcells8 hu8 hu8v hg8 hg8N hmq
                        go_wp2_with fail
                        go_roundw
                        case rel => exact ⟨q + 1, hqk, by go_num, HT, HM, HS⟩
                        case measure => exact step_measure hqk
                      · have f8 : wr.cell? ⟨g8, q, none⟩ = some (.bool false) := (blk_cell hg8 q).trans (hu8.trans (by rw [hu8v]; exact congrArg (fun b => some (Value.bool b)) (decide_eq_false hmq)))
                        have hcv : covA x0 q = true := by
                          cases hc : covA x0 q with
                          | true => rfl
                          | false =>
                            exfalso
                            refine hmq ?_
                            rw [take_snoc x0 HJK.out]
                            exact List.mem_append_left _ (flush_met x0 HJK.out HD0.out.symm hqk hc)
                        have hrc := HRC.out wr HS.out.below q hqn
                        rw [hcv] at hrc
                        have HRQ := Lib.hid hrc
                        clear hcells8 hu8 hu8v hg8 hg8N hmq hcv hrc
                        go_wp2_with (go_at_call 72; refine (HRQ.out).mono ?_; rintro e w10 ⟨rfl, hb⟩; have HT10 := Lib.hid (HT.out.below HS.out.below.size hb); have HM10 := Lib.hid (HM.out.below hb); have HS10 := Lib.hid (HS.out.more hb); clear hb)
                        go_roundw
                        case rel => exact ⟨q + 1, hqk, by go_num, HT10, HM10, HS10⟩
                        case measure => exact step_measure hqk
                    · have hke : k = q := by omega
                      subst hke
                      have q0 : ¬ (k : Int) < (k : Int) := by omega
                      go_wp2_with fail
                      go_meet
                      case rel => exact ⟨rfl, HT, HM, HS⟩
                · have hd4 : (d0 == 4) = false := by simpa using h4
                  go_wp2_with fail
                  go_meet
                  case rel => exact ⟨rfl, HT9, HM9, HS9⟩
              case rest =>
                clear HT9 HM9 HS9
                obtain ⟨rfl, HT, HM, HS⟩ := hcut
                clear HD0
                obtain ⟨bl', off', ea, hbb, hcell⟩ := row116 (Kd.C_below HR.out HS.out.below) (by have := HKX.out; omega)
                injection ea with ea
                injection ea with ea1 ea2 _
                subst ea1 ea2
                obtain ⟨A2, c2, e0, e1, e2, e3, e4⟩ := hcell k HKX.out
                have hmem : x0.getD k z116 ∈ x0 := by rw [List.getD_eq_getElem?_getD, List.getElem?_eq_getElem HKX.out]; exact List.getElem_mem HKX.out
                have hwf := (HW.out _ hmem).2.1
                have hp2 := HP.out k hkn
                have htt : TT x0 k = askR 16 2 (runP x0 ((ordK x0).take j)) (x0.getD k z116).f0 (x0.getD k z116).f1 := (same_read x0 HJK.out).symm
                have hst : runP x0 ((ordK x0).take (j + 1)) = askL 16 2 (runP x0 ((ordK x0).take j)) (x0.getD k z116).f0 (x0.getD k z116).f1 (x0.getD k z116).f2 := by rw [take_snoc x0 HJK.out, run_snoc]; rfl
                have hal := ask_len HS.out.y (x0.getD k z116).f0 (x0.getD k z116).f1
                rw [← htt] at hal
                generalize x0.getD k z116 = d at *
                obtain ⟨d0, d1, d2⟩ := d
                simp only at e0 e1 e2 e3 e4 hwf hp2 htt hst
                have HA := Lib.hid (ask_ok d0 d1 d2 A2 c2 HS.out.y hwf e4 e3 hp2)
                rw [← htt, ← hst] at HA
                have HAL := Lib.hid hal
                clear hmem hwf hp2 htt hst hcell hbb e3 e4 hal
                generalize d2.length = m at *
                have k1 : (k : Int) < (n : Int) := by omega
                have k0 : (0 : Int) ≤ (k : Int) := by omega
                go_wp2_with (go_at_call 68; (refine (HA.out).mono ?_; rintro e w9 ⟨⟨A9, c9, rfl, hd9⟩, hy9, hm9⟩; have HD9 := Lib.hid hd9; have HS9 := Lib.hid (HS.out.updY hy9 hm9); have HM9 := Lib.hid (HM.out.move (w' := w9) (fun g' cs e fr hg' _ => hm9.block g' (blk_lt hg') (fun e2 => by subst e2; obtain ⟨_, _, hbm⟩ := HS.out.y.bmap; rw [hg'] at hbm; cases hbm))); have HT9 := Lib.hid (HT.out.move (w' := w9) (fun g' cs e fr hg' _ => hm9.block g' (blk_lt hg') (fun e2 => by subst e2; obtain ⟨_, _, hbm⟩ := HS.out.y.bmap; rw [hg'] at hbm; cases hbm)) (Bt.mods HS.out.below.size hm9 (fun q e2 => by subst e2; exact HS.out.y.notBt))); clear hd9 hy9 hm9; obtain ⟨g7, A10, c10, rfl, f10, hd10⟩ := HT9.out.get hkn; have HE := Lib.hid (tsame_same A9 c9 (TT x0 k) A10 c10 w9 HD9.out.c HD9.out.2.1 hd10.c hd10.2.1 (Nat.le_trans HAL.out (by omega))); clear hd10; clear HS HM HT))
                refine (HE.out).mono ?_
                rintro e w10 ⟨rfl, hb⟩
                have HT10 := Lib.hid (HT9.out.below HS9.out.below.size hb)
                have HM10 := Lib.hid (HM9.out.below hb)
                have HS10 := Lib.hid (HS9.out.more hb)
                clear hb HT9 HM9 HS9 f10
                go_wp2_with fail
                go_roundw
                case rel => exact ⟨j + 1, hjn, by go_num, HT10, HM10, HS10⟩
                case measure => exact step_measure hjn
            · have hke : no = j := by omega
              subst hke
              have hta : (ordK x0).take no = ordK x0 := List.take_of_length_le (by rw [← HOK.out]; exact Nat.le_refl _)
              rw [hta] at HS
              clear hta HT HM hjn hj HP
              go_wp2_with fail
              go_loopw [162] (fun i wr => ∃ s : Nat, s ≤ 16 ∧ i = .int .i64 s ∧ Hid (St w wr gx bx gy by_ (runP x0 (List.range n)) (runP x0 (ordK x0)) A5 no c5 (ordI x0))) (fun i _ => 16 - (intOf i).toNat)
              case atStart => exact ⟨0, by omega, rfl, HS⟩
              case round =>
                clear HS
                obtain ⟨s, hs, rfl, HS⟩ := hrel
                by_cases hs16 : s < 16
                · have hs0 : (s : Int) < 16 := by omega
                  have hin : 0 ≤ (s : Int) ∧ (s : Int) < ((16 : Nat) : Int) := ⟨by omega, hs0⟩
                  have HA := Lib.hid (mread_ok (s : Int) HS.out.x (ok16 s hs16) hin)
                  have HZ : Hid (mV (runP x0 (ordK x0)) 2 (s : Int) = mV (runP x0 (List.range n)) 2 (s : Int)) := Lib.hid (by rw [HN.out]; exact same_end x0 (s : Int) ⟨by omega, hs0⟩)
                  have HZL := Lib.hid (mV_len HS.out.x (s : Int))
                  clear hin
                  go_wp2_with fail
                  refine (HA.out).mono ?_
                  rintro e w9 ⟨⟨v9, rfl, hv9⟩, hb9⟩
                  obtain ⟨A9, c9, rfl⟩ := Kd.R_slice hv9
                  have HD9 := Lib.hid (DatF.own (N0 := w.heap.size) hv9)
                  have HS9 := Lib.hid (HS.out.more hb9)
                  clear hv9 hb9 HS HA
                  have HA := Lib.hid (mread_ok (s : Int) HS9.out.y (ok16 s hs16) ⟨by omega, hs0⟩)
                  rw [HZ.out] at HA
                  generalize mV (runP x0 (List.range n)) 2 (s : Int) = xs at HA HD9 HZL ⊢
                  go_wp2_with fail
                  refine (HA.out).mono ?_
                  rintro e w10 ⟨⟨v10, rfl, hv10⟩, hb10⟩
                  obtain ⟨A10, c10, rfl⟩ := Kd.R_slice hv10
                  have HD10 := Lib.hid (DatF.own (N0 := w.heap.size) hv10)
                  have HS10 := Lib.hid (HS9.out.more hb10)
                  have HD9' := Lib.hid (HD9.out.move (Bt.below HS9.out.below.size hb10))
                  clear hv10 hb10 HS9 HD9 HA
                  have HE := Lib.hid (tsame_same A9 c9 xs A10 c10 w10 HD9'.out.c HD9'.out.2.1 HD10.out.c HD10.out.2.1 (by have := HZL.out; omega))
                  go_wp2_with fail
                  refine (HE.out).mono ?_
                  rintro e w11 ⟨rfl, hb11⟩
                  have HS11 := Lib.hid (HS10.out.more hb11)
                  clear hb11 HS10 HE HD10 HD9'
                  go_wp2_with fail
                  go_roundw
                  case rel => exact ⟨s + 1, hs16, by go_num, HS11⟩
                  case measure => exact step_measure hs16
                · have hke : s = 16 := by omega
                  have hsb : decide ((s : Int) < 16) = false := decide_eq_false (by omega)
                  clear hke hs16 hs
                  generalize (s : Int) = s16 at hsb ⊢
                  go_wp2_with fail
                  go_ret
                  exact ⟨rfl, HS.out.below⟩
end Go.Proofs.Ytnkgbnipcjgjeaa.Qu
