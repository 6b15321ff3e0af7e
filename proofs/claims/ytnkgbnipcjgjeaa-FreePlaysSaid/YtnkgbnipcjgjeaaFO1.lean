import Derived.Test.YtnkgbnipcjgjeaaFL0
namespace Go.Proofs.Ytnkgbnipcjgjeaa
open Go.RowKit Go.Shelf Go.Sort Go.Lib Go.Proofs.YtnkgbnipcjgjeaaW.PrintWords Go.Proofs.YtnkgbnipcjgjeaaW.PrintLast Go.Proofs.YtnkgbnipcjgjeaaW.PrintMore
set_option linter.unusedVariables false
theorem mget_del {l : List (Int × Int)} (x : Int) (hn : (l.map (·.1)).Nodup) : mget (mdel l x) x = none := by
  induction l with
  | nil => rfl
  | cons p r ih =>
    have hn' := List.nodup_cons.1 hn
    unfold mdel
    by_cases e : p.1 = x
    · rw [if_pos e]
      exact mget_none fun q hq e2 => hn'.1 (List.mem_map.2 ⟨q, hq, e2.trans e.symm⟩)
    · rw [if_neg e]
      unfold mget
      rw [if_neg e]
      exact ih hn'.2
theorem mdel_len {l : List (Int × Int)} {x y : Int} (h : mget l x = some y) : (mdel l x).length + 1 = l.length := by
  induction l with
  | nil => cases h
  | cons p r ih =>
    unfold mget at h
    unfold mdel
    by_cases e : p.1 = x
    · rw [if_pos e]; rfl
    · rw [if_neg e] at h
      rw [if_neg e, List.length_cons, ih h]; rfl
theorem mdel_min {l r : List (Int × Int)} {p : Int × Int} (hs : sortP l = p :: r) : ∀ q ∈ mdel l p.1, p.2 ≤ q.2 := fun q hq => by
  have hm := (sortP_perm l).mem_iff.2 (mdel_sub q hq)
  have hp := sortP_sorted l
  rw [hs] at hm hp
  rcases List.mem_cons.1 hm with rfl | hm
  · exact Int.le_refl _
  · have := (List.pairwise_cons.1 hp).1 q hm
    unfold leQ at this
    simp only [decide_eq_true_eq] at this
    omega
set_option maxHeartbeats 8000000 in
set_option maxRecDepth 100000 in
theorem freeOrders_walk (w : World) (x0 : (List (Int × Int × Int))) {A0_0 : Option Addr} {c0_0 : Nat} (l0_0 : x0.length ≤ c0_0) (g0_0 : Kd.C (Kd.pair (Kd.int .i64) (Kd.pair (Kd.int .i64) (Kd.int .i64))) w A0_0 x0.length x0) (hw0 : (∀ z0 ∈ x0, ((Lit.int .i64 z0.1).wf = true ∧ (Lit.int .i64 z0.2.1).wf = true ∧ (Lit.int .i64 z0.2.2).wf = true))) :
    Calls Try.prog 5 #[.slice A0_0 x0.length c0_0] w fun e w' => e = .returned (.bool true) ∧ Below w.heap.size w w' := by
  have HR := Lib.hid (show Kd.C kDo w A0_0 x0.length x0 from g0_0)
  have HW := Lib.hid hw0
  clear g0_0 hw0 l0_0
  obtain ⟨n, hn⟩ : ∃ n, n = x0.length := ⟨_, rfl⟩
  rw [← hn]
  have HN := Lib.hid hn
  clear hn
  have hu22 := Try.underlying22
  have hu28 := Try.underlying28
  have ha28 := Try.isAgg28
  have hmm := @run_makeMap Try.prog
  go_enter Try.func5, Try.ntmps5
  go_wp2_with fail
  refine (awake_ok _).mono ?_
  rintro e w1 ⟨rfl, hb⟩
  have HB := Lib.hid hb
  clear hb
  by_cases hl : 100 < n
  · go_wp2_with fail
    go_ret
    exact ⟨rfl, HB.out⟩
  · have hn2 : (n : Int) ≤ 100 := by omega
    go_wp2_with fail
    refine (take_nil _).mono ?_
    rintro e w2 ⟨rfl, hb⟩
    replace HB := Lib.hid (chainC (Nat.le_refl _) HB.out hb)
    clear hb
    go_wp2_with (first | (go_at_call 17; refine (put_nil 1 1 _).mono ?_; rintro e w3 ⟨rfl, rfl⟩) | (go_at_call 21; refine (drop_nil 1 _).mono ?_; rintro e w3 ⟨rfl, rfl⟩) | (go_at_call 28; refine (has_nil 1 _).mono ?_; rintro e w3 ⟨rfl, rfl⟩) | (go_at_call 20; refine (len_nil _).mono ?_; rintro e w3 ⟨rfl, rfl⟩))
    refine (list_nil _).mono ?_
    rintro e w3 ⟨rfl, hb⟩
    replace HB := Lib.hid (chainC (Nat.le_refl _) HB.out hb)
    clear hb
    go_wp2_with fail
    refine (new_ok _).mono ?_
    rintro e w4 ⟨⟨g, b, rfl, hp, hgs, hbs⟩, hb⟩
    have hgs' : w.heap.size ≤ g := Nat.le_trans HB.out.size hgs
    have hbs' : w.heap.size ≤ b := Nat.le_trans HB.out.size hbs
    replace HB := Lib.hid (chainC (Nat.le_refl _) HB.out hb)
    obtain ⟨m, hm⟩ : ∃ m, m = w4.heap.size := ⟨_, rfl⟩
    have hgm : g < m := by rw [hm]; exact hp.ltg
    have hbm : b < m := by rw [hm]; exact hp.ltb
    have HM := Lib.hid (MapIs.new kI okI w4)
    have HP := Lib.hid (hp.below ((Below.refl _ _).alloc (Nat.le_refl _) (.map #[] 0)))
    replace HB := Lib.hid (HB.out.alloc HB.out.size (.map #[] 0))
    have hms : w.heap.size ≤ m := by omega
    rw [← hm] at HM
    have HGS := Lib.hid hgs'
    have HBS := Lib.hid hbs'
    have HMS := Lib.hid hms
    have HGM := Lib.hid hgm
    have HBM := Lib.hid hbm
    have HMM := Lib.hid hm
    clear hb hp hgs hbs hgs' hbs' hms hgm hbm hm
    go_wp2_with fail
    rw [← HMM.out]
    clear HMM hmm
    generalize (w4.alloc (.map #[] 0)) = w5 at HB HP HM ⊢
    go_loopw [60] (fun i wr => ∃ (k : Nat) (l : List (Int × Int)), k ≤ n ∧ i = .int .i64 k ∧ Hid (PoolIs wr g b l) ∧ Hid (MapIs kI okI wr m (mapII l)) ∧ Hid (l.length ≤ k) ∧ Hid (Below w.heap.size w wr)) (fun i _ => n - (intOf i).toNat)
    case atStart => exact ⟨0, [], by omega, rfl, HP, HM, Lib.hid (Nat.le_refl _), HB⟩
    case round =>
      clear HP HM HB
      obtain ⟨k, l, hk, rfl, HP, HM, HLK, HB⟩ := hrel
      by_cases hkn : k < n
      · have hlen : k < x0.length := by rw [← HN.out]; exact hkn
        obtain ⟨bl, off, rfl, hbb, hcell⟩ := row3 (Kd.C_below HR.out HB.out) (by omega)
        obtain ⟨e0, e1, e2⟩ := hcell k hlen
        have hmem : gD x0 k ∈ x0 := by unfold gD; rw [List.getD_eq_getElem?_getD, List.getElem?_eq_getElem hlen]; exact List.getElem_mem hlen
        have hwf := HW.out _ hmem
        generalize gD x0 k = d at e0 e1 e2 hwf
        obtain ⟨dk, x, y⟩ := d
        have HX := Lib.hid (show okI x from hwf.2.1)
        have hk0 : (k : Int) < (n : Int) := by omega
        have HPA := Lib.hid (HP.out.below ((Below.refl _ _).alloc (Nat.le_refl _) (.cells #[.int .i64 dk, .int .i64 x, .int .i64 y] 28)))
        have HMA := Lib.hid (HM.out.alloc (.cells #[.int .i64 dk, .int .i64 x, .int .i64 y] 28))
        have HBA := Lib.hid (HB.out.alloc HB.out.size (.cells #[.int .i64 dk, .int .i64 x, .int .i64 y] 28))
        have hSA := blk_new wr (.cells #[.int .i64 dk, .int .i64 x, .int .i64 y] 28)
        have hrs : m < wr.heap.size := HM.out.lt
        clear hlen hcell hmem hwf hbb
        cases hpb : putB l x y with
        | false =>
          have hc := put_err g b l x y _ HPA.out hpb
          have HC := Lib.hid hc
          clear hc hpb hSA
          go_wp2_with (go_at_call 17; refine (HC.out).mono ?_; rintro e w7 ⟨rfl, rfl⟩)
          go_roundw
          case rel => exact ⟨k + 1, l, hkn, by go_num, HPA, HMA, Lib.hid (Nat.le_succ_of_le HLK.out), HBA⟩
          case measure => exact step_measure hkn
        | true =>
          have hc := put_ok g b l x y _ HPA.out hpb
          have hnone : mget l x = none := by
            unfold putB at hpb
            rw [Bool.and_eq_true] at hpb
            cases h : mget l x with
            | none => rfl
            | some v => rw [h] at hpb; exact absurd hpb.2 (by simp)
          have hput : mput l x y = l ++ [(x, y)] := mput_new l y hnone
          have HC := Lib.hid hc
          have HNO := Lib.hid hnone
          have HPU := Lib.hid hput
          have HSA := Lib.hid hSA
          have HRS := Lib.hid hrs
          clear hc hpb hnone hput hSA hrs
          go_wp2_with fail
          refine (HC.out).mono ?_
          rintro e w7 ⟨rfl, hp7, hg7, hs7⟩
          have hm7 := HMA.out.grown hg7 (fun e => by injection e with e; have := HBM.out; omega)
          have hSA7 := blk_grown HSA.out hg7 (fun e => by injection e with e; have := HBM.out; have := HRS.out; omega)
          have f1 : w7.cell? ⟨wr.heap.size, 1, none⟩ = some (.int .i64 x) := blk_cell hSA7 1
          have f2 : w7.cell? ⟨wr.heap.size, 2, none⟩ = some (.int .i64 y) := blk_cell hSA7 2
          have HB7 := Lib.hid (HBA.out.grown hg7 HBA.out.size (fun k e => by injection e with e; have := HBS.out; omega))
          have HP7 := Lib.hid hp7
          have HM7 := Lib.hid hm7
          clear hp7 hg7 hs7 hm7 hSA7
          go_wp2_with (first | (at_lookup; refine wp_look rfl (.tmp 72) (.tmp 74) 46 true rfl keI Try.underlying46 (zero3 _) rfl HM7.out x HX.out rfl ?_; rw [if_pos rfl, mgetII, HNO.out]) | (at_mapUpdate; refine wp_put rfl (.tmp 79) (.tmp 81) (.tmp 83) 46 rfl keI Try.underlying46 rfl HM7.out x HX.out rfl (.int .i64 y) rfl ?_; intro w8 hm8 hg8 hs8; rw [mputII, HPU.out] at hm8; have HM8 := Lib.hid hm8; have HP8 := Lib.hid (HP7.out.at_ (hg8.block g HP7.out.ltg (fun e => by injection e with e; have := HGM.out; omega)) (hg8.block b HP7.out.ltb (fun e => by injection e with e; have := HBM.out; omega))); have HB8 := Lib.hid (HB7.out.grown hg8 HB7.out.size (fun k e => by injection e with e; have := HMS.out; omega)); clear hm8 hg8 hs8))
          go_roundw
          case rel => exact ⟨k + 1, _, hkn, by go_num, HP8, HM8, Lib.hid (by have := HLK.out; simp; omega), HB8⟩
          case measure => exact step_measure hkn
      · have hk2 : k = n := by omega
        subst hk2
        clear hkn
        have hL := len_ok g b l _ HP.out
        have hlk : (l.length : Int) ≤ 100 := by have := HLK.out; omega
        obtain ⟨N0, hN0⟩ : ∃ N0, N0 = l.length := ⟨_, rfl⟩
        rw [← hN0] at hL hlk
        have HL := Lib.hid hL
        have HN0 := Lib.hid hN0
        clear hL hN0
        go_wp2_with (go_at_call 20; refine (HL.out).mono ?_; rintro e w7 ⟨rfl, rfl⟩)
        go_loopw [13, 88] (fun last i wr => ∃ (k : Nat) (l : List (Int × Int)) (z : Int), k ≤ N0 ∧ i = .int .i64 k ∧ last = .int .i64 z ∧ Hid (k + l.length = N0) ∧ Hid (∀ q ∈ l, z ≤ q.2) ∧ Hid (PoolIs wr g b l) ∧ Hid (MapIs kI okI wr m (mapII l)) ∧ Hid (Below w.heap.size w wr)) (fun _ i _ => N0 - (intOf i).toNat)
        case atStart => exact ⟨0, l, 0, by omega, rfl, rfl, Lib.hid (by have := HN0.out; omega), Lib.hid (fun q hq => (HP.out.2.2 q hq).2.2.1), HP, HM, HB⟩
        case round =>
          clear HP HM HB HL HLK HN0 hk
          obtain ⟨k, l, z, hk, rfl, rfl, HKL, HZ, HP, HM, HB⟩ := hrel
          by_cases hkn : k < N0
          · have hne : l ≠ [] := fun e => by have := HKL.out; rw [e] at this; simp at this; omega
            obtain ⟨p, r, hs⟩ : ∃ p r, sortP l = p :: r := by
              cases h : sortP l with
              | nil =>
                have := (sortP_perm l).length_eq
                rw [h] at this
                exact absurd (List.eq_nil_of_length_eq_zero this.symm) hne
              | cons p r => exact ⟨p, r, rfl⟩
            have hpm : p ∈ l := (sortP_perm l).mem_iff.1 (by rw [hs]; exact List.mem_cons_self)
            have hpo := HP.out.2.2 p hpm
            have hmg := mget_mem HP.out.nodup hpm
            have htk := take_ok _ HP.out (by have := HKL.out; omega) hs
            have hz1 := HZ.out p hpm
            have hlen := mdel_len hmg
            have hmin := mdel_min hs
            have hdel := mget_del p.1 HP.out.nodup
            obtain ⟨a, v⟩ := p
            have HA := Lib.hid (show okI a from okI_of hpo.1 (by have := hpo.2.1; omega))
            have HMG := Lib.hid hmg
            have HTK := Lib.hid htk
            have HLEN := Lib.hid hlen
            have HMIN := Lib.hid hmin
            have HDEL := Lib.hid hdel
            have hvz : (decide (v < z)) = false := decide_eq_false (by show ¬ v < z; have : z ≤ v := hz1; omega)
            have hk0 : (k : Int) < (N0 : Int) := by omega
            clear hne hs hpm hpo hmg htk hz1 hlen hmin hdel
            go_wp2_with fail
            refine (HTK.out).mono ?_
            rintro e w7 ⟨rfl, hp7, hm7⟩
            have hmm7 : MapIs kI okI w7 m (mapII l) := HM.out.at_ (hm7.block m HM.out.lt (fun e => by have := HBM.out; omega))
            have HM7 := Lib.hid hmm7
            have hh := has_ok g b _ a _ hp7 HA.out
            rw [HDEL.out] at hh
            have HH := Lib.hid hh
            have HP7 := Lib.hid hp7
            have HB7 := Lib.hid (Mods.toBelow HB.out hm7 HB.out.size (fun i e => by rw [e]; exact HBS.out))
            clear hp7 hm7 hmm7 hh
            go_wp2_with (first | (at_lookup; refine wp_look rfl (.tmp 97) (.tmp 98) 46 true rfl keI Try.underlying46 (zero3 _) rfl HM7.out a HA.out rfl ?_; rw [if_pos rfl, mgetII, HMG.out]) | (go_at_call 28; refine (HH.out).mono ?_; rintro e w8 ⟨rfl, rfl⟩) | (at_delete; refine wp_del rfl (.tmp 123) (.tmp 124) 46 rfl keI Try.underlying46 rfl HM7.out a HA.out rfl ?_; intro w8 hm8 hg8 hs8; rw [mdelII] at hm8; have HM8 := Lib.hid hm8; have HP8 := Lib.hid (HP7.out.at_ (hg8.block g HP7.out.ltg (fun e => by injection e with e; have := HGM.out; omega)) (hg8.block b HP7.out.ltb (fun e => by injection e with e; have := HBM.out; omega))); have HB8 := Lib.hid (HB7.out.grown hg8 HB7.out.size (fun k e => by injection e with e; have := HMS.out; omega)); clear hm8 hg8 hs8))
            go_roundw
            case rel => exact ⟨k + 1, mdel l a, v, hkn, by go_num, rfl, Lib.hid (by have h1 := HKL.out; have h2 : (mdel l a).length + 1 = l.length := HLEN.out; omega), HMIN, HP8, HM8, HB8⟩
            case measure => exact step_measure hkn
          · have hk2 : k = N0 := by omega
            have hl0 : l = [] := List.eq_nil_of_length_eq_zero (by have := HKL.out; omega)
            subst hl0
            subst hk2
            have hL := len_ok g b [] _ HP.out
            have HL := Lib.hid hL
            clear hL hkn
            go_wp2_with (first | (at_len; refine wp_mlen rfl (.tmp 127) 46 rfl Try.underlying46 rfl HM.out ?_) | (go_at_call 20; refine (HL.out).mono ?_; rintro e w8 ⟨rfl, rfl⟩))
            go_ret
            exact ⟨rfl, HB.out⟩
end Go.Proofs.Ytnkgbnipcjgjeaa
