import Derived.Test.YtnkgbnipcjgjeaaFS0

namespace Go.Proofs.Ytnkgbnipcjgjeaa
open Go.RowKit Go.Shelf Go.Sort Go.Lib Go.Proofs.YtnkgbnipcjgjeaaW.PrintWords Go.Proofs.YtnkgbnipcjgjeaaW.PrintLast Go.Proofs.YtnkgbnipcjgjeaaW.PrintMore
set_option linter.unusedVariables false
theorem info28 : (Try.prog.info? 28).map (fun i => (i.zero, i.size, i.bytes)) = some (some (.agg #[.int .i64 0, .int .i64 0, .int .i64 0]), 3, 24) := by kernel_rfl
theorem info3 : (Try.prog.info? 3).map (fun i => (i.zero, i.size, i.bytes)) = some (some (.int .i64 0), 1, 8) := by kernel_rfl
def toP (gs : List (Int × Int × Int)) : List (Int × Int) := gs.map fun d => (d.2.1, d.2.2)
def metL (gs : List (Int × Int × Int)) : List (Int × Value) := gs.map fun d => (d.2.1, Value.bool true)
theorem mget_met (gs : List (Int × Int × Int)) (x : Int) : mget (metL gs) x = (mget (toP gs) x).map fun _ => Value.bool true := by
  induction gs with
  | nil => rfl
  | cons d r ih =>
    show (if d.2.1 = x then some (Value.bool true) else mget (metL r) x) = (if d.2.1 = x then some d.2.2 else mget (toP r) x).map _
    split
    · rfl
    · exact ih
theorem met_none {gs : List (Int × Int × Int)} {x : Int} (h : mget (toP gs) x = none) : ∀ p ∈ metL gs, p.1 ≠ x := by
  induction gs with
  | nil => intro p hp; cases hp
  | cons a r ih =>
    have h2 : (if a.2.1 = x then some a.2.2 else mget (toP r) x) = none := h
    intro p hp
    by_cases e2 : a.2.1 = x
    · rw [if_pos e2] at h2; cases h2
    · rw [if_neg e2] at h2
      rcases List.mem_cons.1 hp with rfl | hp
      · exact e2
      · exact ih h2 p hp
theorem mput_met (gs : List (Int × Int × Int)) (d : Int × Int × Int) (h : mget (toP gs) d.2.1 = none) : mput (metL gs) d.2.1 (.bool true) = metL (gs ++ [d]) := by
  rw [mput_none _ (met_none h)]
  unfold metL; rw [List.map_append]; rfl
theorem toP_app (gs : List (Int × Int × Int)) (d : Int × Int × Int) : toP (gs ++ [d]) = toP gs ++ [(d.2.1, d.2.2)] := by unfold toP; rw [List.map_append]; rfl
theorem toP_len (gs : List (Int × Int × Int)) : (toP gs).length = gs.length := List.length_map ..
theorem R_ne_new {α : Type} {d : Kd α} {e : Nat} {w : World} {base : Nat} {ok : Nat → Prop} {v : Value} {xs : List α} (h : d.R e w base ok v xs) : some w.heap.size ≠ v.ownBlock := fun he => by
  obtain ⟨inner, ho⟩ := Kd.R_own h
  exact Nat.lt_irrefl _ (own_lt ho _ he.symm)
def filtN (dr : Int) (T : List Int) (j : Nat) : List Int := (T.take j).filter fun y => y != dr
theorem filt_succ (dr : Int) (T : List Int) (j : Nat) (h : j < T.length) : filtN dr T (j + 1) = filtN dr T j ++ (if T.getD j 0 != dr then [T.getD j 0] else []) := by
  unfold filtN
  rw [List.take_succ_eq_append_getElem h, List.filter_append]
  have e : T.getD j 0 = T[j] := by rw [List.getD_eq_getElem?_getD, List.getElem?_eq_getElem h]; rfl
  rw [e]
  congr 1
  cases hx : (T[j] != dr) with
  | true => rw [List.filter_cons_of_pos (by simpa using hx)]; rfl
  | false => rw [List.filter_cons_of_neg (by simpa using hx)]; rfl
theorem filt_len (dr : Int) (T : List Int) (j : Nat) : (filtN dr T j).length ≤ j := Nat.le_trans (List.length_filter_le _ _) (List.length_take_le _ _)
theorem zero4 (w : World) : (zeroValue 4).run Try.prog w = .ok (.bool false) w := Try.zeroValue4 w
theorem mdel_le (l : List (Int × Int)) (x : Int) : (mdel l x).length ≤ l.length := by
  induction l with
  | nil => exact Nat.le_refl _
  | cons p r ih =>
    unfold mdel
    split
    · exact Nat.le_succ _
    · exact Nat.succ_le_succ ih
theorem C_of_R {α : Type} {d : Kd α} {e : Nat} {w : World} {base : Nat} {ok : Nat → Prop} {A : Option Addr} {n c : Nat} {xs : List α} (h : d.R e w base ok (.slice A n c) xs) : d.C w A xs.length xs ∧ n = xs.length ∧ xs.length ≤ c := by
  obtain ⟨A', c', he, hc, hC⟩ := Kd.R_reads h
  injection he with h1 h2 h3
  subst h1
  exact ⟨hC, h2, by omega⟩
/-- A block that is none of five. -/
def ok5 (g b g2 b2 m : Nat) (k : Nat) : Prop := k ≠ g ∧ k ≠ b ∧ k ≠ g2 ∧ k ≠ b2 ∧ k ≠ m
theorem kDo_M (w : World) (base : Nat) (ok : Nat → Prop) (a x y : Int) : kDo.M w base ok (a, x, y) [.int .i64 a, .int .i64 x, .int .i64 y] := ⟨[.int .i64 a], [.int .i64 x, .int .i64 y], rfl, rfl, ⟨[.int .i64 x], [.int .i64 y], rfl, rfl, rfl⟩⟩
set_option maxHeartbeats 8000000 in
set_option maxRecDepth 100000 in
theorem freeSame_walk (w : World) (x0 : (List (Int × Int × Int))) {A0_0 : Option Addr} {c0_0 : Nat} (l0_0 : x0.length ≤ c0_0) (g0_0 : Kd.C (Kd.pair (Kd.int .i64) (Kd.pair (Kd.int .i64) (Kd.int .i64))) w A0_0 x0.length x0) (hw0 : (∀ z0 ∈ x0, ((Lit.int .i64 z0.1).wf = true ∧ (Lit.int .i64 z0.2.1).wf = true ∧ (Lit.int .i64 z0.2.2).wf = true))) (x1 : Int) (hw1 : (Lit.int .u8 x1).wf = true) :
    Calls Try.prog 3 #[.slice A0_0 x0.length c0_0, .int .u8 x1] w fun e w' => e = .returned (.bool true) ∧ Below w.heap.size w w' := by
  have HR := Lib.hid (show Kd.C kDo w A0_0 x0.length x0 from g0_0)
  have HW := Lib.hid hw0
  obtain ⟨kk, rfl⟩ : ∃ kk : Nat, x1 = kk := by
    have e : (Lit.int .u8 x1).wf = (decide ((0 : Int) ≤ x1) && decide (x1 ≤ 255)) := rfl
    rw [e, Bool.and_eq_true, decide_eq_true_eq, decide_eq_true_eq] at hw1
    exact ⟨x1.toNat, by omega⟩
  have hkk : (kk : Int) ≤ 255 := by
    have e : (Lit.int .u8 (kk : Int)).wf = (decide ((0 : Int) ≤ (kk : Int)) && decide ((kk : Int) ≤ 255)) := rfl
    rw [e, Bool.and_eq_true, decide_eq_true_eq, decide_eq_true_eq] at hw1
    exact hw1.2
  clear g0_0 hw0 l0_0 hw1
  obtain ⟨n, hn⟩ : ∃ n, n = x0.length := ⟨_, rfl⟩
  rw [← hn]
  have HN := Lib.hid hn
  clear hn
  have hu22 := Try.underlying22
  have hu28 := Try.underlying28
  have ha28 := Try.isAgg28
  have hmm := @run_makeMap Try.prog
  go_enter Try.func3, Try.ntmps3
  go_wp2_with fail
  refine (awake_ok _).mono ?_
  rintro e w1 ⟨rfl, hb⟩
  have HB := Lib.hid hb
  clear hb
  by_cases hl : 60 < n
  · go_wp2_with fail
    go_ret
    exact ⟨rfl, HB.out⟩
  · have hn2 : (n : Int) ≤ 60 := by omega
    by_cases hz : n = 0
    · subst hz
      go_wp2_with fail
      go_ret
      exact ⟨rfl, HB.out⟩
    · have hnz : ((n : Int) == 0) = false := beq_eq_false_iff_ne.2 (by omega)
      have hnp : (0 : Int) < (n : Int) := by omega
      go_wp2_with fail
      refine (new_ok _).mono ?_
      rintro e w2 ⟨⟨g, b, rfl, hp, hgs, hbs⟩, hb⟩
      have hgs' : w.heap.size ≤ g := Nat.le_trans HB.out.size hgs
      have hbs' : w.heap.size ≤ b := Nat.le_trans HB.out.size hbs
      replace HB := Lib.hid (chainC (Nat.le_refl _) HB.out hb)
      have hg2 : g < w2.heap.size := hp.ltg
      have hb2 : b < w2.heap.size := hp.ltb
      have HP := Lib.hid hp
      clear hb hp hgs hbs
      go_wp2_with fail
      refine (new_ok _).mono ?_
      rintro e w4 ⟨⟨g2, b2, rfl, hq, hgs, hbs⟩, hb⟩
      have hgg : g < g2 ∧ g < b2 := by omega
      have hbb : b < g2 ∧ b < b2 := by omega
      have hgs2 : w.heap.size ≤ g2 := Nat.le_trans HB.out.size hgs
      have hbs2 : w.heap.size ≤ b2 := Nat.le_trans HB.out.size hbs
      replace HB := Lib.hid (chainC (Nat.le_refl _) HB.out hb)
      replace HP := Lib.hid (HP.out.below hb)
      obtain ⟨m, hm⟩ : ∃ m, m = w4.heap.size := ⟨_, rfl⟩
      have hgm : g2 < m := by rw [hm]; exact hq.ltg
      have hbm : b2 < m := by rw [hm]; exact hq.ltb
      have hgbn : g2 ≠ b2 := hq.ne
      have hgbn1 : g ≠ b := HP.out.ne
      have HM := Lib.hid (MapIs.new kI okI w4)
      have HQ := Lib.hid (hq.below ((Below.refl _ _).alloc (Nat.le_refl _) (.map #[] 0)))
      replace HP := Lib.hid (HP.out.below ((Below.refl _ _).alloc (Nat.le_refl _) (.map #[] 0)))
      replace HB := Lib.hid (HB.out.alloc HB.out.size (.map #[] 0))
      have hms : w.heap.size ≤ m := by omega
      rw [← hm] at HM
      have HF := Lib.hid (show (w.heap.size ≤ g ∧ w.heap.size ≤ b ∧ w.heap.size ≤ g2 ∧ w.heap.size ≤ b2 ∧ w.heap.size ≤ m) ∧ g < m ∧ b < m ∧ g2 < m ∧ b2 < m ∧ g ≠ b ∧ g ≠ g2 ∧ g ≠ b2 ∧ b ≠ g2 ∧ b ≠ b2 ∧ g2 ≠ b2 from ⟨⟨hgs', hbs', hgs2, hbs2, hms⟩, by omega, by omega, by omega, by omega, hgbn1, by omega, by omega, by omega, by omega, hgbn⟩)
      have HMM := Lib.hid hm
      clear hb hq hgs hbs hgs' hbs' hgs2 hbs2 hms hgm hbm hm hgg hbb hg2 hb2 hgbn hgbn1 hz hl
      go_wp2_with fail
      rw [← HMM.out]
      clear HMM hmm
      generalize (w4.alloc (.map #[] 0)) = w5 at HB HP HQ HM ⊢
      go_loopw [8, 32] (fun v i wr => ∃ (k : Nat) (gs : List (Int × Int × Int)), k ≤ n ∧ i = .int .i64 k ∧ Hid (Kd.R kDo 28 wr w.heap.size (ok5 g b g2 b2 m) v gs) ∧ Hid (PoolIs wr g b (toP gs)) ∧ Hid (PoolIs wr g2 b2 []) ∧ Hid (MapIs kI okI wr m (metL gs)) ∧ Hid (gs.length ≤ k) ∧ Hid (Below w.heap.size w wr)) (fun _ i _ => n - (intOf i).toNat)
      case atStart => exact ⟨0, [], by omega, rfl, Lib.hid (Kd.R_nil _ _ _ _ _), HP, HQ, HM, Lib.hid (Nat.le_refl _), HB⟩
      case round =>
        clear HP HM HB HQ
        obtain ⟨k, gs, hk, rfl, HO, HP, HQ, HM, HLK, HB⟩ := hrel
        by_cases hkn : k < n
        · have hlen : k < x0.length := by rw [← HN.out]; exact hkn
          obtain ⟨bl, off, rfl, hbb, hcell⟩ := row3 (Kd.C_below HR.out HB.out) (by omega)
          obtain ⟨e0, e1, e2⟩ := hcell k hlen
          have hmem : gD x0 k ∈ x0 := by unfold gD; rw [List.getD_eq_getElem?_getD, List.getElem?_eq_getElem hlen]; exact List.getElem_mem hlen
          have hwf := HW.out _ hmem
          generalize gD x0 k = d at e0 e1 e2 hwf
          obtain ⟨dk, x, y⟩ := d
          have HX := Lib.hid (show okI x from hwf.2.1)
          have hk0 : (k : Int) < (n : Int) := by omega
          have hAl := (Below.refl _ _).alloc (Nat.le_refl wr.heap.size) (.cells #[.int .i64 dk, .int .i64 x, .int .i64 y] 28)
          have HPA := Lib.hid (HP.out.below hAl)
          have HQA := Lib.hid (HQ.out.below hAl)
          have HMA := Lib.hid (HM.out.alloc (.cells #[.int .i64 dk, .int .i64 x, .int .i64 y] 28))
          have HOA := Lib.hid (Kd.R_below HO.out hAl)
          have HBA := Lib.hid (HB.out.alloc HB.out.size (.cells #[.int .i64 dk, .int .i64 x, .int .i64 y] 28))
          have hSA := blk_new wr (.cells #[.int .i64 dk, .int .i64 x, .int .i64 y] 28)
          have hrs : m < wr.heap.size := HM.out.lt
          clear hlen hcell hmem hwf hbb hAl
          cases hpb : putB (toP gs) x y with
          | false =>
            have hc := put_err g b _ x y _ HPA.out hpb
            have HC := Lib.hid hc
            clear hc hpb hSA hrs
            go_wp2_with (go_at_call 17; refine (HC.out).mono ?_; rintro e w7 ⟨rfl, rfl⟩)
            go_roundw
            case rel => exact ⟨k + 1, gs, hkn, by go_num, HOA, HPA, HQA, HMA, Lib.hid (Nat.le_succ_of_le HLK.out), HBA⟩
            case measure => exact step_measure hkn
          | true =>
            have hc := put_ok g b _ x y _ HPA.out hpb
            have hnone : mget (toP gs) x = none := by
              unfold putB at hpb
              rw [Bool.and_eq_true] at hpb
              cases h : mget (toP gs) x with
              | none => rfl
              | some v => rw [h] at hpb; exact absurd hpb.2 (by simp)
            have hput := mput_met gs (dk, x, y) hnone
            have HC := Lib.hid hc
            have HPU := Lib.hid hput
            have HSA := Lib.hid hSA
            have HRS := Lib.hid hrs
            clear hc hpb hnone hput hSA hrs
            go_wp2_with fail
            refine (HC.out).mono ?_
            rintro e w7 ⟨rfl, hp7, hg7, hs7⟩
            have hf := HF.out
            have hm7 := HMA.out.grown hg7 (fun e => by injection e with e; omega)
            have hSA7 := blk_grown HSA.out hg7 (fun e => by injection e with e; have := HRS.out; omega)
            have f0 : w7.cell? ⟨wr.heap.size, 0, none⟩ = some (.int .i64 dk) := blk_cell hSA7 0
            have f1 : w7.cell? ⟨wr.heap.size, 1, none⟩ = some (.int .i64 x) := blk_cell hSA7 1
            have f2 : w7.cell? ⟨wr.heap.size, 2, none⟩ = some (.int .i64 y) := blk_cell hSA7 2
            have hq7 : PoolIs w7 g2 b2 [] := HQA.out.at_ (hg7.block g2 HQA.out.ltg (fun e => by injection e with e; omega)) (hg7.block b2 HQA.out.ltb (fun e => by injection e with e; omega))
            have ho7 := Kd.R_grown HOA.out hg7 (fun k hk e => hk.2.1 (by injection e))
            have hb7 := HBA.out.grown hg7 HBA.out.size (fun k e => by injection e with e; omega)
            have HB7 := Lib.hid hb7
            have HP7 := Lib.hid hp7
            have HQ7 := Lib.hid hq7
            have HM7 := Lib.hid hm7
            have HO7 := Lib.hid ho7
            have hbig : (gs.length + 1) * 24 ≤ 140737488355328 := by have := HLK.out; omega
            have HBIG := Lib.hid hbig
            have HNB := Lib.hid (R_ne_new HO.out)
            have hfr : ∀ k, w7.heap.size ≤ k → ok5 g b g2 b2 m k := fun k hk => by have := hm7.lt; unfold ok5; omega
            have HFR := Lib.hid hfr
            have HSA7 := Lib.hid hSA7
            clear hp7 hg7 hs7 hm7 hSA7 hq7 ho7 hb7 hbig hf hfr
            go_wp2_with (first | (at_builtin; refine Kd.R_append kDo (w0 := w) w.heap.size rfl (.tmp 43) (.tmp 45) 22 28 _ 24 rfl Try.underlying22 info28 rfl (by decide) (by decide) _ gs (dk, x, y) [.int .i64 dk, .int .i64 x, .int .i64 y] (ok5 g b g2 b2 m) (fun _ => False) rfl rfl (kDo_M _ _ _ dk x y) (fun _ h => h.elim) HFR.out HO7.out HB7.out HB7.out.size HBIG.out ?_; intro v8 w8 hr8 hb8 hg8 hat8; have hA := HO7.out.1; have HO8 := Lib.hid hr8; have HB8 := Lib.hid hb8; have HP8 := Lib.hid (HP7.out.at_ (hg8.block g HP7.out.ltg (fun e => (hA g e.symm).1 rfl)) (hg8.block b HP7.out.ltb (fun e => (hA b e.symm).2.1 rfl))); have HQ8 := Lib.hid (HQ7.out.at_ (hg8.block g2 HQ7.out.ltg (fun e => (hA g2 e.symm).2.2.1 rfl)) (hg8.block b2 HQ7.out.ltb (fun e => (hA b2 e.symm).2.2.2.1 rfl))); have HM8 := Lib.hid (HM7.out.at_ (hg8.block m HM7.out.lt (fun e => (hA m e.symm).2.2.2.2 rfl))); have hc8 : w8.cell? ⟨wr.heap.size, 1, none⟩ = some (.int .i64 x) := blk_cell (blk_grown HSA7.out hg8 HNB.out) 1; clear hr8 hb8 hg8 hat8 hA) | (at_mapUpdate; refine wp_put rfl (.tmp 47) (.tmp 49) (.const (.bool true)) 26 rfl keI Try.underlying26 rfl HM8.out x HX.out rfl (.bool true) rfl ?_; intro w9 hm9 hg9 hs9; rw [HPU.out] at hm9; have HM9 := Lib.hid hm9; have hf := HF.out; have HP9 := Lib.hid (HP8.out.at_ (hg9.block g HP8.out.ltg (fun e => by injection e with e; omega)) (hg9.block b HP8.out.ltb (fun e => by injection e with e; omega))); have HQ9 := Lib.hid (HQ8.out.at_ (hg9.block g2 HQ8.out.ltg (fun e => by injection e with e; omega)) (hg9.block b2 HQ8.out.ltb (fun e => by injection e with e; omega))); have HO9 := Lib.hid (Kd.R_grown HO8.out hg9 (fun k hk e => hk.2.2.2.2 (by injection e))); have HB9 := Lib.hid (HB8.out.grown hg9 HB8.out.size (fun k e => by injection e with e; omega)); clear hm9 hg9 hs9 hf))
            go_roundw
            case rel => exact ⟨k + 1, _, hkn, by go_num, HO9, Lib.hid (by rw [toP_app]; exact HP9.out), HQ9, HM9, Lib.hid (by rw [List.length_append]; exact Nat.succ_le_succ HLK.out), HB9⟩
            case measure => exact step_measure hkn
        · have hk2 : k = n := by omega
          subst hk2
          clear hkn
          obtain ⟨A, c, rfl, hcap, hC⟩ := Kd.R_reads HO.out
          obtain ⟨n1, hn1⟩ : ∃ n1, n1 = gs.length := ⟨_, rfl⟩
          obtain ⟨l, hl⟩ : ∃ l, l = toP gs := ⟨_, rfl⟩
          have hll : l.length = n1 := by rw [hl, hn1, toP_len]
          rw [← hl] at HP
          rw [← hn1] at HO hcap hC ⊢
          have hn1k : (n1 : Int) ≤ 60 := by have := HLK.out; omega
          have HN1 := Lib.hid hn1
          have HL := Lib.hid hl
          have HLL := Lib.hid hll
          have HCAP := Lib.hid hcap
          have HC := Lib.hid hC
          clear hn1 hl hll hcap hC
          go_wp2_with fail
          go_loopw [53] (fun i wr => ∃ (i' : Nat), i' ≤ n1 ∧ i = .int .i64 i' ∧ Hid (Kd.R kDo 28 wr w.heap.size (ok5 g b g2 b2 m) (.slice A n1 c) gs) ∧ Hid (PoolIs wr g b l) ∧ Hid (PoolIs wr g2 b2 (otherL (0, 0) l kk i')) ∧ Hid (MapIs kI okI wr m (metL gs)) ∧ Hid (Below w.heap.size w wr)) (fun i _ => n1 - (intOf i).toNat)
          case atStart => exact ⟨0, by omega, rfl, HO, HP, HQ, HM, HB⟩
          case round =>
            clear HO HP HQ HM HB HC
            obtain ⟨i, hi, rfl, HO, HP, HQ, HM, HB⟩ := hrel
            by_cases hin : i < n1
            · have hC := (show ∃ A' c', Value.slice A n1 c = .slice A' gs.length c' ∧ gs.length ≤ c' ∧ kDo.C _ A' gs.length gs from Kd.R_reads HO.out)
              obtain ⟨A', c', he, _, hC⟩ := hC
              have he2 : A = A' := by injection he
              subst he2
              clear he
              obtain ⟨bg, offg, rfl, hbg, hcell⟩ := row3 hC (by have := HN1.out; omega)
              have hjn : (n1 - 1 - i + kk) % n1 < n1 := ixR_lt hin
              obtain ⟨e0, e1, e2⟩ := hcell ((n1 - 1 - i + kk) % n1) (by have := HN1.out; omega)
              have hget : gP l (ixR l.length kk i) = ((gD gs ((n1 - 1 - i + kk) % n1)).2.1, (gD gs ((n1 - 1 - i + kk) % n1)).2.2) := by
                rw [HLL.out, HL.out]
                unfold gP toP gD
                show ((gs.map _).getD ((n1 - 1 - i + kk) % n1) _) = _
                rw [List.getD_eq_getElem?_getD, List.getElem?_map, List.getElem?_eq_getElem (by have := HN1.out; omega), List.getD_eq_getElem?_getD, List.getElem?_eq_getElem (by have := HN1.out; omega)]
                rfl
              have hsucc := otherL_succ (0, 0) l kk i
              rw [show l.getD (ixR l.length kk i) (0, 0) = gP l (ixR l.length kk i) from rfl, hget] at hsucc
              have hmem : gP l (ixR l.length kk i) ∈ l := by
                have hlt : ixR l.length kk i < l.length := by rw [HLL.out]; exact ixR_lt hin
                unfold gP
                rw [List.getD_eq_getElem?_getD, List.getElem?_eq_getElem hlt]
                exact List.getElem_mem hlt
              have hbd := HP.out.2.2 _ hmem
              have hnew : mget (otherL (0, 0) l kk i) (gP l (ixR l.length kk i)).1 = none := other_new l kk HP.out.nodup (by rw [HLL.out]; exact hin)
              rw [hget] at hbd hnew
              have hkL : (gs.length : Int) = (n1 : Int) := by have := HN1.out; omega
              generalize gD gs ((n1 - 1 - i + kk) % n1) = d at e0 e1 e2 hsucc hbd hnew
              obtain ⟨dk, x, y⟩ := d
              have hpb : putB (otherL (0, 0) l kk i) x y = true := by
                unfold putB
                rw [hnew, decide_eq_true hbd]; rfl
              have hAl := (Below.refl _ _).alloc (Nat.le_refl wr.heap.size) (.cells #[.int .i64 dk, .int .i64 x, .int .i64 y] 28)
              have HPA := Lib.hid (HP.out.below hAl)
              have HMA := Lib.hid (HM.out.alloc (.cells #[.int .i64 dk, .int .i64 x, .int .i64 y] 28))
              have HOA := Lib.hid (Kd.R_below HO.out hAl)
              have HBA := Lib.hid (HB.out.alloc HB.out.size (.cells #[.int .i64 dk, .int .i64 x, .int .i64 y] 28))
              have HCL := Lib.hid (put_ok g2 b2 _ x y _ (HQ.out.below hAl) hpb)
              have HSU := Lib.hid hsucc
              have hi0 : (i : Int) < (n1 : Int) := by omega
              have hI0 : 0 ≤ ((n1 : Int) - 1 - (i : Int) + (kk : Int)) % (n1 : Int) := Int.emod_nonneg _ (by omega)
              have hI1 : ((n1 : Int) - 1 - (i : Int) + (kk : Int)) % (n1 : Int) < (n1 : Int) := Int.emod_lt_of_pos _ (by omega)
              clear hC hcell hget hsucc hmem hbd hnew hpb hAl hkL hbg
              go_wp2_with fail
              refine (HCL.out).mono ?_
              rintro e w7 ⟨rfl, hq7, hg7, hs7⟩
              have hf := HF.out
              have HP7 := Lib.hid (HPA.out.at_ (hg7.block g HPA.out.ltg (fun e => by injection e with e; omega)) (hg7.block b HPA.out.ltb (fun e => by injection e with e; omega)))
              have HM7 := Lib.hid (HMA.out.grown hg7 (fun e => by injection e with e; omega))
              have HO7 := Lib.hid (Kd.R_grown HOA.out hg7 (fun k hk e => hk.2.2.2.1 (by injection e)))
              have HB7 := Lib.hid (HBA.out.grown hg7 HBA.out.size (fun k e => by injection e with e; omega))
              rw [← HSU.out] at hq7
              have HQ7 := Lib.hid hq7
              clear hq7 hg7 hs7 hf
              go_wp2_with fail
              go_roundw
              case rel => exact ⟨i + 1, hin, by go_num, HO7, HP7, HQ7, HM7, HB7⟩
              case measure => exact step_measure hin
            · have hi2 : i = n1 := by omega
              subst hi2
              clear hin
              have hperm : (otherL (0, 0) l kk i).Perm l := by rw [← HLL.out]; exact otherL_perm _ _ _
              have hL1 := list_ok _ HP.out (by have := HLL.out; omega)
              have hL2 := fun w' (hb : Below _ _ w') => list_ok w' (HQ.out.below hb) (by rw [hperm.length_eq]; have := HLL.out; omega)
              rw [listP_congr hperm] at hL2
              have hLl : (listP l).length = i := by unfold listP; rw [List.length_map, (sortP_perm l).length_eq]; exact HLL.out
              have hLN := fun w' (h : PoolIs w' g b l) => len_ok g b l w' h
              obtain ⟨T, hT⟩ : ∃ T, T = listP l := ⟨_, rfl⟩
              rw [← hT] at hL1 hL2 hLl
              have HT := Lib.hid hT
              have HL1 := Lib.hid hL1
              have HL2 := Lib.hid hL2
              have HTL := Lib.hid hLl
              have HLN := Lib.hid hLN
              clear hL1 hL2 hLl hT hperm hLN
              go_wp2_with fail
              refine (HL1.out).mono ?_
              rintro e w7 ⟨⟨v7, rfl, hr7⟩, hb7⟩
              have HR7 := Lib.hid hr7
              have hs7 := hb7.size
              have HL2' := Lib.hid (HL2.out _ hb7)
              have HP7 := Lib.hid (HP.out.below hb7)
              have HM7 := Lib.hid (HM.out.below hb7)
              have HO7 := Lib.hid (Kd.R_below HO.out hb7)
              have HB7 := Lib.hid (chainC (Nat.le_refl _) HB.out hb7)
              clear hr7 hb7 hs7 HL1 HL2 HP HQ HM HO HB
              go_wp2_with fail
              refine (HL2'.out).mono ?_
              rintro e w8 ⟨⟨v8, rfl, hr8⟩, hb8⟩
              have hr7 := Kd.R_below HR7.out hb8
              have HP8 := Lib.hid (HP7.out.below hb8)
              have HM8 := Lib.hid (HM7.out.below hb8)
              have HO8 := Lib.hid (Kd.R_below HO7.out hb8)
              have HB8 := Lib.hid (chainC (Nat.le_refl _) HB7.out hb8)
              obtain ⟨A7, c7, rfl, hc7, hC7⟩ := Kd.R_reads hr7
              obtain ⟨A8, c8, rfl, hc8, hC8⟩ := Kd.R_reads hr8
              have hI := ints_call _ hC7 hc7 hC8 hc8 (by rw [HTL.out]; omega)
              have HI := Lib.hid hI
              clear hI hr7 hr8 hc7 hC7 hc8 hC8 hb8 HP7 HM7 HO7 HB7 HR7 HL2'
              go_wp2_with fail
              refine (HI.out).mono ?_
              rintro e w9 ⟨rfl, ⟨q, rfl⟩⟩
              have HP9 := Lib.hid (HP8.out.drewN q)
              have HM9 := Lib.hid (MapIs.drewN HM8.out q)
              have HO9 := Lib.hid (Kd.R_drewN HO8.out q)
              have HB9 := Lib.hid (pw_below_drewN HB8.out q)
              have hln := HLN.out _ HP9.out
              have hml : (metL gs).length = l.length := by unfold metL; rw [List.length_map, HLL.out, HN1.out]
              have HML := Lib.hid hml
              have HLN9 := Lib.hid hln
              clear hml hln HLN HP8 HM8 HO8 HB8 HI
              generalize (w8.drewN q) = w9 at HP9 HM9 HO9 HB9 HLN9 ⊢
              have hml9 := HM9.out.len Try.underlying26 3
              rw [HML.out, HLL.out] at hml9
              have hln9 := HLN9.out
              rw [HLL.out] at hln9
              have HLN10 := Lib.hid hln9
              have hlp : (0 : Int) < (k : Int) := hnp
              have hrow := fun w' (hb : Below _ _ w') => Kd.C_below HR.out (HB9.out.trans (hb.mono HB9.out.size))
              have HROW := Lib.hid hrow
              have hr0 := hrow _ (Below.refl _ _)
              obtain ⟨bl, off, rfl, hbb, hcell⟩ := row3 hr0 (by have := HN.out; omega)
              have hdl : kk % k < x0.length := by rw [← HN.out]; exact Nat.mod_lt _ (by omega)
              obtain ⟨_, e1, _⟩ := hcell (kk % k) hdl
              have hmemx : gD x0 (kk % k) ∈ x0 := by unfold gD; rw [List.getD_eq_getElem?_getD, List.getElem?_eq_getElem hdl]; exact List.getElem_mem hdl
              have hwfx := (HW.out _ hmemx).2.1
              obtain ⟨dr, hdr⟩ : ∃ dr, dr = (gD x0 (kk % k)).2.1 := ⟨_, rfl⟩
              rw [← hdr] at e1 hwfx
              have HWX := Lib.hid (show okI dr from hwfx)
              have hI0 : 0 ≤ (kk : Int) % (k : Int) := Int.emod_nonneg _ (by omega)
              have hI1 : (kk : Int) % (k : Int) < (k : Int) := Int.emod_lt_of_pos _ (by omega)
              have hL3 := list_ok _ HP9.out (by have := HLL.out; omega)
              rw [← HT.out] at hL3
              have HL3 := Lib.hid hL3
              clear hln9 hrow hr0 hcell hdl hmemx hwfx hdr hL3 hbb HLN9
              go_wp2_with (go_at_call 20; refine (HLN10.out).mono ?_; rintro e w10 ⟨rfl, rfl⟩)
              refine (HL3.out).mono ?_
              rintro e w11 ⟨⟨v11, rfl, hr11⟩, hb11⟩
              obtain ⟨A9, c9, rfl, hc9, hC9⟩ := Kd.R_reads hr11
              have HC9 := Lib.hid hC9
              have HP11 := Lib.hid (HP9.out.below hb11)
              have HM11 := Lib.hid (HM9.out.below hb11)
              have HB11 := Lib.hid (chainC (Nat.le_refl _) HB9.out hb11)
              have HBR := Lib.hid (Below.refl w11.heap.size w11)
              have htl := HTL.out
              obtain ⟨tn, htn⟩ : ∃ tn, tn = T.length := ⟨_, rfl⟩
              rw [← htn] at htl ⊢
              have htn60 : (tn : Int) ≤ 60 := by omega
              have HTN := Lib.hid htn
              have HCC := Lib.hid hc9
              clear hr11 hb11 hc9 hC9 HP9 HM9 HO9 HB9 HL3 HROW hI0 hI1 HLN10 htl htn hml9
              go_wp2_with fail
              go_loopw [14, 103] (fun v j wr => ∃ (j' : Nat), j' ≤ tn ∧ j = .int .i64 j' ∧ Hid (Kd.R (Kd.int .i64) 3 wr w11.heap.size (fun _ => True) v (filtN dr T j')) ∧ Hid (Below w11.heap.size w11 wr)) (fun _ j _ => tn - (intOf j).toNat)
              case atStart => exact ⟨0, by omega, rfl, Lib.hid (Kd.R_nil _ _ _ _ _), HBR⟩
              case round =>
                clear HBR
                obtain ⟨j, hj, rfl, HWN, HBW⟩ := hrel
                by_cases hjn : j < tn
                · have hjT : j < T.length := by rw [← HTN.out]; exact hjn
                  obtain ⟨bt, offt, rfl, hbt, hcell⟩ := row_of_C HC9.out (by omega)
                  have e1 := hcell j hjT
                  rw [← HBW.out.cell (p := ⟨bt, offt + j, none⟩) hbt] at e1
                  have hsucc := filt_succ dr T j hjT
                  generalize T.getD j 0 = x at e1 hsucc
                  have hj0 : (j : Int) < (tn : Int) := by omega
                  cases hx : (x != dr) with
                  | false =>
                    rw [hx, if_neg (by decide), List.append_nil] at hsucc
                    have HSU := Lib.hid hsucc
                    clear hcell hsucc hbt hjT
                    go_wp2_with fail
                    go_roundw
                    case rel => exact ⟨j + 1, hjn, by go_num, by rw [HSU.out]; exact HWN, HBW⟩
                    case measure => exact step_measure hjn
                  | true =>
                    rw [hx, if_pos rfl] at hsucc
                    have HSU := Lib.hid hsucc
                    have hlen := filt_len dr T j
                    have hbig : ((filtN dr T j).length + 1) * 8 ≤ 140737488355328 := by omega
                    have HBIG := Lib.hid hbig
                    clear hcell hsucc hbt hjT hlen hbig
                    go_wp2_with (at_builtin; refine Kd.R_append (Kd.int .i64) (w0 := w11) w11.heap.size rfl (.tmp 110) (.tmp 112) 32 3 _ 8 rfl Try.underlying32 info3 rfl (by decide) (by decide) _ _ x [.int .i64 x] (fun _ => True) (fun _ => False) rfl rfl rfl (fun _ h => h.elim) (fun _ _ => trivial) HWN.out HBW.out HBW.out.size HBIG.out ?_; intro v12 w12 hr12 hb12 hg12 hat12; have HR12 := Lib.hid hr12; have HB12 := Lib.hid hb12; clear hr12 hb12 hg12 hat12)
                    go_roundw
                    case rel => exact ⟨j + 1, hjn, by go_num, by rw [HSU.out]; exact HR12, HB12⟩
                    case measure => exact step_measure hjn
                · have hj2 : j = tn := by omega
                  subst hj2
                  have hfT : filtN dr T j = listP (mdel l dr) := by
                    rw [listP_del dr HP11.out.nodup, ← HT.out]
                    unfold filtN
                    rw [HTN.out, List.take_length]
                  have hwn := HWN.out
                  rw [hfT] at hwn
                  obtain ⟨A12, c12, rfl, hc12, hC12⟩ := Kd.R_reads hwn
                  have hRW := Kd.R_mono (Kd.R_bound hwn) (ok' := fun k => w11.heap.size ≤ k) (fun _ h => h.2.1)
                  have hbl11 : b < w11.heap.size := HP11.out.ltb
                  have HBL := Lib.hid hbl11
                  clear hfT hwn hjn HWN hbl11 hC12
                  have hp12 := HP11.out.below HBW.out
                  have hm12 := HM11.out.below HBW.out
                  obtain ⟨sb, hsb⟩ : ∃ sb, sb = (mget l dr).isSome := ⟨_, rfl⟩
                  have hlook : ∀ W : World, MapIs kI okI W m (metL gs) → (Instr.lookup 26 (.map (some m)) (.int .i64 dr) false).run Try.prog W = .ok (.bool sb) W := fun W hW => by
                    have h := hW.look keI Try.underlying26 (zero4 W) HWX.out false
                    rw [if_neg (by decide), mget_met, ← HL.out] at h
                    rw [hsb]
                    refine h.trans ?_
                    cases mget l dr <;> rfl
                  have hdrop := drop_ok g b l dr _ (show PoolIs wr.drew g b l from hp12) HWX.out
                  rw [← hsb] at hdrop
                  have hl0 := hlook wr.drew hm12
                  have HM12 := Lib.hid (show MapIs kI okI wr.drew m (metL gs) from hm12)
                  have HD := Lib.hid hdrop
                  have HLOOK := Lib.hid hlook
                  have HBW2 := Lib.hid (HB11.out.trans (HBW.out.mono HB11.out.size)).drew
                  have HLS := Lib.hid (show (mdel l dr).length ≤ 1000 from Nat.le_trans (mdel_le l dr) (by have := HLL.out; omega))
                  have HRW := Lib.hid (show Kd.R (Kd.int .i64) 3 wr.drew w11.heap.size (fun k => w11.heap.size ≤ k) _ _ from hRW)
                  have HCC12 := Lib.hid hc12
                  have HLT := Lib.hid (show (listP (mdel l dr)).length ≤ 100000 from by
                    unfold listP
                    rw [List.length_map, (sortP_perm _).length_eq]
                    have := HLS.out; omega)
                  generalize hLM : listP (mdel l dr) = LM at HRW HCC12 HLT ⊢
                  have HLM := Lib.hid hLM
                  clear hlook hdrop hp12 hm12 hsb hLM hRW hc12
                  go_wp2_with fail
                  go_region_held3 (fun w' => (Instr.lookup 26 (.map (some m)) (.int .i64 dr) false).run Try.prog w' = .ok (.bool sb) w') (go_keep) (first | (go_at_call 21; refine (HD.out).mono ?_; rintro e w13 ⟨rfl, hp13, hg13, hs13⟩; have hf := HF.out; have hm13 := HM12.out.grown hg13 (fun e => by injection e with e; omega); have hl13 := HLOOK.out _ hm13; have HM13 := Lib.hid hm13; have HP13 := Lib.hid hp13; have HB13 := Lib.hid (HBW2.out.grown hg13 HBW2.out.size (fun k e => by injection e with e; omega)); have HR13 := Lib.hid (Kd.R_grown HRW.out hg13 (fun k hk e => by injection e with e; have := HBL.out; omega)); clear hp13 hg13 hs13 hf hm13) | (go_at_call 19; refine (list_ok _ HP13.out HLS.out).mono ?_; rintro e w14 ⟨⟨v14, rfl, hr14⟩, hb14⟩; rw [HLM.out] at hr14; obtain ⟨A14, c14, rfl, hc14, hC14⟩ := Kd.R_reads hr14; have hl14 := HLOOK.out _ (HM13.out.below hb14); have HB14 := Lib.hid (chainC (Nat.le_refl _) HB13.out hb14); have HRW14 := Lib.hid (Kd.R_below HR13.out hb14); have HC14 := Lib.hid hC14; have HCC14 := Lib.hid hc14; have HM14 := Lib.hid (HM13.out.below hb14); clear hr14 hb14 hC14 hc14) | (go_at_call 18; refine (ints_call _ HC14.out HCC14.out (C_of_R HRW14.out).1 (C_of_R HRW14.out).2.2 HLT.out).mono ?_; rintro e w15 ⟨rfl, ⟨q15, rfl⟩⟩; have hl15 := HLOOK.out _ (MapIs.drewN HM14.out q15); have HB15 := Lib.hid (pw_below_drewN HB14.out q15)))
                  all_goals
                    go_wp2_with fail
                    go_ret
                    exact ⟨rfl, HB15.out⟩
end Go.Proofs.Ytnkgbnipcjgjeaa
