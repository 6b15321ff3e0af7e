import Derived.Test.YthcabffoaaknaaaQWx3
import Derived.Test.YthcabffoaaknaaaPureW3
import Derived.Test.YthcabffoaaknaaaOfB
namespace Go.Proofs.Ythcabffoaaknaaa
open Go.RowKit Go.Proofs.Ythcabffoaaknaaa.QW Go.Proofs.YthcabffoaaknaaaW.PrintWords Go.Proofs.YthcabffoaaknaaaW.PrintLast Go.Proofs.YthcabffoaaknaaaW.PrintMore
set_option linter.unusedVariables false
def cL (A0 : Option Addr) (n : Nat) (l0 : List Int) (w : World) : Prop := Kd.C (Kd.int .i64) w A0 n l0
set_option maxHeartbeats 4000000 in
set_option maxRecDepth 100000 in
theorem tells_long (A0 : Option Addr) (c0 : Nat) (l0 : List Int) (w : World) (h : 300 < l0.length) :
    Calls Try.prog 3 #[.slice A0 l0.length c0] w fun e w' => e = .returned (.bool true) ∧ Below w.heap.size w w' := by
  have hd : decide ((300 : Int) < (l0.length : Int)) = true := decide_eq_true (by omega)
  clear h
  generalize l0.length = n at *
  go_enter Try.func3, Try.ntmps3
  go_wp2_with (go_at_call 6; refine (awake_ok _).mono ?_; rintro e w1 ⟨rfl, hb⟩)
  go_ret
  exact ⟨rfl, hb⟩
set_option maxHeartbeats 8000000 in
set_option maxRecDepth 100000 in
theorem tells_no (A0 : Option Addr) (c0 : Nat) (l0 : List Int) (w : World) (hr0 : Kd.C (Kd.int .i64) w A0 l0.length l0) (hc0 : l0.length ≤ c0) (hl : l0.length ≤ 300) {e0 : Int} (he : mayV l0 = e0) (hne : e0 ≠ 0) :
    Calls Try.prog 3 #[.slice A0 l0.length c0] w fun e w' => e = .returned (.bool true) ∧ Below w.heap.size w w' := by
  have hl1 : l0.length ≤ 1000 := by omega
  have hof := fun W h => of_err A0 c0 l0 W h hc0 hl1 he hne
  have hrk : wear_Rank.f l0 = some ([], e0) := by unfold wear_Rank.f; rw [if_pos hl1, he, if_neg hne]
  have hmd := fun W h => wear_Median.calls A0 c0 l0 0 e0 W h hc0 (by unfold wear_Median.f; rw [hrk, Option.bind_some, if_neg hne])
  have hsp := fun W h => wear_Spread.calls A0 c0 l0 0 e0 W h hc0 (by unfold wear_Spread.f; rw [may_some hl1, he, Option.bind_some, if_neg hne])
  obtain ⟨k, hk⟩ := may_f l0 hl1
  have hmy := fun W h => incunableref38_May.calls k A0 c0 l0 e0 W h hc0 ((hk k (Nat.le_refl _)).trans (by rw [he]))
  have hd : decide ((300 : Int) < (l0.length : Int)) = false := decide_eq_false (by omega)
  have hb0 : (e0 != 0) = true := by simp [hne]
  have Hof := Lib.hid hof
  have Hmd := Lib.hid hmd
  have Hsp := Lib.hid hsp
  have Hmy := Lib.hid hmy
  have HR := Lib.hid hr0
  clear hof hmd hsp hmy hr0 hk hrk he hne hl hl1 hc0
  generalize l0.length = n at *
  go_enter Try.func3, Try.ntmps3
  go_upto_region 5 with (go_at_call 6; refine (awake_ok _).mono ?_; rintro e w1 ⟨rfl, hb⟩)
  have HB := hb
  clear hb
  have hof1 := Hof.out w1 (Kd.C_below HR.out HB)
  go_upto_region 6 with (go_at_call 7; refine hof1.mono ?_; rintro e w2 ⟨rfl, hb⟩)
  clear hof1
  have HB2 := (HB.trans (hb.mono HB.size)).alloc (HB.trans (hb.mono HB.size)).size (.cells #[.int .i64 0, .int .i64 0, .int .i64 0, .int .i64 0, .slice none 0 0] 25)
  have hS := blk_new w2 (.cells #[.int .i64 0, .int .i64 0, .int .i64 0, .int .i64 0, .slice none 0 0] 25)
  obtain ⟨g, hg⟩ : ∃ g, g = w2.heap.size := ⟨_, rfl⟩
  rw [← hg] at hS ⊢
  generalize (w2.alloc (.cells #[.int .i64 0, .int .i64 0, .int .i64 0, .int .i64 0, .slice none 0 0] 25)) = w3 at HB2 hS ⊢
  clear HB hb hg
  have hmd1 := Hmd.out w3 (Kd.C_below HR.out HB2)
  go_upto_region 7 with (go_at_call 8; refine hmd1.mono ?_; rintro e w4 ⟨rfl, hb⟩)
  clear hmd1
  have HB4 := HB2.trans (hb.mono HB2.size)
  have hS4 := blk_below hS hb
  clear HB2 hS hb
  have hsp1 := Hsp.out w4 (Kd.C_below HR.out HB4)
  go_upto_region 8 with (go_at_call 9; refine hsp1.mono ?_; rintro e w5 ⟨rfl, ⟨q, rfl⟩⟩)
  clear hsp1
  have HB5 := b_drewN HB4 q
  have hS5 := blk_drewN hS4 q
  generalize w4.drewN q = w5 at HB5 hS5 ⊢
  clear HB4 hS4
  have hmy1 := Hmy.out w5 (Kd.C_below HR.out HB5)
  go_upto_region 10 with (go_at_call 10; refine hmy1.mono ?_; rintro e w6 ⟨rfl, ⟨q2, rfl⟩⟩)
  clear hmy1
  have HB6 := b_drewN HB5 q2
  have hS6 := blk_drewN hS5 q2
  generalize w5.drewN q2 = w6 at HB6 hS6 ⊢
  clear HB5 hS5
  have cS0 : w6.cell? ⟨g, 0, none⟩ = some (.int .i64 0) := blk_cell hS6 0
  have cS1 : w6.cell? ⟨g, 1, none⟩ = some (.int .i64 0) := blk_cell hS6 1
  have cS2 : w6.cell? ⟨g, 2, none⟩ = some (.int .i64 0) := blk_cell hS6 2
  have cS3 : w6.cell? ⟨g, 3, none⟩ = some (.int .i64 0) := blk_cell hS6 3
  have cS4 : w6.cell? ⟨g, 4, none⟩ = some (.slice none 0 0) := blk_cell hS6 4
  go_wp2
  go_ret
  exact ⟨rfl, HB6⟩
theorem sort_head {l : List Int} {m : Nat} (hm : l.length = m + 1) : (sortL l).getD 0 0 = minL l ∧ (sortL l).getD m 0 = maxL l := by
  have hp : 0 < l.length := by omega
  have hs := sortL_rises l
  have hlen := sort_len l
  have h1 := minL_spec hp
  have h2 := maxL_spec hp
  have e1 : minL l ∈ (sortL l).drop 0 := by rw [List.drop_zero]; exact (sortL_perm l).mem_iff.2 h1.1
  have e2 : maxL l ∈ (sortL l).drop 0 := by rw [List.drop_zero]; exact (sortL_perm l).mem_iff.2 h2.1
  obtain ⟨j, _, hj, ej⟩ := mem_drop_getD e1
  obtain ⟨i, _, hi, ei⟩ := mem_drop_getD e2
  have m0 : (sortL l).getD 0 0 ∈ l := by
    refine (sortL_perm l).mem_iff.1 ?_
    rw [List.getD_eq_getElem?_getD, List.getElem?_eq_getElem (by omega)]
    exact List.getElem_mem _
  have mm : (sortL l).getD m 0 ∈ l := by
    refine (sortL_perm l).mem_iff.1 ?_
    rw [List.getD_eq_getElem?_getD, List.getElem?_eq_getElem (by omega)]
    exact List.getElem_mem _
  have a1 := rises_le hs (Nat.zero_le j) hj
  have a2 := rises_le hs (show i ≤ m by omega) (by omega)
  have a3 := h1.2 _ m0
  have a4 := h2.2 _ mm
  omega
theorem totL_sum (l : List Int) (hok : okN l) (hl : l.length ≤ 1000) : totL l = sumI l := by
  have : ∀ (d i : Nat) (acc : Int), i + d = l.length → 0 ≤ acc → acc ≤ i * 2147483648 → foldFrom addW acc (l.drop i) = acc + sumI (l.drop i) := by
    intro d
    induction d with
    | zero =>
      intro i acc hd a0 a1
      rw [List.drop_eq_nil_of_le (by omega)]
      simp [foldFrom, sumI]
    | succ d ih =>
      intro i acc hd a0 a1
      have hi : i < l.length := by omega
      have hb := okN_getD hok i hi
      rw [drop_getD l i hi, foldFrom, sumI]
      have e : addW acc (l.getD i 0) = acc + l.getD i 0 := IntWalk.wrap64_in _ (by omega)
      rw [e, ih (i + 1) _ (by omega) (by omega) (by omega)]
      omega
  have h := this l.length 0 0 (by omega) (by omega) (by omega)
  rw [List.drop_zero, Int.zero_add] at h
  exact h
theorem quiet_drawn {P : Program} {f : FuncId} {args : Array Value} {w : World} {a : Nat} {v : Value} (h : Calls P f args (w.drewN a) fun e w' => e = .returned v ∧ Drawn0 (w.drewN a) w') :
    Calls P f args (w.drewN a) fun e w'' => e = .returned v ∧ ∃ m, w'' = w.drewN m :=
  h.mono fun _ _ ⟨he, ⟨q, hq⟩⟩ => ⟨he, a + q, by rw [hq, World.drewN_drewN]⟩
theorem tells_end {s k : Nat} {lo hi : Int} {l0 BL : List Int} {w : World} {gb cb cap : Nat} {Ab : Option Addr} {cu : Array Value} (hs : (s : Int) = hi - lo) (hge : ¬ 1024 ≤ s) (hBL : BL = barsL lo hi l0) (hn : k = l0.length)
    (hcu : w.heap[gb]? = some (.cells cu 3 (0, 0))) (hcc : ∀ j, j < s + 1 → cu[j]? = some (.int .i64 (cntL lo (l0.take k) j))) (hC : Kd.C (Kd.int .i64) w Ab BL.length BL) :
    BL.length = s + 1 ∧ Calls Try.prog 13 #[.slice Ab (s + 1) cb, .slice (some ⟨gb, 0, none⟩) (s + 1) cap] w fun e w' => e = .returned (.bool true) ∧ ∃ q, w' = w.drewN q := by
  have hBLe : BL = (List.range (s + 1)).map (cntL lo l0) := by
    rw [hBL]
    unfold barsL
    rw [if_pos (by omega), show (hi - lo).toNat + 1 = s + 1 by omega]
  have hlenB : BL.length = s + 1 := by rw [hBLe]; simp
  have htk : l0.take k = l0 := by rw [hn]; exact List.take_length
  rw [htk] at hcc
  have hC2 : Kd.C (Kd.int .i64) w (some ⟨gb, 0, none⟩) BL.length BL := by
    refine C_mk (by omega) (fun j hj => ?_)
    rw [blk_cell hcu j, hcc j (by omega), hBLe, List.getD_eq_getElem?_getD, List.getElem?_map, List.getElem?_range (by omega)]
    rfl
  have hin := ints_ok Ab cb BL (some ⟨gb, 0, none⟩) cap BL w hC hC2 (by omega) (by omega)
  rw [hlenB] at hin
  refine ⟨hlenB, hin.mono ?_⟩
  rintro e w' ⟨he, hq⟩
  exact ⟨by rw [he, decide_eq_true (rfl : BL = BL)], hq⟩
theorem tells_cells {s k j : Nat} {lo x c : Int} {l0 : List Int} {cu : Array Value} (hcc : ∀ j, j < s + 1 → cu[j]? = some (.int .i64 (cntL lo (l0.take k) j))) (hj1 : j < s + 1) (hlen : k < l0.length) (hx : x = l0.getD k 0) (hj : (j : Int) = x - lo) (hc : c = cntL lo (l0.take k) j) :
    ∀ i, i < s + 1 → (cu.setIfInBounds j (.int .i64 (c + 1)))[i]? = some (.int .i64 (cntL lo (l0.take (k + 1)) i)) := by
  refine cells_set hcc hj1 ?_ (fun i hi => ?_)
  · rw [cnt_step _ _ _ _ hlen, ← hx, if_pos hj.symm, hc]
  · rw [cnt_step _ _ _ _ hlen, ← hx, if_neg (by omega), Int.add_zero]
theorem tells_measure {n k : Nat} (h : k < n) : n - (intOf (.int .i64 ((k : Int) + 1))).toNat < n - (intOf (.int .i64 (k : Int))).toNat := by
  simp [intOf]; omega
set_option maxHeartbeats 16000000 in
set_option maxRecDepth 100000 in
theorem tells_yes (A0 : Option Addr) (c0 m : Nat) (l0 : List Int) (w : World) (hr0 : Kd.C (Kd.int .i64) w A0 l0.length l0) (hc0 : l0.length ≤ c0) (hl : l0.length ≤ 300) (he : mayV l0 = 0) (hm : l0.length = m + 1) :
    Calls Try.prog 3 #[.slice A0 l0.length c0] w fun e w' => e = .returned (.bool true) ∧ Below w.heap.size w w' := by
  have hl1 : l0.length ≤ 1000 := by omega
  obtain ⟨hok, hp⟩ := mayV_okN he
  have h1 := minL_spec hp
  have h2 := maxL_spec hp
  have hsh := sort_head hm
  have htot := totL_sum l0 hok hl1
  obtain ⟨lo, hlo⟩ : ∃ x, x = minL l0 := ⟨_, rfl⟩
  obtain ⟨hi, hhi⟩ : ∃ x, x = maxL l0 := ⟨_, rfl⟩
  obtain ⟨sm, hsm⟩ : ∃ x, x = totL l0 := ⟨_, rfl⟩
  obtain ⟨md, hmdv⟩ : ∃ x, x = (sortL l0).getD (m / 2) 0 := ⟨_, rfl⟩
  obtain ⟨BL, hBL⟩ : ∃ x, x = barsL lo hi l0 := ⟨_, rfl⟩
  have hof := fun W h => of_ok2 A0 c0 l0 W h hc0 hl1 he hp hlo.symm hhi.symm hsm.symm (by rw [hlo]; exact (hok _ h1.1).1) (by rw [hlo, hhi]; exact h1.2 _ h2.1) (by rw [hhi]; exact (hok _ h2.1).2) (Lib.hid (fun x hx => by rw [hlo, hhi]; exact ⟨h1.2 x hx, h2.2 x hx⟩))
  rw [← hBL] at hof
  have hmd := fun W h => wear_Median.calls A0 c0 l0 md 0 W h hc0 (by rw [hmdv]; exact median_f l0 m hm hl1 he)
  have hsp := fun W h => wear_Spread.calls A0 c0 l0 (hi - lo) 0 W h hc0 (by rw [hlo, hhi]; exact spread_f l0 hl1 he)
  obtain ⟨k, hk⟩ := may_f l0 hl1
  have hmy := fun W h => incunableref38_May.calls k A0 c0 l0 0 W h hc0 ((hk k (Nat.le_refl _)).trans (by rw [he]))
  obtain ⟨k2, hk2⟩ := sorted_f l0 hl1
  have hso := fun W h => incunableref38_Sorted.calls k2 A0 c0 l0 (sortL l0) W h hc0 (hk2 k2 (Nat.le_refl _))
  obtain ⟨k3, hk3⟩ := rsum_f l0 hok hl1
  have hsu := fun W h => incunableref38_Sum.calls k3 A0 c0 l0 sm W h hc0 ((hk3 k3 (Nat.le_refl _)).trans (by rw [hsm, htot]))
  have hd : decide ((300 : Int) < (l0.length : Int)) = false := decide_eq_false (by omega)
  have hbnd : 0 ≤ lo ∧ lo ≤ hi ∧ hi ≤ 2147483648 := ⟨by rw [hlo]; exact (hok _ h1.1).1, by rw [hlo, hhi]; exact h1.2 _ h2.1, by rw [hhi]; exact (hok _ h2.1).2⟩
  rw [← hlo, ← hhi] at hsh
  have hxb : ∀ x ∈ l0, lo ≤ x ∧ x ≤ hi := fun x hx => by rw [hlo, hhi]; exact ⟨h1.2 x hx, h2.2 x hx⟩
  have hsl := sort_len l0
  obtain ⟨SL, hSL⟩ : ∃ x, x = sortL l0 := ⟨_, rfl⟩
  rw [← hSL] at hsh hso hsl hmdv
  rw [hm] at hsl
  have HBND := Lib.hid hbnd
  have HSH := Lib.hid hsh
  have HSL := Lib.hid hsl
  have HXB := Lib.hid hxb
  have HBL := Lib.hid hBL
  have HMD := Lib.hid hmdv
  have Hof := Lib.hid hof
  have Hmd := Lib.hid hmd
  have Hsp := Lib.hid hsp
  have Hmy := Lib.hid hmy
  have Hso := Lib.hid hso
  have Hsu := Lib.hid hsu
  have HR := Lib.hid hr0
  have HL := Lib.hid hl
  clear hof hmd hsp hmy hso hsu hr0 hk hk2 hk3 he hl hl1 hc0 hok hp h1 h2 hsh htot hlo hhi hsm hmdv hBL hbnd hxb hsl hSL
  obtain ⟨n, hn⟩ : ∃ n, n = l0.length := ⟨_, rfl⟩
  rw [← hn] at hd hm Hof Hmd Hsp Hmy Hso Hsu HR HL ⊢
  have HN := Lib.hid hn
  have HM := Lib.hid hm
  clear hn hm
  go_enter Try.func3, Try.ntmps3
  go_upto_region 5 with (go_at_call 6; refine (awake_ok _).mono ?_; rintro e w1 ⟨rfl, hb⟩)
  have HB := hb
  clear hb hd
  have hof1 := Hof.out w1 (Kd.C_below HR.out HB)
  go_upto_region 6 with (go_at_call 7; refine hof1.mono ?_; rintro e w2 ⟨Ab, cb, rfl, hcb, hCb, hTb, hb⟩)
  clear hof1
  have HB2 := (HB.trans (hb.mono HB.size)).alloc (HB.trans (hb.mono HB.size)).size (.cells #[.int .i64 lo, .int .i64 hi, .int .i64 sm, .int .i64 (n : Int), .slice Ab BL.length cb] 25)
  have hS := blk_new w2 (.cells #[.int .i64 lo, .int .i64 hi, .int .i64 sm, .int .i64 (n : Int), .slice Ab BL.length cb] 25)
  have hCb2 := Kd.C_alloc hCb (.cells #[.int .i64 lo, .int .i64 hi, .int .i64 sm, .int .i64 (n : Int), .slice Ab BL.length cb] 25)
  have HCB := Lib.hid hcb
  obtain ⟨g, hg⟩ : ∃ g, g = w2.heap.size := ⟨_, rfl⟩
  rw [← hg] at hS ⊢
  generalize (w2.alloc (.cells #[.int .i64 lo, .int .i64 hi, .int .i64 sm, .int .i64 (n : Int), .slice Ab BL.length cb] 25)) = w3 at HB2 hS hCb2 ⊢
  clear HB hb hg hCb hTb hcb
  have hmd1 := Hmd.out w3 (Kd.C_below HR.out HB2)
  go_upto_region 7 with (go_at_call 8; refine hmd1.mono ?_; rintro e w4 ⟨rfl, hb⟩)
  clear hmd1
  have HB4 := HB2.trans (hb.mono HB2.size)
  have hS4 := blk_below hS hb
  have hCb4 := Kd.C_below hCb2 hb
  clear HB2 hS hb hCb2
  have hsp1 := Hsp.out w4 (Kd.C_below HR.out HB4)
  go_upto_region 8 with (go_at_call 9; refine hsp1.mono ?_; rintro e w5 ⟨rfl, ⟨q, rfl⟩⟩)
  clear hsp1
  have HB5 := b_drewN HB4 q
  have hS5 := blk_drewN hS4 q
  have hCb5 := Kd.C_drewN hCb4 q
  generalize w4.drewN q = w5 at HB5 hS5 hCb5 ⊢
  clear HB4 hS4 hCb4
  have hmy1 := Hmy.out w5 (Kd.C_below HR.out HB5)
  go_upto_region 11 with (go_at_call 10; refine hmy1.mono ?_; rintro e w6 ⟨rfl, ⟨q2, rfl⟩⟩)
  clear hmy1
  have HB6 := b_drewN HB5 q2
  have hS6 := blk_drewN hS5 q2
  have hCb6 := Kd.C_drewN hCb5 q2
  generalize w5.drewN q2 = w6 at HB6 hS6 hCb6 ⊢
  clear HB5 hS5 hCb5
  have hso1 := Hso.out w6 (Kd.C_below HR.out HB6)
  go_upto_region 12 with (go_at_call 11; refine hso1.mono ?_; rintro e w7 ⟨v0, rfl, hX, hb⟩; obtain ⟨gx, cx, ux, rfl, hgx, hux, hcx, hcells⟩ := own_ints hX (by have := HSL.out; omega))
  clear hso1
  have HB7 := HB6.trans (hb.mono HB6.size)
  have hS7 := blk_below hS6 hb
  have hS6' := hS6
  have hCb7 := Kd.C_below hCb6 hb
  clear HB6 hS6 hCb6 hb
  have hlen : SL.length = n := by rw [HSL.out, HM.out]
  rw [hlen] at hcx hcells ⊢
  have hgl : g < gx := by
    have h1 := blk_lt hS7
    have h2 := Nat.lt_of_lt_of_le (blk_lt hS6') hgx
    omega
  have HGL := Lib.hid hgl
  have HCX := Lib.hid hcells
  have hC7 := Kd.C_below HR.out HB7
  have HC7 := Lib.hid hC7
  have cS0 : w7.cell? ⟨g, 0, none⟩ = some (.int .i64 lo) := blk_cell hS7 0
  have cS1 : w7.cell? ⟨g, 1, none⟩ = some (.int .i64 hi) := blk_cell hS7 1
  have cS2 : w7.cell? ⟨g, 2, none⟩ = some (.int .i64 sm) := blk_cell hS7 2
  have cS3 : w7.cell? ⟨g, 3, none⟩ = some (.int .i64 (n : Int)) := blk_cell hS7 3
  have cS4 : w7.cell? ⟨g, 4, none⟩ = some (.slice Ab BL.length cb) := blk_cell hS7 4
  have x0 : w7.cell? ⟨gx, 0, none⟩ = some (.int .i64 lo) := by rw [blk_cell hux 0, hcells 0 (by rw [HM.out]; omega), HSH.out.1]
  have x1 : w7.cell? ⟨gx, m, none⟩ = some (.int .i64 hi) := by rw [blk_cell hux m, hcells m (by rw [HM.out]; omega), HSH.out.2]
  obtain ⟨h, hh⟩ : ∃ h, h = m / 2 := ⟨_, rfl⟩
  have x2 : w7.cell? ⟨gx, h, none⟩ = some (.int .i64 md) := by rw [blk_cell hux h, hcells h (by rw [HM.out, hh]; omega), hh, HMD.out]
  have X0 : Hid (ux[0]? = some (.int .i64 lo)) := Lib.hid (by rw [hcells 0 (by rw [HM.out]; omega), HSH.out.1])
  have q1 : IntKind.i64.wrap ((n : Int) - 1) = (m : Int) := by have := HM.out; have := HL.out; rw [IntWalk.i64_in _ (by omega)]; omega
  have q2' : IntKind.i64.wrap ((m : Int) / 2) = (h : Int) := by have := HM.out; have := HL.out; rw [IntWalk.i64_in _ (by omega)]; omega
  have q4 : IntKind.i64.wrap (hi - lo) = hi - lo := by obtain ⟨b1, b2, b3⟩ := HBND.out; exact IntWalk.i64_in _ (by omega)
  have m1 : (m : Int) < (n : Int) := by have := HM.out; omega
  have m2 : (h : Int) < (n : Int) := by have := HM.out; omega
  have m3 : (0 : Int) < (n : Int) := by have := HM.out; omega
  have m5 : 0 < n := by have := HM.out; omega
  have m6 : m < n := by have := HM.out; omega
  have m7 : h < n := by have := HM.out; omega
  clear hh
  clear hX hcells hC7 hgl hlen hgx
  go_upto_region 13 with fail
  go_quiet (first | (go_at_call 12; exact quiet_drawn (Hsu.out _ (Kd.C_drewN HC7.out _))))
  have hS8 := blk_drewN hS7 nq
  have hX8 := blk_drewN hux nq
  have hCb8 := Kd.C_drewN hCb7 nq
  have HB8 := b_drewN HB7 nq
  have x0' : (w7.drewN nq).cell? ⟨gx, 0, none⟩ = some (.int .i64 lo) := x0
  generalize w7.drewN nq = w8 at hS8 hX8 hCb8 HB8 x0' ⊢
  clear hS7 hux hCb7 HB7 x0 x1 x2 q1 q2' q4 m1 m2 m6 m7 HC7 HGL hcx hS6'
  have hbnd := HBND.out
  obtain ⟨s, hs⟩ : ∃ s : Nat, (s : Int) = hi - lo := ⟨(hi - lo).toNat, by omega⟩
  have hsd : hi - lo = (s : Int) := hs.symm
  rw [hsd]
  have HS := Lib.hid hs
  clear hs hsd
  have cS4 : w8.cell? ⟨g, 4, none⟩ = some (.slice Ab BL.length cb) := blk_cell hS8 4
  by_cases hge : 1024 ≤ s
  · have hBLe : BL = [] := by rw [HBL.out]; unfold barsL; have := HS.out; rw [if_neg (by omega)]
    have hd : decide ((1024 : Int) ≤ (s : Int)) = true := decide_eq_true (by omega)
    rw [hBLe] at cS4
    clear hbnd hge hBLe
    go_wp2_with fail
    go_ret
    exact ⟨rfl, HB8⟩
  · have hd : decide ((1024 : Int) ≤ (s : Int)) = false := decide_eq_false (by omega)
    have hw1 : wrap64 ((s : Int) + 1) = (s : Int) + 1 := by unfold wrap64; omega
    have hn0 : (0 : Int) ≤ (s : Int) + 1 := by omega
    have hn1 : ((s : Int) + 1).toNat * 8 ≤ 281474976710656 := by omega
    have HN0 := Lib.hid hn0
    have HN1 := Lib.hid hn1
    have HGE := Lib.hid hge
    have HB8h := Lib.hid HB8
    clear hbnd hge hn0 hn1 HB8
    go_upto_region 18 with (at_make; refine Kd.R_make (Kd.int .i64) (w0 := w8) w8.heap.size 3 rfl rfl 22 (.tmp 153) (.tmp 153) rfl ((s : Int) + 1) (by first | decide | (go_simp; done) | (simp [Act.eval]; done)) (by first | decide | (go_simp; done) | (simp [Act.eval]; done)) Try.underlying22 (.int .i64 0) 8 (by kernel_rfl) rfl (by decide) (by decide) 0 (ok := fun _ => True) (okp := fun _ => True) rfl (fun _ h => h) trivial HN0.out HN1.out (Below.refl _ _) (Nat.le_refl _) ?_; intro v1 w9 hown HB9 hg9 hnew; obtain ⟨gb, cap, cur, rfl, hgb, hcur, hcap, hcells⟩ := own_ints hown (by rw [List.length_replicate]; omega))
    have hsn : ((s : Int) + 1).toNat = s + 1 := by omega
    simp only [List.length_replicate, hsn] at hcells hcap ⊢
    have HCE := Lib.hid hcells
    have HB9h := Lib.hid HB9
    have HX8 := Lib.hid hX8
    have HS8 := Lib.hid hS8
    have HCB8 := Lib.hid hCb8
    have hlo := HBND.out.1
    clear hown hg9 hnew hcells HB9 hX8 hS8 hCb8 hsn hlo cS4 x0' hcap
    go_wp2_with fail
    go_loopw [157] (fun i wr => ∃ (k : Nat) (cu : Array Value), k ≤ n ∧ i = .int .i64 k ∧ wr.heap[gb]? = some (.cells cu 3 (0, 0)) ∧ Hid (∀ j, j < s + 1 → cu[j]? = some (.int .i64 (cntL lo (l0.take k) j))) ∧ Hid (Below w8.heap.size w8 wr)) (fun i _ => n - (intOf i).toNat)
    case atStart => exact ⟨0, cur, by omega, rfl, hcur, Lib.hid (fun j hj => by rw [HCE.out j hj, List.take_zero, cnt_nil, zeros_getD]), HB9h⟩
    case round =>
      clear hcur HCE HB9h cur
      obtain ⟨k, cu, hk, rfl, hcu, HCC, HBW⟩ := hrel
      have hlw : HB8h.out = HB8h.out := rfl
      by_cases hkn : k < n
      · have hbnd := HBND.out
        have hsd := HS.out
        have hge := HGE.out
        have hlen : k < l0.length := by rw [← HN.out]; exact hkn
        have hCk : Kd.C (Kd.int .i64) wr A0 l0.length l0 := by
          have h9 := Kd.C_below (Kd.C_below HR.out HB8h.out) HBW.out
          rw [HN.out] at h9
          exact h9
        obtain ⟨b, off, rfl, hbb, hc⟩ := row_of_C hCk (by omega)
        clear hCk
        have hck := hc k hlen
        have hx0 : l0.getD k 0 ∈ l0 := by rw [List.getD_eq_getElem?_getD, List.getElem?_eq_getElem hlen]; exact List.getElem_mem hlen
        obtain ⟨x, hx⟩ : ∃ x, x = l0.getD k 0 := ⟨_, rfl⟩
        rw [← hx] at hck hx0
        have hxb := HXB.out x hx0
        have HX := Lib.hid hx
        obtain ⟨j, hj⟩ : ∃ j : Nat, (j : Int) = x - lo := ⟨(x - lo).toNat, by omega⟩
        have hj1 : j < s + 1 := by omega
        have hw2 : wrap64 (x - lo) = (j : Int) := by unfold wrap64; omega
        have hcj : wr.cell? ⟨gb, j, none⟩ = some (.int .i64 (cntL lo (l0.take k) j)) := (blk_cell hcu j).trans (HCC.out j hj1)
        have hfj : wr.frozen? ⟨gb, j, none⟩ = false := blk_frozen hcu j
        have hxc : wr.cell? ⟨gx, 0, none⟩ = some (.int .i64 lo) := (blk_cell (blk_below HX8.out HBW.out) 0).trans X0.out
        have hcb := cnt_le lo (l0.take k) j
        rw [List.length_take] at hcb
        have hn3 := HL.out
        obtain ⟨c, hcq⟩ : ∃ c, c = cntL lo (l0.take k) j := ⟨_, rfl⟩
        rw [← hcq] at hcj hcb
        have HCQ := Lib.hid hcq
        have hw3 : wrap64 (c + 1) = c + 1 := by unfold wrap64; omega
        have hwk : wrap64 ((k : Int) + 1) = (k : Int) + 1 := by unfold wrap64; omega
        have HLEN := Lib.hid hlen
        have HJ := Lib.hid hj
        have HJ1 := Lib.hid hj1
        clear hx hc hx0 hbnd hsd hge hlen hxb hj hcb hn3 hcq hlw
        go_wp2
        go_roundw
        case rel =>
          refine ⟨k + 1, cu.setIfInBounds j (.int .i64 (c + 1)), Nat.succ_le_of_lt hkn, congrArg (Value.int .i64) hwk, blk_set hcu j _, Lib.hid ?_, Lib.hid (Below.setCell HBW.out hgb _)⟩
          exact tells_cells HCC.out HJ1.out HLEN.out HX.out HJ.out HCQ.out
        case measure =>
          rw [hwk]
          exact tells_measure hkn
      · have hk2 : k = n := by omega
        subst hk2
        obtain ⟨hlenB, hin⟩ := tells_end (Ab := Ab) (cb := cb) (cap := cap) HS.out HGE.out HBL.out HN.out hcu HCC.out (Kd.C_below HCB8.out HBW.out)
        have HIN := Lib.hid hin
        have c4 : wr.cell? ⟨g, 4, none⟩ = some (.slice Ab (s + 1) cb) := by rw [blk_cell (blk_below HS8.out HBW.out) 4, hlenB]; rfl
        have HBF := Lib.hid (HB8h.out.trans (HBW.out.mono HB8h.out.size))
        clear hin hlenB hcu hkn
        go_wp2_with (go_at_call 13; refine (HIN.out).mono ?_; rintro e w' ⟨rfl, q9, rfl⟩)
        go_ret
        exact ⟨rfl, b_drewN HBF.out q9⟩
theorem tells_any (A0 : Option Addr) (c0 : Nat) (l0 : List Int) (w : World) (hr0 : Kd.C (Kd.int .i64) w A0 l0.length l0) (hc0 : l0.length ≤ c0) :
    Calls Try.prog 3 #[.slice A0 l0.length c0] w fun e w' => e = .returned (.bool true) ∧ Below w.heap.size w w' := by
  by_cases h : 300 < l0.length
  · exact tells_long A0 c0 l0 w h
  · by_cases he : mayV l0 = 0
    · obtain ⟨hok, hp⟩ := mayV_okN he
      exact tells_yes A0 c0 (l0.length - 1) l0 w hr0 hc0 (by omega) he (by omega)
    · exact tells_no A0 c0 l0 w hr0 hc0 (by omega) rfl he
end Go.Proofs.Ythcabffoaaknaaa
