import Derived.Test.YtnkgbnipcjgjeaaTH
namespace Go.Proofs.Ytnkgbnipcjgjeaa
open Go.RowKit Go.Shelf Go.Sort Go.Lib Go.Proofs.YtnkgbnipcjgjeaaW.PrintWords Go.Proofs.YtnkgbnipcjgjeaaW.PrintLast Go.Proofs.YtnkgbnipcjgjeaaW.PrintMore
set_option linter.unusedVariables false
/-- How many bits the first K places (row by row, two rungs each) have. -/
def sumB (l : List Tu) : Nat → Nat
  | 0 => 0
  | K + 1 => sumB l K + (bitsOf l (((K / 2 : Nat) : Int), ((K % 2 : Nat) : Int))).length
theorem sumB_nil : ∀ K, sumB [] K = 0
  | 0 => rfl
  | K + 1 => by unfold sumB; rw [sumB_nil K]; rfl
theorem bitsOf_cons (t : Tu) (r : List Tu) (q : Int × Int) : (bitsOf (t :: r) q).length = (if q = (t.1, t.2.1) then 1 else 0) + (bitsOf r q).length := by
  unfold bitsOf
  by_cases h : q = (t.1, t.2.1)
  · rw [if_pos h, List.filter_cons, if_pos (by rw [h]; simp)]; simp; omega
  · rw [if_neg h, List.filter_cons, if_neg (by simp only [decide_eq_true_eq]; exact fun e => h e.symm)]; simp
theorem sumB_cons (t : Tu) (r : List Tu) (a b : Nat) (ha : t.1 = a) (hb : t.2.1 = b) (hb1 : b ≤ 1) : ∀ K, sumB (t :: r) K = (if 2 * a + b < K then 1 else 0) + sumB r K
  | 0 => by rw [if_neg (by omega)]; rfl
  | K + 1 => by
    have ih := sumB_cons t r a b ha hb hb1 K
    have e1 : sumB (t :: r) (K + 1) = sumB (t :: r) K + (bitsOf (t :: r) (((K / 2 : Nat) : Int), ((K % 2 : Nat) : Int))).length := rfl
    have e2 : sumB r (K + 1) = sumB r K + (bitsOf r (((K / 2 : Nat) : Int), ((K % 2 : Nat) : Int))).length := rfl
    rw [e1, e2, ih, bitsOf_cons]
    by_cases h : K = 2 * a + b
    · rw [if_pos (show (((K / 2 : Nat) : Int), ((K % 2 : Nat) : Int)) = (t.1, t.2.1) by rw [ha, hb]; congr 1 <;> omega), if_neg (by omega), if_pos (by omega)]; omega
    · rw [if_neg (show ¬ (((K / 2 : Nat) : Int), ((K % 2 : Nat) : Int)) = (t.1, t.2.1) by
        rw [ha, hb]
        intro e
        injection e with e1 e2
        omega)]
      by_cases h2 : 2 * a + b < K
      · rw [if_pos h2, if_pos (by omega)]; omega
      · rw [if_neg h2, if_neg (by omega)]; omega
theorem okT_rows {t : Tu} (h : okT t = true) : ∃ a b : Nat, t.1 = a ∧ t.2.1 = b ∧ a ≤ 15 ∧ b ≤ 1 := by
  unfold okT inB at h
  simp only [Bool.and_eq_true, decide_eq_true_eq] at h
  obtain ⟨a, ha⟩ := Int.eq_ofNat_of_zero_le h.1.1.1
  obtain ⟨b, hb⟩ := Int.eq_ofNat_of_zero_le h.1.2.1
  exact ⟨a, b, ha, hb, by omega, by omega⟩
theorem sumB_all : ∀ l : List Tu, (∀ t ∈ l, okT t = true) → sumB l 32 = l.length
  | [], _ => sumB_nil 32
  | t :: r, h => by
    obtain ⟨a, b, ha, hb, h1, h2⟩ := okT_rows (h t List.mem_cons_self)
    rw [sumB_cons t r a b ha hb h2, if_pos (by omega), sumB_all r (fun x hx => h x (List.mem_cons_of_mem _ hx)), List.length_cons]
    omega
theorem sumB_le (l : List Tu) : ∀ K, sumB l K ≤ K * l.length
  | 0 => by rw [Nat.zero_mul]; exact Nat.le_refl _
  | K + 1 => by
    have := sumB_le l K
    have := bitsOf_len l (((K / 2 : Nat) : Int), ((K % 2 : Nat) : Int))
    unfold sumB
    rw [Nat.succ_mul]; omega
theorem mem_bits {l : List Tu} {q : Int × Int} {x : Int} (h : x ∈ bitsOf l q) : (q.1, q.2, x) ∈ l := by
  unfold bitsOf at h
  obtain ⟨t, ht, rfl⟩ := List.mem_map.1 h
  obtain ⟨h1, h2⟩ := List.mem_filter.1 ht
  have h2 := of_decide_eq_true h2
  rw [← h2]; exact h1
theorem bits_far {l : List Tu} (h : ∀ t ∈ l, okT t = true) {q : Int × Int} (hq : q.1 < 0 ∨ 15 < q.1) : bitsOf l q = [] := by
  unfold bitsOf
  rw [List.filter_eq_nil_iff.2 (fun t ht => ?_)]
  · rfl
  · obtain ⟨a, b, ha, hb, h1, h2⟩ := okT_rows (h t ht)
    simp only [decide_eq_true_eq]
    intro e
    rw [← e] at hq
    simp only at hq
    omega
theorem okIm1 : okI (-1) := by
  have e : (Lit.int .i64 (-1)).wf = (decide ((-9223372036854775808 : Int) ≤ -1) && decide ((-1 : Int) ≤ 9223372036854775807)) := rfl
  show (Lit.int .i64 (-1)).wf = true
  rw [e]
  decide
theorem nn_step (sg j : Nat) (h : sg + j ≤ 10000) : Value.int .i64 (wrap64 ((sg : Int) + (j : Int) + 1)) = .int .i64 ((sg + (j + 1) : Nat) : Int) := by
  rw [IntWalk.wrap64_in _ (by omega)]; exact congrArg (Value.int .i64) (by omega)
theorem sumB_two (l : List Tu) (r : Nat) : sumB l (2 * r + 1) = sumB l (2 * r) + (bitsOf l ((r : Int), 0)).length ∧ sumB l (2 * (r + 1)) = sumB l (2 * r + 1) + (bitsOf l ((r : Int), 1)).length := by
  constructor
  · show sumB l (2 * r) + _ = _
    rw [show 2 * r / 2 = r by omega, show 2 * r % 2 = 0 by omega]; rfl
  · rw [show 2 * (r + 1) = (2 * r + 1) + 1 by omega]
    show sumB l (2 * r + 1) + _ = _
    rw [show (2 * r + 1) / 2 = r by omega, show (2 * r + 1) % 2 = 1 by omega]; rfl
set_option maxHeartbeats 8000000 in
set_option maxRecDepth 100000 in
theorem choiceTurns_main (s : Sc) (h : Sh) (w : World) (hr : ScR w s h) : Calls Try.prog 8 #[.agg (scC h)] w fun e w' => e = .returned (.bool true) ∧ Below w.heap.size w w' := by
  have hal := alloc_below w (.cells (scC h) 73)
  have HAL := Lib.hid hal
  by_cases hf : FewH h
  · have HFW := Lib.hid (fun W => few_yes h W hf)
    cases hR : rightB s with
    | false =>
      have hn := fun W (hb : Below w.heap.size w W) => new_no s h W (hr.below hb) hf hR
      obtain ⟨e1, e2, e3, e4, e5, ec, r1, r2, r3, r4, r5, k1, k2, k4⟩ := hr
      obtain ⟨a1, n1, c1, a2, n2, c2, a3, n3, c3, cut, a4, n4, c4, a5, n5, c5⟩ := h
      obtain ⟨busy, fails, turns, cut', torn, marked⟩ := s
      simp only at e1 e2 e3 e4 e5 ec
      subst e1 e2 e3 e4 e5 ec
      have HN := Lib.hid hn
      clear hn hal r1 r2 r3 r4 r5 k1 k2 k4 hf hR
      show Calls Try.prog 8 #[.agg #[.slice a1 busy.length c1, .slice a2 fails.length c2, .slice a3 turns.length c3, .int .i64 cut, .slice a4 torn.length c4, .slice a5 marked.length c5]] w _
      have HSB := Lib.hid (blk_new w (.cells #[.slice a1 busy.length c1, .slice a2 fails.length c2, .slice a3 turns.length c3, .int .i64 cut, .slice a4 torn.length c4, .slice a5 marked.length c5] 73))
      go_enter Try.func8, Try.ntmps8
      go_wp2_with fail
      refine (tawake_ok _).mono ?_
      rintro e w1 ⟨rfl, hb1⟩
      replace HSB := Lib.hid ((hb1.block _ (blk_lt HSB.out)).trans HSB.out)
      have HB := Lib.hid (chainC (Nat.le_refl _) HAL.out hb1)
      have x0 := blk_cell HSB.out 0
      have x1 := blk_cell HSB.out 1
      have x2 := blk_cell HSB.out 2
      have x3 := blk_cell HSB.out 3
      have x4 := blk_cell HSB.out 4
      have x5 := blk_cell HSB.out 5
      clear hb1
      go_wp2_with fail
      refine (HFW.out _).mono ?_
      rintro e w2 ⟨rfl, hb2⟩
      replace HSB := Lib.hid ((hb2.block _ (blk_lt HSB.out)).trans HSB.out)
      replace HB := Lib.hid (chainC (Nat.le_refl _) HB.out hb2)
      clear hb2 x0 x1 x2 x3 x4 x5
      go_upto_region 5 with fail
      obtain ⟨sb, hsb⟩ : ∃ sb, sb = w.heap.size := ⟨_, rfl⟩
      rw [← hsb] at HSB ⊢
      clear hsb
      have HS0 : Hid (w2.drew.cell? ⟨sb, 0, none⟩ = some (.slice a1 busy.length c1) ∧ w2.drew.cell? ⟨sb, 1, none⟩ = some (.slice a2 fails.length c2) ∧ w2.drew.cell? ⟨sb, 2, none⟩ = some (.slice a3 turns.length c3) ∧ w2.drew.cell? ⟨sb, 3, none⟩ = some (.int .i64 cut) ∧ w2.drew.cell? ⟨sb, 4, none⟩ = some (.slice a4 torn.length c4) ∧ w2.drew.cell? ⟨sb, 5, none⟩ = some (.slice a5 marked.length c5)) := Lib.hid ⟨blk_cell HSB.out 0, blk_cell HSB.out 1, blk_cell HSB.out 2, blk_cell HSB.out 3, blk_cell HSB.out 4, blk_cell HSB.out 5⟩
      replace HB := Lib.hid (pw_below_drewN HB.out 1)
      refine wp_region_noPanic ?_
      refine start_ (n := 8) (S := fun w' => w'.cell? ⟨sb, 0, none⟩ = some (.slice a1 busy.length c1) ∧ w'.cell? ⟨sb, 1, none⟩ = some (.slice a2 fails.length c2) ∧ w'.cell? ⟨sb, 2, none⟩ = some (.slice a3 turns.length c3) ∧ w'.cell? ⟨sb, 3, none⟩ = some (.int .i64 cut) ∧ w'.cell? ⟨sb, 4, none⟩ = some (.slice a4 torn.length c4) ∧ w'.cell? ⟨sb, 5, none⟩ = some (.slice a5 marked.length c5)) (ds := []) #[false, false, false, false, false, false, false, false] (by kernel_rfl) rfl rfl HS0.out (fun hHeld => ?_)
      refine take_ (i := 1) (N := some 20) (v := ?_) (a' := ?_) #[false, true, false, false, false, false, false, false] rfl rfl (by kernel_rfl) (fun _ _ _ h => h) (Or.inl ⟨by rfl, ?_⟩) hHeld ?_ ?_
      rotate_left
      · rintro w' ⟨s0, s1, s2, s3, s4, s5⟩
        go_simp
        with_reducible rfl
      rotate_left
      · simp only [Act.put, List.setIfInBounds_toArray, List.set_cons_zero, List.set_cons_succ]
        rfl
      refine one_ (i := 0) (N := some 19) #[true, true, false, false, false, false, false, false] rfl rfl (by kernel_rfl) (by decide) (fun K hK => ?_)
      refine goes_ (N := some 19) Try.func46 (by kernel_rfl) rfl #[] (by rfl) rfl rfl (by simp only [List.map_toArray, List.map_nil]) ?_
      refine (plain_ok _).mono ?_
      rintro e wn ⟨rfl, hbn⟩
      refine ⟨_, rfl, ?_⟩
      have hS' : wn.cell? ⟨sb, 0, none⟩ = some (.slice a1 busy.length c1) ∧ wn.cell? ⟨sb, 1, none⟩ = some (.slice a2 fails.length c2) ∧ wn.cell? ⟨sb, 2, none⟩ = some (.slice a3 turns.length c3) ∧ wn.cell? ⟨sb, 3, none⟩ = some (.int .i64 cut) ∧ wn.cell? ⟨sb, 4, none⟩ = some (.slice a4 torn.length c4) ∧ wn.cell? ⟨sb, 5, none⟩ = some (.slice a5 marked.length c5) := by obtain ⟨z0, z1, z2, z3, z4, z5⟩ := hHeld; exact ⟨pw_cell_below hbn z0, pw_cell_below hbn z1, pw_cell_below hbn z2, pw_cell_below hbn z3, pw_cell_below hbn z4, pw_cell_below hbn z5⟩
      have HBN := Lib.hid (chainC (Nat.le_refl _) HB.out hbn)
      have HSN := Lib.hid ((hbn.block _ (blk_lt HSB.out)).trans HSB.out)
      clear hbn
      clear hHeld
      refine hK.out _ _ ?_ (fun hHeld => ?_)
      · exact hS'
      clear hK K
      refine norm_ (a' := ?_) ?_ ?_
      rotate_left
      · show Act.put _ (some 19) _ = _
        simp only [Act.put, List.setIfInBounds_toArray, List.set_cons_zero, List.set_cons_succ]
        rfl
      refine one_ (i := 2) (N := some 21) #[true, true, true, false, false, false, false, false] rfl rfl (by kernel_rfl) (by decide) (fun K hK => ?_)
      refine goes_ (N := some 21) Try.func45 (by kernel_rfl) rfl #[plainV, .agg #[.slice a1 busy.length c1, .slice a2 fails.length c2, .slice a3 turns.length c3, .int .i64 cut, .slice a4 torn.length c4, .slice a5 marked.length c5]] (by rfl) rfl rfl (by simp only [List.map_toArray, List.map_cons, List.map_nil]; rfl) ?_
      refine (HN.out _ HBN.out).mono ?_
      rintro e wm ⟨rfl, hbm⟩
      refine ⟨_, rfl, ?_⟩
      have hS' : wm.cell? ⟨sb, 0, none⟩ = some (.slice a1 busy.length c1) ∧ wm.cell? ⟨sb, 1, none⟩ = some (.slice a2 fails.length c2) ∧ wm.cell? ⟨sb, 2, none⟩ = some (.slice a3 turns.length c3) ∧ wm.cell? ⟨sb, 3, none⟩ = some (.int .i64 cut) ∧ wm.cell? ⟨sb, 4, none⟩ = some (.slice a4 torn.length c4) ∧ wm.cell? ⟨sb, 5, none⟩ = some (.slice a5 marked.length c5) := by obtain ⟨z0, z1, z2, z3, z4, z5⟩ := hHeld; exact ⟨pw_cell_below hbm z0, pw_cell_below hbm z1, pw_cell_below hbm z2, pw_cell_below hbm z3, pw_cell_below hbm z4, pw_cell_below hbm z5⟩
      have HBM := Lib.hid (chainC (Nat.le_refl _) HBN.out hbm)
      clear hbm
      clear hHeld
      refine hK.out _ _ ?_ (fun hHeld => ?_)
      · exact hS'
      clear hK K
      refine norm_ (a' := ?_) ?_ ?_
      rotate_left
      · show Act.put _ (some 21) _ = _
        simp only [Act.put, List.setIfInBounds_toArray, List.set_cons_zero, List.set_cons_succ]
        rfl
      refine pure_ (i := 3) (N := some 18) (v := ?_) (a' := ?_) #[true, true, true, true, false, false, false, false] rfl rfl (by kernel_rfl) (fun _ _ _ h => h) (Or.inl ⟨by rfl, ?_⟩) ?_ ?_
      rotate_left
      · intro w'
        go_simp
        with_reducible rfl
      rotate_left
      · simp only [Act.put, List.setIfInBounds_toArray, List.set_cons_zero, List.set_cons_succ]
        rfl
      refine pure_ (i := 4) (N := some 22) (v := ?_) (a' := ?_) #[true, true, true, true, true, false, false, false] rfl rfl (by kernel_rfl) (fun _ _ _ h => h) (Or.inl ⟨by rfl, ?_⟩) ?_ ?_
      rotate_left
      · intro w'
        go_simp
        with_reducible rfl
      rotate_left
      · simp only [Act.put, List.setIfInBounds_toArray, List.set_cons_zero, List.set_cons_succ]
        rfl
      refine pure_ (i := 5) (N := some 23) (v := ?_) (a' := ?_) #[true, true, true, true, true, true, false, false] rfl rfl (by kernel_rfl) (fun _ _ _ h => h) (Or.inl ⟨by rfl, ?_⟩) ?_ ?_
      rotate_left
      · intro w'
        go_simp
        with_reducible rfl
      rotate_left
      · simp only [Act.put, List.setIfInBounds_toArray, List.set_cons_zero, List.set_cons_succ]
        rfl
      refine pure_ (i := 6) (N := some 3) (v := ?_) (a' := ?_) #[true, true, true, true, true, true, true, false] rfl rfl (by kernel_rfl) (fun _ _ _ h => h) (Or.inl ⟨by rfl, ?_⟩) ?_ ?_
      rotate_left
      · intro w'
        go_simp
        with_reducible rfl
      rotate_left
      · simp only [Act.put, List.setIfInBounds_toArray, List.set_cons_zero, List.set_cons_succ]
        rfl
      refine pure_ (i := 7) (N := some 4) (v := ?_) (a' := ?_) #[true, true, true, true, true, true, true, true] rfl rfl (by kernel_rfl) (fun _ _ _ h => h) (Or.inl ⟨by rfl, ?_⟩) ?_ ?_
      rotate_left
      · intro w'
        go_simp
        with_reducible rfl
      rotate_left
      · simp only [Act.put, List.setIfInBounds_toArray, List.set_cons_zero, List.set_cons_succ]
        rfl
      refine done_ (by kernel_rfl) ?_
      refine NoPanic.normal ?_
      go_wp2_with fail
      go_ret
      exact ⟨rfl, HBM.out⟩
    | true =>
      have hn := fun W (hb : Below w.heap.size w W) => new_yes s h W (hr.below hb) hf hR
      have hok : ∀ t ∈ s.turns, okT t = true := fun t ht => by
        cases ho : okT t with
        | true => rfl
        | false =>
          have : (s.turns.any fun x => !okT x) = true := List.any_eq_true.2 ⟨t, ht, by rw [ho]; rfl⟩
          unfold rightB at hR
          rw [this] at hR
          simp at hR
      obtain ⟨e1, e2, e3, e4, e5, ec, r1, r2, r3, r4, r5, k1, k2, k4⟩ := hr
      obtain ⟨a1, n1, c1, a2, n2, c2, a3, n3, c3, cut, a4, n4, c4, a5, n5, c5⟩ := h
      obtain ⟨busy, fails, turns, cut', torn, marked⟩ := s
      simp only at e1 e2 e3 e4 e5 ec hok
      subst e1 e2 e3 e4 e5 ec
      have HN := Lib.hid hn
      have HC3 := Lib.hid r3
      have HOK := Lib.hid hok
      have HL3 : Hid (turns.length ≤ 100) := Lib.hid hf.2.2.1
      clear hn hal r1 r2 r3 r4 r5 k1 k2 k4 hf hR hok
      show Calls Try.prog 8 #[.agg #[.slice a1 busy.length c1, .slice a2 fails.length c2, .slice a3 turns.length c3, .int .i64 cut, .slice a4 torn.length c4, .slice a5 marked.length c5]] w _
      have HSB := Lib.hid (blk_new w (.cells #[.slice a1 busy.length c1, .slice a2 fails.length c2, .slice a3 turns.length c3, .int .i64 cut, .slice a4 torn.length c4, .slice a5 marked.length c5] 73))
      go_enter Try.func8, Try.ntmps8
      go_wp2_with fail
      refine (tawake_ok _).mono ?_
      rintro e w1 ⟨rfl, hb1⟩
      replace HSB := Lib.hid ((hb1.block _ (blk_lt HSB.out)).trans HSB.out)
      have HB := Lib.hid (chainC (Nat.le_refl _) HAL.out hb1)
      have x0 := blk_cell HSB.out 0
      have x1 := blk_cell HSB.out 1
      have x2 := blk_cell HSB.out 2
      have x3 := blk_cell HSB.out 3
      have x4 := blk_cell HSB.out 4
      have x5 := blk_cell HSB.out 5
      clear hb1
      go_wp2_with fail
      refine (HFW.out _).mono ?_
      rintro e w2 ⟨rfl, hb2⟩
      replace HSB := Lib.hid ((hb2.block _ (blk_lt HSB.out)).trans HSB.out)
      replace HB := Lib.hid (chainC (Nat.le_refl _) HB.out hb2)
      clear hb2 x0 x1 x2 x3 x4 x5
      go_upto_region 5 with fail
      obtain ⟨sb, hsb⟩ : ∃ sb, sb = w.heap.size := ⟨_, rfl⟩
      rw [← hsb] at HSB ⊢
      clear hsb
      go_cut [3, 4] (fun v3 v4 wc => ∃ (N0 p mb : Nat), v3 = .pointer (some ⟨p, 0, none⟩) ∧ v4 = .int .i64 0 ∧ Hid (TelIs wc N0 p mb 0 0 ⟨busy, fails, turns, cut, torn, marked⟩) ∧ Hid (Below w.heap.size w wc) ∧ Hid (wc.heap[sb]? = some (.cells #[.slice a1 busy.length c1, .slice a2 fails.length c2, .slice a3 turns.length c3, .int .i64 cut, .slice a4 torn.length c4, .slice a5 marked.length c5] 73 (0, 0))))
      case first =>
        have HS0 : Hid (w2.drew.cell? ⟨sb, 0, none⟩ = some (.slice a1 busy.length c1) ∧ w2.drew.cell? ⟨sb, 1, none⟩ = some (.slice a2 fails.length c2) ∧ w2.drew.cell? ⟨sb, 2, none⟩ = some (.slice a3 turns.length c3) ∧ w2.drew.cell? ⟨sb, 3, none⟩ = some (.int .i64 cut) ∧ w2.drew.cell? ⟨sb, 4, none⟩ = some (.slice a4 torn.length c4) ∧ w2.drew.cell? ⟨sb, 5, none⟩ = some (.slice a5 marked.length c5)) := Lib.hid ⟨blk_cell HSB.out 0, blk_cell HSB.out 1, blk_cell HSB.out 2, blk_cell HSB.out 3, blk_cell HSB.out 4, blk_cell HSB.out 5⟩
        replace HB := Lib.hid (pw_below_drewN HB.out 1)
        refine wp_region_noPanic ?_
        refine start_ (n := 8) (S := fun w' => w'.cell? ⟨sb, 0, none⟩ = some (.slice a1 busy.length c1) ∧ w'.cell? ⟨sb, 1, none⟩ = some (.slice a2 fails.length c2) ∧ w'.cell? ⟨sb, 2, none⟩ = some (.slice a3 turns.length c3) ∧ w'.cell? ⟨sb, 3, none⟩ = some (.int .i64 cut) ∧ w'.cell? ⟨sb, 4, none⟩ = some (.slice a4 torn.length c4) ∧ w'.cell? ⟨sb, 5, none⟩ = some (.slice a5 marked.length c5)) (ds := []) #[false, false, false, false, false, false, false, false] (by kernel_rfl) rfl rfl HS0.out (fun hHeld => ?_)
        refine take_ (i := 1) (N := some 20) (v := ?_) (a' := ?_) #[false, true, false, false, false, false, false, false] rfl rfl (by kernel_rfl) (fun _ _ _ h => h) (Or.inl ⟨by rfl, ?_⟩) hHeld ?_ ?_
        rotate_left
        · rintro w' ⟨s0, s1, s2, s3, s4, s5⟩
          go_simp
          with_reducible rfl
        rotate_left
        · simp only [Act.put, List.setIfInBounds_toArray, List.set_cons_zero, List.set_cons_succ]
          rfl
        refine one_ (i := 0) (N := some 19) #[true, true, false, false, false, false, false, false] rfl rfl (by kernel_rfl) (by decide) (fun K hK => ?_)
        refine goes_ (N := some 19) Try.func46 (by kernel_rfl) rfl #[] (by rfl) rfl rfl (by simp only [List.map_toArray, List.map_nil]) ?_
        refine (plain_ok _).mono ?_
        rintro e wn ⟨rfl, hbn⟩
        refine ⟨_, rfl, ?_⟩
        have hS' : wn.cell? ⟨sb, 0, none⟩ = some (.slice a1 busy.length c1) ∧ wn.cell? ⟨sb, 1, none⟩ = some (.slice a2 fails.length c2) ∧ wn.cell? ⟨sb, 2, none⟩ = some (.slice a3 turns.length c3) ∧ wn.cell? ⟨sb, 3, none⟩ = some (.int .i64 cut) ∧ wn.cell? ⟨sb, 4, none⟩ = some (.slice a4 torn.length c4) ∧ wn.cell? ⟨sb, 5, none⟩ = some (.slice a5 marked.length c5) := by obtain ⟨z0, z1, z2, z3, z4, z5⟩ := hHeld; exact ⟨pw_cell_below hbn z0, pw_cell_below hbn z1, pw_cell_below hbn z2, pw_cell_below hbn z3, pw_cell_below hbn z4, pw_cell_below hbn z5⟩
        have HBN := Lib.hid (chainC (Nat.le_refl _) HB.out hbn)
        have HSN := Lib.hid ((hbn.block _ (blk_lt HSB.out)).trans HSB.out)
        clear hbn
        clear hHeld
        refine hK.out _ _ ?_ (fun hHeld => ?_)
        · exact hS'
        clear hK K
        refine norm_ (a' := ?_) ?_ ?_
        rotate_left
        · show Act.put _ (some 19) _ = _
          simp only [Act.put, List.setIfInBounds_toArray, List.set_cons_zero, List.set_cons_succ]
          rfl
        refine one_ (i := 2) (N := some 21) #[true, true, true, false, false, false, false, false] rfl rfl (by kernel_rfl) (by decide) (fun K hK => ?_)
        refine goes_ (N := some 21) Try.func45 (by kernel_rfl) rfl #[plainV, .agg #[.slice a1 busy.length c1, .slice a2 fails.length c2, .slice a3 turns.length c3, .int .i64 cut, .slice a4 torn.length c4, .slice a5 marked.length c5]] (by rfl) rfl rfl (by simp only [List.map_toArray, List.map_cons, List.map_nil]; rfl) ?_
        refine (HN.out _ HBN.out).mono ?_
        rintro e wm ⟨⟨p, mb, rfl, ht⟩, hbm⟩
        refine ⟨_, rfl, ?_⟩
        have hS' : wm.cell? ⟨sb, 0, none⟩ = some (.slice a1 busy.length c1) ∧ wm.cell? ⟨sb, 1, none⟩ = some (.slice a2 fails.length c2) ∧ wm.cell? ⟨sb, 2, none⟩ = some (.slice a3 turns.length c3) ∧ wm.cell? ⟨sb, 3, none⟩ = some (.int .i64 cut) ∧ wm.cell? ⟨sb, 4, none⟩ = some (.slice a4 torn.length c4) ∧ wm.cell? ⟨sb, 5, none⟩ = some (.slice a5 marked.length c5) := by obtain ⟨z0, z1, z2, z3, z4, z5⟩ := hHeld; exact ⟨pw_cell_below hbm z0, pw_cell_below hbm z1, pw_cell_below hbm z2, pw_cell_below hbm z3, pw_cell_below hbm z4, pw_cell_below hbm z5⟩
        have HT := Lib.hid ht
        have HBM := Lib.hid (chainC (Nat.le_refl _) HBN.out hbm)
        have HSM := Lib.hid ((hbm.block _ (blk_lt HSN.out)).trans HSN.out)
        clear ht hbm
        clear hHeld
        refine hK.out _ _ ?_ (fun hHeld => ?_)
        · exact hS'
        clear hK K
        refine norm_ (a' := ?_) ?_ ?_
        rotate_left
        · show Act.put _ (some 21) _ = _
          simp only [Act.put, List.setIfInBounds_toArray, List.set_cons_zero, List.set_cons_succ]
          rfl
        refine pure_ (i := 3) (N := some 18) (v := ?_) (a' := ?_) #[true, true, true, true, false, false, false, false] rfl rfl (by kernel_rfl) (fun _ _ _ h => h) (Or.inl ⟨by rfl, ?_⟩) ?_ ?_
        rotate_left
        · intro w'
          go_simp
          with_reducible rfl
        rotate_left
        · simp only [Act.put, List.setIfInBounds_toArray, List.set_cons_zero, List.set_cons_succ]
          rfl
        refine pure_ (i := 4) (N := some 22) (v := ?_) (a' := ?_) #[true, true, true, true, true, false, false, false] rfl rfl (by kernel_rfl) (fun _ _ _ h => h) (Or.inl ⟨by rfl, ?_⟩) ?_ ?_
        rotate_left
        · intro w'
          go_simp
          with_reducible rfl
        rotate_left
        · simp only [Act.put, List.setIfInBounds_toArray, List.set_cons_zero, List.set_cons_succ]
          rfl
        refine pure_ (i := 5) (N := some 23) (v := ?_) (a' := ?_) #[true, true, true, true, true, true, false, false] rfl rfl (by kernel_rfl) (fun _ _ _ h => h) (Or.inl ⟨by rfl, ?_⟩) ?_ ?_
        rotate_left
        · intro w'
          go_simp
          with_reducible rfl
        rotate_left
        · simp only [Act.put, List.setIfInBounds_toArray, List.set_cons_zero, List.set_cons_succ]
          rfl
        refine pure_ (i := 6) (N := some 3) (v := ?_) (a' := ?_) #[true, true, true, true, true, true, true, false] rfl rfl (by kernel_rfl) (fun _ _ _ h => h) (Or.inl ⟨by rfl, ?_⟩) ?_ ?_
        rotate_left
        · intro w'
          go_simp
          with_reducible rfl
        rotate_left
        · simp only [Act.put, List.setIfInBounds_toArray, List.set_cons_zero, List.set_cons_succ]
          rfl
        refine pure_ (i := 7) (N := some 4) (v := ?_) (a' := ?_) #[true, true, true, true, true, true, true, true] rfl rfl (by kernel_rfl) (fun _ _ _ h => h) (Or.inl ⟨by rfl, ?_⟩) ?_ ?_
        rotate_left
        · intro w'
          go_simp
          with_reducible rfl
        rotate_left
        · simp only [Act.put, List.setIfInBounds_toArray, List.set_cons_zero, List.set_cons_succ]
          rfl
        refine done_ (by kernel_rfl) ?_
        refine NoPanic.normal ?_
        go_wp2_with fail
        go_meet
        case rel => exact ⟨_, _, _, rfl, rfl, HT, HBM, HSM⟩
      case rest =>
        obtain ⟨N0, p, mb, rfl, rfl, HT, HB2, HS⟩ := hcut
        clear HB HSB HN HFW HAL
        obtain ⟨m, hm⟩ : ∃ m, m = turns.length := ⟨_, rfl⟩
        have HM := Lib.hid hm
        have hmm : m ≤ 100 := by have := HL3.out; omega
        have hm100 : (m : Int) ≤ 100 := by omega
        clear hm
        go_wp2_with fail
        go_loopw [5, 28] (fun n i wr => ∃ r : Nat, r ≤ 16 ∧ i = .int .i64 r ∧ n = .int .i64 (sumB turns (2 * r) : Nat) ∧ Hid (TelIs wr N0 p mb 0 0 ⟨busy, fails, turns, cut, torn, marked⟩) ∧ Hid (Below w.heap.size w wr) ∧ Hid (wr.heap[sb]? = some (.cells #[.slice a1 busy.length c1, .slice a2 fails.length c2, .slice a3 turns.length c3, .int .i64 cut, .slice a4 torn.length c4, .slice a5 marked.length c5] 73 (0, 0)))) (fun _ i _ => 16 - (intOf i).toNat)
        case atStart => exact ⟨0, by omega, rfl, rfl, HT, HB2, HS⟩
        case round =>
          clear HT HB2 HS
          obtain ⟨r, hr, rfl, rfl, HT, HB2, HS⟩ := hrel
          by_cases hr16 : r < 16
          · have hr0 : (r : Int) < 16 := by omega
            go_wp2_with fail
            obtain ⟨wo, hwo⟩ : ∃ wo : World, wo = wr := ⟨_, rfl⟩
            subst hwo
            go_loopw [5, 31] (fun n i wr => ∃ g : Nat, g ≤ 2 ∧ i = .int .i64 g ∧ n = .int .i64 (sumB turns (2 * r + g) : Nat) ∧ Hid (TelIs wr N0 p mb 0 0 ⟨busy, fails, turns, cut, torn, marked⟩) ∧ Hid (Below w.heap.size w wr) ∧ Hid (wr.heap[sb]? = some (.cells #[.slice a1 busy.length c1, .slice a2 fails.length c2, .slice a3 turns.length c3, .int .i64 cut, .slice a4 torn.length c4, .slice a5 marked.length c5] 73 (0, 0)))) (fun _ i _ => 2 - (intOf i).toNat)
            case atStart => exact ⟨0, by omega, rfl, rfl, HT, HB2, HS⟩
            case round =>
              clear HT HB2 HS
              obtain ⟨g, hg, rfl, rfl, HT, HB2, HS⟩ := hrel
              by_cases hg2 : g < 2
              · have hg0 : (g : Int) < 2 := by omega
                have HTN := Lib.hid (turns_ok HT.out (r : Int) (g : Int) ⟨okI_of (by omega) (by omega), okI_of (by omega) (by omega)⟩ (by show turns.length ≤ 100000; have := HL3.out; omega))
                go_wp2_with fail
                refine (HTN.out).mono ?_
                rintro e w5 ⟨⟨v, rfl, hv⟩, hb5⟩
                replace HT := Lib.hid (HT.out.below hb5)
                replace HB2 := Lib.hid (chainC (Nat.le_refl _) HB2.out hb5)
                replace HS := Lib.hid ((hb5.block _ (blk_lt HS.out)).trans HS.out)
                obtain ⟨A, c, rfl, hcap, hC⟩ := Kd.R_reads hv
                obtain ⟨q, hq⟩ : ∃ q, q = (bitsOf turns ((r : Int), (g : Int))).length := ⟨_, rfl⟩
                rw [show (bitsOf (Sc.turns ⟨busy, fails, turns, cut, torn, marked⟩) ((r : Int), (g : Int))).length = q from hq.symm]
                have HQ := Lib.hid hq
                have HCB := Lib.hid hC
                have hql : q ≤ 100 := by rw [hq]; have := bitsOf_len turns ((r : Int), (g : Int)); have := HL3.out; omega
                have hsum : sumB turns (2 * r + (g + 1)) = sumB turns (2 * r + g) + q := by
                  have h2 : g = 0 ∨ g = 1 := by omega
                  rcases h2 with rfl | rfl
                  · rw [hq]; exact (sumB_two turns r).1
                  · rw [hq]; exact (sumB_two turns r).2
                have hsl : sumB turns (2 * r + g) ≤ 3200 := Nat.le_trans (sumB_le turns _) (Nat.le_trans (Nat.mul_le_mul (show 2 * r + g ≤ 32 by omega) HL3.out) (by omega))
                have HSUM := Lib.hid hsum
                have HSL := Lib.hid hsl
                clear hv hb5 hq hC hcap hsum HTN
                generalize sumB turns (2 * r + g) = sg at HSUM HSL hsl ⊢
                clear hsl
                have hq100 : (q : Int) ≤ 100 := by omega
                go_wp2_with fail
                obtain ⟨wp5, hwp⟩ : ∃ wp5 : World, wp5 = w5 := ⟨_, rfl⟩
                have HC5 : Hid (∀ W, Below w5.heap.size w5 W → kN.C W A q (bitsOf turns ((r : Int), (g : Int)))) := Lib.hid (fun W hb => by have := Kd.C_below HCB.out hb; rw [HQ.out]; exact this)
                clear hwp
                go_loopw [5, 39] (fun n i wr => ∃ j : Nat, j ≤ q ∧ i = .int .i64 j ∧ n = .int .i64 (sg + j : Nat) ∧ Hid (TelIs wr N0 p mb 0 0 ⟨busy, fails, turns, cut, torn, marked⟩) ∧ Hid (Below w.heap.size w wr) ∧ Hid (wr.heap[sb]? = some (.cells #[.slice a1 busy.length c1, .slice a2 fails.length c2, .slice a3 turns.length c3, .int .i64 cut, .slice a4 torn.length c4, .slice a5 marked.length c5] 73 (0, 0))) ∧ Hid (Below w5.heap.size w5 wr)) (fun _ i _ => q - (intOf i).toNat)
                case atStart => exact ⟨0, by omega, rfl, rfl, HT, HB2, HS, Lib.hid (Below.refl _ _)⟩
                case round =>
                  clear HT HB2 HS
                  obtain ⟨j, hj, rfl, rfl, HT, HB2, HS, HW5⟩ := hrel
                  by_cases hjq : j < q
                  · have hjx : j < (bitsOf turns ((r : Int), (g : Int))).length := by rw [← HQ.out]; exact hjq
                    have hC := HC5.out _ HW5.out
                    rw [HQ.out] at hC
                    obtain ⟨bb, off, rfl, _, hcell⟩ := row_of_C hC (by omega)
                    have y0 := hcell j hjx
                    rw [List.getD_eq_getElem?_getD, List.getElem?_eq_getElem hjx, Option.getD_some] at y0
                    have hmem := mem_bits (List.getElem_mem hjx)
                    generalize (bitsOf turns ((r : Int), (g : Int)))[j] = x at y0 hmem
                    have HMEM := Lib.hid hmem
                    have hj0 : (j : Int) < (q : Int) := by omega
                    have z2 := blk_cell HS.out 2
                    have hz2 : (.slice a3 turns.length c3 : Value) = .slice a3 m c3 := by rw [HM.out]
                    have z2' : wr.cell? ⟨sb, 2, none⟩ = some (.slice a3 m c3) := z2.trans (congrArg some hz2)
                    clear z2 hz2 hcell hC hmem hjx
                    go_wp2_with fail
                    clear y0 z2'
                    go_loopw [10, 46] (fun f i wr => ∃ (u : Nat) (fb : Bool), u ≤ m ∧ i = .int .i64 u ∧ f = .bool fb ∧ Hid (fb = (turns.take u).any fun t => decide (t = ((r : Int), (g : Int), x))) ∧ Hid (TelIs wr N0 p mb 0 0 ⟨busy, fails, turns, cut, torn, marked⟩) ∧ Hid (Below w.heap.size w wr) ∧ Hid (wr.heap[sb]? = some (.cells #[.slice a1 busy.length c1, .slice a2 fails.length c2, .slice a3 turns.length c3, .int .i64 cut, .slice a4 torn.length c4, .slice a5 marked.length c5] 73 (0, 0))) ∧ Hid (Below w5.heap.size w5 wr)) (fun _ i _ => m - (intOf i).toNat)
                    case atStart => exact ⟨0, false, by omega, rfl, rfl, Lib.hid rfl, HT, HB2, HS, HW5⟩
                    case round =>
                      clear HT HB2 HS HW5
                      obtain ⟨u, fb, hu, rfl, rfl, HFB, HT, HB2, HS, HW5⟩ := hrel
                      by_cases hum : u < m
                      · have hux : u < turns.length := by rw [← HM.out]; exact hum
                        have hC := Kd.C_below HC3.out HB2.out
                        obtain ⟨tb, toff, rfl, _, hcell⟩ := rowT hC (by omega)
                        obtain ⟨t0, t1, t2⟩ := hcell u hux
                        have hts : turns.take (u + 1) = turns.take u ++ [turns[u]] := List.take_succ_eq_append_getElem hux
                        generalize turns[u] = t at t0 t1 t2 hts
                        obtain ⟨ta, tr, td⟩ := t
                        have hu0 : (u : Int) < (m : Int) := by omega
                        have hfb2 : (turns.take (u + 1)).any (fun t => decide (t = ((r : Int), (g : Int), x))) = (fb || decide ((ta, tr, td) = ((r : Int), (g : Int), x))) := by
                          rw [hts, List.any_append, HFB.out]; simp
                        have HF2 := Lib.hid hfb2
                        have hal := alloc_below wr (.cells #[.int .i64 ta, .int .i64 tr, .int .i64 td] 83)
                        have HTa := Lib.hid (HT.out.below hal)
                        have HBa := Lib.hid (chainC (Nat.le_refl _) HB2.out hal)
                        have HSa := Lib.hid ((hal.block _ (blk_lt HS.out)).trans HS.out)
                        have HWa := Lib.hid (chainC (Nat.le_refl _) HW5.out hal)
                        have heq := fun W => eql83 ta tr td (r : Int) (g : Int) x W
                        clear hfb2 hts hcell hC hux hal HT HB2 HS HW5 HFB
                        cases fb with
                        | true =>
                          clear heq
                          go_wp2_with fail
                          go_roundw
                          case rel => exact ⟨u + 1, true, hum, by go_num, rfl, Lib.hid (by rw [HF2.out]; rfl), HTa, HBa, HSa, HWa⟩
                          case measure => exact step_measure hum
                        | false =>
                          obtain ⟨db, hdb⟩ : ∃ db, db = decide ((ta, tr, td) = ((r : Int), (g : Int), x)) := ⟨_, rfl⟩
                          rw [← hdb] at heq HF2
                          clear hdb
                          go_wp2_with fail
                          go_roundw
                          case rel => exact ⟨u + 1, db, hum, by go_num, rfl, Lib.hid (by rw [HF2.out]; rfl), HTa, HBa, HSa, HWa⟩
                          case measure => exact step_measure hum
                      · have hu2 : u = m := by omega
                        subst hu2
                        have hfb := HFB.out
                        rw [HM.out, List.take_length] at hfb
                        have hft : fb = true := by rw [hfb]; exact List.any_eq_true.2 ⟨_, HMEM.out, by simp⟩
                        subst hft
                        clear hfb hum hu
                        go_wp2_with fail
                        go_roundw
                        case rel => exact ⟨j + 1, hjq, by go_num, nn_step _ _ (by have := HSL.out; omega), HT, HB2, HS, HW5⟩
                        case measure => exact step_measure hjq
                  · have hj2 : j = q := by omega
                    subst hj2
                    clear hjq hj
                    go_wp2_with fail
                    go_roundw
                    case rel => exact ⟨g + 1, hg2, by go_num, by rw [HSUM.out], HT, HB2, HS⟩
                    case measure => exact step_measure hg2
              · have hg2' : g = 2 := by omega
                subst hg2'
                clear hg2 hg
                go_wp2_with fail
                go_roundw
                case rel => exact ⟨r + 1, hr16, by go_num, rfl, HT, HB2, HS⟩
                case measure => exact step_measure hr16
          · have hr2 : r = 16 := by omega
            subst hr2
            have hsa := sumB_all turns HOK.out
            rw [hsa]
            have z2 := blk_cell HS.out 2
            have HT1 := Lib.hid (turns_ok HT.out 16 0 ⟨okI_of (by omega) (by omega), okI_of (by omega) (by omega)⟩ (by show turns.length ≤ 100000; have := HL3.out; omega))
            rw [show bitsOf (Sc.turns ⟨busy, fails, turns, cut, torn, marked⟩) (16, 0) = [] from bits_far HOK.out (.inr (by omega))] at HT1
            have htt : ((turns.length : Int) == (turns.length : Int)) = true := by simp
            clear hr16 hr hsa
            generalize turns.length = tl at z2 htt ⊢
            go_wp2_with fail
            refine (HT1.out).mono ?_
            rintro e w6 ⟨⟨v6, rfl, hv6⟩, hb6⟩
            obtain ⟨A6, c6, rfl, _, _⟩ := Kd.R_reads hv6
            have HT2 := Lib.hid (turns_ok (HT.out.below hb6) (-1) 0 ⟨okIm1, okI_of (by omega) (by omega)⟩ (by show turns.length ≤ 100000; have := HL3.out; omega))
            rw [show bitsOf (Sc.turns ⟨busy, fails, turns, cut, torn, marked⟩) (-1, 0) = [] from bits_far HOK.out (.inl (by omega))] at HT2
            have HB6 := Lib.hid (chainC (Nat.le_refl _) HB2.out hb6)
            clear hv6 hb6
            go_wp2_with fail
            refine (HT2.out).mono ?_
            rintro e w7 ⟨⟨v7, rfl, hv7⟩, hb7⟩
            obtain ⟨A7, c7, rfl, _, _⟩ := Kd.R_reads hv7
            have HB7 := Lib.hid (chainC (Nat.le_refl _) HB6.out hb7)
            clear hv7 hb7
            go_wp2_with fail
            go_ret
            exact ⟨rfl, HB7.out⟩
  · have HFW := Lib.hid (fun W => few_no h W hf)
    obtain ⟨a1, n1, c1, a2, n2, c2, a3, n3, c3, cut, a4, n4, c4, a5, n5, c5⟩ := h
    have HSB := Lib.hid (blk_new w (.cells (scC ⟨a1, n1, c1, a2, n2, c2, a3, n3, c3, cut, a4, n4, c4, a5, n5, c5⟩) 73))
    clear hr hf hal
    show Calls Try.prog 8 #[.agg #[.slice a1 n1 c1, .slice a2 n2 c2, .slice a3 n3 c3, .int .i64 cut, .slice a4 n4 c4, .slice a5 n5 c5]] w _
    go_enter Try.func8, Try.ntmps8
    go_wp2_with fail
    refine (tawake_ok _).mono ?_
    rintro e w1 ⟨rfl, hb1⟩
    replace HSB := Lib.hid ((hb1.block _ (blk_lt HSB.out)).trans HSB.out)
    have HB := Lib.hid (chainC (Nat.le_refl _) HAL.out hb1)
    have x0 := blk_cell HSB.out 0
    have x1 := blk_cell HSB.out 1
    have x2 := blk_cell HSB.out 2
    have x3 := blk_cell HSB.out 3
    have x4 := blk_cell HSB.out 4
    have x5 := blk_cell HSB.out 5
    clear hb1
    go_wp2_with fail
    refine (HFW.out _).mono ?_
    rintro e w2 ⟨rfl, hb2⟩
    have HB2 := Lib.hid (chainC (Nat.le_refl _) HB.out hb2)
    clear hb2
    go_wp2_with fail
    go_ret
    exact ⟨rfl, HB2.out⟩
end Go.Proofs.Ytnkgbnipcjgjeaa
