import Derived.Test.YtnkgbnipcjgjeaaTT
namespace Go.Proofs.Ytnkgbnipcjgjeaa
open Go.RowKit Go.Shelf Go.Sort Go.Lib Go.Proofs.YtnkgbnipcjgjeaaW.PrintWords Go.Proofs.YtnkgbnipcjgjeaaW.PrintLast Go.Proofs.YtnkgbnipcjgjeaaW.PrintMore
set_option linter.unusedVariables false
theorem tints_ev (xs : List Int) (hl : xs.length ≤ 100000) : ∀ (d i : Nat), i + d = xs.length → EvL (fun k => QI.incunableref01_Ints.l0 k xs xs (i : Int)) true := by
  intro d
  induction d with
  | zero =>
    intro i hd
    refine EvL.step (h := fun _ => some true) (fun k => ?_) EvL.const
    simp only [QI.incunableref01_Ints.l0]
    rw [if_neg (by omega)]
  | succ d ih =>
    intro i hd
    refine EvL.step (h := fun k => QI.incunableref01_Ints.l0 k xs xs ((i + 1 : Nat) : Int)) (fun k => ?_) (ih (i + 1) (by omega))
    simp only [QI.incunableref01_Ints.l0]
    rw [if_pos (by omega), if_pos (by omega), if_pos (by omega), if_pos trivial, w_succ i (by omega)]
theorem tints_same (xs : List Int) (hl : xs.length ≤ 100000) : ∃ k, QI.incunableref01_Ints.f k xs xs = some true := by
  obtain ⟨k0, h0⟩ := tints_ev xs hl xs.length 0 (by omega)
  refine ⟨k0, ?_⟩
  unfold QI.incunableref01_Ints.f
  rw [if_pos rfl]
  exact h0 k0 (Nat.le_refl _)
theorem tints_call {A0 A1 : Option Addr} {c0 c1 : Nat} {xs : List Int} (w : World) (h0 : Kd.C (Kd.int .i64) w A0 xs.length xs) (hc0 : xs.length ≤ c0) (h1 : Kd.C (Kd.int .i64) w A1 xs.length xs) (hc1 : xs.length ≤ c1) (hl : xs.length ≤ 100000) :
    Calls Try.prog 18 #[.slice A0 xs.length c0, .slice A1 xs.length c1] w fun e w' => e = .returned (.bool true) ∧ ∃ q, w' = w.drewN q := by
  obtain ⟨k, hk⟩ := tints_same xs hl
  refine (QI.incunableref01_Ints.calls k A0 c0 xs A1 c1 xs true w h0 hc0 h1 hc1 hk).mono ?_
  rintro e w' ⟨rfl, ⟨q, rfl⟩⟩
  exact ⟨rfl, q, rfl⟩
theorem tsame_ev (xs ys : List Int) (hxy : xs.length = ys.length) (hl : xs.length ≤ 100000) : ∀ (d i : Nat), i + d = xs.length → EvL (fun k => QI.incunableref01_Same.l0 k xs ys (i : Int)) (decide (xs.drop i = ys.drop i)) := by
  intro d
  induction d with
  | zero =>
    intro i hd
    refine EvL.step (h := fun _ => some (decide (xs.drop i = ys.drop i))) (fun k => ?_) EvL.const
    simp only [QI.incunableref01_Same.l0]
    rw [if_neg (by omega), List.drop_of_length_le (by omega), List.drop_of_length_le (by omega)]
    rfl
  | succ d ih =>
    intro i hd
    have hx : i < xs.length := by omega
    have hy : i < ys.length := by omega
    have e1 : YtnkgbnipcjgjeaaW.PrintWords.rd xs (i : Int) = xs[i] := by unfold YtnkgbnipcjgjeaaW.PrintWords.rd; rw [Int.toNat_natCast, List.getD_eq_getElem?_getD, List.getElem?_eq_getElem hx]; rfl
    have e2 : YtnkgbnipcjgjeaaW.PrintWords.rd ys (i : Int) = ys[i] := by unfold YtnkgbnipcjgjeaaW.PrintWords.rd; rw [Int.toNat_natCast, List.getD_eq_getElem?_getD, List.getElem?_eq_getElem hy]; rfl
    rw [List.drop_eq_getElem_cons hx, List.drop_eq_getElem_cons hy]
    by_cases h : xs[i] = ys[i]
    · refine EvL.step (h := fun k => QI.incunableref01_Same.l0 k xs ys ((i + 1 : Nat) : Int)) (fun k => ?_) ?_
      · simp only [QI.incunableref01_Same.l0]
        rw [if_pos (by omega), if_pos (by omega), if_pos (by omega), e1, e2, if_pos h, w_succ i (by omega)]
      · rw [show decide (xs[i] :: xs.drop (i + 1) = ys[i] :: ys.drop (i + 1)) = decide (xs.drop (i + 1) = ys.drop (i + 1)) from decide_eq_decide.2 ⟨fun e => (List.cons.inj e).2, fun e => by rw [h, e]⟩]
        exact ih (i + 1) (by omega)
    · refine EvL.step (h := fun _ => some false) (fun k => ?_) ?_
      · simp only [QI.incunableref01_Same.l0]
        rw [if_pos (by omega), if_pos (by omega), if_pos (by omega), e1, e2, if_neg h]
      · rw [decide_eq_false (fun e => h (List.cons.inj e).1)]
        exact EvL.const
theorem tsame_f (xs ys : List Int) (hl : xs.length ≤ 100000) : ∃ k, QI.incunableref01_Same.f k xs ys = some (decide (xs = ys)) := by
  unfold QI.incunableref01_Same.f
  by_cases h : (xs.length : Int) = (ys.length : Int)
  · obtain ⟨k0, h0⟩ := tsame_ev xs ys (by omega) hl xs.length 0 (by omega)
    refine ⟨k0, ?_⟩
    rw [if_pos h]
    exact h0 k0 (Nat.le_refl _)
  · refine ⟨0, ?_⟩
    rw [if_neg h, decide_eq_false (fun e => h (by rw [e]))]
theorem tsame_call (A0 : Option Addr) (c0 : Nat) (xs : List Int) (A1 : Option Addr) (c1 : Nat) (ys : List Int) (w : World) (h0 : kB.C w A0 xs.length xs) (hc0 : xs.length ≤ c0) (h1 : kB.C w A1 ys.length ys) (hc1 : ys.length ≤ c1) (hl : xs.length ≤ 100000) :
    Calls Try.prog 52 #[.slice A0 xs.length c0, .slice A1 ys.length c1] w fun e w' => e = .returned (.bool (decide (xs = ys))) ∧ ∃ q, w' = w.drewN q := by
  obtain ⟨k, hk⟩ := tsame_f xs ys hl
  refine (QI.incunableref01_Same.calls k A0 c0 xs A1 c1 ys _ w h0 hc0 h1 hc1 hk).mono ?_
  rintro e w' ⟨rfl, ⟨q, rfl⟩⟩
  exact ⟨rfl, q, rfl⟩
/-- How many of the first n numbers are there. -/
def cntF (l : List Int) : Nat → Nat
  | 0 => 0
  | n + 1 => cntF l n + if (n : Int) ∈ l then 1 else 0
theorem cntF_nil : ∀ n, cntF [] n = 0
  | 0 => rfl
  | n + 1 => by unfold cntF; rw [cntF_nil n, if_neg (by simp)]
theorem cntF_le (l : List Int) : ∀ n, cntF l n ≤ n
  | 0 => Nat.le_refl _
  | n + 1 => by unfold cntF; have := cntF_le l n; split <;> omega
theorem cntF_cons {x : Int} {r : List Int} (hx : x ∉ r) (h0 : 0 ≤ x) : ∀ n, cntF (x :: r) n = cntF r n + if x < (n : Int) then 1 else 0
  | 0 => by rw [if_neg (by omega)]; rfl
  | n + 1 => by
    have ih := cntF_cons hx h0 n
    have e1 : cntF (x :: r) (n + 1) = cntF (x :: r) n + if (n : Int) ∈ x :: r then 1 else 0 := rfl
    have e2 : cntF r (n + 1) = cntF r n + if (n : Int) ∈ r then 1 else 0 := rfl
    have hmem : (if (n : Int) ∈ x :: r then 1 else 0 : Nat) = (if (n : Int) = x then 1 else 0) + (if (n : Int) ∈ r then 1 else 0) := by
      by_cases h : (n : Int) = x
      · subst h; simp [hx]
      · simp [h]
    rw [e1, e2, ih, hmem]
    by_cases h : (n : Int) = x
    · rw [if_pos h, if_neg (show ¬ x < (n : Int) by omega), if_pos (show x < ((n + 1 : Nat) : Int) by omega)]; omega
    · rw [if_neg h]
      by_cases h2 : x < (n : Int)
      · rw [if_pos h2, if_pos (show x < ((n + 1 : Nat) : Int) by omega)]; omega
      · rw [if_neg h2, if_neg (show ¬ x < ((n + 1 : Nat) : Int) by omega)]; omega
theorem rise_mem {hi : Int} : ∀ (r : List Int) (x : Int), riseB hi x r = true → ∀ y ∈ r, x < y
  | [], x, _, y, hy => by simp at hy
  | z :: r, x, h, y, hy => by
    have h1 : riseB hi x (z :: r) = (decide (x < z) && decide (z ≤ hi) && riseB hi z r) := rfl
    rw [h1, Bool.and_eq_true, Bool.and_eq_true, decide_eq_true_eq, decide_eq_true_eq] at h
    rcases List.mem_cons.1 hy with rfl | hy
    · exact h.1.1
    · have := rise_mem r z h.2 y hy
      omega
/-- As many fail as there are below n. -/
theorem cntF_rise {hi : Int} : ∀ (l : List Int) (last : Int), -1 ≤ last → riseB hi last l = true → ∀ n, cntF l n = (l.filter fun x => decide (x < (n : Int))).length
  | [], _, _, _, n => by rw [cntF_nil]; rfl
  | x :: r, last, h0, h, n => by
    have h1 : riseB hi last (x :: r) = (decide (last < x) && decide (x ≤ hi) && riseB hi x r) := rfl
    rw [h1, Bool.and_eq_true, Bool.and_eq_true, decide_eq_true_eq, decide_eq_true_eq] at h
    have hx : x ∉ r := fun e => by have := rise_mem r x h.2 x e; omega
    rw [cntF_cons hx (by omega), cntF_rise r x (by omega) h.2 n, List.filter_cons]
    by_cases h2 : x < (n : Int)
    · rw [if_pos h2, if_pos (by simpa using h2), List.length_cons]
    · rw [if_neg h2, if_neg (by simpa using h2)]; rfl
theorem TelIs.nsb {w : World} {N0 p mb sb : Nat} {asked work : Int} {s : Sc} {cs : Array Value} (h : TelIs w N0 p mb asked work s) (hs : w.heap[sb]? = some (.cells cs 73 (0, 0))) : sb ≠ p := fun e => by
  obtain ⟨_, _, _, _, _, _, g1, _⟩ := h.blk
  rw [← e, hs] at g1
  injection g1 with g1
  injection g1 with _ g1 _
  cases g1
theorem inc_step (k : Nat) (h : k ≤ 100000) : Value.int .i64 (wrap64 ((k : Int) + 1)) = .int .i64 ((k + 1 : Nat) : Int) := by
  rw [IntWalk.wrap64_in _ (by omega)]; exact congrArg (Value.int .i64) (by omega)
set_option maxHeartbeats 16000000 in
set_option maxRecDepth 100000 in
theorem choiceSame_main (s : Sc) (h : Sh) (n : Nat) (hn : n ≤ 255) (w : World) (hr : ScR w s h) : Calls Try.prog 9 #[.agg (scC h), .int .u8 (n : Int)] w fun e w' => e = .returned (.bool true) ∧ Below w.heap.size w w' := by
  have hal := alloc_below w (.cells (scC h) 73)
  have HAL := Lib.hid hal
  have hcv : IntKind.i64.wrap (n : Int) = (n : Int) := IntWalk.i64_in _ (by omega)
  by_cases hf : FewH h
  · have HFW := Lib.hid (fun W => few_yes h W hf)
    cases hR : rightB s with
    | false =>
      have hn := fun W (hb : Below w.heap.size w W) => new_no s h W (hr.below hb) hf hR
      obtain ⟨e1, e2, e3, e4, e5, ec, r1, r2, r3, r4, r5, k1, k2, k4⟩ := hr
      obtain ⟨a1, n1, c1, a2, n2, c2, a3, n3, c3, cut, a4, n4, c4, a5, n5, c5⟩ := h
      obtain ⟨busy, fails, turns, cut', torn, marked⟩ := s
      simp only at e1 e2 e3 e4 e5 ec
      subst e1 e2 e3 e4 e5 ec
      have HN := Lib.hid hn
      clear hn hal r1 r2 r3 r4 r5 k1 k2 k4 hf hR
      show Calls Try.prog 9 #[.agg #[.slice a1 busy.length c1, .slice a2 fails.length c2, .slice a3 turns.length c3, .int .i64 cut, .slice a4 torn.length c4, .slice a5 marked.length c5], .int .u8 (n : Int)] w _
      have HSB := Lib.hid (blk_new w (.cells #[.slice a1 busy.length c1, .slice a2 fails.length c2, .slice a3 turns.length c3, .int .i64 cut, .slice a4 torn.length c4, .slice a5 marked.length c5] 73))
      go_enter Try.func9, Try.ntmps9
      go_wp2_with fail
      refine (tawake_ok _).mono ?_
      rintro e w1 ⟨rfl, hb1⟩
      replace HSB := Lib.hid ((hb1.block _ (blk_lt HSB.out)).trans HSB.out)
      have HB := Lib.hid (chainC (Nat.le_refl _) HAL.out hb1)
      have x0 := blk_cell HSB.out 0
      have x1 := blk_cell HSB.out 1
      have x2 := blk_cell HSB.out 2
      have x3 := blk_cell HSB.out 3
      have x4 := blk_cell HSB.out 4
      have x5 := blk_cell HSB.out 5
      clear hb1
      go_wp2_with (first | (go_at_call 48; refine (done_nil _).mono ?_; rintro e w2 ⟨rfl, rfl⟩) | (go_at_call 49; refine (busy_nil _).mono ?_; rintro e w2 ⟨rfl, rfl⟩) | (go_at_call 50; refine (fails_nil _).mono ?_; rintro e w2 ⟨rfl, rfl⟩) | (go_at_call 47; refine (turns_nil 0 0 _).mono ?_; rintro e w2 ⟨rfl, rfl⟩) | (go_at_call 51; refine (torn_nil 5 _).mono ?_; rintro e w2 ⟨rfl, rfl⟩))
      refine (HFW.out _).mono ?_
      rintro e w3 ⟨rfl, hb2⟩
      replace HSB := Lib.hid ((hb2.block _ (blk_lt HSB.out)).trans HSB.out)
      replace HB := Lib.hid (chainC (Nat.le_refl _) HB.out hb2)
      clear hb2 x0 x1 x2 x3 x4 x5
      go_upto_region 9 with fail
      obtain ⟨sb, hsb⟩ : ∃ sb, sb = w.heap.size := ⟨_, rfl⟩
      rw [← hsb] at HSB ⊢
      clear hsb
      have HS0 : Hid (w3.drew.cell? ⟨sb, 0, none⟩ = some (.slice a1 busy.length c1) ∧ w3.drew.cell? ⟨sb, 1, none⟩ = some (.slice a2 fails.length c2) ∧ w3.drew.cell? ⟨sb, 2, none⟩ = some (.slice a3 turns.length c3) ∧ w3.drew.cell? ⟨sb, 3, none⟩ = some (.int .i64 cut) ∧ w3.drew.cell? ⟨sb, 4, none⟩ = some (.slice a4 torn.length c4) ∧ w3.drew.cell? ⟨sb, 5, none⟩ = some (.slice a5 marked.length c5)) := Lib.hid ⟨blk_cell HSB.out 0, blk_cell HSB.out 1, blk_cell HSB.out 2, blk_cell HSB.out 3, blk_cell HSB.out 4, blk_cell HSB.out 5⟩
      replace HB := Lib.hid (pw_below_drewN HB.out 1)
      refine wp_region_noPanic ?_
      refine start_ (n := 8) (S := fun w' => w'.cell? ⟨sb, 0, none⟩ = some (.slice a1 busy.length c1) ∧ w'.cell? ⟨sb, 1, none⟩ = some (.slice a2 fails.length c2) ∧ w'.cell? ⟨sb, 2, none⟩ = some (.slice a3 turns.length c3) ∧ w'.cell? ⟨sb, 3, none⟩ = some (.int .i64 cut) ∧ w'.cell? ⟨sb, 4, none⟩ = some (.slice a4 torn.length c4) ∧ w'.cell? ⟨sb, 5, none⟩ = some (.slice a5 marked.length c5)) (ds := []) #[false, false, false, false, false, false, false, false] (by kernel_rfl) rfl rfl HS0.out (fun hHeld => ?_)
      refine take_ (i := 1) (N := some 56) (v := ?_) (a' := ?_) #[false, true, false, false, false, false, false, false] rfl rfl (by kernel_rfl) (fun _ _ _ h => h) (Or.inl ⟨by rfl, ?_⟩) hHeld ?_ ?_
      rotate_left
      · rintro w' ⟨s0, s1, s2, s3, s4, s5⟩
        go_simp
        with_reducible rfl
      rotate_left
      · simp only [Act.put, List.setIfInBounds_toArray, List.set_cons_zero, List.set_cons_succ]
        rfl
      refine one_ (i := 0) (N := some 55) #[true, true, false, false, false, false, false, false] rfl rfl (by kernel_rfl) (by decide) (fun K hK => ?_)
      refine goes_ (N := some 55) Try.func46 (by kernel_rfl) rfl #[] (by rfl) rfl rfl (by simp only [List.map_toArray, List.map_nil]) ?_
      refine (plain_ok _).mono ?_
      rintro e wn ⟨rfl, hbn⟩
      refine ⟨_, rfl, ?_⟩
      have hS' : wn.cell? ⟨sb, 0, none⟩ = some (.slice a1 busy.length c1) ∧ wn.cell? ⟨sb, 1, none⟩ = some (.slice a2 fails.length c2) ∧ wn.cell? ⟨sb, 2, none⟩ = some (.slice a3 turns.length c3) ∧ wn.cell? ⟨sb, 3, none⟩ = some (.int .i64 cut) ∧ wn.cell? ⟨sb, 4, none⟩ = some (.slice a4 torn.length c4) ∧ wn.cell? ⟨sb, 5, none⟩ = some (.slice a5 marked.length c5) := by obtain ⟨z0, z1, z2, z3, z4, z5⟩ := hHeld; exact ⟨pw_cell_below hbn z0, pw_cell_below hbn z1, pw_cell_below hbn z2, pw_cell_below hbn z3, pw_cell_below hbn z4, pw_cell_below hbn z5⟩
      replace HB := Lib.hid (chainC (Nat.le_refl _) HB.out hbn)
      replace HSB := Lib.hid ((hbn.block _ (blk_lt HSB.out)).trans HSB.out)
      clear hbn
      clear hHeld
      refine hK.out _ _ ?_ (fun hHeld => ?_)
      · exact hS'
      clear hK K
      refine norm_ (a' := ?_) ?_ ?_
      rotate_left
      · show Act.put _ (some 55) _ = _
        simp only [Act.put, List.setIfInBounds_toArray, List.set_cons_zero, List.set_cons_succ]
        rfl
      refine one_ (i := 2) (N := some 57) #[true, true, true, false, false, false, false, false] rfl rfl (by kernel_rfl) (by decide) (fun K hK => ?_)
      refine goes_ (N := some 57) Try.func45 (by kernel_rfl) rfl #[plainV, .agg #[.slice a1 busy.length c1, .slice a2 fails.length c2, .slice a3 turns.length c3, .int .i64 cut, .slice a4 torn.length c4, .slice a5 marked.length c5]] (by rfl) rfl rfl (by simp only [List.map_toArray, List.map_cons, List.map_nil]; rfl) ?_
      refine (HN.out _ HB.out).mono ?_
      rintro e wn ⟨rfl, hbn⟩
      refine ⟨_, rfl, ?_⟩
      have hS' : wn.cell? ⟨sb, 0, none⟩ = some (.slice a1 busy.length c1) ∧ wn.cell? ⟨sb, 1, none⟩ = some (.slice a2 fails.length c2) ∧ wn.cell? ⟨sb, 2, none⟩ = some (.slice a3 turns.length c3) ∧ wn.cell? ⟨sb, 3, none⟩ = some (.int .i64 cut) ∧ wn.cell? ⟨sb, 4, none⟩ = some (.slice a4 torn.length c4) ∧ wn.cell? ⟨sb, 5, none⟩ = some (.slice a5 marked.length c5) := by obtain ⟨z0, z1, z2, z3, z4, z5⟩ := hHeld; exact ⟨pw_cell_below hbn z0, pw_cell_below hbn z1, pw_cell_below hbn z2, pw_cell_below hbn z3, pw_cell_below hbn z4, pw_cell_below hbn z5⟩
      replace HB := Lib.hid (chainC (Nat.le_refl _) HB.out hbn)
      replace HSB := Lib.hid ((hbn.block _ (blk_lt HSB.out)).trans HSB.out)
      clear hbn
      clear hHeld
      refine hK.out _ _ ?_ (fun hHeld => ?_)
      · exact hS'
      clear hK K
      refine norm_ (a' := ?_) ?_ ?_
      rotate_left
      · show Act.put _ (some 57) _ = _
        simp only [Act.put, List.setIfInBounds_toArray, List.set_cons_zero, List.set_cons_succ]
        rfl
      refine pure_ (i := 3) (N := some 54) (v := ?_) (a' := ?_) #[true, true, true, true, false, false, false, false] rfl rfl (by kernel_rfl) (fun _ _ _ h => h) (Or.inl ⟨by rfl, ?_⟩) ?_ ?_
      rotate_left
      · intro w'
        go_simp
        with_reducible rfl
      rotate_left
      · simp only [Act.put, List.setIfInBounds_toArray, List.set_cons_zero, List.set_cons_succ]
        rfl
      refine pure_ (i := 4) (N := some 58) (v := ?_) (a' := ?_) #[true, true, true, true, true, false, false, false] rfl rfl (by kernel_rfl) (fun _ _ _ h => h) (Or.inl ⟨by rfl, ?_⟩) ?_ ?_
      rotate_left
      · intro w'
        go_simp
        with_reducible rfl
      rotate_left
      · simp only [Act.put, List.setIfInBounds_toArray, List.set_cons_zero, List.set_cons_succ]
        rfl
      refine pure_ (i := 5) (N := some 59) (v := ?_) (a' := ?_) #[true, true, true, true, true, true, false, false] rfl rfl (by kernel_rfl) (fun _ _ _ h => h) (Or.inl ⟨by rfl, ?_⟩) ?_ ?_
      rotate_left
      · intro w'
        go_simp
        with_reducible rfl
      rotate_left
      · simp only [Act.put, List.setIfInBounds_toArray, List.set_cons_zero, List.set_cons_succ]
        rfl
      refine pure_ (i := 6) (N := some 8) (v := ?_) (a' := ?_) #[true, true, true, true, true, true, true, false] rfl rfl (by kernel_rfl) (fun _ _ _ h => h) (Or.inl ⟨by rfl, ?_⟩) ?_ ?_
      rotate_left
      · intro w'
        go_simp
        with_reducible rfl
      rotate_left
      · simp only [Act.put, List.setIfInBounds_toArray, List.set_cons_zero, List.set_cons_succ]
        rfl
      refine pure_ (i := 7) (N := some 9) (v := ?_) (a' := ?_) #[true, true, true, true, true, true, true, true] rfl rfl (by kernel_rfl) (fun _ _ _ h => h) (Or.inl ⟨by rfl, ?_⟩) ?_ ?_
      rotate_left
      · intro w'
        go_simp
        with_reducible rfl
      rotate_left
      · simp only [Act.put, List.setIfInBounds_toArray, List.set_cons_zero, List.set_cons_succ]
        rfl
      refine done_ (by kernel_rfl) ?_
      refine NoPanic.normal ?_
      go_upto_region 10 with fail
      have HS0 : Hid (wn.drew.cell? ⟨sb, 0, none⟩ = some (.slice a1 busy.length c1) ∧ wn.drew.cell? ⟨sb, 1, none⟩ = some (.slice a2 fails.length c2) ∧ wn.drew.cell? ⟨sb, 2, none⟩ = some (.slice a3 turns.length c3) ∧ wn.drew.cell? ⟨sb, 3, none⟩ = some (.int .i64 cut) ∧ wn.drew.cell? ⟨sb, 4, none⟩ = some (.slice a4 torn.length c4) ∧ wn.drew.cell? ⟨sb, 5, none⟩ = some (.slice a5 marked.length c5)) := Lib.hid ⟨blk_cell HSB.out 0, blk_cell HSB.out 1, blk_cell HSB.out 2, blk_cell HSB.out 3, blk_cell HSB.out 4, blk_cell HSB.out 5⟩
      replace HB := Lib.hid (pw_below_drewN HB.out 1)
      refine wp_region_noPanic ?_
      refine start_ (n := 8) (S := fun w' => w'.cell? ⟨sb, 0, none⟩ = some (.slice a1 busy.length c1) ∧ w'.cell? ⟨sb, 1, none⟩ = some (.slice a2 fails.length c2) ∧ w'.cell? ⟨sb, 2, none⟩ = some (.slice a3 turns.length c3) ∧ w'.cell? ⟨sb, 3, none⟩ = some (.int .i64 cut) ∧ w'.cell? ⟨sb, 4, none⟩ = some (.slice a4 torn.length c4) ∧ w'.cell? ⟨sb, 5, none⟩ = some (.slice a5 marked.length c5)) (ds := []) #[false, false, false, false, false, false, false, false] (by kernel_rfl) rfl rfl HS0.out (fun hHeld => ?_)
      refine take_ (i := 1) (N := some 62) (v := ?_) (a' := ?_) #[false, true, false, false, false, false, false, false] rfl rfl (by kernel_rfl) (fun _ _ _ h => h) (Or.inl ⟨by rfl, ?_⟩) hHeld ?_ ?_
      rotate_left
      · rintro w' ⟨s0, s1, s2, s3, s4, s5⟩
        go_simp
        with_reducible rfl
      rotate_left
      · simp only [Act.put, List.setIfInBounds_toArray, List.set_cons_zero, List.set_cons_succ]
        rfl
      refine one_ (i := 0) (N := some 61) #[true, true, false, false, false, false, false, false] rfl rfl (by kernel_rfl) (by decide) (fun K hK => ?_)
      refine goes_ (N := some 61) Try.func46 (by kernel_rfl) rfl #[] (by rfl) rfl rfl (by simp only [List.map_toArray, List.map_nil]) ?_
      refine (plain_ok _).mono ?_
      rintro e wn ⟨rfl, hbn⟩
      refine ⟨_, rfl, ?_⟩
      have hS' : wn.cell? ⟨sb, 0, none⟩ = some (.slice a1 busy.length c1) ∧ wn.cell? ⟨sb, 1, none⟩ = some (.slice a2 fails.length c2) ∧ wn.cell? ⟨sb, 2, none⟩ = some (.slice a3 turns.length c3) ∧ wn.cell? ⟨sb, 3, none⟩ = some (.int .i64 cut) ∧ wn.cell? ⟨sb, 4, none⟩ = some (.slice a4 torn.length c4) ∧ wn.cell? ⟨sb, 5, none⟩ = some (.slice a5 marked.length c5) := by obtain ⟨z0, z1, z2, z3, z4, z5⟩ := hHeld; exact ⟨pw_cell_below hbn z0, pw_cell_below hbn z1, pw_cell_below hbn z2, pw_cell_below hbn z3, pw_cell_below hbn z4, pw_cell_below hbn z5⟩
      replace HB := Lib.hid (chainC (Nat.le_refl _) HB.out hbn)
      replace HSB := Lib.hid ((hbn.block _ (blk_lt HSB.out)).trans HSB.out)
      clear hbn
      clear hHeld
      refine hK.out _ _ ?_ (fun hHeld => ?_)
      · exact hS'
      clear hK K
      refine norm_ (a' := ?_) ?_ ?_
      rotate_left
      · show Act.put _ (some 61) _ = _
        simp only [Act.put, List.setIfInBounds_toArray, List.set_cons_zero, List.set_cons_succ]
        rfl
      refine one_ (i := 2) (N := some 63) #[true, true, true, false, false, false, false, false] rfl rfl (by kernel_rfl) (by decide) (fun K hK => ?_)
      refine goes_ (N := some 63) Try.func45 (by kernel_rfl) rfl #[plainV, .agg #[.slice a1 busy.length c1, .slice a2 fails.length c2, .slice a3 turns.length c3, .int .i64 cut, .slice a4 torn.length c4, .slice a5 marked.length c5]] (by rfl) rfl rfl (by simp only [List.map_toArray, List.map_cons, List.map_nil]; rfl) ?_
      refine (HN.out _ HB.out).mono ?_
      rintro e wn ⟨rfl, hbn⟩
      refine ⟨_, rfl, ?_⟩
      have hS' : wn.cell? ⟨sb, 0, none⟩ = some (.slice a1 busy.length c1) ∧ wn.cell? ⟨sb, 1, none⟩ = some (.slice a2 fails.length c2) ∧ wn.cell? ⟨sb, 2, none⟩ = some (.slice a3 turns.length c3) ∧ wn.cell? ⟨sb, 3, none⟩ = some (.int .i64 cut) ∧ wn.cell? ⟨sb, 4, none⟩ = some (.slice a4 torn.length c4) ∧ wn.cell? ⟨sb, 5, none⟩ = some (.slice a5 marked.length c5) := by obtain ⟨z0, z1, z2, z3, z4, z5⟩ := hHeld; exact ⟨pw_cell_below hbn z0, pw_cell_below hbn z1, pw_cell_below hbn z2, pw_cell_below hbn z3, pw_cell_below hbn z4, pw_cell_below hbn z5⟩
      replace HB := Lib.hid (chainC (Nat.le_refl _) HB.out hbn)
      replace HSB := Lib.hid ((hbn.block _ (blk_lt HSB.out)).trans HSB.out)
      clear hbn
      clear hHeld
      refine hK.out _ _ ?_ (fun hHeld => ?_)
      · exact hS'
      clear hK K
      refine norm_ (a' := ?_) ?_ ?_
      rotate_left
      · show Act.put _ (some 63) _ = _
        simp only [Act.put, List.setIfInBounds_toArray, List.set_cons_zero, List.set_cons_succ]
        rfl
      refine pure_ (i := 3) (N := some 60) (v := ?_) (a' := ?_) #[true, true, true, true, false, false, false, false] rfl rfl (by kernel_rfl) (fun _ _ _ h => h) (Or.inl ⟨by rfl, ?_⟩) ?_ ?_
      rotate_left
      · intro w'
        go_simp
        with_reducible rfl
      rotate_left
      · simp only [Act.put, List.setIfInBounds_toArray, List.set_cons_zero, List.set_cons_succ]
        rfl
      refine pure_ (i := 4) (N := some 64) (v := ?_) (a' := ?_) #[true, true, true, true, true, false, false, false] rfl rfl (by kernel_rfl) (fun _ _ _ h => h) (Or.inl ⟨by rfl, ?_⟩) ?_ ?_
      rotate_left
      · intro w'
        go_simp
        with_reducible rfl
      rotate_left
      · simp only [Act.put, List.setIfInBounds_toArray, List.set_cons_zero, List.set_cons_succ]
        rfl
      refine pure_ (i := 5) (N := some 65) (v := ?_) (a' := ?_) #[true, true, true, true, true, true, false, false] rfl rfl (by kernel_rfl) (fun _ _ _ h => h) (Or.inl ⟨by rfl, ?_⟩) ?_ ?_
      rotate_left
      · intro w'
        go_simp
        with_reducible rfl
      rotate_left
      · simp only [Act.put, List.setIfInBounds_toArray, List.set_cons_zero, List.set_cons_succ]
        rfl
      refine pure_ (i := 6) (N := some 10) (v := ?_) (a' := ?_) #[true, true, true, true, true, true, true, false] rfl rfl (by kernel_rfl) (fun _ _ _ h => h) (Or.inl ⟨by rfl, ?_⟩) ?_ ?_
      rotate_left
      · intro w'
        go_simp
        with_reducible rfl
      rotate_left
      · simp only [Act.put, List.setIfInBounds_toArray, List.set_cons_zero, List.set_cons_succ]
        rfl
      refine pure_ (i := 7) (N := some 11) (v := ?_) (a' := ?_) #[true, true, true, true, true, true, true, true] rfl rfl (by kernel_rfl) (fun _ _ _ h => h) (Or.inl ⟨by rfl, ?_⟩) ?_ ?_
      rotate_left
      · intro w'
        go_simp
        with_reducible rfl
      rotate_left
      · simp only [Act.put, List.setIfInBounds_toArray, List.set_cons_zero, List.set_cons_succ]
        rfl
      refine done_ (by kernel_rfl) ?_
      refine NoPanic.normal ?_
      go_wp2_with fail
      go_ret
      exact ⟨rfl, HB.out⟩
    | true =>
      have hnw := fun W (hb : Below w.heap.size w W) => new_yes s h W (hr.below hb) hf hR
      have hri : riseB 4611686018427387904 (-1) s.fails = true := by
        unfold rightB at hR
        simp only [Bool.and_eq_true] at hR
        exact hR.1.1.2
      obtain ⟨e1, e2, e3, e4, e5, ec, r1, r2, r3, r4, r5, k1, k2, k4⟩ := hr
      obtain ⟨a1, n1, c1, a2, n2, c2, a3, n3, c3, cut, a4, n4, c4, a5, n5, c5⟩ := h
      obtain ⟨busy, fails, turns, cut', torn, marked⟩ := s
      simp only at e1 e2 e3 e4 e5 ec
      subst e1 e2 e3 e4 e5 ec
      have HN := Lib.hid hnw
      have HRI := Lib.hid hri
      have HC2 := Lib.hid r2
      have HF : Hid (busy.length ≤ 200 ∧ fails.length ≤ 50 ∧ turns.length ≤ 100 ∧ torn.length ≤ 200 ∧ marked.length ≤ 50) := Lib.hid hf
      clear hnw hal r1 r2 r3 r4 r5 k1 k2 k4 hf hR hri
      show Calls Try.prog 9 #[.agg #[.slice a1 busy.length c1, .slice a2 fails.length c2, .slice a3 turns.length c3, .int .i64 cut, .slice a4 torn.length c4, .slice a5 marked.length c5], .int .u8 (n : Int)] w _
      have HSB := Lib.hid (blk_new w (.cells #[.slice a1 busy.length c1, .slice a2 fails.length c2, .slice a3 turns.length c3, .int .i64 cut, .slice a4 torn.length c4, .slice a5 marked.length c5] 73))
      go_enter Try.func9, Try.ntmps9
      go_wp2_with fail
      refine (tawake_ok _).mono ?_
      rintro e w1 ⟨rfl, hb1⟩
      replace HSB := Lib.hid ((hb1.block _ (blk_lt HSB.out)).trans HSB.out)
      have HB := Lib.hid (chainC (Nat.le_refl _) HAL.out hb1)
      have x0 := blk_cell HSB.out 0
      have x1 := blk_cell HSB.out 1
      have x2 := blk_cell HSB.out 2
      have x3 := blk_cell HSB.out 3
      have x4 := blk_cell HSB.out 4
      have x5 := blk_cell HSB.out 5
      clear hb1
      go_wp2_with (first | (go_at_call 48; refine (done_nil _).mono ?_; rintro e w2 ⟨rfl, rfl⟩) | (go_at_call 49; refine (busy_nil _).mono ?_; rintro e w2 ⟨rfl, rfl⟩) | (go_at_call 50; refine (fails_nil _).mono ?_; rintro e w2 ⟨rfl, rfl⟩) | (go_at_call 47; refine (turns_nil 0 0 _).mono ?_; rintro e w2 ⟨rfl, rfl⟩) | (go_at_call 51; refine (torn_nil 5 _).mono ?_; rintro e w2 ⟨rfl, rfl⟩))
      refine (HFW.out _).mono ?_
      rintro e w3 ⟨rfl, hb2⟩
      replace HSB := Lib.hid ((hb2.block _ (blk_lt HSB.out)).trans HSB.out)
      replace HB := Lib.hid (chainC (Nat.le_refl _) HB.out hb2)
      clear hb2 x0 x1 x2 x3 x4 x5
      go_upto_region 9 with fail
      obtain ⟨sb, hsb⟩ : ∃ sb, sb = w.heap.size := ⟨_, rfl⟩
      rw [← hsb] at HSB ⊢
      clear hsb
      go_cut [8, 9] (fun v8 v9 wc => ∃ (N1 p1 mb1 : Nat), v8 = .pointer (some ⟨p1, 0, none⟩) ∧ v9 = .int .i64 0 ∧ Hid (TelIs wc N1 p1 mb1 0 0 ⟨busy, fails, turns, cut, torn, marked⟩) ∧ Hid (w.heap.size ≤ p1) ∧ Hid (Below w.heap.size w wc) ∧ Hid (wc.heap[sb]? = some (.cells #[.slice a1 busy.length c1, .slice a2 fails.length c2, .slice a3 turns.length c3, .int .i64 cut, .slice a4 torn.length c4, .slice a5 marked.length c5] 73 (0, 0))))
      case first =>
        have HS0 : Hid (w3.drew.cell? ⟨sb, 0, none⟩ = some (.slice a1 busy.length c1) ∧ w3.drew.cell? ⟨sb, 1, none⟩ = some (.slice a2 fails.length c2) ∧ w3.drew.cell? ⟨sb, 2, none⟩ = some (.slice a3 turns.length c3) ∧ w3.drew.cell? ⟨sb, 3, none⟩ = some (.int .i64 cut) ∧ w3.drew.cell? ⟨sb, 4, none⟩ = some (.slice a4 torn.length c4) ∧ w3.drew.cell? ⟨sb, 5, none⟩ = some (.slice a5 marked.length c5)) := Lib.hid ⟨blk_cell HSB.out 0, blk_cell HSB.out 1, blk_cell HSB.out 2, blk_cell HSB.out 3, blk_cell HSB.out 4, blk_cell HSB.out 5⟩
        replace HB := Lib.hid (pw_below_drewN HB.out 1)
        refine wp_region_noPanic ?_
        refine start_ (n := 8) (S := fun w' => w'.cell? ⟨sb, 0, none⟩ = some (.slice a1 busy.length c1) ∧ w'.cell? ⟨sb, 1, none⟩ = some (.slice a2 fails.length c2) ∧ w'.cell? ⟨sb, 2, none⟩ = some (.slice a3 turns.length c3) ∧ w'.cell? ⟨sb, 3, none⟩ = some (.int .i64 cut) ∧ w'.cell? ⟨sb, 4, none⟩ = some (.slice a4 torn.length c4) ∧ w'.cell? ⟨sb, 5, none⟩ = some (.slice a5 marked.length c5)) (ds := []) #[false, false, false, false, false, false, false, false] (by kernel_rfl) rfl rfl HS0.out (fun hHeld => ?_)
        refine take_ (i := 1) (N := some 56) (v := ?_) (a' := ?_) #[false, true, false, false, false, false, false, false] rfl rfl (by kernel_rfl) (fun _ _ _ h => h) (Or.inl ⟨by rfl, ?_⟩) hHeld ?_ ?_
        rotate_left
        · rintro w' ⟨s0, s1, s2, s3, s4, s5⟩
          go_simp
          with_reducible rfl
        rotate_left
        · simp only [Act.put, List.setIfInBounds_toArray, List.set_cons_zero, List.set_cons_succ]
          rfl
        refine one_ (i := 0) (N := some 55) #[true, true, false, false, false, false, false, false] rfl rfl (by kernel_rfl) (by decide) (fun K hK => ?_)
        refine goes_ (N := some 55) Try.func46 (by kernel_rfl) rfl #[] (by rfl) rfl rfl (by simp only [List.map_toArray, List.map_nil]) ?_
        refine (plain_ok _).mono ?_
        rintro e wn ⟨rfl, hbn⟩
        refine ⟨_, rfl, ?_⟩
        have hS' : wn.cell? ⟨sb, 0, none⟩ = some (.slice a1 busy.length c1) ∧ wn.cell? ⟨sb, 1, none⟩ = some (.slice a2 fails.length c2) ∧ wn.cell? ⟨sb, 2, none⟩ = some (.slice a3 turns.length c3) ∧ wn.cell? ⟨sb, 3, none⟩ = some (.int .i64 cut) ∧ wn.cell? ⟨sb, 4, none⟩ = some (.slice a4 torn.length c4) ∧ wn.cell? ⟨sb, 5, none⟩ = some (.slice a5 marked.length c5) := by obtain ⟨z0, z1, z2, z3, z4, z5⟩ := hHeld; exact ⟨pw_cell_below hbn z0, pw_cell_below hbn z1, pw_cell_below hbn z2, pw_cell_below hbn z3, pw_cell_below hbn z4, pw_cell_below hbn z5⟩
        replace HB := Lib.hid (chainC (Nat.le_refl _) HB.out hbn)
        replace HSB := Lib.hid ((hbn.block _ (blk_lt HSB.out)).trans HSB.out)
        clear hbn
        clear hHeld
        refine hK.out _ _ ?_ (fun hHeld => ?_)
        · exact hS'
        clear hK K
        refine norm_ (a' := ?_) ?_ ?_
        rotate_left
        · show Act.put _ (some 55) _ = _
          simp only [Act.put, List.setIfInBounds_toArray, List.set_cons_zero, List.set_cons_succ]
          rfl
        refine one_ (i := 2) (N := some 57) #[true, true, true, false, false, false, false, false] rfl rfl (by kernel_rfl) (by decide) (fun K hK => ?_)
        refine goes_ (N := some 57) Try.func45 (by kernel_rfl) rfl #[plainV, .agg #[.slice a1 busy.length c1, .slice a2 fails.length c2, .slice a3 turns.length c3, .int .i64 cut, .slice a4 torn.length c4, .slice a5 marked.length c5]] (by rfl) rfl rfl (by simp only [List.map_toArray, List.map_cons, List.map_nil]; rfl) ?_
        refine (HN.out _ HB.out).mono ?_
        rintro e wn ⟨⟨p1, mb1, rfl, ht⟩, hbn⟩
        refine ⟨_, rfl, ?_⟩
        have hS' : wn.cell? ⟨sb, 0, none⟩ = some (.slice a1 busy.length c1) ∧ wn.cell? ⟨sb, 1, none⟩ = some (.slice a2 fails.length c2) ∧ wn.cell? ⟨sb, 2, none⟩ = some (.slice a3 turns.length c3) ∧ wn.cell? ⟨sb, 3, none⟩ = some (.int .i64 cut) ∧ wn.cell? ⟨sb, 4, none⟩ = some (.slice a4 torn.length c4) ∧ wn.cell? ⟨sb, 5, none⟩ = some (.slice a5 marked.length c5) := by obtain ⟨z0, z1, z2, z3, z4, z5⟩ := hHeld; exact ⟨pw_cell_below hbn z0, pw_cell_below hbn z1, pw_cell_below hbn z2, pw_cell_below hbn z3, pw_cell_below hbn z4, pw_cell_below hbn z5⟩
        have HLO1 : Hid (w.heap.size ≤ p1) := Lib.hid (Nat.le_trans HB.out.size ht.lo)
        have HT1 := Lib.hid ht
        replace HB := Lib.hid (chainC (Nat.le_refl _) HB.out hbn)
        replace HSB := Lib.hid ((hbn.block _ (blk_lt HSB.out)).trans HSB.out)
        clear hbn
        clear ht
        clear hHeld
        refine hK.out _ _ ?_ (fun hHeld => ?_)
        · exact hS'
        clear hK K
        refine norm_ (a' := ?_) ?_ ?_
        rotate_left
        · show Act.put _ (some 57) _ = _
          simp only [Act.put, List.setIfInBounds_toArray, List.set_cons_zero, List.set_cons_succ]
          rfl
        refine pure_ (i := 3) (N := some 54) (v := ?_) (a' := ?_) #[true, true, true, true, false, false, false, false] rfl rfl (by kernel_rfl) (fun _ _ _ h => h) (Or.inl ⟨by rfl, ?_⟩) ?_ ?_
        rotate_left
        · intro w'
          go_simp
          with_reducible rfl
        rotate_left
        · simp only [Act.put, List.setIfInBounds_toArray, List.set_cons_zero, List.set_cons_succ]
          rfl
        refine pure_ (i := 4) (N := some 58) (v := ?_) (a' := ?_) #[true, true, true, true, true, false, false, false] rfl rfl (by kernel_rfl) (fun _ _ _ h => h) (Or.inl ⟨by rfl, ?_⟩) ?_ ?_
        rotate_left
        · intro w'
          go_simp
          with_reducible rfl
        rotate_left
        · simp only [Act.put, List.setIfInBounds_toArray, List.set_cons_zero, List.set_cons_succ]
          rfl
        refine pure_ (i := 5) (N := some 59) (v := ?_) (a' := ?_) #[true, true, true, true, true, true, false, false] rfl rfl (by kernel_rfl) (fun _ _ _ h => h) (Or.inl ⟨by rfl, ?_⟩) ?_ ?_
        rotate_left
        · intro w'
          go_simp
          with_reducible rfl
        rotate_left
        · simp only [Act.put, List.setIfInBounds_toArray, List.set_cons_zero, List.set_cons_succ]
          rfl
        refine pure_ (i := 6) (N := some 8) (v := ?_) (a' := ?_) #[true, true, true, true, true, true, true, false] rfl rfl (by kernel_rfl) (fun _ _ _ h => h) (Or.inl ⟨by rfl, ?_⟩) ?_ ?_
        rotate_left
        · intro w'
          go_simp
          with_reducible rfl
        rotate_left
        · simp only [Act.put, List.setIfInBounds_toArray, List.set_cons_zero, List.set_cons_succ]
          rfl
        refine pure_ (i := 7) (N := some 9) (v := ?_) (a' := ?_) #[true, true, true, true, true, true, true, true] rfl rfl (by kernel_rfl) (fun _ _ _ h => h) (Or.inl ⟨by rfl, ?_⟩) ?_ ?_
        rotate_left
        · intro w'
          go_simp
          with_reducible rfl
        rotate_left
        · simp only [Act.put, List.setIfInBounds_toArray, List.set_cons_zero, List.set_cons_succ]
          rfl
        refine done_ (by kernel_rfl) ?_
        refine NoPanic.normal ?_
        go_wp2_with fail
        go_meet
        case rel => exact ⟨_, _, _, rfl, rfl, HT1, HLO1, HB, HSB⟩
      case rest =>
        clear HB HSB
        obtain ⟨N1, p1, mb1, rfl, rfl, HT1, HLO1, HB, HSB⟩ := hcut
        go_upto_region 10 with fail
        go_cut [10, 11] (fun v10 v11 wc => ∃ (N2 p2 mb2 : Nat), v10 = .pointer (some ⟨p2, 0, none⟩) ∧ v11 = .int .i64 0 ∧ Hid (TelIs wc N1 p1 mb1 0 0 ⟨busy, fails, turns, cut, torn, marked⟩) ∧ Hid (TelIs wc N2 p2 mb2 0 0 ⟨busy, fails, turns, cut, torn, marked⟩) ∧ Hid (p1 ≠ p2) ∧ Hid (w.heap.size ≤ p1) ∧ Hid (w.heap.size ≤ p2) ∧ Hid (Below w.heap.size w wc) ∧ Hid (wc.heap[sb]? = some (.cells #[.slice a1 busy.length c1, .slice a2 fails.length c2, .slice a3 turns.length c3, .int .i64 cut, .slice a4 torn.length c4, .slice a5 marked.length c5] 73 (0, 0))))
        case first =>
          have HS0 : Hid (wc.drew.cell? ⟨sb, 0, none⟩ = some (.slice a1 busy.length c1) ∧ wc.drew.cell? ⟨sb, 1, none⟩ = some (.slice a2 fails.length c2) ∧ wc.drew.cell? ⟨sb, 2, none⟩ = some (.slice a3 turns.length c3) ∧ wc.drew.cell? ⟨sb, 3, none⟩ = some (.int .i64 cut) ∧ wc.drew.cell? ⟨sb, 4, none⟩ = some (.slice a4 torn.length c4) ∧ wc.drew.cell? ⟨sb, 5, none⟩ = some (.slice a5 marked.length c5)) := Lib.hid ⟨blk_cell HSB.out 0, blk_cell HSB.out 1, blk_cell HSB.out 2, blk_cell HSB.out 3, blk_cell HSB.out 4, blk_cell HSB.out 5⟩
          replace HB := Lib.hid (pw_below_drewN HB.out 1)
          replace HT1 := Lib.hid (HT1.out.drewN 1)
          refine wp_region_noPanic ?_
          refine start_ (n := 8) (S := fun w' => w'.cell? ⟨sb, 0, none⟩ = some (.slice a1 busy.length c1) ∧ w'.cell? ⟨sb, 1, none⟩ = some (.slice a2 fails.length c2) ∧ w'.cell? ⟨sb, 2, none⟩ = some (.slice a3 turns.length c3) ∧ w'.cell? ⟨sb, 3, none⟩ = some (.int .i64 cut) ∧ w'.cell? ⟨sb, 4, none⟩ = some (.slice a4 torn.length c4) ∧ w'.cell? ⟨sb, 5, none⟩ = some (.slice a5 marked.length c5)) (ds := []) #[false, false, false, false, false, false, false, false] (by kernel_rfl) rfl rfl HS0.out (fun hHeld => ?_)
          refine take_ (i := 1) (N := some 62) (v := ?_) (a' := ?_) #[false, true, false, false, false, false, false, false] rfl rfl (by kernel_rfl) (fun _ _ _ h => h) (Or.inl ⟨by rfl, ?_⟩) hHeld ?_ ?_
          rotate_left
          · rintro w' ⟨s0, s1, s2, s3, s4, s5⟩
            go_simp
            with_reducible rfl
          rotate_left
          · simp only [Act.put, List.setIfInBounds_toArray, List.set_cons_zero, List.set_cons_succ]
            rfl
          refine one_ (i := 0) (N := some 61) #[true, true, false, false, false, false, false, false] rfl rfl (by kernel_rfl) (by decide) (fun K hK => ?_)
          refine goes_ (N := some 61) Try.func46 (by kernel_rfl) rfl #[] (by rfl) rfl rfl (by simp only [List.map_toArray, List.map_nil]) ?_
          refine (plain_ok _).mono ?_
          rintro e wn ⟨rfl, hbn⟩
          refine ⟨_, rfl, ?_⟩
          have hS' : wn.cell? ⟨sb, 0, none⟩ = some (.slice a1 busy.length c1) ∧ wn.cell? ⟨sb, 1, none⟩ = some (.slice a2 fails.length c2) ∧ wn.cell? ⟨sb, 2, none⟩ = some (.slice a3 turns.length c3) ∧ wn.cell? ⟨sb, 3, none⟩ = some (.int .i64 cut) ∧ wn.cell? ⟨sb, 4, none⟩ = some (.slice a4 torn.length c4) ∧ wn.cell? ⟨sb, 5, none⟩ = some (.slice a5 marked.length c5) := by obtain ⟨z0, z1, z2, z3, z4, z5⟩ := hHeld; exact ⟨pw_cell_below hbn z0, pw_cell_below hbn z1, pw_cell_below hbn z2, pw_cell_below hbn z3, pw_cell_below hbn z4, pw_cell_below hbn z5⟩
          replace HB := Lib.hid (chainC (Nat.le_refl _) HB.out hbn)
          replace HSB := Lib.hid ((hbn.block _ (blk_lt HSB.out)).trans HSB.out)
          replace HT1 := Lib.hid (HT1.out.below hbn)
          clear hbn
          clear hHeld
          refine hK.out _ _ ?_ (fun hHeld => ?_)
          · exact hS'
          clear hK K
          refine norm_ (a' := ?_) ?_ ?_
          rotate_left
          · show Act.put _ (some 61) _ = _
            simp only [Act.put, List.setIfInBounds_toArray, List.set_cons_zero, List.set_cons_succ]
            rfl
          refine one_ (i := 2) (N := some 63) #[true, true, true, false, false, false, false, false] rfl rfl (by kernel_rfl) (by decide) (fun K hK => ?_)
          refine goes_ (N := some 63) Try.func45 (by kernel_rfl) rfl #[plainV, .agg #[.slice a1 busy.length c1, .slice a2 fails.length c2, .slice a3 turns.length c3, .int .i64 cut, .slice a4 torn.length c4, .slice a5 marked.length c5]] (by rfl) rfl rfl (by simp only [List.map_toArray, List.map_cons, List.map_nil]; rfl) ?_
          refine (HN.out _ HB.out).mono ?_
          rintro e wn ⟨⟨p2, mb2, rfl, ht⟩, hbn⟩
          refine ⟨_, rfl, ?_⟩
          have hS' : wn.cell? ⟨sb, 0, none⟩ = some (.slice a1 busy.length c1) ∧ wn.cell? ⟨sb, 1, none⟩ = some (.slice a2 fails.length c2) ∧ wn.cell? ⟨sb, 2, none⟩ = some (.slice a3 turns.length c3) ∧ wn.cell? ⟨sb, 3, none⟩ = some (.int .i64 cut) ∧ wn.cell? ⟨sb, 4, none⟩ = some (.slice a4 torn.length c4) ∧ wn.cell? ⟨sb, 5, none⟩ = some (.slice a5 marked.length c5) := by obtain ⟨z0, z1, z2, z3, z4, z5⟩ := hHeld; exact ⟨pw_cell_below hbn z0, pw_cell_below hbn z1, pw_cell_below hbn z2, pw_cell_below hbn z3, pw_cell_below hbn z4, pw_cell_below hbn z5⟩
          have HNE : Hid (p1 ≠ p2) := Lib.hid (fun e => by have := HT1.out.ltp; have := ht.lo; omega)
          have HLO2 : Hid (w.heap.size ≤ p2) := Lib.hid (Nat.le_trans HB.out.size ht.lo)
          replace HT1 := Lib.hid (HT1.out.below hbn)
          have HT2 := Lib.hid ht
          replace HB := Lib.hid (chainC (Nat.le_refl _) HB.out hbn)
          replace HSB := Lib.hid ((hbn.block _ (blk_lt HSB.out)).trans HSB.out)
          clear hbn
          clear ht
          clear hHeld
          refine hK.out _ _ ?_ (fun hHeld => ?_)
          · exact hS'
          clear hK K
          refine norm_ (a' := ?_) ?_ ?_
          rotate_left
          · show Act.put _ (some 63) _ = _
            simp only [Act.put, List.setIfInBounds_toArray, List.set_cons_zero, List.set_cons_succ]
            rfl
          refine pure_ (i := 3) (N := some 60) (v := ?_) (a' := ?_) #[true, true, true, true, false, false, false, false] rfl rfl (by kernel_rfl) (fun _ _ _ h => h) (Or.inl ⟨by rfl, ?_⟩) ?_ ?_
          rotate_left
          · intro w'
            go_simp
            with_reducible rfl
          rotate_left
          · simp only [Act.put, List.setIfInBounds_toArray, List.set_cons_zero, List.set_cons_succ]
            rfl
          refine pure_ (i := 4) (N := some 64) (v := ?_) (a' := ?_) #[true, true, true, true, true, false, false, false] rfl rfl (by kernel_rfl) (fun _ _ _ h => h) (Or.inl ⟨by rfl, ?_⟩) ?_ ?_
          rotate_left
          · intro w'
            go_simp
            with_reducible rfl
          rotate_left
          · simp only [Act.put, List.setIfInBounds_toArray, List.set_cons_zero, List.set_cons_succ]
            rfl
          refine pure_ (i := 5) (N := some 65) (v := ?_) (a' := ?_) #[true, true, true, true, true, true, false, false] rfl rfl (by kernel_rfl) (fun _ _ _ h => h) (Or.inl ⟨by rfl, ?_⟩) ?_ ?_
          rotate_left
          · intro w'
            go_simp
            with_reducible rfl
          rotate_left
          · simp only [Act.put, List.setIfInBounds_toArray, List.set_cons_zero, List.set_cons_succ]
            rfl
          refine pure_ (i := 6) (N := some 10) (v := ?_) (a' := ?_) #[true, true, true, true, true, true, true, false] rfl rfl (by kernel_rfl) (fun _ _ _ h => h) (Or.inl ⟨by rfl, ?_⟩) ?_ ?_
          rotate_left
          · intro w'
            go_simp
            with_reducible rfl
          rotate_left
          · simp only [Act.put, List.setIfInBounds_toArray, List.set_cons_zero, List.set_cons_succ]
            rfl
          refine pure_ (i := 7) (N := some 11) (v := ?_) (a' := ?_) #[true, true, true, true, true, true, true, true] rfl rfl (by kernel_rfl) (fun _ _ _ h => h) (Or.inl ⟨by rfl, ?_⟩) ?_ ?_
          rotate_left
          · intro w'
            go_simp
            with_reducible rfl
          rotate_left
          · simp only [Act.put, List.setIfInBounds_toArray, List.set_cons_zero, List.set_cons_succ]
            rfl
          refine done_ (by kernel_rfl) ?_
          refine NoPanic.normal ?_
          go_wp2_with fail
          go_meet
          case rel => exact ⟨_, _, _, rfl, rfl, HT1, HT2, HNE, HLO1, HLO2, HB, HSB⟩
        case rest =>
          clear HT1 HLO1 HB HSB
          obtain ⟨N2, p2, mb2, hcut⟩ := hcut
          obtain ⟨rfl, rfl, HT1, HT2, HNE, HLO1, HLO2, HB, HSB⟩ := hcut
          go_wp2_with fail
          go_loopw [12, 85] (fun f i wr => ∃ k : Nat, k ≤ n ∧ i = .int .i64 k ∧ f = .int .i64 (cntF fails k : Nat) ∧ Hid (TelIs wr N1 p1 mb1 (k : Int) (k : Int) ⟨busy, fails, turns, cut, torn, marked⟩) ∧ Hid (TelIs wr N2 p2 mb2 (k : Int) (k : Int) ⟨busy, fails, turns, cut, torn, marked⟩) ∧ Hid (Below w.heap.size w wr) ∧ Hid (wr.heap[sb]? = some (.cells #[.slice a1 busy.length c1, .slice a2 fails.length c2, .slice a3 turns.length c3, .int .i64 cut, .slice a4 torn.length c4, .slice a5 marked.length c5] 73 (0, 0)))) (fun _ i _ => n - (intOf i).toNat)
          case atStart => exact ⟨0, by omega, rfl, rfl, HT1, HT2, HB, HSB⟩
          case round =>
            clear HT1 HT2 HB HSB
            obtain ⟨k, hk, rfl, rfl, HT1, HT2, HB, HSB⟩ := hrel
            by_cases hkn : k < n
            · have hk0 : (k : Int) < (n : Int) := by omega
              have hk255 : k ≤ 255 := by omega
              have HK255 := Lib.hid hk255
              have H1 := Lib.hid (busy_ok k HT1.out (by omega) (by show busy.length ≤ 100000; have := HF.out.1; omega))
              obtain ⟨bx, hbx⟩ : ∃ bx, bx = busyAt ⟨busy, fails, turns, cut, torn, marked⟩ k := ⟨_, rfl⟩
              have HBX := Lib.hid hbx
              rw [← hbx] at H1
              obtain ⟨fy, hfy⟩ : ∃ fy, fy = decide ((k : Int) ∈ fails) := ⟨_, rfl⟩
              have HFY := Lib.hid hfy
              have hcn : cntF fails (k + 1) = cntF fails k + if fy = true then 1 else 0 := by
                rw [hfy]
                show cntF fails k + _ = _
                by_cases h : (k : Int) ∈ fails
                · rw [if_pos h, if_pos (by simpa using h)]
                · rw [if_neg h, if_neg (by simpa using h)]
              have HCN := Lib.hid hcn
              have HCL : Hid (cntF fails k ≤ 255) := Lib.hid (Nat.le_trans (cntF_le fails k) hk255)
              have hbb : ((bx : Int) != bx) = false := by simp
              have hff : (fy != fy) = false := by cases fy <;> rfl
              have hq16 : (0 : Int) ≤ (k : Int) % 16 ∧ (k : Int) % 16 ≤ 15 := by omega
              have hq2 : (0 : Int) ≤ (k : Int) % 2 ∧ (k : Int) % 2 ≤ 1 := by omega
              have HOKW : Hid (okW ((k : Int) % 16, (k : Int) % 2)) := Lib.hid ⟨okI_of hq16.1 (by omega), okI_of hq2.1 (by omega)⟩
              clear hbx hfy hcn hk255 hq16 hq2
              generalize cntF fails k = cn at HCN HCL ⊢
              go_wp2_with fail
              refine (H1.out).mono ?_
              rintro e v1 ⟨rfl, ht, hm⟩
              replace HT2 := Lib.hid (HT1.out.beside HT2.out HNE.out hm)
              replace HB := Lib.hid (hm.toBelow HB.out HB.out.size (fun i e => by rw [e]; exact HLO1.out))
              replace HSB := Lib.hid ((hm.block _ (blk_lt HSB.out) (HT1.out.nsb HSB.out)).trans HSB.out)
              replace HT1 := Lib.hid ht
              have H2 := Lib.hid (fails_ok k HT1.out (by have := HK255.out; omega) (by show fails.length ≤ 100000; have := HF.out.2.1; omega))
              rw [← HFY.out] at H2
              clear ht hm H1
              go_wp2_with fail
              refine (H2.out).mono ?_
              rintro e v2 ⟨rfl, ht, hm⟩
              replace HT2 := Lib.hid (HT1.out.beside HT2.out HNE.out hm)
              replace HB := Lib.hid (hm.toBelow HB.out HB.out.size (fun i e => by rw [e]; exact HLO1.out))
              replace HSB := Lib.hid ((hm.block _ (blk_lt HSB.out) (HT1.out.nsb HSB.out)).trans HSB.out)
              replace HT1 := Lib.hid ht
              have H3 := Lib.hid (busy_ok k HT2.out (by have := HK255.out; omega) (by show busy.length ≤ 100000; have := HF.out.1; omega))
              rw [← HBX.out] at H3
              clear ht hm H2
              go_wp2_with fail
              refine (H3.out).mono ?_
              rintro e v3 ⟨rfl, ht, hm⟩
              replace HT1 := Lib.hid (HT2.out.beside HT1.out (fun e => HNE.out e.symm) hm)
              replace HB := Lib.hid (hm.toBelow HB.out HB.out.size (fun i e => by rw [e]; exact HLO2.out))
              replace HSB := Lib.hid ((hm.block _ (blk_lt HSB.out) (HT2.out.nsb HSB.out)).trans HSB.out)
              replace HT2 := Lib.hid ht
              have H4 := Lib.hid (fails_ok k HT2.out (by have := HK255.out; omega) (by show fails.length ≤ 100000; have := HF.out.2.1; omega))
              rw [← HFY.out] at H4
              clear ht hm H3
              go_wp2_with fail
              refine (H4.out).mono ?_
              rintro e v4 ⟨rfl, ht, hm⟩
              replace HT1 := Lib.hid (HT2.out.beside HT1.out (fun e => HNE.out e.symm) hm)
              replace HB := Lib.hid (hm.toBelow HB.out HB.out.size (fun i e => by rw [e]; exact HLO2.out))
              replace HSB := Lib.hid ((hm.block _ (blk_lt HSB.out) (HT2.out.nsb HSB.out)).trans HSB.out)
              replace HT2 := Lib.hid ht
              have H5 := Lib.hid (turns_ok HT1.out ((k : Int) % 16) ((k : Int) % 2) HOKW.out (by show turns.length ≤ 100000; have := HF.out.2.2.1; omega))
              clear ht hm H4
              go_wp2_with fail
              refine (H5.out).mono ?_
              rintro e v5 ⟨⟨r5, rfl, hr5⟩, hb5⟩
              have H6 := Lib.hid (turns_ok (HT2.out.below hb5) ((k : Int) % 16) ((k : Int) % 2) HOKW.out (by show turns.length ≤ 100000; have := HF.out.2.2.1; omega))
              replace HT1 := Lib.hid (HT1.out.below hb5)
              replace HT2 := Lib.hid (HT2.out.below hb5)
              replace HB := Lib.hid (chainC (Nat.le_refl _) HB.out hb5)
              replace HSB := Lib.hid ((hb5.block _ (blk_lt HSB.out)).trans HSB.out)
              have R5 := Lib.hid hr5
              clear hr5 hb5 H5
              go_wp2_with fail
              refine (H6.out).mono ?_
              rintro e v6 ⟨⟨r6, rfl, hr6⟩, hb6⟩
              replace HT1 := Lib.hid (HT1.out.below hb6)
              replace HT2 := Lib.hid (HT2.out.below hb6)
              replace HB := Lib.hid (chainC (Nat.le_refl _) HB.out hb6)
              replace HSB := Lib.hid ((hb6.block _ (blk_lt HSB.out)).trans HSB.out)
              have hr5 := Kd.R_below R5.out hb6
              have hxl : (bitsOf turns ((k : Int) % 16, (k : Int) % 2)).length ≤ 100000 := by have := bitsOf_len turns ((k : Int) % 16, (k : Int) % 2); have := HF.out.2.2.1; omega
              have hr5 : kN.R 3 v6 _ (fun _ => True) r5 (bitsOf turns ((k : Int) % 16, (k : Int) % 2)) := hr5
              have hr6 : kN.R 3 v6 _ (fun _ => True) r6 (bitsOf turns ((k : Int) % 16, (k : Int) % 2)) := hr6
              generalize bitsOf turns ((k : Int) % 16, (k : Int) % 2) = xs at hr5 hr6 hxl
              obtain ⟨A5, c5', rfl, l5, C5⟩ := Kd.R_reads hr5
              obtain ⟨A6, c6', rfl, l6, C6⟩ := Kd.R_reads hr6
              have H7 := Lib.hid (tints_call v6 C5 l5 C6 l6 hxl)
              clear hr5 hr6 hb6 hxl l5 l6 C5 C6 R5 H6
              generalize xs.length = xl at H7 ⊢
              go_wp2_with fail
              refine (H7.out).mono ?_
              rintro e v7 ⟨rfl, ⟨q7, rfl⟩⟩
              replace HT1 := Lib.hid (HT1.out.drewN q7)
              replace HT2 := Lib.hid (HT2.out.drewN q7)
              replace HB := Lib.hid (pw_below_drewN HB.out q7)
              have HSB7 : Hid ((v6.drewN q7).heap[sb]? = some (.cells #[.slice a1 busy.length c1, .slice a2 fails.length c2, .slice a3 turns.length c3, .int .i64 cut, .slice a4 torn.length c4, .slice a5 marked.length c5] 73 (0, 0))) := Lib.hid HSB.out
              clear HSB H7
              generalize v6.drewN q7 = v7 at HT1 HT2 HB HSB7 ⊢
              have H8 := Lib.hid (torn_ok k HT1.out (by have := HK255.out; omega) (by show torn.length ≤ 100000; have := HF.out.2.2.2.1; omega))
              go_wp2_with fail
              refine (H8.out).mono ?_
              rintro e v8 ⟨⟨r8, rfl, hr8⟩, hb8⟩
              have H9 := Lib.hid (torn_ok k (HT2.out.below hb8) (by have := HK255.out; omega) (by show torn.length ≤ 100000; have := HF.out.2.2.2.1; omega))
              replace HT1 := Lib.hid (HT1.out.below hb8)
              replace HT2 := Lib.hid (HT2.out.below hb8)
              replace HB := Lib.hid (chainC (Nat.le_refl _) HB.out hb8)
              replace HSB7 := Lib.hid ((hb8.block _ (blk_lt HSB7.out)).trans HSB7.out)
              have R8 := Lib.hid hr8
              clear hr8 hb8 H8
              go_wp2_with fail
              refine (H9.out).mono ?_
              rintro e v9 ⟨⟨r9, rfl, hr9⟩, hb9⟩
              replace HT1 := Lib.hid (HT1.out.below hb9)
              replace HT2 := Lib.hid (HT2.out.below hb9)
              replace HB := Lib.hid (chainC (Nat.le_refl _) HB.out hb9)
              replace HSB7 := Lib.hid ((hb9.block _ (blk_lt HSB7.out)).trans HSB7.out)
              have hr8 := Kd.R_below R8.out hb9
              have hr8 : kB.R 5 v9 _ (fun _ => True) r8 (tornL torn k) := hr8
              have hr9 : kB.R 5 v9 _ (fun _ => True) r9 (tornL torn k) := hr9
              have htl : (tornL torn k).length ≤ 100000 := by rw [tornL_len]; have := HK255.out; omega
              generalize tornL torn k = ts at hr8 hr9 htl
              obtain ⟨A8, c8', rfl, l8, C8⟩ := Kd.R_reads hr8
              obtain ⟨A9, c9', rfl, l9, C9⟩ := Kd.R_reads hr9
              have h10 := tsame_call A8 c8' ts A9 c9' ts v9 C8 l8 C9 l9 htl
              rw [decide_eq_true rfl] at h10
              have H10 := Lib.hid h10
              clear hr8 hr9 hb9 htl l8 l9 C8 C9 R8 H9 h10
              generalize ts.length = tl at H10 ⊢
              go_wp2_with fail
              refine (H10.out).mono ?_
              rintro e v10 ⟨rfl, ⟨q10, rfl⟩⟩
              replace HT1 := Lib.hid (HT1.out.drewN q10)
              replace HT2 := Lib.hid (HT2.out.drewN q10)
              replace HB := Lib.hid (pw_below_drewN HB.out q10)
              have HSB8 : Hid ((v9.drewN q10).heap[sb]? = some (.cells #[.slice a1 busy.length c1, .slice a2 fails.length c2, .slice a3 turns.length c3, .int .i64 cut, .slice a4 torn.length c4, .slice a5 marked.length c5] 73 (0, 0))) := Lib.hid HSB7.out
              clear HSB7 H10
              cases fy with
              | true =>
                go_wp2_with fail
                go_roundw
                case rel => exact ⟨k + 1, hkn, by go_num, by rw [HCN.out]; exact inc_step _ (by have := HCL.out; omega), HT1, HT2, HB, HSB8⟩
                case measure => exact step_measure hkn
              | false =>
                go_wp2_with fail
                go_roundw
                case rel => exact ⟨k + 1, hkn, by go_num, by rw [HCN.out]; rfl, HT1, HT2, HB, HSB8⟩
                case measure => exact step_measure hkn
            · have hk2 : k = n := by omega
              have hcr := cntF_rise fails (-1) (by omega) HRI.out k
              rw [hk2] at hcr ⊢
              have HCR := Lib.hid hcr
              have HCL : Hid (cntF fails n ≤ 255) := Lib.hid (Nat.le_trans (cntF_le fails n) (by omega))
              generalize cntF fails n = cn at HCR HCL ⊢
              clear hk2 hcr hkn hk
              have z1 := blk_cell HSB.out 1
              obtain ⟨m, hm⟩ : ∃ m, m = fails.length := ⟨_, rfl⟩
              rw [← hm] at z1
              have HM := Lib.hid hm
              have hm50 : (m : Int) ≤ 50 := by have := HF.out.2.1; omega
              clear hm
              go_wp2_with fail
              go_loopw [13, 135] (fun f i wq => ∃ j : Nat, j ≤ m ∧ i = .int .i64 j ∧ f = .int .i64 (((fails.take j).filter fun x => decide (x < (n : Int))).length : Nat) ∧ wq = wr) (fun _ i _ => m - (intOf i).toNat)
              case atStart => exact ⟨0, by omega, rfl, rfl, rfl⟩
              case round =>
                obtain ⟨j, hj, rfl, rfl, rfl⟩ := hrel
                by_cases hjm : j < m
                · have hjx : j < fails.length := by rw [← HM.out]; exact hjm
                  have hC := Kd.C_below HC2.out HB.out
                  obtain ⟨fb, foff, rfl, _, hcell⟩ := row_of_C hC (by omega)
                  have e0 := hcell j hjx
                  rw [List.getD_eq_getElem?_getD, List.getElem?_eq_getElem hjx, Option.getD_some] at e0
                  have hts : ((fails.take (j + 1)).filter fun x => decide (x < (n : Int))).length = ((fails.take j).filter fun x => decide (x < (n : Int))).length + if fails[j] < (n : Int) then 1 else 0 := by
                    rw [List.take_succ_eq_append_getElem hjx, List.filter_append, List.length_append]
                    congr 1
                    by_cases h : fails[j] < (n : Int)
                    · rw [if_pos h, List.filter_cons, if_pos (by simpa using h)]; rfl
                    · rw [if_neg h, List.filter_cons, if_neg (by simpa using h)]; rfl
                  have hle : ((fails.take j).filter fun x => decide (x < (n : Int))).length ≤ 100 := by
                    have h1 := List.length_filter_le (fun x => decide (x < (n : Int))) (fails.take j)
                    have h2 : (fails.take j).length ≤ j := List.length_take_le _ _
                    omega
                  have hj0 : (j : Int) < (m : Int) := by omega
                  generalize fails[j] = x at e0 hts
                  have HTS := Lib.hid hts
                  have HLE := Lib.hid hle
                  clear hcell hC hjx hts hle
                  generalize ((fails.take j).filter fun x => decide (x < (n : Int))).length = fc at HTS HLE ⊢
                  by_cases hx : x < (n : Int)
                  · go_wp2_with fail
                    go_roundw
                    case rel => exact ⟨j + 1, hjm, by go_num, by rw [HTS.out, if_pos hx]; exact inc_step _ (by have := HLE.out; omega), trivial⟩
                    case measure => exact step_measure hjm
                  · go_wp2_with fail
                    go_roundw
                    case rel => exact ⟨j + 1, hjm, by go_num, by rw [HTS.out, if_neg hx]; rfl, trivial⟩
                    case measure => exact step_measure hjm
                · have hj2 : j = m := by omega
                  rw [hj2, HM.out, List.take_length, ← HCR.out]
                  have hcc : ((cn : Int) == (cn : Int)) = true := by simp
                  clear hjm hj hj2
                  go_wp2_with fail
                  go_ret
                  exact ⟨rfl, HB.out⟩
  · have HFW := Lib.hid (fun W => few_no h W hf)
    obtain ⟨a1, n1, c1, a2, n2, c2, a3, n3, c3, cut, a4, n4, c4, a5, n5, c5⟩ := h
    have HSB := Lib.hid (blk_new w (.cells (scC ⟨a1, n1, c1, a2, n2, c2, a3, n3, c3, cut, a4, n4, c4, a5, n5, c5⟩) 73))
    clear hr hf hal
    show Calls Try.prog 9 #[.agg #[.slice a1 n1 c1, .slice a2 n2 c2, .slice a3 n3 c3, .int .i64 cut, .slice a4 n4 c4, .slice a5 n5 c5], .int .u8 (n : Int)] w _
    go_enter Try.func9, Try.ntmps9
    go_wp2_with fail
    refine (tawake_ok _).mono ?_
    rintro e w1 ⟨rfl, hb1⟩
    replace HSB := Lib.hid ((hb1.block _ (blk_lt HSB.out)).trans HSB.out)
    have HB := Lib.hid (chainC (Nat.le_refl _) HAL.out hb1)
    have x0 := blk_cell HSB.out 0
    have x1 := blk_cell HSB.out 1
    have x2 := blk_cell HSB.out 2
    have x3 := blk_cell HSB.out 3
    have x4 := blk_cell HSB.out 4
    have x5 := blk_cell HSB.out 5
    clear hb1
    go_wp2_with (first | (go_at_call 48; refine (done_nil _).mono ?_; rintro e w2 ⟨rfl, rfl⟩) | (go_at_call 49; refine (busy_nil _).mono ?_; rintro e w2 ⟨rfl, rfl⟩) | (go_at_call 50; refine (fails_nil _).mono ?_; rintro e w2 ⟨rfl, rfl⟩) | (go_at_call 47; refine (turns_nil 0 0 _).mono ?_; rintro e w2 ⟨rfl, rfl⟩) | (go_at_call 51; refine (torn_nil 5 _).mono ?_; rintro e w2 ⟨rfl, rfl⟩))
    refine (HFW.out _).mono ?_
    rintro e w3 ⟨rfl, hb2⟩
    replace HSB := Lib.hid ((hb2.block _ (blk_lt HSB.out)).trans HSB.out)
    replace HB := Lib.hid (chainC (Nat.le_refl _) HB.out hb2)
    clear hb2 x0 x1 x2 x3 x4 x5
    go_wp2_with fail
    go_ret
    exact ⟨rfl, HB.out⟩
end Go.Proofs.Ytnkgbnipcjgjeaa
