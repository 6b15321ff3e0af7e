import Derived.Test.YtnkgbnipcjgjeaaTF
import Derived.Test.YtnkgbnipcjgjeaaWEqStruct
namespace Go.Proofs.Ytnkgbnipcjgjeaa
open Go.RowKit Go.Shelf Go.Sort Go.Lib Go.Proofs.YtnkgbnipcjgjeaaW.PrintWords Go.Proofs.YtnkgbnipcjgjeaaW.PrintLast Go.Proofs.YtnkgbnipcjgjeaaW.PrintMore
set_option linter.unusedVariables false
theorem eqA83 (d : Nat) (w : World) (x0 y0 : Int) (x1 y1 : Int) (x2 y2 : Int) :
    (Op.equalIn (d + 2) 83 (.agg #[.int .i64 x0, .int .i64 x1, .int .i64 x2]) (.agg #[.int .i64 y0, .int .i64 y1, .int .i64 y2])).run Try.prog w = .ok (x0 == y0 && (x1 == y1 && (x2 == y2))) w := by
  refine eqA_of Try.underlying83 (by kernel_rfl) ?_
  refine eqf_cons (by rfl) (by go_simp; rfl) (by go_simp; rfl) (by go_simp) ?_
  refine eqf_cons (by rfl) (by go_simp; rfl) (by go_simp; rfl) (by go_simp) ?_
  exact eqf_last (by rfl) (by go_simp; rfl) (by go_simp; rfl) (by go_simp)
theorem eql83 (a b d a' b' d' : Int) (w : World) : (binOp .eql 83 (.agg #[.int .i64 a, .int .i64 b, .int .i64 d]) (.agg #[.int .i64 a', .int .i64 b', .int .i64 d'])).run Try.prog w = .ok (.bool (decide ((a, b, d) = (a', b', d')))) w := by
  have h := eqA83 9998 w a a' b b' d d'
  have e : (a == a' && (b == b' && (d == d'))) = decide ((a, b, d) = (a', b', d')) := by
    rw [Bool.eq_iff_iff]; simp [Prod.mk.injEq]
  rw [e] at h
  simp only [binOp]
  simp [Op.equal, Op.maxDepth, h]
theorem c_two {W : World} {b : Nat} {x y : Int} (h : W.heap[b]? = some (.cells #[.int .i64 x, .int .i64 y] 3 (0, 0))) : kN.C W (some ⟨b, 0, none⟩) 2 [x, y] := by
  refine ⟨rfl, by decide, fun _ => ⟨⟨b, 0, none⟩, rfl, fun j p hp => ?_⟩⟩
  match j, hp with
  | 0, hp =>
    obtain rfl := Option.some.inj hp
    refine ⟨[.int .i64 x], rfl, rfl, fun i u hu => ?_⟩
    match i, hu with
    | 0, hu =>
      obtain rfl := Option.some.inj hu
      exact blk_cell h 0
    | i + 1, hu => simp at hu
  | 1, hp =>
    obtain rfl := Option.some.inj hp
    refine ⟨[.int .i64 y], rfl, rfl, fun i u hu => ?_⟩
    match i, hu with
    | 0, hu =>
      obtain rfl := Option.some.inj hu
      exact blk_cell h 1
    | i + 1, hu => simp at hu
  | j + 2, hp => simp at hp
theorem tis_ok (p mb : Nat) (w : World) (hc : w.cell? ⟨p, 2, none⟩ = some (.map (some mb))) : Calls Try.prog 96 #[.pointer (some ⟨p, 0, none⟩)] w fun e w' => e = .returned (.bool true) ∧ w' = w := by
  have hn := fun W => run_neq_map_nil W 149 153 32 (some mb) Try.underlying149
  go_enter Try.func96, Try.ntmps96
  go_wp2
  go_ret
  exact ⟨rfl, rfl⟩
theorem tis_nil (w : World) : Calls Try.prog 96 #[.pointer none] w fun e w' => e = .returned (.bool false) ∧ w' = w := by
  go_enter Try.func96, Try.ntmps96
  go_wp2
  go_ret
  exact ⟨rfl, rfl⟩
section
variable {w : World} {N0 p mb : Nat} {asked work : Int} {s : Sc}
theorem TelIs.cell2 (h : TelIs w N0 p mb asked work s) : w.cell? ⟨p, 2, none⟩ = some (.map (some mb)) := by
  obtain ⟨_, _, _, _, _, _, h1, _⟩ := h.blk
  exact blk_cell h1 2
set_option maxHeartbeats 2000000 in
set_option maxRecDepth 100000 in
theorem turns_ok (h : TelIs w N0 p mb asked work s) (row rung : Int) (hq : okW (row, rung)) (hl : s.turns.length ≤ 100000) :
    Calls Try.prog 47 #[.pointer (some ⟨p, 0, none⟩), .int .i64 row, .int .i64 rung] w fun e w' => (∃ v, e = .returned v ∧ kN.R 3 w' w.heap.size (fun _ => True) v (bitsOf s.turns (row, rung))) ∧ Below w.heap.size w w' := by
  have c2 := h.cell2
  have HI := Lib.hid (tis_ok p mb w c2)
  obtain ⟨vs, hm, hv⟩ := h.map
  have hv := hv (row, rung)
  have hlk := hm.look (t := 149) keW Try.underlying149 (zero32 w) hq false
  have hbl := bitsOf_len s.turns (row, rung)
  generalize bitsOf s.turns (row, rung) = xs at hv hbl ⊢
  have hex : ∃ A c, (Instr.lookup 149 (.map (some mb)) (.agg #[.int .i64 row, .int .i64 rung]) false).run Try.prog w = .ok (.slice A xs.length c) w ∧ xs.length ≤ c ∧ kN.C w A xs.length xs := by
    rcases hv with ⟨h1, rfl⟩ | ⟨A, c, h1, h2, h3⟩
    · rw [h1] at hlk
      exact ⟨none, 0, hlk, Nat.le_refl _, Kd.C_nil _ _⟩
    · rw [h1] at hlk
      exact ⟨A, c, hlk, h2, Kd.F_now h3⟩
  obtain ⟨A, c, hlk2, hcap, hC⟩ := hex
  have HC := Lib.hid (clone3_ok A c xs w hC hcap (by omega))
  clear hv hlk hbl hl hcap hC hm hq h
  go_enter Try.func47, Try.ntmps47
  go_wp2_with fail
  refine (HI.out).mono ?_
  rintro e w1 ⟨rfl, rfl⟩
  go_wp2_with fail
  refine (HC.out).mono ?_
  rintro e w2 ⟨⟨v, rfl, hr⟩, hb⟩
  have HR := Lib.hid hr
  have HB := Lib.hid hb
  clear hr hb
  go_wp2_with fail
  go_ret
  exact ⟨⟨v, rfl, HR.out⟩, HB.out⟩
theorem turns_nil (row rung : Int) (w : World) : Calls Try.prog 47 #[.pointer none, .int .i64 row, .int .i64 rung] w fun e w' => e = .returned (.slice none 0 0) ∧ w' = w := by
  go_enter Try.func47, Try.ntmps47
  go_wp2_with (go_at_call 96; refine (tis_nil _).mono ?_; rintro e w' ⟨rfl, rfl⟩)
  go_ret
  exact ⟨rfl, rfl⟩
/-- What the k-th is asked for takes. -/
def busyAt (s : Sc) (k : Nat) : Int := s.busy.getD k 0
set_option maxHeartbeats 4000000 in
set_option maxRecDepth 100000 in
theorem busy_ok (k : Nat) (h : TelIs w N0 p mb (k : Int) work s) (hk : k ≤ 100000) (hl : s.busy.length ≤ 100000) :
    Calls Try.prog 49 #[.pointer (some ⟨p, 0, none⟩)] w fun e w' => e = .returned (.int .i64 (busyAt s k)) ∧ TelIs w' N0 p mb ((k + 1 : Nat) : Int) work s ∧ Mods w w' (fun q => q = p) := by
  have c2 := h.cell2
  have HI := Lib.hid (tis_ok p mb w c2)
  obtain ⟨A1, c1, A2, c2', A4, c4, h1, l1, _, _, f1, _, _⟩ := id h.blk
  have a4 := blk_cell h1 4
  have a0 := blk_cell h1 0
  have hbl := blk_put h1 4 (.int .i64 ((k : Int) + 1)) rfl
  have hM : Mods w (w.setCell ⟨p, 4, none⟩ (.int .i64 ((k : Int) + 1))) (fun q => q = p) := (Mods.refl w (fun q => q = p)).setCell (.inl rfl) _
  have hT : TelIs (w.setCell ⟨p, 4, none⟩ (.int .i64 ((k : Int) + 1))) N0 p mb ((k + 1 : Nat) : Int) work s := h.turn hM (fun cs hcs => by
    rw [h1] at hcs
    injection hcs with hcs
    injection hcs with hcs _ _
    rw [← hcs]
    exact hbl)
  have hF := Kd.F_now (F_keep3 f1 (fun q hq => hM.block q hq.lt (h.not3 q hq)))
  have b4 := blk_cell hbl 4
  have b0 := blk_cell hbl 0
  have HT := Lib.hid hT
  have HMM := Lib.hid hM
  have HB := Lib.hid hbl
  have z4 : w.frozen? ⟨p, 4, none⟩ = false := blk_frozen h1 4
  have hk1 : IntKind.i64.wrap ((k : Int) + 1) = (k : Int) + 1 := IntWalk.i64_in _ (by omega)
  have hkk : (k : Int) ≤ 100000 := by omega
  unfold busyAt
  obtain ⟨m, hm⟩ : ∃ m, m = s.busy.length := ⟨_, rfl⟩
  rw [← hm] at a0 hF b0 hl
  have HMq := Lib.hid hm
  clear h h1 hbl hM hT l1 f1 hm
  by_cases hkm : k < m
  · rw [HMq.out] at hF
    obtain ⟨b, off, rfl, _, hcell⟩ := row_of_C hF (by have := HMq.out; omega)
    have e0 := hcell k (by have := HMq.out; omega)
    generalize s.busy.getD k 0 = x at e0 ⊢
    have hk3 : (k : Int) + 1 - 1 = (k : Int) := by omega
    have hwk : IntKind.i64.wrap (k : Int) = (k : Int) := IntWalk.i64_in _ (by omega)
    have hkz : (0 : Int) ≤ (k : Int) := by omega
    have hk0 : (k : Int) < (m : Int) := by omega
    have hd : decide ((m : Int) < (k : Int) + 1) = false := decide_eq_false (by omega)
    clear hcell hF hkm hl
    go_enter Try.func49, Try.ntmps49
    go_wp2_with fail
    refine (HI.out).mono ?_
    rintro e w1 ⟨rfl, rfl⟩
    go_wp2_with fail
    go_region_held3 (fun w' => w'.cell? ⟨p, 4, none⟩ = some (.int .i64 ((k : Int) + 1)) ∧ w'.cell? ⟨p, 0, none⟩ = some (.slice (some ⟨b, off, none⟩) m c1)) (go_keep) (fail)
    all_goals
      go_wp2_with fail
      go_region_held3 (fun w' => w'.cell? ⟨p, 4, none⟩ = some (.int .i64 ((k : Int) + 1)) ∧ w'.cell? ⟨p, 0, none⟩ = some (.slice (some ⟨b, off, none⟩) m c1) ∧ w'.cell? ⟨b, off + k, none⟩ = some (.int .i64 x)) (go_keep) (fail)
      all_goals
        go_wp2_with fail
        go_ret
        exact ⟨rfl, HT.out.drewN 2, HMM.out.drewN 2⟩
  · have hx : s.busy.getD k 0 = 0 := by rw [List.getD_eq_getElem?_getD, List.getElem?_eq_none (by have := HMq.out; omega)]; rfl
    rw [hx]
    have hd : decide ((m : Int) < (k : Int) + 1) = true := decide_eq_true (by omega)
    clear hF hkm hl hx
    go_enter Try.func49, Try.ntmps49
    go_wp2_with fail
    refine (HI.out).mono ?_
    rintro e w1 ⟨rfl, rfl⟩
    go_wp2_with fail
    go_region_held3 (fun w' => w'.cell? ⟨p, 4, none⟩ = some (.int .i64 ((k : Int) + 1)) ∧ w'.cell? ⟨p, 0, none⟩ = some (.slice A1 m c1)) (go_keep) (fail)
    all_goals
      go_wp2_with fail
      go_ret
      exact ⟨rfl, HT.out.drewN 1, HMM.out.drewN 1⟩
end
theorem busy_nil (w : World) : Calls Try.prog 49 #[.pointer none] w fun e w' => e = .returned (.int .i64 0) ∧ w' = w := by
  go_enter Try.func49, Try.ntmps49
  go_wp2_with (go_at_call 96; refine (tis_nil _).mono ?_; rintro e w' ⟨rfl, rfl⟩)
  go_ret
  exact ⟨rfl, rfl⟩
def awS : Sc := ⟨[3, 1], [], [], -1, [], []⟩
theorem awRight : rightB awS = true := by decide
set_option maxHeartbeats 4000000 in
set_option maxRecDepth 100000 in
theorem tawake_ok (w : World) : Calls Try.prog 43 #[] w fun e w' => e = .returned (.bool true) ∧ Below w.heap.size w w' := by
  go_enter Try.func43, Try.ntmps43
  go_wp2_with fail
  refine (plain_ok _).mono ?_
  rintro e w1 ⟨rfl, hb1⟩
  have hal := alloc_below w1 (.cells #[.int .i64 3, .int .i64 1] 3)
  have hSc : ScR (w1.alloc (.cells #[.int .i64 3, .int .i64 1] 3)) awS ⟨some ⟨w1.heap.size, 0, none⟩, 2, 2, none, 0, 0, none, 0, 0, -1, none, 0, 0, none, 0, 0⟩ :=
    ⟨rfl, rfl, rfl, rfl, rfl, rfl, c_two (blk_new w1 _), Kd.C_nil _ _, Kd.C_nil _ _, Kd.C_nil _ _, Kd.C_nil _ _, Nat.le_refl _, Nat.le_refl _, Nat.le_refl _⟩
  have HN := Lib.hid (new_yes awS _ _ hSc (by unfold FewH; simp) awRight)
  have HB := Lib.hid (chainC (Nat.le_refl _) hb1 hal)
  clear hb1 hal hSc
  go_wp2_with fail
  refine (HN.out).mono ?_
  rintro e w2 ⟨⟨p, mb, rfl, ht⟩, hb2⟩
  have HB2 := Lib.hid (chainC (Nat.le_refl _) HB.out hb2)
  have HB1 := Lib.hid (busy_ok 0 ht (by omega) (by decide))
  have HLO : Hid (w.heap.size ≤ p) := Lib.hid (Nat.le_trans HB.out.size ht.lo)
  clear ht hb2 HN HB
  go_wp2_with fail
  refine (HB1.out).mono ?_
  rintro e w3 ⟨rfl, ht3, hm3⟩
  have HB3 := Lib.hid (hm3.toBelow HB2.out HB2.out.size (fun i e => by rw [e]; exact HLO.out))
  have HC3 := Lib.hid (busy_ok 1 ht3 (by omega) (by decide))
  clear ht3 hm3
  go_wp2_with fail
  refine (HC3.out).mono ?_
  rintro e w4 ⟨rfl, ht4, hm4⟩
  have HB4 := Lib.hid (hm4.toBelow HB3.out HB3.out.size (fun i e => by rw [e]; exact HLO.out))
  have HC4 := Lib.hid (busy_ok 2 ht4 (by omega) (by decide))
  clear ht4 hm4
  go_wp2_with fail
  refine (HC4.out).mono ?_
  rintro e w5 ⟨rfl, ht5, hm5⟩
  have HB5 := Lib.hid (hm5.toBelow HB4.out HB4.out.size (fun i e => by rw [e]; exact HLO.out))
  have HC5 := Lib.hid (busy_ok 3 ht5 (by omega) (by decide))
  clear ht5 hm5
  go_wp2_with fail
  refine (HC5.out).mono ?_
  rintro e w6 ⟨rfl, ht6, hm6⟩
  have HB6 := Lib.hid (hm6.toBelow HB5.out HB5.out.size (fun i e => by rw [e]; exact HLO.out))
  clear ht6 hm6
  go_wp2_with fail
  go_ret
  exact ⟨rfl, HB6.out⟩
end Go.Proofs.Ytnkgbnipcjgjeaa
