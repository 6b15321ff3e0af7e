import Derived.Test.YtfmogmgdpamfgaaJwe
import Derived.Laws.EntriesVeiled
namespace Go.Proofs.Ytfmogmgdpamfgaa.Jd
open Go.RowKit Go.Proofs.YtfmogmgdpamfgaaW.PrintWords Go.Proofs.YtfmogmgdpamfgaaW.PrintLast Go.Proofs.YtfmogmgdpamfgaaW.PrintMore
set_option linter.unusedVariables false
set_option linter.unusedSimpArgs false
section
variable {w : World} {p : Nat} {g : Ge} {t : Nat → Nat} {s : JS} {gb : Nat} {hl hr he hd : Value}
set_option maxHeartbeats 8000000 in
set_option maxRecDepth 100000 in
theorem step_ok (k b : Int) (hb1 : 0 ≤ b ∧ b ≤ 255) (hw : Wf g s) (h : JAt w p g t s gb hl hr he hd) : Calls Try.prog 16 #[.pointer (some ⟨p, 0, none⟩), .agg #[.int .i64 k, .int .u8 b]] w fun e w' => e = .returned (.bool (stepP g s k b).2) ∧ ∃ t', JG w' p g t' (stepP g s k b).1 gb ∧ Nxt w w' t t' := by
  have hnb : 0 < s.blocks.length := by rw [hw.sh.1]; have := hw.hg.2.1.1; omega
  have hab := alloc_below w (.cells #[.int .i64 k, .int .u8 b] 33)
  have hbk := blk_new w (.cells #[.int .i64 k, .int .u8 b] 33)
  have HJ0 := Lib.hid (h.below hab)
  have HX0 := Lib.hid (Nxt.of_below (t := t) hab)
  have HI := Lib.hid (is_ok (h.below hab) hnb)
  have HBX := Lib.hid hbk
  clear hab hbk h hnb
  go_enter Try.func16, Try.ntmps16
  go_upto_region 1 with fail
  generalize w.alloc (.cells #[.int .i64 k, .int .u8 b] 33) = w0 at HJ0 HX0 HBX HI ⊢
  generalize w.heap.size = bx at HBX ⊢
  have q0 : w0.cell? ⟨bx, 0, none⟩ = some (.int .i64 k) := blk_cell HBX.out 0
  have q1 : w0.cell? ⟨bx, 1, none⟩ = some (.int .u8 b) := blk_cell HBX.out 1
  obtain ⟨op, hop⟩ : ∃ op, op = s.op := ⟨_, rfl⟩
  have HOP := Lib.hid hop
  have c8 : w0.cell? ⟨p, 8, none⟩ = some (.int .i64 op) := by rw [HJ0.out.c8, hop]
  clear hop
  by_cases h10 : op = 10
  · have o1 := beq_t h10
    have HE : Hid (stepP g s k b = (s, false)) := Lib.hid (by unfold stepP; rw [if_pos (by rw [← HOP.out]; exact h10)])
    clear h10 hb1 hw
    go_wp2_with (go_at_call 57; refine (HI.out).mono ?_; rintro e w2 ⟨rfl, rfl⟩)
    all_goals
      go_ret
      exact ⟨by rw [HE.out]; rfl, _, ⟨_, _, _, _, by rw [HE.out]; exact HJ0.out⟩, HX0.out⟩
  · have o1 := beq_f h10
    have hst : stepP g s k b = (if (seeP g s k b).2 then ((seeP g s k b).1, true) else ({ (seeP g s k b).1 with op := 10 }, false)) := by unfold stepP; rw [if_neg (by rw [← HOP.out]; exact h10)]
    have HSEE := Lib.hid (see_ok k b hb1 hw HJ0.out)
    clear h10 hb1 hw
    generalize seeP g s k b = S at hst HSEE
    obtain ⟨S1, B⟩ := S
    cases B with
    | true =>
      have HE : Hid (stepP g s k b = (S1, true)) := Lib.hid hst
      clear hst
      go_wp2_with (first | (go_at_call 57; refine (HI.out).mono ?_; rintro e w2 ⟨rfl, rfl⟩) | (go_at_call 58; (refine (HSEE.out).mono ?_; rintro e w3 ⟨rfl, t3, hj3, hx3⟩; have HJ3 := Lib.hid hj3; have HX3 := Lib.hid (HX0.out.trans hx3); clear hj3 hx3)))
      all_goals
        go_ret
        exact ⟨by rw [HE.out]; rfl, _, by rw [HE.out]; exact HJ3.out, HX3.out⟩
    | false =>
      have HE : Hid (stepP g s k b = ({ S1 with op := 10 }, false)) := Lib.hid hst
      clear hst
      go_wp2_with (first | (go_at_call 57; refine (HI.out).mono ?_; rintro e w2 ⟨rfl, rfl⟩) | (go_at_call 58; (refine (HSEE.out).mono ?_; rintro e w3 ⟨rfl, t3, ⟨l3, r3, e3, d3, hj3⟩, hx3⟩; have HJ3 := Lib.hid (hj3.s8 10); have HX3 := Lib.hid ((HX0.out.trans hx3).trans (hj3.n [(8, .int .i64 10)])); have hz3 := hj3.z; have d8 := hj3.c8; clear hj3 hx3)))
      all_goals
        go_ret
        exact ⟨by rw [HE.out]; rfl, _, ⟨_, _, _, _, by rw [HE.out]; exact HJ3.out⟩, HX3.out⟩
set_option maxHeartbeats 2000000 in
set_option maxRecDepth 100000 in
theorem step_nil (k b : Int) (w : World) : Calls Try.prog 16 #[.pointer none, .agg #[.int .i64 k, .int .u8 b]] w fun e w' => e = .returned (.bool false) ∧ Below w.heap.size w w' := by
  have hab := alloc_below w (.cells #[.int .i64 k, .int .u8 b] 33)
  go_enter Try.func16, Try.ntmps16
  go_wp2_with (go_at_call 57; refine (is_nil _).mono ?_; rintro e w2 ⟨rfl, rfl⟩)
  go_ret
  exact ⟨rfl, hab⟩
set_option maxHeartbeats 2000000 in
set_option maxRecDepth 100000 in
theorem can_nil (row : Int) (w : World) : Calls Try.prog 18 #[.pointer none, .int .i64 row] w fun e w' => e = .returned (.bool false) ∧ w' = w := by
  go_enter Try.func18, Try.ntmps18
  go_wp2_with (go_at_call 57; refine (is_nil _).mono ?_; rintro e w2 ⟨rfl, rfl⟩)
  go_ret
  exact ⟨rfl, rfl⟩
end
/-! New. -/
theorem info91 : (Try.prog.info? 91).map (fun i => (i.zero, i.size, i.bytes)) = some (some (.agg #[.bool false, .int .i64 0, .slice none 0 0]), 3, 40) := by kernel_rfl
def z0 : Blk := ⟨false, 0, []⟩
def S0 (bs : List Blk) : JS := ⟨bs, 0, [], 0, false, false, false, 0, 0, false, [], [], []⟩
theorem make_blocks (m : Nat) (hm : m ≤ 100000) (W : World) : (Instr.makeSlice 87 (.int .i64 (m : Int)) (.int .i64 (m : Int))).run Try.prog W = .ok (.slice (some ⟨W.heap.size, 0, none⟩) m m) (W.alloc (.cells (madeCells #[.bool false, .int .i64 0, .slice none 0 0] (m * 3)) 91)) := by
  obtain ⟨i0, hi, hz⟩ := Option.map_eq_some_iff.1 info91
  simp only [Prod.mk.injEq] at hz
  have h := run_make (P := Try.prog) W 87 91 i0 (.agg #[.bool false, .int .i64 0, .slice none 0 0]) Try.underlying87 hi hz.1 .i64 .i64 (m : Int) (m : Int) (by omega) (by omega) (by rw [hz.2.2]; omega) (by omega)
  rw [hz.2.1] at h
  simp only [Int.toNat_natCast] at h
  exact h
theorem made3 (m i j : Nat) (hi : i < m) (hj : j < 3) : (madeCells #[.bool false, .int .i64 0, .slice none 0 0] (m * 3))[i * 3 + j]? = (#[Value.bool false, .int .i64 0, .slice none 0 0] : Array Value)[j]? := by
  unfold madeCells
  rw [Array.getElem?_map, Array.getElem?_range, if_pos (by omega)]
  have e : (i * 3 + j) % (#[Value.bool false, .int .i64 0, .slice none 0 0] : Array Value).size = j := by show (i * 3 + j) % 3 = j; omega
  simp only [Option.map_some, e]
  match j, hj with
  | 0, _ => rfl
  | 1, _ => rfl
  | 2, _ => rfl
theorem JAt.made (w : World) (g : Ge) (m : Nat) : JAt ((w.alloc (.cells (madeCells #[.bool false, .int .i64 0, .slice none 0 0] (m * 3)) 91)).alloc (.cells (cellsJ g (S0 (List.replicate m z0)) w.heap.size (.slice none 0 0) (.slice none 0 0) (.slice none 0 0) (.slice none 0 0)) 89)) (w.heap.size + 1) g (fun k => if k = w.heap.size then 2 else if k = w.heap.size + 1 then 1 else 0) (S0 (List.replicate m z0)) w.heap.size (.slice none 0 0) (.slice none 0 0) (.slice none 0 0) (.slice none 0 0) := by
  have hb1 := blk_new w (.cells (madeCells #[.bool false, .int .i64 0, .slice none 0 0] (m * 3)) 91)
  have hb2 := blk_new (w.alloc (.cells (madeCells #[.bool false, .int .i64 0, .slice none 0 0] (m * 3)) 91)) (.cells (cellsJ g (S0 (List.replicate m z0)) w.heap.size (.slice none 0 0) (.slice none 0 0) (.slice none 0 0) (.slice none 0 0)) 89)
  have hlt := Below.heap_alloc (w.alloc (.cells (madeCells #[.bool false, .int .i64 0, .slice none 0 0] (m * 3)) 91)) (.cells (cellsJ g (S0 (List.replicate m z0)) w.heap.size (.slice none 0 0) (.slice none 0 0) (.slice none 0 0) (.slice none 0 0)) 89) w.heap.size (by simp)
  simp only [World.size_alloc] at hb2
  refine ⟨hb2, by simp, fun k hk => ?_, fun c r hc => ?_, by show 5 ≤ 13; decide⟩
  · simp only [World.size_alloc]
    by_cases e : k = w.heap.size
    · omega
    · rw [if_neg e] at hk
      by_cases e2 : k = w.heap.size + 1
      · omega
      · rw [if_neg e2] at hk; exact absurd rfl hk
  · match c, hc with
    | 0, hc =>
      obtain rfl := Option.some.inj hc
      refine ⟨madeCells #[.bool false, .int .i64 0, .slice none 0 0] (m * 3), ⟨by simp [okC], by simp [subC]⟩, hlt.trans hb1, fun i b hb => ?_⟩
      have hb' : (List.replicate m z0)[i]? = some b := hb
      obtain ⟨hi, hb3⟩ := List.getElem?_eq_some_iff.1 hb'
      rw [List.length_replicate] at hi
      rw [List.getElem_replicate] at hb3
      subst hb3
      exact ⟨.slice none 0 0, made3 m i 0 hi (by decide), made3 m i 1 hi (by decide), made3 m i 2 hi (by decide), Kd.R_nil _ _ _ _ _⟩
    | 1, hc => obtain rfl := Option.some.inj hc; exact Kd.R_nil _ _ _ _ _
    | 2, hc => obtain rfl := Option.some.inj hc; exact Kd.R_nil _ _ _ _ _
    | 3, hc => obtain rfl := Option.some.inj hc; exact Kd.R_nil _ _ _ _ _
    | 4, hc => obtain rfl := Option.some.inj hc; exact Kd.R_nil _ _ _ _ _
    | n + 5, hc => simp [rowsJ] at hc
end Go.Proofs.Ytfmogmgdpamfgaa.Jd
