import Derived.Test.YtkcpohplgdndkaaBoundQ
namespace Go.Proofs.Ytkcpohplgdndkaa
open Go.RowKit Go.Proofs.Ytkcpohplgdndkaa.QB Go.Proofs.YtkcpohplgdndkaaW.PrintWords
set_option linter.unusedVariables false
theorem okay_of {pl bl pg cs ck rg pt sec spr thr b buf : Int} (h : Valid pl bl pg cs ck rg pt sec spr thr b buf) : Okay pl bl pg rg b buf (cs * (ck + 2) + 31) := by
  obtain ⟨⟨⟨a1, a2⟩, ⟨b1, b2⟩, ⟨c1, c2⟩, ⟨d1, d2⟩, ⟨e1, e2⟩, ⟨f1, f2⟩, ⟨g1, g2⟩, h1, h2⟩, ⟨x1, x2⟩, ⟨y1, y2⟩⟩ := valid_facts h
  have m := mul_le2 (x := cs) (X := 16) (y := ck + 2) (Y := 514) (by omega) d2 (by omega) (by omega)
  constructor <;> omega
theorem raw_some (pl bl pg cs ck rg pt : Int) : ∃ r, geom_Raw.f pl bl pg cs ck rg pt = some r ∧ (Right pl bl pg cs ck rg pt → r = (cs * (ck + 2) + 31)) := by
  unfold geom_Raw.f
  rw [check_f]
  simp only [Option.bind_some]
  by_cases h : Right pl bl pg cs ck rg pt
  · rw [if_pos h, if_pos rfl]
    refine ⟨_, rfl, fun _ => ?_⟩
    obtain ⟨⟨a1, a2⟩, ⟨b1, b2⟩, ⟨c1, c2⟩, ⟨d1, d2⟩, ⟨e1, e2⟩, _⟩ := h
    have m := mul_le2 (x := cs) (X := 16) (y := ck + 2) (Y := 514) (by omega) d2 (by omega) (by omega)
    rw [QG.w64 (ck + 2) (by omega) (by omega), QG.w64 (cs * (ck + 2)) (by omega) (by omega), QG.w64 (cs * (ck + 2) + 28) (by omega) (by omega), QG.w64 (cs * (ck + 2) + 28 + 2) (by omega) (by omega), QG.w64 _ (by omega) (by omega)]
    omega
  · rw [if_neg h, if_neg (by decide)]; exact ⟨_, rfl, fun h' => absurd h' h⟩
theorem of_ok {pl bl pg cs ck rg pt sec spr thr b buf : Int} (h : Valid pl bl pg cs ck rg pt sec spr thr b buf) : bound_of.f pl bl pg cs ck rg pt sec spr thr b buf = some (pl, bl, pg, cs, ck, rg, pt, sec, spr, thr, b, buf, (cs * (ck + 2) + 31), true) := by
  obtain ⟨r, hr, hr2⟩ := raw_some pl bl pg cs ck rg pt
  unfold bound_of.f
  rw [hr, h, hr2 (valid_facts h).1]
  rfl
theorem of_no {pl bl pg cs ck rg pt sec spr thr b buf : Int} (h : ¬ Valid pl bl pg cs ck rg pt sec spr thr b buf) : ∃ r, bound_of.f pl bl pg cs ck rg pt sec spr thr b buf = some (pl, bl, pg, cs, ck, rg, pt, sec, spr, thr, b, buf, r, false) := by
  obtain ⟨r, hr, hr2⟩ := raw_some pl bl pg cs ck rg pt
  unfold bound_of.f
  rw [hr, not_valid h]
  exact ⟨r, rfl⟩
theorem scheck_ok {pl bl pg cs ck rg pt sec spr thr b buf : Int} (h : Valid pl bl pg cs ck rg pt sec spr thr b buf) (w : World) : Calls Try.prog 71 #[.agg #[.int .i64 pl, .int .i64 bl, .int .i64 pg, .int .i64 cs, .int .i64 ck, .int .i64 rg, .int .i64 pt, .int .i64 sec, .int .i64 spr, .int .i64 thr, .int .i64 b, .int .i64 buf]] w fun e w' => e = .returned (.int .i64 0) ∧ Below w.heap.size w w' := store_Check.calls _ _ _ _ _ _ _ _ _ _ _ _ 0 w h
theorem scheck_no {pl bl pg cs ck rg pt sec spr thr b buf : Int} (h : ¬ Valid pl bl pg cs ck rg pt sec spr thr b buf) (w : World) : Calls Try.prog 71 #[.agg #[.int .i64 pl, .int .i64 bl, .int .i64 pg, .int .i64 cs, .int .i64 ck, .int .i64 rg, .int .i64 pt, .int .i64 sec, .int .i64 spr, .int .i64 thr, .int .i64 b, .int .i64 buf]] w fun e w' => e = .returned (.int .i64 2) ∧ Below w.heap.size w w' := store_Check.calls _ _ _ _ _ _ _ _ _ _ _ _ 2 w (not_valid h)

theorem bReset_ok {pl bl pg cs ck rg pt sec spr thr b buf x : Int} (h : Valid pl bl pg cs ck rg pt sec spr thr b buf) (hx : Hid (x = b + 2)) (w : World) : Calls Try.prog 66 #[.agg #[.int .i64 pl, .int .i64 bl, .int .i64 pg, .int .i64 cs, .int .i64 ck, .int .i64 rg, .int .i64 pt, .int .i64 sec, .int .i64 spr, .int .i64 thr, .int .i64 b, .int .i64 buf]] w fun e w' => e = .returned (.int .i64 x) ∧ Below w.heap.size w w' := by
  refine bound_Reset.calls _ _ _ _ _ _ _ _ _ _ _ _ _ w ?_
  unfold bound_Reset.f
  rw [of_ok h, hx.out]
  simp only [Option.bind_some, if_true]
  unfold bound_sizes_reset.f
  have q := okay_of h
  rw [QG.w64 _ (by have := q.b1; omega) (by have := q.b2; omega)]
theorem bReset_no {pl bl pg cs ck rg pt sec spr thr b buf : Int} (h : ¬ Valid pl bl pg cs ck rg pt sec spr thr b buf) (w : World) : Calls Try.prog 66 #[.agg #[.int .i64 pl, .int .i64 bl, .int .i64 pg, .int .i64 cs, .int .i64 ck, .int .i64 rg, .int .i64 pt, .int .i64 sec, .int .i64 spr, .int .i64 thr, .int .i64 b, .int .i64 buf]] w fun e w' => e = .returned (.int .i64 0) ∧ Below w.heap.size w w' := by
  refine bound_Reset.calls _ _ _ _ _ _ _ _ _ _ _ _ _ w ?_
  obtain ⟨r, hr⟩ := of_no h
  unfold bound_Reset.f
  rw [hr]
  simp only [Option.bind_some]
  exact if_neg Bool.false_ne_true
theorem bRead_ok {pl bl pg cs ck rg pt sec spr thr b buf x : Int} (h : Valid pl bl pg cs ck rg pt sec spr thr b buf) (hx : Hid (x = rdv rg b (cs * (ck + 2) + 31))) (w : World) : Calls Try.prog 67 #[.agg #[.int .i64 pl, .int .i64 bl, .int .i64 pg, .int .i64 cs, .int .i64 ck, .int .i64 rg, .int .i64 pt, .int .i64 sec, .int .i64 spr, .int .i64 thr, .int .i64 b, .int .i64 buf]] w fun e w' => e = .returned (.int .i64 x) ∧ Below w.heap.size w w' := by
  refine bound_Read.calls 10 _ _ _ _ _ _ _ _ _ _ _ _ _ w ?_
  unfold bound_Read.f
  rw [of_ok h, hx.out]
  simp only [Option.bind_some, if_true]
  exact read_f (okay_of h) 10 (by omega)
theorem bRead_no {pl bl pg cs ck rg pt sec spr thr b buf : Int} (h : ¬ Valid pl bl pg cs ck rg pt sec spr thr b buf) (w : World) : Calls Try.prog 67 #[.agg #[.int .i64 pl, .int .i64 bl, .int .i64 pg, .int .i64 cs, .int .i64 ck, .int .i64 rg, .int .i64 pt, .int .i64 sec, .int .i64 spr, .int .i64 thr, .int .i64 b, .int .i64 buf]] w fun e w' => e = .returned (.int .i64 0) ∧ Below w.heap.size w w' := by
  refine bound_Read.calls 10 _ _ _ _ _ _ _ _ _ _ _ _ _ w ?_
  obtain ⟨r, hr⟩ := of_no h
  unfold bound_Read.f
  rw [hr]
  simp only [Option.bind_some]
  exact if_neg Bool.false_ne_true
theorem bPut_ok {pl bl pg cs ck rg pt sec spr thr b buf x : Int} (h : Valid pl bl pg cs ck rg pt sec spr thr b buf) (hx : Hid (x = ptv pl bl b (cs * (ck + 2) + 31))) (w : World) : Calls Try.prog 68 #[.agg #[.int .i64 pl, .int .i64 bl, .int .i64 pg, .int .i64 cs, .int .i64 ck, .int .i64 rg, .int .i64 pt, .int .i64 sec, .int .i64 spr, .int .i64 thr, .int .i64 b, .int .i64 buf]] w fun e w' => e = .returned (.int .i64 x) ∧ Below w.heap.size w w' := by
  refine bound_Put.calls 10 _ _ _ _ _ _ _ _ _ _ _ _ _ w ?_
  unfold bound_Put.f
  rw [of_ok h, hx.out]
  simp only [Option.bind_some, if_true]
  exact put_f (okay_of h) 10 (by omega)
theorem bPut_no {pl bl pg cs ck rg pt sec spr thr b buf : Int} (h : ¬ Valid pl bl pg cs ck rg pt sec spr thr b buf) (w : World) : Calls Try.prog 68 #[.agg #[.int .i64 pl, .int .i64 bl, .int .i64 pg, .int .i64 cs, .int .i64 ck, .int .i64 rg, .int .i64 pt, .int .i64 sec, .int .i64 spr, .int .i64 thr, .int .i64 b, .int .i64 buf]] w fun e w' => e = .returned (.int .i64 0) ∧ Below w.heap.size w w' := by
  refine bound_Put.calls 10 _ _ _ _ _ _ _ _ _ _ _ _ _ w ?_
  obtain ⟨r, hr⟩ := of_no h
  unfold bound_Put.f
  rw [hr]
  simp only [Option.bind_some]
  exact if_neg Bool.false_ne_true
theorem bDrain_ok {pl bl pg cs ck rg pt sec spr thr b buf x : Int} (h : Valid pl bl pg cs ck rg pt sec spr thr b buf) (hx : Hid (x = drv pl bl pg rg b (cs * (ck + 2) + 31))) (w : World) : Calls Try.prog 69 #[.agg #[.int .i64 pl, .int .i64 bl, .int .i64 pg, .int .i64 cs, .int .i64 ck, .int .i64 rg, .int .i64 pt, .int .i64 sec, .int .i64 spr, .int .i64 thr, .int .i64 b, .int .i64 buf]] w fun e w' => e = .returned (.int .i64 x) ∧ Below w.heap.size w w' := by
  refine bound_Drain.calls 10 _ _ _ _ _ _ _ _ _ _ _ _ _ w ?_
  unfold bound_Drain.f
  rw [of_ok h, hx.out]
  simp only [Option.bind_some, if_true]
  exact drain_f h (okay_of h) 10 (by omega)
theorem bDrain_no {pl bl pg cs ck rg pt sec spr thr b buf : Int} (h : ¬ Valid pl bl pg cs ck rg pt sec spr thr b buf) (w : World) : Calls Try.prog 69 #[.agg #[.int .i64 pl, .int .i64 bl, .int .i64 pg, .int .i64 cs, .int .i64 ck, .int .i64 rg, .int .i64 pt, .int .i64 sec, .int .i64 spr, .int .i64 thr, .int .i64 b, .int .i64 buf]] w fun e w' => e = .returned (.int .i64 0) ∧ Below w.heap.size w w' := by
  refine bound_Drain.calls 10 _ _ _ _ _ _ _ _ _ _ _ _ _ w ?_
  obtain ⟨r, hr⟩ := of_no h
  unfold bound_Drain.f
  rw [hr]
  simp only [Option.bind_some]
  exact if_neg Bool.false_ne_true
theorem bMount_ok {pl bl pg cs ck rg pt sec spr thr b buf x : Int} (h : Valid pl bl pg cs ck rg pt sec spr thr b buf) (hx : Hid (x = mtv pl bl pg rg b (cs * (ck + 2) + 31))) (w : World) : Calls Try.prog 70 #[.agg #[.int .i64 pl, .int .i64 bl, .int .i64 pg, .int .i64 cs, .int .i64 ck, .int .i64 rg, .int .i64 pt, .int .i64 sec, .int .i64 spr, .int .i64 thr, .int .i64 b, .int .i64 buf]] w fun e w' => e = .returned (.int .i64 x) ∧ Below w.heap.size w w' := by
  refine bound_Mount.calls 10 _ _ _ _ _ _ _ _ _ _ _ _ _ w ?_
  unfold bound_Mount.f
  rw [of_ok h, hx.out]
  simp only [Option.bind_some, if_true]
  exact mount_f (okay_of h) 10 (by omega)
theorem bMount_no {pl bl pg cs ck rg pt sec spr thr b buf : Int} (h : ¬ Valid pl bl pg cs ck rg pt sec spr thr b buf) (w : World) : Calls Try.prog 70 #[.agg #[.int .i64 pl, .int .i64 bl, .int .i64 pg, .int .i64 cs, .int .i64 ck, .int .i64 rg, .int .i64 pt, .int .i64 sec, .int .i64 spr, .int .i64 thr, .int .i64 b, .int .i64 buf]] w fun e w' => e = .returned (.int .i64 0) ∧ Below w.heap.size w w' := by
  refine bound_Mount.calls 10 _ _ _ _ _ _ _ _ _ _ _ _ _ w ?_
  obtain ⟨r, hr⟩ := of_no h
  unfold bound_Mount.f
  rw [hr]
  simp only [Option.bind_some]
  exact if_neg Bool.false_ne_true
theorem bOrder_ok {pl bl pg cs ck rg pt sec spr thr b buf x n : Int} (h : Valid pl bl pg cs ck rg pt sec spr thr b buf) (h0 : 0 ≤ n) (h1 : n ≤ 16777216) (hx : Hid (x = ord b n)) (w : World) : Calls Try.prog 72 #[.agg #[.int .i64 pl, .int .i64 bl, .int .i64 pg, .int .i64 cs, .int .i64 ck, .int .i64 rg, .int .i64 pt, .int .i64 sec, .int .i64 spr, .int .i64 thr, .int .i64 b, .int .i64 buf], .int .i64 n] w fun e w' => e = .returned (.int .i64 x) ∧ Below w.heap.size w w' := by
  refine bound_Order.calls 10 _ _ _ _ _ _ _ _ _ _ _ _ n _ w ?_
  unfold bound_Order.f
  rw [if_neg (by omega), if_neg (by omega), of_ok h, hx.out]
  simp only [Option.bind_some, if_true]
  exact order_f 10 (by omega) (okay_of h).b1 (okay_of h).b2 h0 h1
theorem bOrder_out {pl bl pg cs ck rg pt sec spr thr b buf n : Int} (h : n < 0 ∨ 16777216 < n) (w : World) : Calls Try.prog 72 #[.agg #[.int .i64 pl, .int .i64 bl, .int .i64 pg, .int .i64 cs, .int .i64 ck, .int .i64 rg, .int .i64 pt, .int .i64 sec, .int .i64 spr, .int .i64 thr, .int .i64 b, .int .i64 buf], .int .i64 n] w fun e w' => e = .returned (.int .i64 0) ∧ Below w.heap.size w w' := by
  refine bound_Order.calls 10 _ _ _ _ _ _ _ _ _ _ _ _ n _ w ?_
  unfold bound_Order.f
  by_cases c : n < 0
  · rw [if_pos c]
  · rw [if_neg c, if_pos (by omega)]
theorem bOrder_no {pl bl pg cs ck rg pt sec spr thr b buf n : Int} (h : ¬ Valid pl bl pg cs ck rg pt sec spr thr b buf) (w : World) : Calls Try.prog 72 #[.agg #[.int .i64 pl, .int .i64 bl, .int .i64 pg, .int .i64 cs, .int .i64 ck, .int .i64 rg, .int .i64 pt, .int .i64 sec, .int .i64 spr, .int .i64 thr, .int .i64 b, .int .i64 buf], .int .i64 n] w fun e w' => e = .returned (.int .i64 0) ∧ Below w.heap.size w w' := by
  refine bound_Order.calls 10 _ _ _ _ _ _ _ _ _ _ _ _ n _ w ?_
  obtain ⟨r, hr⟩ := of_no h
  unfold bound_Order.f
  rw [hr]
  simp only [Option.bind_some]
  by_cases c : n < 0
  · rw [if_pos c]
  · by_cases c2 : n > 16777216
    · rw [if_neg c, if_pos c2]
    · rw [if_neg c, if_neg c2]; exact if_neg Bool.false_ne_true
def opv (kind buf R D : Int) : Int := if kind = 1 ∨ kind = 2 then D else if kind = 3 then R else if kind = 4 then buf * D else 0

end Go.Proofs.Ytkcpohplgdndkaa
