import Derived.Test.YtnkgbnipcjgjeaaBB
namespace Go.Proofs.Ytnkgbnipcjgjeaa
open Go.RowKit Go.Lib Go.Proofs.YtnkgbnipcjgjeaaW.PrintWords Go.Proofs.YtnkgbnipcjgjeaaW.PrintLast Go.Proofs.YtnkgbnipcjgjeaaW.PrintMore
set_option linter.unusedVariables false
theorem clone_ok (A : Option Addr) (c : Nat) (xs : List Int) (w : World) (hr : kB.C w A xs.length xs) (hc : xs.length ≤ c) (hl : xs.length ≤ 100000) :
    Calls Try.prog 95 #[.slice A xs.length c] w fun e w' => (∃ v, e = .returned v ∧ kB.R 5 w' w.heap.size (fun _ => True) v xs) ∧ Below w.heap.size w w' := by
  have HR := Lib.hid hr
  clear hr
  have hu52 := Try.underlying52
  have heq : ∀ (a : Option Addr) (n c : Nat) (W : World), (binOp .eql 52 (.slice a n c) (.slice none 0 0)).run Try.prog W = .ok (.bool a.isNone) W := fun a n c W => Lib.run_eql_slice_nil W 52 5 a n c 0 0 Try.underlying52
  cases A with
  | none =>
    have hx : xs = [] := by
      cases xs with
      | nil => rfl
      | cons x r => obtain ⟨ad, h, _⟩ := HR.out.2.2 (by simp); cases h
    subst hx
    go_enter Try.func95, Try.ntmps95
    go_wp2_with fail
    go_ret
    exact ⟨⟨_, rfl, Kd.R_nil _ _ _ _ _⟩, Below.refl _ _⟩
  | some ad =>
    go_enter Try.func95, Try.ntmps95
    have HO := Lib.hid (R_empty (Value.int .u8) (h1 := fun _ => rfl) 5 w (fun _ => True) (fun _ _ => trivial))
    have HB := Lib.hid ((Below.refl w.heap.size w).alloc (Nat.le_refl _) (.cells #[] 5))
    have HC := Lib.hid (Kd.C_alloc HR.out (.cells #[] 5))
    have HS : Hid (w.heap.size ≤ (w.alloc (.cells #[] 5)).heap.size) := Lib.hid (by simp)
    have HZ : Hid ((([] : List Int).length + xs.length) * 1 ≤ 140737488355328) := Lib.hid (by simp; omega)
    clear hl
    go_wp2_with (at_builtin; refine Kd.R_append_row (Value.int .u8) (0 : Int) (h1 := fun _ => rfl) (w0 := w) w.heap.size rfl (.tmp 5) (.tmp 6) 52 5 (.int .u8 0) 1 rfl Try.underlying52 info5 rfl (by decide) _ [] xs (some ad) xs.length c (fun _ => True) rfl rfl (fun _ _ => trivial) HO.out HC.out HB.out HS.out HZ.out ?_; intro v3 w3 hR3 hb3 hg3 hat3; have HO3 := Lib.hid hR3; have HB3 := Lib.hid hb3; obtain ⟨A3, c3, rfl⟩ := Kd.R_slice hR3; clear hR3 hb3 hg3 hat3)
    go_ret
    exact ⟨⟨_, rfl, HO3.out⟩, HB3.out⟩
theorem chainC' {a w w1 : World} (h : Below a.heap.size a w) (k : Below w.heap.size w w1) : Below a.heap.size a w1 := chainC (Nat.le_refl _) h k
theorem results_c {fn : Func} {p : Tmp} {ty : TypeId} (h : fn.results = #[.cell p ty]) (tmps : Array Value) (w : World) (g : Nat) (t : TypeId) (cs : Array Value) (fr : Nat × Nat) {fs : Array Field}
    (hp : tmps.getD p undef = .pointer (some ⟨g, 0, none⟩)) (hg : w.heap[g]? = some (.cells cs t fr))
    (hu : Try.prog.underlying ty = some (.struct fs)) (hi : (Try.prog.info? ty).map (·.size) = some cs.size) :
    (results fn tmps).run Try.prog w = .ok (.agg cs) w := by
  have hp' : tmps[p]?.getD undef = .pointer (some ⟨g, 0, none⟩) := by simpa using hp
  simp [results, h, hp', asAddr, run_loadVar_row w g t ty cs fr _ hg hu rfl hi]
theorem size54 : (Try.prog.info? 54).map (·.size) = some 3 := by kernel_rfl
theorem blkF {w : World} {g t : Nat} {cs : Array Value} (h : w.heap[g]? = some (.cells cs t (0, 0))) : (∀ o, w.cell? ⟨g, o, none⟩ = cs[o]?) ∧ (∀ o, w.frozen? ⟨g, o, none⟩ = false) ∧ g < w.heap.size := ⟨blk_cell h, blk_frozen h, blk_lt h⟩
theorem box1 {w w1 : World} {A : Array Value} {TA : TypeId} (hb : Below (w.alloc (.cells A TA)).heap.size (w.alloc (.cells A TA)) w1) : w1.heap[w.heap.size]? = some (.cells A TA (0, 0)) :=
  (hb.block w.heap.size (by simp)).trans (blk_new w _)
theorem box2 {w w1 : World} {A B : Array Value} {TA TB : TypeId} (hb : Below ((w.alloc (.cells A TA)).alloc (.cells B TB)).heap.size ((w.alloc (.cells A TA)).alloc (.cells B TB)) w1) : w1.heap[w.heap.size]? = some (.cells A TA (0, 0)) ∧ w1.heap[w.heap.size + 1]? = some (.cells B TB (0, 0)) := by
  refine ⟨(hb.block w.heap.size (by simp; omega)).trans ((Below.heap_alloc _ _ w.heap.size (by simp)).trans (blk_new w _)), (hb.block (w.heap.size + 1) (by simp)).trans ?_⟩
  have := blk_new (w.alloc (.cells A TA)) (.cells B TB)
  simpa using this
set_option maxHeartbeats 2000000 in
/-- An entry with bytes of its own. -/
theorem bcopied_ok (w : World) (N0 : Nat) (hN : N0 ≤ w.heap.size) (s k : Int) (h : Hdr) (xs : List Int) (hd : DatF w N0 h xs) (hl : xs.length ≤ 100000) :
    Calls Try.prog 90 #[.agg #[.int .i64 s, .int .i64 k, .slice h.1 h.2.1 h.2.2]] w fun e w' => (∃ h', e = .returned (.agg #[.int .i64 s, .int .i64 k, .slice h'.1 h'.2.1 h'.2.2]) ∧ DatF w' N0 h' xs) ∧ Below w.heap.size w w' := by
  obtain ⟨A, n, c⟩ := h
  obtain ⟨hn, hc, hF⟩ := hd
  have hn' : n = xs.length := hn
  subst hn'
  have HCL := Lib.hid (fun W (hb : Below w.heap.size w W) => clone_ok A c xs W (Kd.C_below (Kd.F_now hF) hb) hc hl)
  clear hF hc hl hn
  go_enter Try.func90, Try.ntmps90
  go_wp2_with fail
  refine (HCL.out _ (((Below.refl _ _).alloc (Nat.le_refl _) _).alloc (by simp) _)).mono ?_
  rintro e w1 ⟨⟨v, rfl, hv⟩, hb⟩
  obtain ⟨A1, c1, rfl⟩ := Kd.R_slice hv
  have HD := Lib.hid (DatF.own (N0 := N0) hv)
  have HB := Lib.hid hb
  obtain ⟨k1, k2⟩ := box2 hb
  have HK1 := Lib.hid k1
  have HK2 := Lib.hid k2
  obtain ⟨c1a, c1b, _⟩ := blkF k1
  obtain ⟨c2a, c2b, _⟩ := blkF k2
  clear k1 k2
  clear hv hb
  go_wp2_with fail
  have hM : Mods w1 ((((w1.setCell ⟨w.heap.size, 2, none⟩ (.slice A1 xs.length c1)).setCell ⟨w.heap.size + 1, 0, none⟩ (.int .i64 s)).setCell ⟨w.heap.size + 1, 1, none⟩ (.int .i64 k)).setCell ⟨w.heap.size + 1, 2, none⟩ (.slice A1 xs.length c1)) (fun i => i = w.heap.size ∨ i = w.heap.size + 1) :=
    ((((Mods.refl w1 _).setCell (.inl (.inl rfl)) _).setCell (.inl (.inr rfl)) _).setCell (.inl (.inr rfl)) _).setCell (.inl (.inr rfl)) _
  have hfin := blk_put (blk_put (blk_put (blk_far HK2.out (p := ⟨w.heap.size, 2, none⟩) (by simp) (.slice A1 xs.length c1)) 0 (.int .i64 s) rfl) 1 (.int .i64 k) rfl) 2 (.slice A1 xs.length c1) rfl
  have hbw : Below w.heap.size w w1 := (((Below.refl _ _).alloc (Nat.le_refl _) _).alloc (by simp) _).trans (HB.out.mono (by simp; omega))
  refine bodyPost_ret (results_c Try.results90 _ _ (w.heap.size + 1) 54 _ (0, 0) rfl hfin Try.underlying54 size54) rfl ⟨⟨(A1, xs.length, c1), rfl, HD.out.move (Bt.mods (Nat.le_trans hN hbw.size) hM ?_)⟩, hM.toBelow hbw hbw.size ?_⟩
  · rintro i hi (hlt | ⟨cs, fr, hc⟩)
    · rcases hi with rfl | rfl <;> omega
    · rcases hi with rfl | rfl
      · rw [HK1.out] at hc; injection hc with hc; injection hc with _ h2 _; cases h2
      · rw [HK2.out] at hc; injection hc with hc; injection hc with _ h2 _; cases h2
  · rintro i (rfl | rfl) <;> omega
end Go.Proofs.Ytnkgbnipcjgjeaa
