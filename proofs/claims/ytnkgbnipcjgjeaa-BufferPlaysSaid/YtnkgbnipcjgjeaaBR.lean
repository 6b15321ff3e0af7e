import Derived.Test.YtnkgbnipcjgjeaaBQ
namespace Go.Proofs.Ytnkgbnipcjgjeaa
open Go.RowKit Go.Lib Go.Proofs.YtnkgbnipcjgjeaaW.PrintWords Go.Proofs.YtnkgbnipcjgjeaaW.PrintLast Go.Proofs.YtnkgbnipcjgjeaaW.PrintMore
set_option linter.unusedVariables false
/-- The first of numbers; 0: there is none. -/
theorem first_ok (w : World) (A : Option Addr) (c : Nat) (xs : List Int) (hC : Kd.C (Kd.int .i64) w A xs.length xs) :
    Calls Try.prog 38 #[.slice A xs.length c] w fun e w' => e = .returned (.int .i64 (xs.getD 0 0)) ∧ w' = w := by
  by_cases hp : 0 < xs.length
  · obtain ⟨b, o, rfl, _, hcell⟩ := row_of_C hC hp
    have e0 := hcell 0 hp
    rw [Nat.add_zero] at e0
    have hb : ((xs.length : Int) == 0) = false := by rw [beq_eq_false_iff_ne]; omega
    have hp0 : (0 : Int) < (xs.length : Int) := by omega
    generalize xs.getD 0 0 = x at e0 ⊢
    generalize xs.length = n at hb hp hp0 ⊢
    clear hC hcell
    go_enter Try.func38, Try.ntmps38
    go_wp2_with fail
    go_ret
    exact ⟨rfl, rfl⟩
  · have : xs = [] := List.length_eq_zero_iff.1 (by omega)
    subst this
    clear hC hp
    go_enter Try.func38, Try.ntmps38
    go_wp2_with fail
    go_ret
    exact ⟨rfl, rfl⟩
section
variable {w : World} {N0 g : Nat} {v : Value} {es : List Ent} {most size : Nat}
set_option maxHeartbeats 4000000 in
set_option maxRecDepth 100000 in
theorem bget_no (h : BufIs w N0 g v es most size) (s : Int) (hp : plc s es 0 < 0) :
    Calls Try.prog 37 #[.pointer (some ⟨g, 0, none⟩), .int .i64 s] w fun e w' => e = .returned (.tuple #[.agg #[.int .i64 0, .int .i64 0, .slice none 0 0], .bool false]) ∧ Below w.heap.size w w' := by
  have hb1 := alloc_below w (.cells #[.int .i64 0, .int .i64 0, .slice none 0 0] 54)
  have HPL := Lib.hid (bplace_ok (h.below hb1) s)
  have HB := Lib.hid hb1
  generalize plc s es 0 = P at hp HPL
  clear h hb1
  go_enter Try.func37, Try.ntmps37
  go_wp2_with (go_at_call 89; refine (HPL.out).mono ?_; rintro e w2 ⟨rfl, hb2⟩; have k1 := box1 hb2; obtain ⟨c1a, c1b, _⟩ := blkF k1; have HK := Lib.hid k1; have HB2 := Lib.hid (chainC' HB.out hb2); clear hb2 k1)
  have hM : Mods w2 (((w2.setCell ⟨w.heap.size, 0, none⟩ (.int .i64 0)).setCell ⟨w.heap.size, 1, none⟩ (.int .i64 0)).setCell ⟨w.heap.size, 2, none⟩ (.slice none 0 0)) (fun i => i = w.heap.size) :=
    (((Mods.refl w2 (fun i => i = w.heap.size)).setCell (.inl rfl) _).setCell (.inl rfl) _).setCell (.inl rfl) _
  have hfin := blk_put (blk_put (blk_put HK.out 0 (.int .i64 0) rfl) 1 (.int .i64 0) rfl) 2 (.slice none 0 0) rfl
  exact bodyPost_ret (results_ct Try.results37 _ _ w.heap.size 54 _ (0, 0) _ rfl hfin Try.underlying54 rfl size54) rfl ⟨rfl, hM.toBelow HB2.out HB2.out.size (fun i e => by rw [e]; exact Nat.le_refl _)⟩
set_option maxHeartbeats 4000000 in
set_option maxRecDepth 100000 in
theorem bget_yes (h : BufIs w N0 g v es most size) (s : Int) (P : Nat) (hp : plc s es 0 = (P : Int)) (hP : P < es.length) (hl : ∀ e ∈ es, e.2.2.length ≤ 100000) :
    Calls Try.prog 37 #[.pointer (some ⟨g, 0, none⟩), .int .i64 s] w fun e w' => (∃ h', e = .returned (.tuple #[.agg #[.int .i64 es[P].1, .int .i64 es[P].2.1, .slice h'.1 h'.2.1 h'.2.2], .bool true]) ∧ DatF w' N0 h' es[P].2.2) ∧ Below w.heap.size w w' := by
  have hb1 := alloc_below w (.cells #[.int .i64 0, .int .i64 0, .slice none 0 0] 54)
  have hpl := bplace_ok (h.below hb1) s
  rw [hp] at hpl
  have HPL := Lib.hid hpl
  have HB := Lib.hid hb1
  have HH := Lib.hid (h.below hb1)
  have HN := Lib.hid h.hN
  have hesl : es.length ≤ 1024 := by have := h.fit; have := h.small; omega
  have HHL := Lib.hid (hl _ (List.getElem_mem hP))
  obtain ⟨b, cb, rfl⟩ := h.head (by omega)
  obtain ⟨m, hm⟩ : ∃ m, m = es.length := ⟨_, rfl⟩
  rw [← hm] at HH hesl
  have hPm : (P : Int) < (m : Int) := by omega
  have hm5 : (m : Int) ≤ 1024 := by omega
  have HM := Lib.hid hm
  clear h hb1 hp hl hpl hm
  go_enter Try.func37, Try.ntmps37
  go_upto_region 4 with (go_at_call 89; refine (HPL.out).mono ?_; rintro e w2 ⟨rfl, hb2⟩; have k1 := box1 hb2; have HK := Lib.hid k1; have HB2 := Lib.hid (chainC' HB.out hb2); have HH2 := Lib.hid (HH.out.below hb2); clear hb2 k1)
  have c0 := HH2.out.c0
  obtain ⟨A', c', hs', he', _, _, hC', hE'⟩ := HH2.out.form
  injection he' with he1 he4 he5
  clear he4 he5
  subst he1
  obtain ⟨b', off, x, hA, e0, e1, e2, hdx⟩ := erow_at hC' hE' hP
  injection hA with hA
  injection hA with hA1 hA2 _
  subst hA1 hA2
  rw [Nat.zero_add] at e0 e1 e2
  have HCP := Lib.hid (bcopied_ok w2 N0 HH2.out.hN es[P].1 es[P].2.1 x es[P].2.2 hdx HHL.out)
  obtain ⟨⟨s1, k1, d1⟩, hen⟩ : ∃ en, es[P] = en := ⟨_, rfl⟩
  rw [hen] at e0 e1 HCP
  have HEN := Lib.hid hen
  obtain ⟨xA, xn, xc⟩ := x
  clear hC' hE' hdx hen
  go_wp2_with (go_at_call 90; refine (HCP.out).mono ?_; rintro e w3 ⟨⟨h', rfl, hd'⟩, hb3⟩; obtain ⟨hA, hn', hc'⟩ := h'; have k3 := (hb3.block _ (blk_lt HK.out)).trans HK.out; obtain ⟨c3a, c3b, _⟩ := blkF k3; have HK3 := Lib.hid k3; have HD3 := Lib.hid hd'; have HB3 := Lib.hid (chainC' HB2.out hb3); clear hd' hb3 k3)
  have hM : Mods w3 (((w3.setCell ⟨w.heap.size, 0, none⟩ (.int .i64 s1)).setCell ⟨w.heap.size, 1, none⟩ (.int .i64 k1)).setCell ⟨w.heap.size, 2, none⟩ (.slice hA hn' hc')) (fun i => i = w.heap.size) :=
    (((Mods.refl w3 (fun i => i = w.heap.size)).setCell (.inl rfl) _).setCell (.inl rfl) _).setCell (.inl rfl) _
  have hfin := blk_put (blk_put (blk_put HK3.out 0 (.int .i64 s1) rfl) 1 (.int .i64 k1) rfl) 2 (.slice hA hn' hc') rfl
  rw [HEN.out]
  refine bodyPost_ret (results_ct Try.results37 _ _ w.heap.size 54 _ (0, 0) _ rfl hfin Try.underlying54 rfl size54) rfl ⟨⟨(hA, hn', hc'), rfl, HD3.out.move (Bt.mods (Nat.le_trans HN.out HB3.out.size) hM ?_)⟩, hM.toBelow HB3.out HB3.out.size (fun i e => by rw [e]; exact Nat.le_refl _)⟩
  rintro i rfl (hlt | ⟨cs, fr, hc⟩)
  · have := HN.out; omega
  · rw [HK3.out] at hc; injection hc with hc; injection hc with _ h2 _; cases h2
end
theorem plc_shift (s : Int) : ∀ (es : List Ent) (k : Nat), plc s es k = if plc s es 0 < 0 then -1 else plc s es 0 + k
  | [], k => by rw [plc, plc, if_pos (by omega)]
  | e :: r, k => by
    rw [plc, plc]
    by_cases h : e.1 = s
    · rw [if_pos h, if_pos h, if_neg (by omega)]; omega
    · rw [if_neg h, if_neg h, plc_shift s r (k + 1), plc_shift s r (0 + 1)]
      by_cases h2 : plc s r 0 < 0
      · rw [if_pos h2, if_pos h2, if_pos (by omega)]
      · rw [if_neg h2, if_neg h2]
        have := plc_lt s r 0
        rw [if_neg (by omega)]; omega
theorem drop1_filter {s : Int} : ∀ {es : List Ent}, (sec es).Nodup → drop1 es s = es.filter (keepE [s])
  | [], _ => by rfl
  | e :: r, hn => by
    have hn' := List.nodup_cons.1 hn
    have ih := drop1_filter (s := s) (es := r) hn'.2
    unfold drop1 at ih ⊢
    by_cases h : e.1 = s
    · have e1 : plc s (e :: r) 0 = 0 := by rw [plc, if_pos h]; rfl
      rw [e1, if_pos (by omega), List.filter_cons, if_neg (by simp [keepE, h])]
      show r = _
      rw [List.filter_eq_self.2]
      intro a ha
      have : a.1 ≠ s := fun e2 => hn'.1 (List.mem_map.2 ⟨a, ha, by show a.1 = e.1; rw [e2, h]⟩)
      simp [keepE, this]
    · have e1 : plc s (e :: r) 0 = if plc s r 0 < 0 then -1 else plc s r 0 + 1 := by rw [plc, if_neg h, plc_shift]; rfl
      have e2 : (e :: r).filter (keepE [s]) = e :: r.filter (keepE [s]) := by rw [List.filter_cons, if_pos (by simp [keepE, h])]
      have := plc_lt s r 0
      rw [e1, e2, ← ih]
      by_cases h2 : plc s r 0 < 0
      · rw [if_pos h2, if_neg (by omega), if_neg (by omega)]
      · rw [if_neg h2, if_pos (by omega), if_pos (by omega)]
        obtain ⟨i, hi⟩ := Int.eq_ofNat_of_zero_le (show 0 ≤ plc s r 0 by omega)
        rw [hi, show ((i : Int) + 1).toNat = i + 1 by omega, Int.toNat_natCast]
        rfl
theorem drop_filter (xs : List Int) : ∀ {es : List Ent}, (sec es).Nodup → dropL es xs = es.filter (keepE xs) := by
  induction xs with
  | nil =>
    intro es _
    rw [List.filter_eq_self.2 (fun a _ => by simp [keepE])]
    rfl
  | cons x r ih =>
    intro es hn
    show dropL (drop1 es x) r = _
    have hs : (sec (drop1 es x)).Nodup := by
      rw [drop1_filter hn]
      exact hn.sublist (List.Sublist.map _ List.filter_sublist)
    rw [ih hs, drop1_filter hn, List.filter_filter]
    apply List.filter_congr
    intro a _
    simp only [keepE, List.mem_cons, List.not_mem_nil, or_false]
    by_cases h1 : a.1 = x <;> by_cases h2 : a.1 ∈ r <;> simp [h1, h2]
theorem good_drop {size : Nat} {es : List Ent} (xs : List Int) (h : Good size es) : Good size (es.filter (keepE xs)) :=
  ⟨h.1.sublist (List.Sublist.map _ List.filter_sublist), fun e he => h.2 e (List.mem_filter.1 he).1⟩
end Go.Proofs.Ytnkgbnipcjgjeaa
