import Derived.Test.YtfmogmgdpamfgaaJwb
namespace Go.Proofs.Ytfmogmgdpamfgaa.Jd
open Go.RowKit Go.Proofs.YtfmogmgdpamfgaaW.PrintWords Go.Proofs.YtfmogmgdpamfgaaW.PrintLast Go.Proofs.YtfmogmgdpamfgaaW.PrintMore
set_option linter.unusedVariables false
section
variable {w : World} {p : Nat} {g : Ge} {t : Nat → Nat} {s : JS} {gb : Nat} {hl hr he hd : Value}
/-- A block is made anew: a row of zeros, and three stores. -/
def freshW (e : Bool) (w : World) (gb x m : Nat) : World := (((w.alloc (.cells (madeCells #[.int .i64 0] m) 3)).setCell ⟨gb, x * 3, none⟩ (.bool e)).setCell ⟨gb, x * 3 + 1, none⟩ (.int .i64 (-1))).setCell ⟨gb, x * 3 + 2, none⟩ (.slice (some ⟨w.heap.size, 0, none⟩) m m)
theorem freshW_far {er : Bool} {k : Nat} (hk : k < w.heap.size) (hne : k ≠ gb) (x m : Nat) : (freshW er w gb x m).heap[k]? = w.heap[k]? := by
  unfold freshW
  rw [Below.heap_setCell _ _ _ k hne, Below.heap_setCell _ _ _ k hne, Below.heap_setCell _ _ _ k hne]
  exact Below.heap_alloc w _ k hk
theorem freshW_size {er : Bool} (x m : Nat) : (freshW er w gb x m).heap.size = w.heap.size + 1 := by
  unfold freshW; simp
theorem JAt.fresh (er : Bool) (h : JAt w p g t s gb hl hr he hd) (x m : Nat) (hx : x < s.blocks.length) (hm : m ≤ 100000) :
    ∃ t3, JAt (freshW er w gb x m) p g t3 { s with blocks := s.blocks.set x ⟨er, -1, List.replicate m 0⟩ } gb hl hr he hd ∧ Nxt w (freshW er w gb x m) t t3 := by
  obtain ⟨cur, hB⟩ := h.bat
  have hg2 : t gb % 16 = 2 := hB.own.1
  have hglt := blk_lt hB.blk
  have hfar : ∀ k, k < w.heap.size → k ≠ gb → (freshW er w gb x m).heap[k]? = w.heap[k]? := fun k hk hne => freshW_far hk hne x m
  have hlt := Ob.lt h
  have hne2 : ∀ k, t k ≠ 0 → k ≠ w.heap.size := fun k hk e => by have := hlt k hk; omega
  refine ⟨fun k => if k = w.heap.size then 2 + 16 * (x + 1) else t k, ?_, ⟨⟨rfl, rfl, rfl, by rw [freshW_size]; omega, fun k hk hn => hfar k hk (fun e => hn (by rw [e]; intro e2; rw [e2] at hg2; omega))⟩, fun k hk => ?_⟩⟩
  · have hgb : (if gb = w.heap.size then 2 + 16 * (x + 1) else t gb) = t gb := if_neg (by omega)
    have hblk : (freshW er w gb x m).heap[gb]? = some (.cells (((cur.setIfInBounds (x * 3) (.bool er)).setIfInBounds (x * 3 + 1) (.int .i64 (-1))).setIfInBounds (x * 3 + 2) (.slice (some ⟨w.heap.size, 0, none⟩) m m)) 91 (0, 0)) :=
      blk_set (blk_set (blk_set ((Below.heap_alloc w _ gb hglt).trans hB.blk) _ _) _ _) _ _
    have hrow : ∀ (q : Nat) (v : Value) (xs : List Int), q ≠ x → (Kd.int .i64).R 3 w 0 (fun k => okC t 0 k ∧ subC t k = q + 1) v xs →
        (Kd.int .i64).R 3 (freshW er w gb x m) 0 (fun k => okC (fun k => if k = w.heap.size then 2 + 16 * (x + 1) else t k) 0 k ∧ subC (fun k => if k = w.heap.size then 2 + 16 * (x + 1) else t k) k = q + 1) v xs := fun q v xs hq hR => by
      have hbd := Kd.R_bound hR
      refine scalar_re (Kd.R_step hbd (fun k hk hlt2 => hfar k hlt2 (fun e => by
        have h2 := hk.1.2
        rw [e, hB.own.2] at h2
        omega))) (fun k hk => ?_)
      have h6 := hbd.1 k hk
      have h7 : k ≠ w.heap.size := by have := h6.2.2.1; omega
      show (if k = w.heap.size then 2 + 16 * (x + 1) else t k) % 16 = 0 + 2 ∧ (if k = w.heap.size then 2 + 16 * (x + 1) else t k) / 16 = q + 1
      rw [if_neg h7]
      exact h6.1.1 |> fun a => ⟨a, h6.1.2⟩
    have h2 := Ob.upd h (c := 0) (w' := freshW er w gb x m) (t' := fun k => if k = w.heap.size then 2 + 16 * (x + 1) else t k) (r' := bRow gb (s.blocks.set x ⟨er, -1, List.replicate m 0⟩)) (by show 0 < 5; decide)
      (fun k hk h3 => hfar k hk (fun e => h3 (by rw [e]; exact hg2))) (fun k _ h3 => if_neg (hne2 k h3)) (fun k hk => by
        rw [freshW_size]
        by_cases e : k = w.heap.size
        · omega
        · rw [if_neg e] at hk
          have := hlt k hk
          omega)
      ⟨_, ⟨⟨by show (if gb = w.heap.size then _ else t gb) % 16 = 2; rw [hgb]; exact hg2, by show (if gb = w.heap.size then _ else t gb) / 16 = 0; rw [hgb]; exact hB.own.2⟩, hblk, fun q b hq => by
        rw [List.getElem?_set] at hq
        by_cases e : x = q
        · subst e
          rw [if_pos rfl, if_pos hx] at hq
          obtain rfl := Option.some.inj hq
          obtain ⟨v, a1, a2, a3, _⟩ := hB.at_ x _ (bB_get hx)
          have l1 := (Array.getElem?_eq_some_iff.1 a1).1
          have l2 := (Array.getElem?_eq_some_iff.1 a2).1
          have l3 := (Array.getElem?_eq_some_iff.1 a3).1
          refine ⟨.slice (some ⟨w.heap.size, 0, none⟩) m m, ?_, ?_, ?_, ?_⟩
          · rw [Array.getElem?_setIfInBounds_ne (by omega), Array.getElem?_setIfInBounds_ne (by omega), Array.getElem?_setIfInBounds, if_pos rfl, if_pos l1]
          · rw [Array.getElem?_setIfInBounds_ne (by omega), Array.getElem?_setIfInBounds, if_pos rfl, if_pos (by simpa using l2)]
          · rw [Array.getElem?_setIfInBounds, if_pos rfl, if_pos (by simpa using l3)]
          · have hown := own_made_of (enc := Value.int .i64) (d := (0 : Int)) w 0 3 m (Nat.zero_le _) (by omega)
            have hR : (Kd.int .i64).R 3 (w.alloc (.cells (madeCells #[.int .i64 0] m) 3)) 0 (fun k => k = w.heap.size) (.slice (some ⟨w.heap.size, 0, none⟩) m m) (List.replicate m 0) :=
              Kd.R_of_own (by rw [List.length_replicate]; exact hown) (fun k hk => by
                simp [Value.ownBlock] at hk
                exact hk.symm)
            have hgs : ∀ k, k = w.heap.size → k ≠ gb := fun k hk e => by omega
            have hR2 := Kd.R_far (p := ⟨gb, x * 3 + 2, none⟩) (Kd.R_far (p := ⟨gb, x * 3 + 1, none⟩) (Kd.R_far (p := ⟨gb, x * 3, none⟩) hR hgs (.bool er)) hgs (.int .i64 (-1))) hgs (.slice (some ⟨w.heap.size, 0, none⟩) m m)
            refine Kd.R_mono hR2 (fun k hk => ?_)
            subst hk
            show (if w.heap.size = w.heap.size then 2 + 16 * (x + 1) else t w.heap.size) % 16 = 0 + 2 ∧ (if w.heap.size = w.heap.size then 2 + 16 * (x + 1) else t w.heap.size) / 16 = x + 1
            rw [if_pos rfl]
            exact ⟨by omega, by omega⟩
        · rw [if_neg e] at hq
          obtain ⟨v, a1, a2, a3, a4⟩ := hB.at_ q b hq
          refine ⟨v, ?_, ?_, ?_, hrow q v _ (fun h => e h.symm) a4⟩
          · rw [Array.getElem?_setIfInBounds_ne (by omega), Array.getElem?_setIfInBounds_ne (by omega), Array.getElem?_setIfInBounds_ne (by omega)]; exact a1
          · rw [Array.getElem?_setIfInBounds_ne (by omega), Array.getElem?_setIfInBounds_ne (by omega), Array.getElem?_setIfInBounds_ne (by omega)]; exact a2
          · rw [Array.getElem?_setIfInBounds_ne (by omega), Array.getElem?_setIfInBounds_ne (by omega), Array.getElem?_setIfInBounds_ne (by omega)]; exact a3⟩⟩
    refine JAt.re h2 ?_ rfl
    unfold cellsJ
    simp only [List.length_set]
  · by_cases e : k = w.heap.size
    · exact .inr (by omega)
    · rw [if_neg e] at hk
      exact .inl hk
/-- The blocks whose erase the chip is busy with are those that were listed. -/
theorem JAt.moved (h : JAt w p g t s gb hl hr he hd) : ∃ t', JAt ((w.setCell ⟨p, 19, none⟩ he).setCell ⟨p, 18, none⟩ (.slice none 0 0)) p g t' { s with doing := s.erases, erases := [] } gb hl hr (.slice none 0 0) he ∧ Nxt w ((w.setCell ⟨p, 19, none⟩ he).setCell ⟨p, 18, none⟩ (.slice none 0 0)) t t' := by
  have h2 := (Ob.set h 19 he).set 18 (.slice none 0 0)
  have hX := Ob.setsN h [(19, he), (18, .slice none 0 0)]
  simp only [sets] at hX
  generalize (w.setCell ⟨p, 19, none⟩ he).setCell ⟨p, 18, none⟩ (.slice none 0 0) = w2 at h2 hX ⊢
  have hne : ∀ k, t k % 16 ≠ 5 → t k % 16 ≠ 6 → (if t k % 16 = 5 then t k + 1 else if t k % 16 = 6 then 15 else t k) = t k := fun k h3 h4 => by rw [if_neg h3, if_neg h4]
  have hst : ∀ (c : Nat) (r : Row), c ≤ 2 → (rowsJ s gb hl hr he hd)[c]? = some r → r.P w2 (okC (fun k => if t k % 16 = 5 then t k + 1 else if t k % 16 = 6 then 15 else t k) c) (subC (fun k => if t k % 16 = 5 then t k + 1 else if t k % 16 = 6 then 15 else t k)) := fun c r hc hr => by
    refine r.st (Ob.row h2 c r hr) (fun k hk _ => ?_)
    have hk2 : t k % 16 = c + 2 := hk
    have e := hne k (by omega) (by omega)
    exact ⟨rfl, by show (if t k % 16 = 5 then t k + 1 else if t k % 16 = 6 then 15 else t k) % 16 = c + 2; rw [e]; exact hk2, by show (if t k % 16 = 5 then t k + 1 else if t k % 16 = 6 then 15 else t k) / 16 = t k / 16; rw [e]⟩
  refine ⟨fun k => if t k % 16 = 5 then t k + 1 else if t k % 16 = 6 then 15 else t k, ?_, ⟨hX.m, fun k hk => .inl (fun e => hk (by rw [e]; rfl))⟩⟩
  have h5 : Ob w2 p 89 (fun k => if t k % 16 = 5 then t k + 1 else if t k % 16 = 6 then 15 else t k) (((cellsJ g s gb hl hr he hd).setIfInBounds 19 he).setIfInBounds 18 (.slice none 0 0)) [bRow gb s.blocks, rU hl s.listed, rI hr s.rows, rI (.slice none 0 0) [], rI he s.erases] := by
    refine ⟨h2.blk, by rw [h2.tp]; rfl, fun k hk => h2.lt k (fun e => hk (by rw [e]; rfl)), fun c r hc => ?_, by show 5 ≤ 13; decide⟩
    match c, hc with
    | 0, hc => obtain rfl := Option.some.inj hc; exact hst 0 _ (by decide) rfl
    | 1, hc => obtain rfl := Option.some.inj hc; exact hst 1 _ (by decide) rfl
    | 2, hc => obtain rfl := Option.some.inj hc; exact hst 2 _ (by decide) rfl
    | 3, hc => obtain rfl := Option.some.inj hc; exact Kd.R_nil _ _ _ _ _
    | 4, hc =>
      obtain rfl := Option.some.inj hc
      refine scalar_re (Ob.rowAt h2 3 rfl) (fun k hk => ?_)
      have h3 : t k % 16 = 5 := (Ob.rowAt h2 3 rfl).1 k hk
      show (if t k % 16 = 5 then t k + 1 else if t k % 16 = 6 then 15 else t k) % 16 = 6
      rw [if_pos h3]
      omega
    | n + 5, hc => simp at hc
  exact JAt.re h5 rfl rfl
end
end Go.Proofs.Ytfmogmgdpamfgaa.Jd

namespace Go.Proofs.Ytfmogmgdpamfgaa.Jd
open Go.RowKit Go.Proofs.YtfmogmgdpamfgaaW.PrintWords Go.Proofs.YtfmogmgdpamfgaaW.PrintLast Go.Proofs.YtfmogmgdpamfgaaW.PrintMore
set_option linter.unusedVariables false
theorem freshB_len (g : Ge) (d : List Int) : ∀ (bs : List Blk), (freshB g bs d).length = bs.length := by
  induction d with
  | nil => intro bs; rfl
  | cons x d ih => intro bs; show (freshB g (bs.set _ _) d).length = _; rw [ih, List.length_set]
theorem freshB_snoc (g : Ge) (bs : List Blk) (d : List Int) (x : Int) : freshB g bs (d ++ [x]) = (freshB g bs d).set x.toNat ⟨true, -1, List.replicate g.pg.toNat 0⟩ := by
  unfold freshB; rw [List.foldl_append]; rfl
section
variable {w : World} {p : Nat} {g : Ge} {t : Nat → Nat} {s : JS} {gb : Nat} {hl hr he hd : Value}
set_option maxHeartbeats 8000000 in
set_option maxRecDepth 100000 in
theorem erased_ok (c : Int) (hg : g.ok) (hsh : Shape g s) (hb : IsB s.listed) (hm : s.listed.length ≤ 1000) (h4 : s.listed.length = 2) (hin : inR g (num s.listed 0) = true) (hro : s.erases.length ≤ 1000000 ∧ ∀ x ∈ s.erases, 0 ≤ x ∧ x < g.bl) (h : JAt w p g t s gb hl hr he hd) : Calls Try.prog 127 #[.pointer (some ⟨p, 0, none⟩), .int .u8 c] w fun e w' => e = .returned (.bool (erasedP g s c).2) ∧ ∃ t', (∃ hl' he' hd', JAt w' p g t' (erasedP g s c).1 gb hl' hr he' hd') ∧ Nxt w w' t t' := by
  have HN0 : Hid (∀ (W : World) (s1 : JS), s1.listed = s.listed → JAt W p g t s1 gb hl hr he hd → Calls Try.prog 128 #[.pointer (some ⟨p, 0, none⟩), .int .i64 0] W fun e w' => e = .returned (.int .i64 (num s.listed 0)) ∧ Below W.heap.size W w') := Lib.hid (num_at 0 (by omega) hm hb)
  obtain ⟨r, hr2⟩ : ∃ r, r = num s.listed 0 := ⟨_, rfl⟩
  rw [← hr2] at HN0
  have HJ := Lib.hid h
  have HG := Lib.hid hg
  have HRO := Lib.hid hro
  obtain ⟨_, _, ⟨A18, m18, rfl⟩, _⟩ := h.slices
  obtain ⟨n, hn⟩ : ∃ n, n = s.erases.length := ⟨_, rfl⟩
  have HNN := Lib.hid hn
  have hin2 : inR g r = true := by rw [hr2]; exact hin
  have HS := Lib.hid (fun W => gsplit_in (row := r) hg hin2 W)
  obtain ⟨r1, r2, r3, r4, r5, r6⟩ := row_split hg ((inR_iff g r).1 hin2).1 ((inR_iff g r).1 hin2).2
  obtain ⟨bb, hb2⟩ : ∃ bb : Int, bb = r / g.pg := ⟨_, rfl⟩
  rw [← hb2] at HS r4 r6
  generalize r % g.pg = qq at HS
  have HBB := Lib.hid (show 0 ≤ bb ∧ bb < g.bl from ⟨r4, r6⟩)
  have HSH := Lib.hid hsh
  have HLD : Hid (erasedP g s c = (if c != 208 && c != 209 then (s, false) else if !planesOk g s.erases bb then (s, false)
    else if c = 209 then (startP { s with erases := s.erases ++ [bb], data := false }, true)
    else ({ startP { s with erases := s.erases ++ [bb], data := false } with blocks := freshB g s.blocks (s.erases ++ [bb]), doing := s.erases ++ [bb], erases := [] }, true))) := Lib.hid (by unfold erasedP; simp only; rw [← hr2, hin2, ← hb2]; rfl)
  have hro1 : n ≤ 1000000 := by rw [hn]; exact hro.1
  have c0 := h.c0; have c1 := h.c1; have c2 := h.c2; have c3 := h.c3; have c4 := h.c4; have c5 := h.c5; have c6 := h.c6
  clear h hro hn hm hb hin hr2 hin2 hb2 r1 r2 r3 r4 r5 r6 hsh hg h4
  go_enter Try.func127, Try.ntmps127
  go_upto_region 1 with fail
  go_region_held3 (fun W => W.cell? ⟨p, 0, none⟩ = some (.int .i64 g.pl) ∧ W.cell? ⟨p, 1, none⟩ = some (.int .i64 g.bl) ∧ W.cell? ⟨p, 2, none⟩ = some (.int .i64 g.pg) ∧ W.cell? ⟨p, 3, none⟩ = some (.int .i64 g.ch) ∧ W.cell? ⟨p, 4, none⟩ = some (.int .i64 g.ck) ∧ W.cell? ⟨p, 5, none⟩ = some (.int .i64 g.ru) ∧ W.cell? ⟨p, 6, none⟩ = some (.int .i64 g.pa)) (first | exact ⟨c0, c1, c2, c3, c4, c5, c6⟩ | exact ⟨f0, f1, f2, f3, f4, f5, f6⟩ | exact ⟨k0, k1, k2, k3, k4, k5, k6⟩) (first | (go_at_call 128; refine (HN0.out _ s rfl (Ob.drew HJ.out)).mono ?_; rintro e w2 ⟨rfl, hb2⟩; have f0 := pw_cell_below hb2 c0; have f1 := pw_cell_below hb2 c1; have f2 := pw_cell_below hb2 c2; have f3 := pw_cell_below hb2 c3; have f4 := pw_cell_below hb2 c4; have f5 := pw_cell_below hb2 c5; have f6 := pw_cell_below hb2 c6; have HB2 := Lib.hid hb2; clear hb2) | (go_at_call 59; (refine (HS.out _).mono ?_; rintro e w3 ⟨rfl, hb3⟩; have k0 := pw_cell_below hb3 f0; have k1 := pw_cell_below hb3 f1; have k2 := pw_cell_below hb3 f2; have k3 := pw_cell_below hb3 f3; have k4 := pw_cell_below hb3 f4; have k5 := pw_cell_below hb3 f5; have k6 := pw_cell_below hb3 f6; have HB3 := Lib.hid (chainC (Nat.le_refl _) HB2.out hb3); clear hb3)))
  all_goals as_aux_lemma =>
    have HJ3 := Lib.hid ((HJ.out.drew).below HB3.out)
    have HX3 := Lib.hid ((Nxt.refl w t).drew.below HB3.out)
    clear c0 c1 c2 c3 c4 c5 c6
    clear f0 f1 f2 f3 f4 f5 f6 k0 k1 k2 k3 k4 k5 k6 HB2 HB3 HS HN0 HJ
    have c18 := HJ3.out.c18
    rw [← HNN.out] at c18
    by_cases hcc : c ≠ 208 ∧ c ≠ 209
    · have q1 : (c != 208) = true := bne_iff_ne.2 hcc.1
      have q2 : (c != 209) = true := bne_iff_ne.2 hcc.2
      have HE : Hid (erasedP g s c = (s, false)) := Lib.hid (by rw [HLD.out, q1, q2]; rfl)
      clear hcc
      go_wp2_with fail
      go_ret
      exact ⟨by rw [HE.out]; rfl, _, ⟨_, _, _, by rw [HE.out]; exact HJ3.out⟩, HX3.out⟩
    have hcq : c = 208 ∨ c = 209 := by omega
    clear hcc
    have HLE : Hid (erasedP g s c = (if !planesOk g s.erases bb then (s, false)
    else if c = 209 then (startP { s with erases := s.erases ++ [bb], data := false }, true)
    else ({ startP { s with erases := s.erases ++ [bb], data := false } with blocks := freshB g s.blocks (s.erases ++ [bb]), doing := s.erases ++ [bb], erases := [] }, true))) := Lib.hid (by rw [HLD.out]; rcases hcq with rfl | rfl <;> rfl)
    rcases hcq with rfl | rfl
    · as_aux_lemma =>
      go_wp2_with fail
      go_loopw [38] (fun i wr => ∃ k : Nat, k ≤ n ∧ i = .int .i64 k ∧ Hid (planesOk g (s.erases.take k) bb = true) ∧ Hid (JAt wr p g t s gb hl hr (.slice A18 s.erases.length m18) hd) ∧ Hid (Nxt w wr t t)) (fun i _ => n - (intOf i).toNat)
      case atStart => exact ⟨0, by omega, rfl, Lib.hid (by rw [List.take_zero]; rfl), HJ3, HX3⟩
      case round =>
        clear HJ3 HX3 c18
        obtain ⟨k, hk, rfl, HOK, HJ, HX⟩ := hrel
        by_cases hkn : k < n
        · have hk0 : (k : Int) < (n : Int) := by omega
          have hlen : k < s.erases.length := by rw [← HNN.out]; exact hkn
          obtain ⟨_, _, e1, _, hC⟩ := Kd.R_reads (Ob.rowAt HJ.out 3 rfl)
          injection e1 with e1 _ e3
          subst e1
          subst e3
          obtain ⟨b5, o5, rfl, _, hc5⟩ := row_of_C hC (by omega)
          have e5 := hc5 k hlen
          have hge : s.erases.getD k 0 = s.erases[k] := by rw [List.getD_eq_getElem?_getD, List.getElem?_eq_getElem hlen]; rfl
          have hx := HRO.out.2 s.erases[k] (List.getElem_mem hlen)
          have htake : s.erases.take (k + 1) = s.erases.take k ++ [s.erases[k]] := List.take_succ_eq_append_getElem hlen
          rw [hge] at e5
          obtain ⟨x, hxe⟩ : ∃ x, s.erases[k] = x := ⟨_, rfl⟩
          rw [hxe] at e5 hx htake
          have HT := Lib.hid htake
          have HSPL : Hid (s.erases = s.erases.take k ++ x :: s.erases.drop (k + 1)) := Lib.hid (by rw [← hxe, ← List.drop_eq_getElem_cons hlen, List.take_append_drop])
          have hpl : ¬ g.pl = 0 := by have := HG.out.1.1; omega
          have hrem : (x.tmod g.pl == bb.tmod g.pl) = (x % g.pl == bb % g.pl) := by rw [Int.tmod_eq_emod_of_nonneg hx.1, Int.tmod_eq_emod_of_nonneg (a := bb) HBB.out.1]
          have c0 := HJ.out.c0
          clear hC hc5 hx htake hxe hge hlen
          go_upto_region 7 with fail
          cases hpq : (x % g.pl == bb % g.pl) with
          | true =>
            rw [hpq] at hrem
            have HNO : Hid (planesOk g s.erases bb = false) := Lib.hid (by
              rw [HSPL.out]
              unfold planesOk
              rw [List.all_append, List.all_cons, hpq]
              simp)
            have HE : Hid (erasedP g s 208 = (s, false)) := Lib.hid (by rw [HLE.out, HNO.out]; rfl)
            clear hpq
            go_quiet (fail)
            go_wp2_with fail
            go_ret
            exact ⟨by rw [HE.out]; rfl, _, ⟨_, _, _, by rw [HE.out]; exact HJ.out.drewN _⟩, HX.out.drewN _⟩
          | false =>
            rw [hpq] at hrem
            have HOK2 : Hid (planesOk g (s.erases.take (k + 1)) bb = true) := Lib.hid (by
              rw [HT.out]
              unfold planesOk at *
              rw [List.all_append, HOK.out, List.all_cons, hpq]
              simp)
            clear hpq
            go_quiet (fail)
            go_wp2_with fail
            go_roundw
            case rel => exact ⟨k + 1, hkn, by go_num, HOK2, Lib.hid (HJ.out.drewN _), Lib.hid (HX.out.drewN _)⟩
            case measure => exact step_measure hkn
        · have hke : n = k := by omega
          have hta : s.erases.take k = s.erases := List.take_of_length_le (by rw [← HNN.out]; omega)
          rw [hta] at HOK
          subst hke
          clear hta hkn hk
          have HZ : Hid ((s.erases.length + 1) * 8 ≤ 140737488355328) := Lib.hid (by have := HRO.out.1; omega)
          have c18 := HJ.out.c18
          obtain ⟨L, hL⟩ : ∃ L, L = s.erases ++ [bb] := ⟨_, rfl⟩
          have HL := Lib.hid hL
          rw [← hL] at HLE
          clear hL
          go_upto_region 11 with (at_builtin; refine Kd.R_append (Kd.int .i64) 0 rfl (.tmp 62) (.tmp 64) 44 3 _ 8 rfl Try.underlying44 info3 rfl (by decide) (by decide) (.slice A18 s.erases.length m18) s.erases bb [.int .i64 bb] _ (fun _ => False) rfl rfl rfl (fun _ h => h.elim) (fun _ _ => trivial) HJ.out.r18 (Below.refl _ _) (Nat.zero_le _) HZ.out ?_; intro v1 w4 hr1 _ hg1 hat1; obtain ⟨A1, c1, rfl⟩ := Kd.R_slice hr1; obtain ⟨e17, hz4, hj4, hn4⟩ := HJ.out.app18 hr1 hg1 hat1; rw [← HL.out] at hj4 hn4 ⊢; have HJ4 := Lib.hid hj4; have HN4 := Lib.hid hn4; clear hr1 hg1 hat1 hj4 hn4)
          have HX4 := Lib.hid (HX.out.trans HN4.out)
          generalize retag t 3 (.slice A1 L.length c1) = t4 at HJ4 HX4
          generalize w4.setCell ⟨p, 18, none⟩ (.slice A1 L.length c1) = w6 at HJ4 HX4 ⊢
          clear e17 hz4 HN4 c18
          have hz3 := HJ4.out.z
          have d16 := HJ4.out.c16
          go_upto_region 12 with fail
          have HJ5 := Lib.hid (HJ4.out.s16 false)
          have HX5 := Lib.hid (HX4.out.trans (HJ4.out.n [(16, .bool false)]))
          simp only [sets] at HX5
          generalize w6.setCell ⟨p, 16, none⟩ (.bool false) = w5 at HJ5 HX5 ⊢
          clear hz3 d16
          have HST := Lib.hid (start_ok HJ5.out)
          have HE : Hid (erasedP g s 208 = ({ startP { s with erases := L, data := false } with blocks := freshB g s.blocks L, doing := L, erases := [] }, true)) := Lib.hid (by rw [HLE.out, HOK.out]; rfl)
          go_upto_region 15 with (go_at_call 86; refine (HST.out).mono ?_; rintro e w8 ⟨rfl, hj8, hn8⟩; have HJ8 := Lib.hid hj8; have HX8 := Lib.hid (HX5.out.trans hn8); clear hj8 hn8)
          have c18o := HJ8.out.c18
          have hgp := HG.out.2.2.1
          obtain ⟨pg, hpg⟩ := Int.eq_ofNat_of_zero_le (show 0 ≤ g.pg by omega)
          have HPG := Lib.hid hpg
          obtain ⟨m, hm⟩ : ∃ m, m = L.length := ⟨_, rfl⟩
          have HM := Lib.hid hm
          have hmb : m ≤ 1000001 := by rw [hm, HL.out, List.length_append, List.length_singleton]; have := HRO.out.1; omega
          have HNB : Hid (s.blocks.length = s.blocks.length) := Lib.hid rfl
          obtain ⟨nb, hnb⟩ : ∃ nb, s.blocks.length = nb := ⟨_, rfl⟩
          replace HNB := Lib.hid hnb
          clear hnb
          have HLB : Hid (∀ x ∈ L, 0 ≤ x ∧ x < g.bl) := Lib.hid (fun x hx => by
            rw [HL.out] at hx
            rcases List.mem_append.1 hx with h2 | h2
            · exact HRO.out.2 x h2
            · rw [List.mem_singleton.1 h2]; exact HBB.out)
          have c18 : w8.cell? ⟨p, 18, none⟩ = some (.slice A1 m c1) := by rw [hm]; exact c18o
          clear hm c18o
          have hmk : ∀ W : World, (Instr.makeSlice 44 (.int .i64 g.pg) (.int .i64 g.pg)).run Try.prog W = .ok (.slice (some ⟨W.heap.size, 0, none⟩) pg pg) (W.alloc (.cells (madeCells #[.int .i64 0] pg) 3)) := fun W => by
            rw [hpg]
            exact print_make_of 44 3 (.int .i64 0) 8 Try.underlying44 info3 rfl (by decide) pg (by omega) W
          clear hpg hgp HJ5 HX5 HST HJ4 HX4 HOK HZ
          go_wp2_with fail
          go_loopw [80] (fun i wr => ∃ k : Nat, k ≤ m ∧ i = .int .i64 k ∧ ∃ t2, Hid (JAt wr p g t2 { startP { s with erases := L, data := false } with blocks := freshB g s.blocks (L.take k) } gb (.slice none 0 0) hr (.slice A1 L.length c1) hd) ∧ Hid (Nxt w wr t t2)) (fun i _ => m - (intOf i).toNat)
          case atStart => exact ⟨0, by omega, rfl, _, HJ8, HX8⟩
          case round =>
            clear HJ8 HX8 c18
            obtain ⟨k, hk, rfl, t2, HJ, HX⟩ := hrel
            by_cases hkn : k < m
            · have hk0 : (k : Int) < (m : Int) := by omega
              have hlen : k < L.length := by rw [← HM.out]; exact hkn
              obtain ⟨_, _, e1, _, hC⟩ := Kd.R_reads (Ob.rowAt HJ.out 3 rfl)
              injection e1 with e1 e2 e3
              clear e2
              subst e1
              subst e3
              obtain ⟨b5, o5, rfl, _, hc5⟩ := row_of_C hC (Nat.lt_of_le_of_lt (Nat.zero_le _) hlen)
              have e5 : wr.cell? ⟨b5, o5 + k, none⟩ = some (.int .i64 (L.getD k 0)) := hc5 k hlen
              have hge : L.getD k 0 = L[k] := by rw [List.getD_eq_getElem?_getD, List.getElem?_eq_getElem hlen]; rfl
              have hx := HLB.out L[k] (List.getElem_mem hlen)
              have htake : L.take (k + 1) = L.take k ++ [L[k]] := List.take_succ_eq_append_getElem hlen
              rw [hge] at e5
              obtain ⟨x, hxe⟩ := Int.eq_ofNat_of_zero_le hx.1
              rw [hxe] at e5 hx htake
              have HT := Lib.hid htake
              have HXX := Lib.hid hx
              have hfl : (freshB g s.blocks (L.take k)).length = nb := by rw [freshB_len, HNB.out]
              have c7 : wr.cell? ⟨p, 7, none⟩ = some (.slice (some ⟨gb, 0, none⟩) nb nb) := by have := HJ.out.c7; rw [show ({ startP { s with erases := L, data := false } with blocks := freshB g s.blocks (L.take k) } : JS).blocks.length = nb from hfl] at this; exact this
              have hxn : x < nb := by rw [← HNB.out, HSH.out.1]; omega
              have c2 := HJ.out.c2
              clear hC hc5 hx htake hxe hge hlen hfl
              go_upto_region 18 with fail
              obtain ⟨cur, hB⟩ := HJ.out.bat
              have hxl : x < (freshB g s.blocks (L.take k)).length := by rw [freshB_len, HNB.out]; exact hxn
              obtain ⟨v, d0, d1, d2, _, z0⟩ := hB.get x hxl
              have hab := alloc_below wr (.cells (madeCells #[.int .i64 0] pg) 3)
              have k0 := pw_cell_below hab d0
              have k1 := pw_cell_below hab d1
              have k2 := pw_cell_below hab d2
              have kz : ∀ j, (wr.alloc (.cells (madeCells #[.int .i64 0] pg) 3)).frozen? ⟨gb, j, none⟩ = false := fun j => (hab.frozen (p := ⟨gb, j, none⟩) (blk_lt hB.blk)).trans (z0 j)
              obtain ⟨t3, hjf, hxf⟩ := HJ.out.fresh true x pg hxl (by have := HG.out.2.2.1; have := HPG.out; omega)
              have HXF := Lib.hid hxf
              have HJF : Hid (JAt (freshW true wr gb x pg) p g t3 { startP { s with erases := L, data := false } with blocks := freshB g s.blocks (L.take (k + 1)) } gb (.slice none 0 0) hr (.slice (some ⟨b5, o5, none⟩) L.length c1) hd) := Lib.hid (by
                have h2 : JAt (freshW true wr gb x pg) p g t3 { startP { s with erases := L, data := false } with blocks := (freshB g s.blocks (L.take k)).set x ⟨true, -1, List.replicate pg 0⟩ } gb (.slice none 0 0) hr (.slice (some ⟨b5, o5, none⟩) L.length c1) hd := hjf
                rw [HT.out, freshB_snoc, Int.toNat_natCast, show g.pg.toNat = pg from by rw [HPG.out]; exact Int.toNat_natCast pg]
                exact h2)
              have f2 := HJF.out.c2
              have f7 : (freshW true wr gb x pg).cell? ⟨p, 7, none⟩ = some (.slice (some ⟨gb, 0, none⟩) nb nb) := by
                have := HJF.out.c7
                rw [show ({ startP { s with erases := L, data := false } with blocks := freshB g s.blocks (L.take (k + 1)) } : JS).blocks.length = nb from by show (freshB g s.blocks (L.take (k + 1))).length = nb; rw [freshB_len, HNB.out]] at this
                exact this
              have a2 := pw_cell_below hab c2
              have a7 := pw_cell_below hab c7
              clear hjf hxf hB hxl
              have hmk1 := hmk wr.drew
              have hmk2 := hmk wr
              go_region_held3 (fun W => W.cell? ⟨p, 2, none⟩ = some (.int .i64 g.pg) ∧ W.cell? ⟨p, 7, none⟩ = some (.slice (some ⟨gb, 0, none⟩) nb nb)) (first | exact ⟨c2, c7⟩ | exact ⟨a2, a7⟩ | exact ⟨f2, f7⟩) (fail)
              all_goals
                go_wp2_with fail
                go_roundw
                case rel => exact ⟨k + 1, hkn, by go_num, _, Lib.hid (HJF.out.drewN _), Lib.hid ((HX.out.trans HXF.out).drewN _)⟩
                case measure => exact step_measure hkn
            · have hke : m = k := by omega
              have hta : L.take k = L := List.take_of_length_le (by rw [← HM.out]; omega)
              rw [hta] at HJ
              subst hke
              clear hta hkn hk
              have c18o := HJ.out.c18
              have c18 : wr.cell? ⟨p, 18, none⟩ = some (.slice A1 L.length c1) := c18o
              have c19 := HJ.out.c19
              have hz := HJ.out.z
              obtain ⟨t5, hj5, hx5⟩ := HJ.out.moved
              have HJF := Lib.hid hj5
              have HXF := Lib.hid (HX.out.trans hx5)
              clear c18o hj5 hx5
              go_wp2_with fail
              go_ret
              exact ⟨by rw [HE.out]; rfl, _, ⟨_, _, _, by rw [HE.out]; exact HJF.out⟩, HXF.out⟩
    · as_aux_lemma =>
      go_wp2_with fail
      go_loopw [38] (fun i wr => ∃ k : Nat, k ≤ n ∧ i = .int .i64 k ∧ Hid (planesOk g (s.erases.take k) bb = true) ∧ Hid (JAt wr p g t s gb hl hr (.slice A18 s.erases.length m18) hd) ∧ Hid (Nxt w wr t t)) (fun i _ => n - (intOf i).toNat)
      case atStart => exact ⟨0, by omega, rfl, Lib.hid (by rw [List.take_zero]; rfl), HJ3, HX3⟩
      case round =>
        clear HJ3 HX3 c18
        obtain ⟨k, hk, rfl, HOK, HJ, HX⟩ := hrel
        by_cases hkn : k < n
        · have hk0 : (k : Int) < (n : Int) := by omega
          have hlen : k < s.erases.length := by rw [← HNN.out]; exact hkn
          obtain ⟨_, _, e1, _, hC⟩ := Kd.R_reads (Ob.rowAt HJ.out 3 rfl)
          injection e1 with e1 _ e3
          subst e1
          subst e3
          obtain ⟨b5, o5, rfl, _, hc5⟩ := row_of_C hC (by omega)
          have e5 := hc5 k hlen
          have hge : s.erases.getD k 0 = s.erases[k] := by rw [List.getD_eq_getElem?_getD, List.getElem?_eq_getElem hlen]; rfl
          have hx := HRO.out.2 s.erases[k] (List.getElem_mem hlen)
          have htake : s.erases.take (k + 1) = s.erases.take k ++ [s.erases[k]] := List.take_succ_eq_append_getElem hlen
          rw [hge] at e5
          obtain ⟨x, hxe⟩ : ∃ x, s.erases[k] = x := ⟨_, rfl⟩
          rw [hxe] at e5 hx htake
          have HT := Lib.hid htake
          have HSPL : Hid (s.erases = s.erases.take k ++ x :: s.erases.drop (k + 1)) := Lib.hid (by rw [← hxe, ← List.drop_eq_getElem_cons hlen, List.take_append_drop])
          have hpl : ¬ g.pl = 0 := by have := HG.out.1.1; omega
          have hrem : (x.tmod g.pl == bb.tmod g.pl) = (x % g.pl == bb % g.pl) := by rw [Int.tmod_eq_emod_of_nonneg hx.1, Int.tmod_eq_emod_of_nonneg (a := bb) HBB.out.1]
          have c0 := HJ.out.c0
          clear hC hc5 hx htake hxe hge hlen
          go_upto_region 7 with fail
          cases hpq : (x % g.pl == bb % g.pl) with
          | true =>
            rw [hpq] at hrem
            have HNO : Hid (planesOk g s.erases bb = false) := Lib.hid (by
              rw [HSPL.out]
              unfold planesOk
              rw [List.all_append, List.all_cons, hpq]
              simp)
            have HE : Hid (erasedP g s 209 = (s, false)) := Lib.hid (by rw [HLE.out, HNO.out]; rfl)
            clear hpq
            go_quiet (fail)
            go_wp2_with fail
            go_ret
            exact ⟨by rw [HE.out]; rfl, _, ⟨_, _, _, by rw [HE.out]; exact HJ.out.drewN _⟩, HX.out.drewN _⟩
          | false =>
            rw [hpq] at hrem
            have HOK2 : Hid (planesOk g (s.erases.take (k + 1)) bb = true) := Lib.hid (by
              rw [HT.out]
              unfold planesOk at *
              rw [List.all_append, HOK.out, List.all_cons, hpq]
              simp)
            clear hpq
            go_quiet (fail)
            go_wp2_with fail
            go_roundw
            case rel => exact ⟨k + 1, hkn, by go_num, HOK2, Lib.hid (HJ.out.drewN _), Lib.hid (HX.out.drewN _)⟩
            case measure => exact step_measure hkn
        · have hke : n = k := by omega
          have hta : s.erases.take k = s.erases := List.take_of_length_le (by rw [← HNN.out]; omega)
          rw [hta] at HOK
          subst hke
          clear hta hkn hk
          have HZ : Hid ((s.erases.length + 1) * 8 ≤ 140737488355328) := Lib.hid (by have := HRO.out.1; omega)
          have c18 := HJ.out.c18
          obtain ⟨L, hL⟩ : ∃ L, L = s.erases ++ [bb] := ⟨_, rfl⟩
          have HL := Lib.hid hL
          rw [← hL] at HLE
          clear hL
          go_upto_region 11 with (at_builtin; refine Kd.R_append (Kd.int .i64) 0 rfl (.tmp 62) (.tmp 64) 44 3 _ 8 rfl Try.underlying44 info3 rfl (by decide) (by decide) (.slice A18 s.erases.length m18) s.erases bb [.int .i64 bb] _ (fun _ => False) rfl rfl rfl (fun _ h => h.elim) (fun _ _ => trivial) HJ.out.r18 (Below.refl _ _) (Nat.zero_le _) HZ.out ?_; intro v1 w4 hr1 _ hg1 hat1; obtain ⟨A1, c1, rfl⟩ := Kd.R_slice hr1; obtain ⟨e17, hz4, hj4, hn4⟩ := HJ.out.app18 hr1 hg1 hat1; rw [← HL.out] at hj4 hn4 ⊢; have HJ4 := Lib.hid hj4; have HN4 := Lib.hid hn4; clear hr1 hg1 hat1 hj4 hn4)
          have HX4 := Lib.hid (HX.out.trans HN4.out)
          generalize retag t 3 (.slice A1 L.length c1) = t4 at HJ4 HX4
          generalize w4.setCell ⟨p, 18, none⟩ (.slice A1 L.length c1) = w6 at HJ4 HX4 ⊢
          clear e17 hz4 HN4 c18
          have hz3 := HJ4.out.z
          have d16 := HJ4.out.c16
          go_upto_region 12 with fail
          have HJ5 := Lib.hid (HJ4.out.s16 false)
          have HX5 := Lib.hid (HX4.out.trans (HJ4.out.n [(16, .bool false)]))
          simp only [sets] at HX5
          generalize w6.setCell ⟨p, 16, none⟩ (.bool false) = w5 at HJ5 HX5 ⊢
          clear hz3 d16
          have HST := Lib.hid (start_ok HJ5.out)
          have HE : Hid (erasedP g s 209 = (startP { s with erases := L, data := false }, true)) := Lib.hid (by rw [HLE.out, HOK.out]; rfl)
          go_wp2_with (go_at_call 86; refine (HST.out).mono ?_; rintro e w8 ⟨rfl, hj8, hn8⟩; have HJ8 := Lib.hid hj8; have HX8 := Lib.hid (HX5.out.trans hn8); clear hj8 hn8)
          go_ret
          exact ⟨by rw [HE.out]; rfl, _, ⟨_, _, _, by rw [HE.out]; exact HJ8.out⟩, HX8.out⟩
end
end Go.Proofs.Ytfmogmgdpamfgaa.Jd

