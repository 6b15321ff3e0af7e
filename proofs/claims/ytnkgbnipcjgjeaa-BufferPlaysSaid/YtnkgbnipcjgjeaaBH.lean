import Derived.Test.YtnkgbnipcjgjeaaBG
namespace Go.Proofs.Ytnkgbnipcjgjeaa
open Go.RowKit Go.Lib Go.Proofs.YtnkgbnipcjgjeaaW.PrintWords Go.Proofs.YtnkgbnipcjgjeaaW.PrintLast Go.Proofs.YtnkgbnipcjgjeaaW.PrintMore
set_option linter.unusedVariables false
theorem own_cells {w : World} {base g n c : Nat} {hs : List Eh} (h : Kd.R kEh 54 w base (fun _ => True) (.slice (some ⟨g, 0, none⟩) n c) hs) {i : Nat} (hi : i < n) :
    ∃ y0 y1 y2, w.cell? ⟨g, i * 3, none⟩ = some y0 ∧ w.cell? ⟨g, i * 3 + 1, none⟩ = some y1 ∧ w.cell? ⟨g, i * 3 + 2, none⟩ = some y2 ∧ ∀ o, w.frozen? ⟨g, o, none⟩ = false := by
  obtain ⟨_, hnc, _, _, cur, d5, d6⟩ := R_cells h
  have h0 : i * 3 < cur.size := by omega
  have h1 : i * 3 + 1 < cur.size := by omega
  have h2 : i * 3 + 2 < cur.size := by omega
  exact ⟨cur[i * 3], cur[i * 3 + 1], cur[i * 3 + 2], by rw [blk_cell d5, Array.getElem?_eq_getElem h0], by rw [blk_cell d5, Array.getElem?_eq_getElem h1], by rw [blk_cell d5, Array.getElem?_eq_getElem h2], blk_frozen d5⟩
section
variable {w : World} {N0 g : Nat} {v : Value} {es : List Ent} {most size : Nat}
/-- What was w's, and new: an entry's place is written. -/
theorem buf_set {w3 w4 : World} {b c i : Nat} {x : Eh} {en : Ent} (h : BufIs w3 N0 g (.slice (some ⟨b, 0, none⟩) es.length c) es most size) (hi : i < es.length) (hb : Below w3.heap.size w3 w4) (hx : EntF w4 N0 x en) :
    BufIs (((w4.setCell ⟨b, i * 3, none⟩ (.int .i64 x.1)).setCell ⟨b, i * 3 + 1, none⟩ (.int .i64 x.2.1)).setCell ⟨b, i * 3 + 2, none⟩ (.slice x.2.2.1 x.2.2.2.1 x.2.2.2.2)) N0 g (.slice (some ⟨b, 0, none⟩) es.length c) (es.set i en) most size ∧
    Mods w3 (((w4.setCell ⟨b, i * 3, none⟩ (.int .i64 x.1)).setCell ⟨b, i * 3 + 1, none⟩ (.int .i64 x.2.1)).setCell ⟨b, i * 3 + 2, none⟩ (.slice x.2.2.1 x.2.2.2.1 x.2.2.2.2)) (BufS g (.slice (some ⟨b, 0, none⟩) es.length c)) := by
  have h4 := h.below hb
  have hown : (Value.slice (some ⟨b, 0, none⟩) es.length c).ownBlock = some b := by simp [Value.ownBlock]
  obtain ⟨hs, hR, hE⟩ := h4.row
  have hM : Mods w4 (((w4.setCell ⟨b, i * 3, none⟩ (.int .i64 x.1)).setCell ⟨b, i * 3 + 1, none⟩ (.int .i64 x.2.1)).setCell ⟨b, i * 3 + 2, none⟩ (.slice x.2.2.1 x.2.2.2.1 x.2.2.2.2)) (fun k => k = b) := (((Mods.refl w4 (fun k => k = b)).setCell (.inl rfl) _).setCell (.inl rfl) _).setCell (.inl rfl) _
  have hk : Keep (Bt N0 w4) w4 _ := Bt.mods h4.hN hM (fun k e => h4.notBt k (.inr (by rw [hown, e])))
  have hne : g ≠ b := fun e => (h4.own hown).2.2.1 e.symm
  refine ⟨⟨(hM.block g h4.ltg hne).trans h4.blk, h4.lo, ⟨_, R_put3 hR hi x, All2.set (hx.move hk) (hE.move hk)⟩, h4.small, by rw [List.length_set]; exact h4.fit⟩, (Mods.of_below hb _).trans hM (fun k e => .inl (.inr (by rw [hown, e])))⟩
set_option maxHeartbeats 4000000 in
set_option maxRecDepth 100000 in
theorem bput_set (h : BufIs w N0 g v es most size) (s k : Int) (hd : Hdr) (xs : List Int) (hx : DatF w N0 hd xs) (hxl : xs.length ≤ 100000) (hr : RightP size s k xs.length) (i : Nat) (hp : plc s es 0 = (i : Int)) (hi : i < es.length) :
    Calls Try.prog 32 #[.pointer (some ⟨g, 0, none⟩), .agg #[.int .i64 s, .int .i64 k, .slice hd.1 hd.2.1 hd.2.2]] w fun e w' => e = .returned (.int .i64 0) ∧ BufIs w' N0 g v (es.set i (s, k, xs)) most size ∧ Mods w w' (BufS g v) := by
  obtain ⟨A, n, c⟩ := hd
  have hn := hx.1
  have hn' : n = xs.length := hn
  subst hn'
  have hb1 : Below w.heap.size w (w.alloc (.cells #[.int .i64 s, .int .i64 k, .slice A xs.length c] 54)) := (Below.refl w.heap.size w).alloc (Nat.le_refl _) _
  have h1 := h.below hb1
  have HI := Lib.hid (bis_ok h1)
  have hR := bright_ok h1 s k A xs.length c
  rw [decide_eq_true hr] at hR
  have HR := Lib.hid hR
  have HB := Lib.hid hb1
  have HH := Lib.hid h1
  have HX := Lib.hid (hx.move (Bt.below h.hN hb1))
  have HP := Lib.hid hp
  have HN := Lib.hid h.hN
  have hob := fun (k : Nat) (hk : v.ownBlock = some k) => h.own hk
  have hile : (i : Int) < (es.length : Int) := by omega
  have hi0 : (0 : Int) ≤ (i : Int) := by omega
  have hesl : es.length ≤ 1024 := by have := h.fit; have := h.small; omega
  obtain ⟨Ab, cb, hs, hv, hl, hcb, _, _⟩ := h.form
  obtain ⟨hs', hRv, _⟩ := h.row
  obtain ⟨b, rfl⟩ : ∃ b, Ab = some ⟨b, 0, none⟩ := by
    obtain ⟨inner, ho⟩ := Kd.R_own hRv
    rcases ho.2 with ⟨h1, h2⟩ | ⟨g', cap, cur, h1, _⟩
    · rw [hv] at h1; injection h1 with _ h1 _; omega
    · rw [hv] at h1; injection h1 with h1 _ _; exact ⟨g', h1⟩
  subst hv
  have hob2 := hob b (by simp [Value.ownBlock])
  have n1 : g ≠ b := fun e => hob2.2.2.1 e.symm
  have n2 : b ≠ g := hob2.2.2.1
  have n3 : w.heap.size ≠ b := by have := hob2.1; omega
  have n4 : b ≠ w.heap.size := by omega
  clear hob hob2
  obtain ⟨m, hm⟩ : ∃ m, m = es.length := ⟨_, rfl⟩
  rw [← hm] at HH hile hesl hi ⊢
  have HM := Lib.hid hm
  have hmc : (m : Int) ≤ (cb : Int) := by omega
  clear h h1 hb1 hR hr hp hx hn hcb hl hRv hm
  go_enter Try.func32, Try.ntmps32
  go_upto_region 7 with (first | (go_at_call 87; refine (HI.out).mono ?_; rintro e w' ⟨rfl, rfl⟩) | (go_at_call 88; refine (HR.out).mono ?_; rintro e w2 ⟨rfl, hb2⟩; have k1 := box1 hb2; obtain ⟨c2, c2z, c2l⟩ := blkF k1; have h2 := HH.out.below hb2; have HPL := Lib.hid (bplace_ok h2 s); rw [HP.out] at HPL; have HH2 := Lib.hid h2; have HX2 := Lib.hid (HX.out.move (Bt.below HH.out.hN hb2)); have HB2 := Lib.hid (chainC' HB.out hb2); have HK2 := Lib.hid k1; clear hb2 h2 k1) | (go_at_call 89; refine (HPL.out).mono ?_; rintro e w3 ⟨rfl, hb3⟩; have k3 := (hb3.block _ c2l).trans HK2.out; have h3 := HH2.out.below hb3; have HX3 := Lib.hid (HX2.out.move (Bt.below HH2.out.hN hb3)); have HB3 := Lib.hid (chainC' HB2.out hb3); have HH3 := Lib.hid h3; have HK3 := Lib.hid k3; clear hb3 h3 k3 c2 c2z c2l))
  have H3 := Lib.hid (HH3.out.drewN 1)
  have c0 : w3.drew.cell? ⟨g, 0, none⟩ = some (.slice (some ⟨b, 0, none⟩) m cb) := H3.out.c0
  have k3d : w3.drew.heap[w.heap.size]? = some (.cells #[.int .i64 s, .int .i64 k, .slice A xs.length c] 54 (0, 0)) := HK3.out
  have e0 := blk_cell k3d 0
  have e1 := blk_cell k3d 1
  have e2 := blk_cell k3d 2
  have HK3d := Lib.hid k3d
  clear k3d
  have hlg : g < w3.drew.heap.size := H3.out.ltg
  have HCP := Lib.hid (bcopied_ok w3.drew N0 H3.out.hN s k (A, xs.length, c) xs (HX3.out.move (fun _ _ => rfl)) hxl)
  go_region_held3 (fun w' => w'.cell? ⟨g, 0, none⟩ = some (.slice (some ⟨b, 0, none⟩) m cb) ∧ w'.cell? ⟨w.heap.size, 0, none⟩ = some (.int .i64 s) ∧ w'.cell? ⟨w.heap.size, 1, none⟩ = some (.int .i64 k) ∧ w'.cell? ⟨w.heap.size, 2, none⟩ = some (.slice A xs.length c)) (go_keep) ((go_at_call 90; refine (HCP.out).mono ?_; rintro e w4 ⟨⟨h', rfl, hd'⟩, hb4⟩; obtain ⟨hA, hn', hc'⟩ := h'; have f4 : w4.cell? ⟨g, 0, none⟩ = some (.slice (some ⟨b, 0, none⟩) m cb) := (hb4.cell (p := ⟨g, 0, none⟩) hlg).trans c0; have k4 := (hb4.block _ (blk_lt HK3d.out)).trans HK3d.out; have f4a := blk_cell k4 0; have f4b := blk_cell k4 1; have f4c := blk_cell k4 2; have H4 := H3.out.below hb4; obtain ⟨hs4, hR4, hE4⟩ := H4.row; obtain ⟨y0, y1, y2, z0, z1, z2, z3⟩ := own_cells hR4 hi; have HD4 := Lib.hid hd'; have HB4 := Lib.hid hb4; clear hd' hb4 H4 hR4 hE4 k4))
  all_goals
    go_wp2_with fail
    go_ret
    have hf := buf_set (x := (s, k, hA, hn', hc')) (en := (s, k, xs)) (by rw [← HM.out]; exact H3.out) (by rw [← HM.out]; exact hi) HB4.out ⟨rfl, rfl, HD4.out⟩
    rw [← HM.out] at hf
    exact ⟨rfl, hf.1, (Mods.of_below (pw_below_drewN HB3.out 1) _).trans hf.2 (fun _ h => .inl h)⟩
end
end Go.Proofs.Ytnkgbnipcjgjeaa
