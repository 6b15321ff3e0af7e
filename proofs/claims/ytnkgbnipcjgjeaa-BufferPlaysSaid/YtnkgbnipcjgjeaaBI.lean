import Derived.Test.YtnkgbnipcjgjeaaBH
import Derived.Deep.RegionLaw
namespace Go.Proofs.Ytnkgbnipcjgjeaa
open Go.RowKit Go.Lib Go.Proofs.YtnkgbnipcjgjeaaW.PrintWords Go.Proofs.YtnkgbnipcjgjeaaW.PrintLast Go.Proofs.YtnkgbnipcjgjeaaW.PrintMore
set_option linter.unusedVariables false
section
variable {w : World} {N0 g : Nat} {v : Value} {es : List Ent} {most size : Nat}
/-- One entry more, and the buffer told of it. -/
theorem buf_more {w3 w4 w5 : World} {hs : List Eh} {v5 : Value} {x : Eh} {en : Ent} (h : BufIs w3 N0 g v es most size) (hb : Below w3.heap.size w3 w4) (hf : es.length < most) (hE : EAll w3 N0 hs es) (hx : EntF w4 N0 x en) (hR : Kd.R kEh 54 w5 N0 (fun _ => True) v5 (hs ++ [x])) (hg : w4.grownBy w5 v.ownBlock) (hat : v5.ownBlock = v.ownBlock ∨ ∃ b, v5.ownBlock = some b ∧ w4.heap.size ≤ b) :
    BufIs (w5.setCell ⟨g, 0, none⟩ v5) N0 g v5 (es ++ [en]) most size ∧ Mods w3 (w5.setCell ⟨g, 0, none⟩ v5) (BufS g v) ∧ (v5.ownBlock = v.ownBlock ∨ ∃ k, v5.ownBlock = some k ∧ w3.heap.size ≤ k) ∧ w5.heap[g]? = some (.cells #[v, .int .i64 most, .int .i64 size] 142 (0, 0)) := by
  have h4 := h.below hb
  have hk : Keep (Bt N0 w4) w4 w5 := grown_bt h4.erow h4.hN (Nat.le_refl _) hg
  have hne : some g ≠ v.ownBlock := fun e => (h4.own e.symm).2.2.1 rfl
  have hb5 : w5.heap[g]? = some (.cells #[v, .int .i64 most, .int .i64 size] 142 (0, 0)) := (hg.block g h4.ltg hne).trans h4.blk
  have hgb : ∀ k, k = g → ¬ Bt N0 w5 k := fun k e hk => by
    subst e
    have := h4.lo
    rcases hk with hk | ⟨cs, fr, hk⟩
    · omega
    · rw [hb5] at hk; injection hk with hk; injection hk with _ h2 _; cases h2
  have hM5 : Mods w5 (w5.setCell ⟨g, 0, none⟩ v5) (fun k => k = g) := (Mods.refl w5 (fun k => k = g)).setCell (.inl rfl) _
  have hk5 : Keep (Bt N0 w5) w5 (w5.setCell ⟨g, 0, none⟩ v5) := Bt.mods (Nat.le_trans h4.hN hg.size) hM5 hgb
  have hown5 : ∀ k, v5.ownBlock = some k → k ≠ g := fun k hk e => by
    obtain ⟨_, _, _, q, hq, cs, hc⟩ := (Kd.R_bound hR).1 k hk
    have : q ∈ [54] := hq
    rw [List.mem_singleton.1 this, e, hb5] at hc
    injection hc with hc
    injection hc with _ h2 _
    cases h2
  refine ⟨⟨blk_put hb5 0 v5 rfl, h4.lo, ⟨hs ++ [x], ?_, All2.snoc ((hx.move hk).move hk5) (((hE.move (Bt.below h.hN hb)).move hk).move hk5)⟩, h4.small, by rw [List.length_append]; exact hf⟩, ?_, ?_, hb5⟩
  · exact Kd.R_mono (Kd.R_move (Kd.R_tight rfl hR) (fun k hk => Below.heap_setCell w5 ⟨g, 0, none⟩ v5 k (hown5 k hk.symm))) (fun _ _ => trivial)
  · exact (((Mods.of_below hb (BufS g v)).grown hg (fun k e => .inl (.inr e))).setCell (.inl (.inl rfl)) v5)
  · rcases hat with hat | ⟨b, h1, h2⟩
    · exact .inl hat
    · exact .inr ⟨b, h1, Nat.le_trans hb.size h2⟩
set_option maxHeartbeats 4000000 in
set_option maxRecDepth 100000 in
theorem bput_more (h : BufIs w N0 g v es most size) (s k : Int) (hd : Hdr) (xs : List Int) (hx : DatF w N0 hd xs) (hxl : xs.length ≤ 100000) (hr : RightP size s k xs.length) (hp : plc s es 0 < 0) (hf : es.length < most) :
    Calls Try.prog 32 #[.pointer (some ⟨g, 0, none⟩), .agg #[.int .i64 s, .int .i64 k, .slice hd.1 hd.2.1 hd.2.2]] w fun e w' => e = .returned (.int .i64 0) ∧ ∃ v', BufIs w' N0 g v' (es ++ [(s, k, xs)]) most size ∧ Mods w w' (BufS g v) ∧ (v'.ownBlock = v.ownBlock ∨ ∃ k, v'.ownBlock = some k ∧ w.heap.size ≤ k) := by
  obtain ⟨A, n, c⟩ := hd
  have hn := hx.1
  have hn' : n = xs.length := hn
  subst hn'
  have hb1 : Below w.heap.size w (w.alloc (.cells #[.int .i64 s, .int .i64 k, .slice A xs.length c] 54)) := (Below.refl w.heap.size w).alloc (Nat.le_refl _) _
  have h1 := h.below hb1
  have HI := Lib.hid (bis_ok h1)
  have hR := bright_ok h1 s k A xs.length c
  rw [decide_eq_true hr] at hR
  have HR := Lib.hid hR
  have HB := Lib.hid hb1
  have HH := Lib.hid h1
  have HX := Lib.hid (hx.move (Bt.below h.hN hb1))
  have hp0 : ¬ (0 ≤ plc s es 0) := by omega
  generalize hP : plc s es 0 = P at hp0 hp
  have HP := Lib.hid hP
  have HN := Lib.hid h.hN
  have HF := Lib.hid hf
  have hfu := decide_eq_false (show ¬ es.length = most by omega)
  have HFU0 := Lib.hid hfu
  clear h h1 hb1 hR hr hx hn hf hfu hP
  go_enter Try.func32, Try.ntmps32
  go_upto_region 11 with (first | (go_at_call 87; refine (HI.out).mono ?_; rintro e w' ⟨rfl, rfl⟩) | (go_at_call 88; refine (HR.out).mono ?_; rintro e w2 ⟨rfl, hb2⟩; have k1 := box1 hb2; obtain ⟨c2, c2z, c2l⟩ := blkF k1; have h2 := HH.out.below hb2; have HPL := Lib.hid (bplace_ok h2 s); rw [HP.out] at HPL; have HH2 := Lib.hid h2; have HX2 := Lib.hid (HX.out.move (Bt.below HH.out.hN hb2)); have HB2 := Lib.hid (chainC' HB.out hb2); have HK2 := Lib.hid k1; clear hb2 h2 k1) | (go_at_call 89; refine (HPL.out).mono ?_; rintro e w3 ⟨rfl, hb3⟩; have k3 := (hb3.block _ c2l).trans HK2.out; have h3 := HH2.out.below hb3; have HX3 := Lib.hid (HX2.out.move (Bt.below HH2.out.hN hb3)); have HB3 := Lib.hid (chainC' HB2.out hb3); have HH3 := Lib.hid h3; have HK3 := Lib.hid k3; have hfu := bfull_ok h3; rw [HFU0.out] at hfu; have HFU := Lib.hid hfu; clear hb3 h3 k3 c2 c2z c2l hfu) | (go_at_call 42; refine (HFU.out).mono ?_; rintro e w4 ⟨rfl, q, rfl⟩))
  have H3 := HH3.out.drewN q
  have HK3d : Hid ((w3.drewN q).heap[w.heap.size]? = some (.cells #[.int .i64 s, .int .i64 k, .slice A xs.length c] 54 (0, 0))) := Lib.hid HK3.out
  have HX4 : Hid (DatF (w3.drewN q) N0 (A, xs.length, c) xs) := Lib.hid (HX3.out.move (fun _ _ => rfl))
  have HB4 := Lib.hid (pw_below_drewN HB3.out q)
  generalize w3.drewN q = W at H3 HK3d HX4 HB4 ⊢
  have H4 := Lib.hid (H3.drewN 1)
  clear HH3 HK3 HX3 HB3 HH2 HX2 HB2 HK2 HPL HI HR HB HH HX HFU
  obtain ⟨hs, hRv, hE⟩ := H4.out.row
  have c0 : W.drew.cell? ⟨g, 0, none⟩ = some v := H4.out.c0
  have k3d : W.drew.heap[w.heap.size]? = some (.cells #[.int .i64 s, .int .i64 k, .slice A xs.length c] 54 (0, 0)) := HK3d.out
  have e0 := blk_cell k3d 0
  have e1 := blk_cell k3d 1
  have e2 := blk_cell k3d 2
  have hlg : g < W.drew.heap.size := H4.out.ltg
  have hlen : hs.length = es.length := All2.len hE
  have HZ : Hid ((hs.length + 1) * 40 ≤ 140737488355328) := Lib.hid (by have := H3.fit; have := H3.small; omega)
  have HRV := Lib.hid hRv
  have HEE := Lib.hid hE
  have HCP := Lib.hid (bcopied_ok W.drew N0 H4.out.hN s k (A, xs.length, c) xs (HX4.out.move (fun _ _ => rfl)) hxl)
  clear H3 k3d hRv hE hlen
  go_region_law (first | (refine goes_ (N := some 37) Try.func90 (by kernel_rfl) rfl #[.agg #[.int .i64 s, .int .i64 k, .slice A xs.length c]] (by rfl) rfl rfl (by simp only [List.map_toArray, List.map_cons, List.map_nil]; rfl) ?_; refine (HCP.out).mono ?_; rintro e w4 ⟨⟨h', rfl, hd'⟩, hb4⟩; refine ⟨_, rfl, ?_⟩; obtain ⟨hA, hn', hc'⟩ := h'; have f4 : w4.cell? ⟨g, 0, none⟩ = some v := (hb4.cell (p := ⟨g, 0, none⟩) hlg).trans c0; have hl4 : g < w4.heap.size := World.block_lt_of_cell? w4 _ f4; have HO4 := Lib.hid (Kd.R_below HRV.out hb4); have HD4 := Lib.hid hd'; have HB5 := Lib.hid hb4; clear hd' hb4) | ((refine Kd.R_append_step kEh (w0 := W.drew) N0 (by rfl) (.tmp 35) (.tmp 38) 48 54 _ 40 rfl Try.underlying48 info54 rfl (by decide) (by decide) _ hs (s, k, hA, hn', hc') (ehC (s, k, hA, hn', hc')) _ (fun _ => False) rfl rfl (kEh_M _ _ _ _) (fun _ h => h.elim) (fun _ _ => trivial) HO4.out (HB5.out.mono H4.out.hN) (Nat.le_trans H4.out.hN HB5.out.size) HZ.out ?_; intro v5 w5 hr5 hb5 hg5 hat5; have HFIN := Lib.hid (buf_more (en := (s, k, xs)) H4.out HB5.out HF.out HEE.out ⟨rfl, rfl, HD4.out⟩ hr5 hg5 hat5); obtain ⟨A5, c5, rfl⟩ := Kd.R_slice hr5; have f5 := blk_cell HFIN.out.2.2.2 0; have f5z := blk_frozen HFIN.out.2.2.2 0; clear hr5 hb5 hg5 hat5)))
  all_goals
    go_wp2_with fail
    go_ret
    have hfin := HFIN.out
    rw [List.length_append] at hfin
    exact ⟨rfl, _, hfin.1, (Mods.of_below (pw_below_drewN HB4.out 1) _).trans hfin.2.1 (fun _ h => .inl h), hfin.2.2.1.imp id (fun ⟨k, h1, h2⟩ => ⟨k, h1, Nat.le_trans HB4.out.size h2⟩)⟩
end
end Go.Proofs.Ytnkgbnipcjgjeaa
