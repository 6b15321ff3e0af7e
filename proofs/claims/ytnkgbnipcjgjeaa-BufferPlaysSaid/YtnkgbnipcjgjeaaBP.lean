import Derived.Test.YtnkgbnipcjgjeaaBO
namespace Go.Proofs.Ytnkgbnipcjgjeaa
open Go.RowKit Go.Lib Go.Proofs.YtnkgbnipcjgjeaaW.PrintWords Go.Proofs.YtnkgbnipcjgjeaaW.PrintLast Go.Proofs.YtnkgbnipcjgjeaaW.PrintMore
set_option linter.unusedVariables false
theorem erow_snoc {w w3 : World} {N0 base : Nat} {hs : List Eh} {es : List Ent} {v v3 : Value} {x : Eh} {en : Ent} (hR : Kd.R kEh 54 w base (fun _ => True) v hs) (hE : EAll w N0 hs es) (hN : N0 ≤ w.heap.size) (hNb : N0 ≤ base) (hx : EntF w N0 x en) (hr3 : Kd.R kEh 54 w3 base (fun _ => True) v3 (hs ++ [x])) (hg3 : w.grownBy w3 v.ownBlock) : ERow w3 N0 base v3 (es ++ [en]) :=
  snocR hE hx (grown_bt ⟨hs, hR, hE⟩ hN hNb hg3) hr3
/-- What a row of one's own grows by, leaves elder rows and the document's buffer alone. -/
theorem RBufIs.grown {w w' : World} {N0 g : Nat} {v : Value} {es : List Ent} {most size : Nat} (h : RBufIs w N0 g v es most size) {base : Nat} {u : Value} {fs : List Ent} (hu : ERow w N0 base u fs) (hN : N0 ≤ base) (hg : g < base) (hv : ∀ k, v.ownBlock = some k → k < base) (hgr : w.grownBy w' u.ownBlock) : RBufIs w' N0 g v es most size :=
  h.at_ (hgr.block g h.ltg (fun e => by have := (hu.own e.symm).2.1; omega)) (fun k hk => hgr.block k (h.own hk).1 (fun e => by have := (hu.own e.symm).2.1; have := hv k hk; omega)) (grown_bt hu h.hN hN hgr)
section
variable {w : World} {N0 g : Nat} {v : Value} {es : List Ent} {most size : Nat}
set_option maxHeartbeats 4000000 in
set_option maxRecDepth 100000 in
theorem rput_bad (h : RBufIs w N0 g v es most size) (s k : Int) (A : Option Addr) (n c : Nat) (hr : ¬ RightP size s k n) :
    Calls Try.prog 36 #[.pointer (some ⟨g, 0, none⟩), .agg #[.int .i64 s, .int .i64 k, .slice A n c]] w fun e w' => e = .returned (.int .i64 2) ∧ Below w.heap.size w w' := by
  have hb1 : Below w.heap.size w (w.alloc (.cells #[.int .i64 s, .int .i64 k, .slice A n c] 54)) := (Below.refl w.heap.size w).alloc (Nat.le_refl _) _
  have hR := rright_ok (h.below hb1) s k A n c
  rw [decide_eq_false hr] at hR
  have HR := Lib.hid hR
  have HB := Lib.hid hb1
  clear h hb1 hR hr
  go_enter Try.func36, Try.ntmps36
  go_wp2_with (go_at_call 92; refine (HR.out).mono ?_; rintro e w' ⟨rfl, hb2⟩)
  go_ret
  exact ⟨rfl, chainC' HB.out hb2⟩
set_option maxHeartbeats 4000000 in
set_option maxRecDepth 100000 in
theorem rput_full (h : RBufIs w N0 g v es most size) (s k : Int) (A : Option Addr) (n c : Nat) (hr : RightP size s k n) (hp : plc s es 0 < 0) (hf : es.length = most) :
    Calls Try.prog 36 #[.pointer (some ⟨g, 0, none⟩), .agg #[.int .i64 s, .int .i64 k, .slice A n c]] w fun e w' => e = .returned (.int .i64 3) ∧ Below w.heap.size w w' := by
  have hb1 : Below w.heap.size w (w.alloc (.cells #[.int .i64 s, .int .i64 k, .slice A n c] 54)) := (Below.refl w.heap.size w).alloc (Nat.le_refl _) _
  have h1 := h.below hb1
  have hR := rright_ok h1 s k A n c
  rw [decide_eq_true hr] at hR
  have HR := Lib.hid hR
  have HB := Lib.hid hb1
  have HH := Lib.hid h1
  generalize hP : plc s es 0 = P at hp
  have HP := Lib.hid hP
  have hff : (most : Int) ≤ (es.length : Int) := by omega
  obtain ⟨Ab, cb, hs, rfl, _, _, _⟩ := h.form
  obtain ⟨m, hm⟩ : ∃ m, m = es.length := ⟨_, rfl⟩
  rw [← hm] at hff HH
  have HM := Lib.hid hm
  clear h h1 hb1 hR hr hf hP hm
  go_enter Try.func36, Try.ntmps36
  go_wp2_with (first | (go_at_call 92; refine (HR.out).mono ?_; rintro e w2 ⟨rfl, hb2⟩; have k1 := box1 hb2; have e0 := blk_cell k1 0; have h2 := HH.out.below hb2; have hpl := rfind_ok h2 s; rw [HP.out] at hpl; have HPL := Lib.hid hpl; have HH2 := Lib.hid h2; have HB2 := Lib.hid (chainC' HB.out hb2); clear hb2 h2 k1 hpl) | (go_at_call 39; refine (HPL.out).mono ?_; rintro e w3 ⟨rfl, rfl⟩; have c0 := HH2.out.c0; have c1 := HH2.out.c1))
  go_quiet (fail)
  go_wp2_with fail
  go_ret
  exact ⟨rfl, pw_below_drewN HB2.out _⟩
/-- The document's buffer is told of its new row. -/
theorem rbuf_store {wr : World} {es2 E : List Ent} {base : Nat} {u : Value} (h : RBufIs wr N0 g v es2 most size) (hu : ERow wr N0 base u E) (hN : N0 ≤ base) (hgb : g < base) (hf : E.length ≤ most) :
    RBufIs (wr.setCell ⟨g, 0, none⟩ u) N0 g u E most size ∧ Mods wr (wr.setCell ⟨g, 0, none⟩ u) (fun q => q = g) := by
  have hM : Mods wr (wr.setCell ⟨g, 0, none⟩ u) (fun q => q = g) := (Mods.refl wr (fun q => q = g)).setCell (.inl rfl) _
  have h2 := (hu.lower hN).mods h.hN hM (fun k hk e => by have := (hu.own hk).2.1; omega) (fun k e => h.notBt k (.inl e))
  exact ⟨⟨blk_put h.blk 0 u rfl, h.lo, h2, h.small, hf⟩, hM⟩
set_option maxHeartbeats 8000000 in
set_option maxRecDepth 100000 in
theorem rput_go (h : RBufIs w N0 g v es most size) (s k : Int) (hd : Hdr) (xs : List Int) (hx : DatF w N0 hd xs) (hr : RightP size s k xs.length) (at' : Int) (hp : plc s es 0 = at') (hf : at' < 0 → es.length < most) (E2 : List Ent) (hE2 : E2.length = es.length) (hE3 : ∀ j (h1 : j < E2.length) (h2 : j < es.length), E2[j] = if (j : Int) = at' then (s, k, xs) else es[j]) :
    Calls Try.prog 36 #[.pointer (some ⟨g, 0, none⟩), .agg #[.int .i64 s, .int .i64 k, .slice hd.1 hd.2.1 hd.2.2]] w fun e w' => e = .returned (.int .i64 0) ∧ ∃ v', RBufIs w' N0 g v' (if at' < 0 then E2 ++ [(s, k, xs)] else E2) most size ∧ Mods w w' (fun q => q = g) ∧ (∃ q, v'.ownBlock = some q ∧ w.heap.size ≤ q ∨ v'.ownBlock = none) := by
  obtain ⟨A, n, c⟩ := hd
  have hn' : n = xs.length := hx.1
  subst hn'
  have hb1 : Below w.heap.size w (w.alloc (.cells #[.int .i64 s, .int .i64 k, .slice A xs.length c] 54)) := (Below.refl w.heap.size w).alloc (Nat.le_refl _) _
  have h1 := h.below hb1
  have hR := rright_ok h1 s k A xs.length c
  rw [decide_eq_true hr] at hR
  have HR := Lib.hid hR
  have HB := Lib.hid hb1
  have HH := Lib.hid h1
  have HX := Lib.hid (hx.move (Bt.below h.hN hb1))
  have HP := Lib.hid hp
  have HN := Lib.hid h.hN
  have HF := Lib.hid hf
  have HE2 := Lib.hid hE2
  have HE3 := Lib.hid hE3
  have hesl : es.length ≤ 1024 := by have := h.fit; have := h.small; omega
  have HGB : Hid (g < w.heap.size ∧ ∀ q, v.ownBlock = some q → q < w.heap.size) := Lib.hid ⟨h.ltg, fun q hq => (h.own hq).1⟩
  obtain ⟨Ab, cb, hs, rfl, _, _, _⟩ := h.form
  obtain ⟨m, hm⟩ : ∃ m, m = es.length := ⟨_, rfl⟩
  rw [← hm] at hesl HH HGB
  have HM := Lib.hid hm
  by_cases hat : at' < 0
  · have hmo : ¬ (most : Int) ≤ (m : Int) := by have := hf hat; omega
    have hmd : decide ((most : Int) ≤ (m : Int)) = false := decide_eq_false hmo
    have hmd2 : decide (most ≤ m) = false := decide_eq_false (by omega)
    rw [if_pos hat]
    have hatd : decide (at' < 0) = true := decide_eq_true hat
    clear h h1 hb1 hR hr hp hx hf hE2 hE3 hm
    go_enter Try.func36, Try.ntmps36
    go_wp2_with (first | (go_at_call 92; refine (HR.out).mono ?_; rintro e w2 ⟨rfl, hb2⟩; have k1 := box1 hb2; have e0 := blk_cell k1 0; have h2 := HH.out.below hb2; have hpl := rfind_ok h2 s; rw [HP.out] at hpl; have HPL := Lib.hid hpl; have HH2 := Lib.hid h2; have HX2 := Lib.hid (HX.out.move (Bt.below HH.out.hN hb2)); have HB2 := Lib.hid (chainC' HB.out hb2); have HK2 := Lib.hid k1; clear hb2 h2 k1 hpl) | (go_at_call 39; refine (HPL.out).mono ?_; rintro e w3 ⟨rfl, rfl⟩; have c0 := HH2.out.c0; have c1 := HH2.out.c1))
    go_quiet (fail)
    go_wp2_with fail
    have HH3 : Hid (RBufIs (w3.drewN nq) N0 g (.slice Ab m cb) es most size) := Lib.hid (HH2.out.at_ rfl (fun _ _ => rfl) (keep_drewN _ _ _))
    have HX3 : Hid (DatF (w3.drewN nq) N0 (A, xs.length, c) xs) := Lib.hid (HX2.out.move (keep_drewN _ _ _))
    have HB3 : Hid (Below w.heap.size w (w3.drewN nq)) := Lib.hid (pw_below_drewN HB2.out _)
    have HK3 : Hid ((w3.drewN nq).heap[w.heap.size]? = some (.cells #[.int .i64 s, .int .i64 k, .slice A xs.length c] 54 (0, 0))) := Lib.hid HK2.out
    clear HH2 HX2 HB2 HK2 e0 c0 c1 HPL HH HX HB HR
    generalize w3.drewN nq = W at HH3 HX3 HB3 HK3 ⊢
    have HWS : Hid (w.heap.size < W.heap.size) := Lib.hid (blk_lt HK3.out)
    go_loopw [6, 7] (fun l i wr => ∃ (q : Nat), q ≤ m ∧ i = .int .i64 q ∧ Hid (ERow wr N0 W.heap.size l (E2.take q)) ∧ Hid (RBufIs wr N0 g (.slice Ab m cb) es most size) ∧ Hid (DatF wr N0 (A, xs.length, c) xs) ∧ Hid (wr.heap[w.heap.size]? = some (.cells #[.int .i64 s, .int .i64 k, .slice A xs.length c] 54 (0, 0))) ∧ Hid (Below W.heap.size W wr)) (fun _ i _ => m - (intOf i).toNat)
    case atStart => exact ⟨0, by omega, rfl, Lib.hid (ERow.nil _ _ _), HH3, HX3, HK3, Lib.hid (Below.refl _ _)⟩
    case round =>
      clear HH3 HX3 HK3
      obtain ⟨q, hq, rfl, HRO, HH, HX, HK, HB⟩ := hrel
      have HNW : Hid (N0 ≤ W.heap.size) := Lib.hid (by have := HN.out; have := HWS.out; omega)
      obtain ⟨hs2, hR2, hE2⟩ := HRO.out
      have c0 := HH.out.c0
      have hN0 := HH.out.hN
      by_cases hqm : q < m
      · have hq1 : q < E2.length := by rw [HE2.out, ← HM.out]; exact hqm
        have hq2 : q < es.length := by rw [← HM.out]; exact hqm
        have hl2 := All2.len hE2
        rw [List.length_take] at hl2
        have HZ : Hid ((hs2.length + 1) * 40 ≤ 140737488355328) := Lib.hid (by omega)
        have HTK : Hid (E2.take (q + 1) = E2.take q ++ [E2[q]]) := Lib.hid (List.take_succ_eq_append_getElem hq1)
        have he3 := HE3.out q hq1 hq2
        have HR2 := Lib.hid hR2
        have HEE := Lib.hid hE2
        have hq0 : (q : Int) < (m : Int) := by omega
        have hm4 : (m : Int) ≤ 1024 := by omega
        by_cases hqa : (q : Int) = at'
        · rw [if_pos hqa] at he3
          rw [he3] at HTK
          have hqb : ((q : Int) == at') = true := beq_iff_eq.2 hqa
          have e0 := blk_cell HK.out 0
          have e1 := blk_cell HK.out 1
          have e2 := blk_cell HK.out 2
          clear he3 hqa hR2 hE2 hl2 hq1 hq2 HRO hN0
          go_wp2_with (at_builtin; refine Kd.R_append kEh (w0 := W) W.heap.size rfl (.tmp 42) (.tmp 44) 48 54 _ 40 rfl Try.underlying48 info54 rfl (by decide) (by decide) _ hs2 (s, k, A, xs.length, c) (ehC (s, k, A, xs.length, c)) _ (fun _ => False) rfl rfl (kEh_M _ _ _ _) (fun _ h => h.elim) (fun _ _ => trivial) HR2.out HB.out HB.out.size HZ.out ?_; intro v9 w9 hr9 hb9 hg9 hat9; have HB9 := Lib.hid hb9; have HR9 := Lib.hid (erow_snoc HR2.out HEE.out HH.out.hN HNW.out (show EntF _ N0 (s, k, A, xs.length, c) (s, k, xs) from ⟨rfl, rfl, HX.out⟩) hr9 hg9); have hu := (show ERow _ N0 W.heap.size _ _ from ⟨_, HR2.out, HEE.out⟩); have HH9 := Lib.hid (HH.out.grown hu HNW.out (Nat.lt_trans HGB.out.1 HWS.out) (fun q hq => Nat.lt_trans (HGB.out.2 q hq) HWS.out) hg9); have HX9 := Lib.hid (HX.out.move (grown_bt hu HH.out.hN HNW.out hg9)); have HK9 := Lib.hid ((hg9.block _ (blk_lt HK.out) (fun e => by have := (hu.own e.symm).2.1; have := HWS.out; omega)).trans HK.out); clear hr9 hb9 hg9 hat9 hu)
          rw [← HTK.out] at HR9
          go_roundw
          case rel => exact ⟨q + 1, hqm, by go_num, HR9, HH9, HX9, HK9, HB9⟩
          case measure => exact step_measure hqm
        · rw [if_neg hqa] at he3
          rw [he3] at HTK
          have hqb : ((q : Int) == at') = false := beq_eq_false_iff_ne.2 hqa
          obtain ⟨A', c', hs', he', _, _, hC', hE'⟩ := HH.out.form
          injection he' with he1 he4 he5
          clear he4 he5
          subst he1
          obtain ⟨b, off, x, rfl, e0, e1, e2, hdx⟩ := erow_at hC' hE' hq2
          have HDX := Lib.hid hdx
          generalize es[q] = en at e0 e1 e2 HDX HTK
          obtain ⟨s1, k1, d1⟩ := en
          obtain ⟨xA, xn, xc⟩ := x
          clear he3 hqa hR2 hE2 hl2 hq1 hq2 HRO hN0 hC' hE' hdx
          go_wp2_with (at_builtin; refine Kd.R_append kEh (w0 := W) W.heap.size rfl (.tmp 46) (.tmp 54) 48 54 _ 40 rfl Try.underlying48 info54 rfl (by decide) (by decide) _ hs2 (s1, k1, xA, xn, xc) (ehC (s1, k1, xA, xn, xc)) _ (fun _ => False) rfl rfl (kEh_M _ _ _ _) (fun _ h => h.elim) (fun _ _ => trivial) HR2.out HB.out HB.out.size HZ.out ?_; intro v9 w9 hr9 hb9 hg9 hat9; have HB9 := Lib.hid hb9; have HR9 := Lib.hid (erow_snoc HR2.out HEE.out HH.out.hN HNW.out (show EntF _ N0 (s1, k1, xA, xn, xc) (s1, k1, d1) from ⟨rfl, rfl, HDX.out⟩) hr9 hg9); have hu := (show ERow _ N0 W.heap.size _ _ from ⟨_, HR2.out, HEE.out⟩); have HH9 := Lib.hid (HH.out.grown hu HNW.out (Nat.lt_trans HGB.out.1 HWS.out) (fun q hq => Nat.lt_trans (HGB.out.2 q hq) HWS.out) hg9); have HX9 := Lib.hid (HX.out.move (grown_bt hu HH.out.hN HNW.out hg9)); have HK9 := Lib.hid ((hg9.block _ (blk_lt HK.out) (fun e => by have := (hu.own e.symm).2.1; have := HWS.out; omega)).trans HK.out); clear hr9 hb9 hg9 hat9 hu)
          rw [← HTK.out] at HR9
          go_roundw
          case rel => exact ⟨q + 1, hqm, by go_num, HR9, HH9, HX9, HK9, HB9⟩
          case measure => exact step_measure hqm
      · obtain rfl : q = m := by omega
        have htk : E2.take q = E2 := by rw [HM.out, ← HE2.out, List.take_length]
        rw [htk] at hE2 HRO
        have HFZ := blk_frozen HH.out.blk
        clear htk hqm hN0
        have hml : q + 1 ≤ most := by have := HF.out hat; rw [← HM.out] at this; exact this
        have HML := Lib.hid hml
        have hl2 := All2.len hE2
        have HZ : Hid ((hs2.length + 1) * 40 ≤ 140737488355328) := Lib.hid (by have := HE2.out; rw [← HM.out] at this; omega)
        have HR2 := Lib.hid hR2
        have HEE := Lib.hid hE2
        have e0 := blk_cell HK.out 0
        have e1 := blk_cell HK.out 1
        have e2 := blk_cell HK.out 2
        clear hml hl2 hR2 hE2 HRO
        go_wp2_with (at_builtin; refine Kd.R_append kEh (w0 := W) W.heap.size rfl (.tmp 58) (.tmp 60) 48 54 _ 40 rfl Try.underlying48 info54 rfl (by decide) (by decide) _ hs2 (s, k, A, xs.length, c) (ehC (s, k, A, xs.length, c)) _ (fun _ => False) rfl rfl (kEh_M _ _ _ _) (fun _ h => h.elim) (fun _ _ => trivial) HR2.out HB.out HB.out.size HZ.out ?_; intro v9 w9 hr9 hb9 hg9 hat9; have HRO := Lib.hid (erow_snoc HR2.out HEE.out HH.out.hN HNW.out (show EntF _ N0 (s, k, A, xs.length, c) (s, k, xs) from ⟨rfl, rfl, HX.out⟩) hr9 hg9); have hu := (show ERow _ N0 W.heap.size _ _ from ⟨_, HR2.out, HEE.out⟩); have HH9 := Lib.hid (HH.out.grown hu HNW.out (Nat.lt_trans HGB.out.1 HWS.out) (fun q hq => Nat.lt_trans (HGB.out.2 q hq) HWS.out) hg9); have f0 := HH9.out.c0; have f0z := blk_frozen HH9.out.blk; obtain ⟨A6, c6, hs6, rfl, _, _, _, _⟩ := HRO.out.form; have HFIN := Lib.hid (rbuf_store HH9.out HRO.out HNW.out (Nat.lt_trans HGB.out.1 HWS.out) (by rw [List.length_append, HE2.out, ← HM.out]; exact HML.out)); have HOW := Lib.hid (fun q hq => (HRO.out.own (k := q) hq).2.1); have HBW := Lib.hid (chainC (Nat.le_refl _) HB3.out hb9); rw [List.length_append] at HFIN HOW ⊢; clear hr9 hb9 hg9 hat9 hu)
        go_ret
        exact ⟨rfl, _, HFIN.out.1, (Mods.of_below HBW.out (fun q => q = g)).trans HFIN.out.2 (fun i h => .inl h), by
          cases ho : (Value.slice A6 (E2.length + 1) c6).ownBlock with
          | none => exact ⟨0, .inr rfl⟩
          | some q => exact ⟨q, .inl ⟨rfl, Nat.le_of_lt (Nat.lt_of_lt_of_le HWS.out (HOW.out q ho))⟩⟩⟩
  · have hat0 : 0 ≤ at' := by omega
    rw [if_neg hat]
    have hatd : decide (at' < 0) = false := decide_eq_false hat
    clear h h1 hb1 hR hr hp hx hf hE2 hE3 hm
    go_enter Try.func36, Try.ntmps36
    go_wp2_with (first | (go_at_call 92; refine (HR.out).mono ?_; rintro e w2 ⟨rfl, hb2⟩; have k1 := box1 hb2; have e0 := blk_cell k1 0; have h2 := HH.out.below hb2; have hpl := rfind_ok h2 s; rw [HP.out] at hpl; have HPL := Lib.hid hpl; have HH2 := Lib.hid h2; have HX2 := Lib.hid (HX.out.move (Bt.below HH.out.hN hb2)); have HB2 := Lib.hid (chainC' HB.out hb2); have HK2 := Lib.hid k1; clear hb2 h2 k1 hpl) | (go_at_call 39; refine (HPL.out).mono ?_; rintro e w3 ⟨rfl, rfl⟩; have c0 := HH2.out.c0; have c1 := HH2.out.c1))
    go_quiet (fail)
    go_wp2_with fail
    have HH3 : Hid (RBufIs (w3.drewN nq) N0 g (.slice Ab m cb) es most size) := Lib.hid (HH2.out.at_ rfl (fun _ _ => rfl) (keep_drewN _ _ _))
    have HX3 : Hid (DatF (w3.drewN nq) N0 (A, xs.length, c) xs) := Lib.hid (HX2.out.move (keep_drewN _ _ _))
    have HB3 : Hid (Below w.heap.size w (w3.drewN nq)) := Lib.hid (pw_below_drewN HB2.out _)
    have HK3 : Hid ((w3.drewN nq).heap[w.heap.size]? = some (.cells #[.int .i64 s, .int .i64 k, .slice A xs.length c] 54 (0, 0))) := Lib.hid HK2.out
    clear HH2 HX2 HB2 HK2 e0 c0 c1 HPL HH HX HB HR
    generalize w3.drewN nq = W at HH3 HX3 HB3 HK3 ⊢
    have HWS : Hid (w.heap.size < W.heap.size) := Lib.hid (blk_lt HK3.out)
    go_loopw [6, 7] (fun l i wr => ∃ (q : Nat), q ≤ m ∧ i = .int .i64 q ∧ Hid (ERow wr N0 W.heap.size l (E2.take q)) ∧ Hid (RBufIs wr N0 g (.slice Ab m cb) es most size) ∧ Hid (DatF wr N0 (A, xs.length, c) xs) ∧ Hid (wr.heap[w.heap.size]? = some (.cells #[.int .i64 s, .int .i64 k, .slice A xs.length c] 54 (0, 0))) ∧ Hid (Below W.heap.size W wr)) (fun _ i _ => m - (intOf i).toNat)
    case atStart => exact ⟨0, by omega, rfl, Lib.hid (ERow.nil _ _ _), HH3, HX3, HK3, Lib.hid (Below.refl _ _)⟩
    case round =>
      clear HH3 HX3 HK3
      obtain ⟨q, hq, rfl, HRO, HH, HX, HK, HB⟩ := hrel
      have HNW : Hid (N0 ≤ W.heap.size) := Lib.hid (by have := HN.out; have := HWS.out; omega)
      obtain ⟨hs2, hR2, hE2⟩ := HRO.out
      have c0 := HH.out.c0
      have hN0 := HH.out.hN
      by_cases hqm : q < m
      · have hq1 : q < E2.length := by rw [HE2.out, ← HM.out]; exact hqm
        have hq2 : q < es.length := by rw [← HM.out]; exact hqm
        have hl2 := All2.len hE2
        rw [List.length_take] at hl2
        have HZ : Hid ((hs2.length + 1) * 40 ≤ 140737488355328) := Lib.hid (by omega)
        have HTK : Hid (E2.take (q + 1) = E2.take q ++ [E2[q]]) := Lib.hid (List.take_succ_eq_append_getElem hq1)
        have he3 := HE3.out q hq1 hq2
        have HR2 := Lib.hid hR2
        have HEE := Lib.hid hE2
        have hq0 : (q : Int) < (m : Int) := by omega
        have hm4 : (m : Int) ≤ 1024 := by omega
        by_cases hqa : (q : Int) = at'
        · rw [if_pos hqa] at he3
          rw [he3] at HTK
          have hqb : ((q : Int) == at') = true := beq_iff_eq.2 hqa
          have e0 := blk_cell HK.out 0
          have e1 := blk_cell HK.out 1
          have e2 := blk_cell HK.out 2
          clear he3 hqa hR2 hE2 hl2 hq1 hq2 HRO hN0
          go_wp2_with (at_builtin; refine Kd.R_append kEh (w0 := W) W.heap.size rfl (.tmp 42) (.tmp 44) 48 54 _ 40 rfl Try.underlying48 info54 rfl (by decide) (by decide) _ hs2 (s, k, A, xs.length, c) (ehC (s, k, A, xs.length, c)) _ (fun _ => False) rfl rfl (kEh_M _ _ _ _) (fun _ h => h.elim) (fun _ _ => trivial) HR2.out HB.out HB.out.size HZ.out ?_; intro v9 w9 hr9 hb9 hg9 hat9; have HB9 := Lib.hid hb9; have HR9 := Lib.hid (erow_snoc HR2.out HEE.out HH.out.hN HNW.out (show EntF _ N0 (s, k, A, xs.length, c) (s, k, xs) from ⟨rfl, rfl, HX.out⟩) hr9 hg9); have hu := (show ERow _ N0 W.heap.size _ _ from ⟨_, HR2.out, HEE.out⟩); have HH9 := Lib.hid (HH.out.grown hu HNW.out (Nat.lt_trans HGB.out.1 HWS.out) (fun q hq => Nat.lt_trans (HGB.out.2 q hq) HWS.out) hg9); have HX9 := Lib.hid (HX.out.move (grown_bt hu HH.out.hN HNW.out hg9)); have HK9 := Lib.hid ((hg9.block _ (blk_lt HK.out) (fun e => by have := (hu.own e.symm).2.1; have := HWS.out; omega)).trans HK.out); clear hr9 hb9 hg9 hat9 hu)
          rw [← HTK.out] at HR9
          go_roundw
          case rel => exact ⟨q + 1, hqm, by go_num, HR9, HH9, HX9, HK9, HB9⟩
          case measure => exact step_measure hqm
        · rw [if_neg hqa] at he3
          rw [he3] at HTK
          have hqb : ((q : Int) == at') = false := beq_eq_false_iff_ne.2 hqa
          obtain ⟨A', c', hs', he', _, _, hC', hE'⟩ := HH.out.form
          injection he' with he1 he4 he5
          clear he4 he5
          subst he1
          obtain ⟨b, off, x, rfl, e0, e1, e2, hdx⟩ := erow_at hC' hE' hq2
          have HDX := Lib.hid hdx
          generalize es[q] = en at e0 e1 e2 HDX HTK
          obtain ⟨s1, k1, d1⟩ := en
          obtain ⟨xA, xn, xc⟩ := x
          clear he3 hqa hR2 hE2 hl2 hq1 hq2 HRO hN0 hC' hE' hdx
          go_wp2_with (at_builtin; refine Kd.R_append kEh (w0 := W) W.heap.size rfl (.tmp 46) (.tmp 54) 48 54 _ 40 rfl Try.underlying48 info54 rfl (by decide) (by decide) _ hs2 (s1, k1, xA, xn, xc) (ehC (s1, k1, xA, xn, xc)) _ (fun _ => False) rfl rfl (kEh_M _ _ _ _) (fun _ h => h.elim) (fun _ _ => trivial) HR2.out HB.out HB.out.size HZ.out ?_; intro v9 w9 hr9 hb9 hg9 hat9; have HB9 := Lib.hid hb9; have HR9 := Lib.hid (erow_snoc HR2.out HEE.out HH.out.hN HNW.out (show EntF _ N0 (s1, k1, xA, xn, xc) (s1, k1, d1) from ⟨rfl, rfl, HDX.out⟩) hr9 hg9); have hu := (show ERow _ N0 W.heap.size _ _ from ⟨_, HR2.out, HEE.out⟩); have HH9 := Lib.hid (HH.out.grown hu HNW.out (Nat.lt_trans HGB.out.1 HWS.out) (fun q hq => Nat.lt_trans (HGB.out.2 q hq) HWS.out) hg9); have HX9 := Lib.hid (HX.out.move (grown_bt hu HH.out.hN HNW.out hg9)); have HK9 := Lib.hid ((hg9.block _ (blk_lt HK.out) (fun e => by have := (hu.own e.symm).2.1; have := HWS.out; omega)).trans HK.out); clear hr9 hb9 hg9 hat9 hu)
          rw [← HTK.out] at HR9
          go_roundw
          case rel => exact ⟨q + 1, hqm, by go_num, HR9, HH9, HX9, HK9, HB9⟩
          case measure => exact step_measure hqm
      · obtain rfl : q = m := by omega
        have htk : E2.take q = E2 := by rw [HM.out, ← HE2.out, List.take_length]
        rw [htk] at hE2 HRO
        have HFZ := blk_frozen HH.out.blk
        clear htk hqm hN0
        obtain ⟨A6, c6, hs6, rfl, _, _, _, _⟩ := HRO.out.form
        have HFIN := Lib.hid (rbuf_store HH.out HRO.out HNW.out (Nat.lt_trans HGB.out.1 HWS.out) (by rw [HE2.out]; exact HH.out.fit))
        have HOW := Lib.hid (fun q hq => (HRO.out.own (k := q) hq).2.1)
        have HBW := Lib.hid (chainC (Nat.le_refl _) HB3.out HB.out)
        clear hR2 hE2
        go_wp2_with fail
        go_ret
        exact ⟨rfl, _, HFIN.out.1, (Mods.of_below HBW.out (fun q => q = g)).trans HFIN.out.2 (fun i h => .inl h), by
          cases ho : (Value.slice A6 E2.length c6).ownBlock with
          | none => exact ⟨0, .inr rfl⟩
          | some q => exact ⟨q, .inl ⟨rfl, Nat.le_of_lt (Nat.lt_of_lt_of_le HWS.out (HOW.out q ho))⟩⟩⟩
end
end Go.Proofs.Ytnkgbnipcjgjeaa
