import Derived.Test.YtnkgbnipcjgjeaaBP
namespace Go.Proofs.Ytnkgbnipcjgjeaa
open Go.RowKit Go.Lib Go.Proofs.YtnkgbnipcjgjeaaW.PrintWords Go.Proofs.YtnkgbnipcjgjeaaW.PrintLast Go.Proofs.YtnkgbnipcjgjeaaW.PrintMore
set_option linter.unusedVariables false
section
variable {w : World} {N0 g : Nat} {v : Value} {es : List Ent} {most size : Nat}
theorem rput_any (h : RBufIs w N0 g v es most size) (s k : Int) (hd : Hdr) (xs : List Int) (hx : DatF w N0 hd xs) :
    Calls Try.prog 36 #[.pointer (some ⟨g, 0, none⟩), .agg #[.int .i64 s, .int .i64 k, .slice hd.1 hd.2.1 hd.2.2]] w fun e w' => e = .returned (.int .i64 (putR most size es (s, k, xs)).1) ∧ ∃ v', RBufIs w' N0 g v' (putL most size es (s, k, xs)) most size ∧ Mods w w' (fun q => q = g) ∧ (v'.ownBlock = v.ownBlock ∨ v'.ownBlock = none ∨ ∃ k, v'.ownBlock = some k ∧ w.heap.size ≤ k) := by
  have hn : hd.2.1 = xs.length := hx.1
  unfold putL putR
  by_cases hr : RightP size s k xs.length
  · rw [if_pos hr]
    by_cases hp : 0 ≤ plc s es 0
    · rw [if_pos hp]
      obtain ⟨i, hi⟩ := Int.eq_ofNat_of_zero_le hp
      have hil : i < es.length := by have := plc_lt s es 0; omega
      refine (rput_go h s k hd xs hx hr i hi (by omega) (es.set i (s, k, xs)) (by simp) (fun j h1 h2 => ?_)).mono ?_
      · rw [List.getElem_set]
        by_cases e : i = j
        · rw [if_pos e, if_pos (by omega)]
        · rw [if_neg e, if_neg (by omega)]
      rintro e w' ⟨rfl, v', h1, h2, q, h3⟩
      rw [if_neg (by omega)] at h1
      rw [hi, Int.toNat_natCast]
      exact ⟨rfl, v', h1, h2, .inr (h3.elim (fun h => .inr ⟨q, h⟩) (fun h => .inl h))⟩
    · rw [if_neg hp]
      by_cases hf : es.length = most
      · rw [if_pos hf]
        have := rput_full h s k hd.1 hd.2.1 hd.2.2 (hn ▸ hr) (by omega) hf
        refine this.mono ?_
        rintro e w' ⟨rfl, h1⟩
        exact ⟨rfl, v, h.below h1, Mods.of_below h1 _, .inl rfl⟩
      · rw [if_neg hf]
        refine (rput_go h s k hd xs hx hr _ rfl (fun _ => by have := h.fit; omega) es rfl (fun j h1 h2 => by rw [if_neg (by omega)])).mono ?_
        rintro e w' ⟨rfl, v', h1, h2, q, h3⟩
        rw [if_pos (by omega)] at h1
        exact ⟨rfl, v', h1, h2, .inr (h3.elim (fun h => .inr ⟨q, h⟩) (fun h => .inl h))⟩
  · rw [if_neg hr]
    have := rput_bad h s k hd.1 hd.2.1 hd.2.2 (hn ▸ hr)
    refine this.mono ?_
    rintro e w' ⟨rfl, h1⟩
    exact ⟨rfl, v, h.below h1, Mods.of_below h1 _, .inl rfl⟩
def keepE (xs : List Int) (e : Ent) : Bool := !decide (e.1 ∈ xs)
set_option maxHeartbeats 8000000 in
set_option maxRecDepth 100000 in
theorem rdrop_ok (h : RBufIs w N0 g v es most size) (A : Option Addr) (c : Nat) (xs : List Int) (hC : Kd.C (Kd.int .i64) w A xs.length xs) (hl : xs.length ≤ 100000) :
    Calls Try.prog 41 #[.pointer (some ⟨g, 0, none⟩), .slice A xs.length c] w fun e w' => e = .returned (.int .i64 ((es.length : Int) - ((es.filter (keepE xs)).length : Int))) ∧ ∃ v', RBufIs w' N0 g v' (es.filter (keepE xs)) most size ∧ Mods w w' (fun q => q = g) ∧ (v'.ownBlock = none ∨ ∃ k, v'.ownBlock = some k ∧ w.heap.size ≤ k) := by
  have HH := Lib.hid h
  have HC := Lib.hid hC
  have hN := h.hN
  have hg := h.ltg
  have hesl : es.length ≤ 1024 := by have := h.fit; have := h.small; omega
  obtain ⟨Ab, cb, hs, rfl, _, _, _⟩ := h.form
  obtain ⟨m, hm⟩ : ∃ m, m = es.length := ⟨_, rfl⟩
  rw [← hm] at hesl HH ⊢
  have HM := Lib.hid hm
  obtain ⟨n, hn⟩ : ∃ n, n = xs.length := ⟨_, rfl⟩
  rw [← hn] at HC hl ⊢
  have HNX := Lib.hid hn
  have hn5 : (n : Int) ≤ 100000 := by omega
  have hm5 : (m : Int) ≤ 1024 := by omega
  clear h hC hm hn
  go_enter Try.func41, Try.ntmps41
  go_wp2_with fail
  go_loopw [5, 6] (fun l i wr => ∃ (q : Nat), q ≤ m ∧ i = .int .i64 q ∧ Hid (ERow wr N0 w.heap.size l ((es.take q).filter (keepE xs))) ∧ Hid (Below w.heap.size w wr)) (fun _ i _ => m - (intOf i).toNat)
  case atStart => exact ⟨0, by omega, rfl, Lib.hid (ERow.nil _ _ _), Lib.hid (Below.refl _ _)⟩
  case round =>
    obtain ⟨q, hq, rfl, HRO, HB⟩ := hrel
    have hbuf := HH.out.below HB.out
    have c0 := hbuf.c0
    by_cases hqm : q < m
    · have hq2 : q < es.length := by rw [← HM.out]; exact hqm
      obtain ⟨A', c', hs', he', _, _, hC', hE'⟩ := hbuf.form
      injection he' with he1 he4 he5
      clear he4 he5
      subst he1
      obtain ⟨b, off, x, rfl, e0, e1, e2, hdx⟩ := erow_at hC' hE' hq2
      have HDX := Lib.hid hdx
      have htk : es.take (q + 1) = es.take q ++ [es[q]] := List.take_succ_eq_append_getElem hq2
      have HTK : Hid ((es.take (q + 1)).filter (keepE xs) = (es.take q).filter (keepE xs) ++ if es[q].1 ∈ xs then [] else [es[q]]) := Lib.hid (by
        rw [htk, List.filter_append]
        congr 1
        by_cases hmem : es[q].1 ∈ xs
        · rw [if_pos hmem, List.filter_cons, if_neg (by simp [keepE, hmem])]; rfl
        · rw [if_neg hmem, List.filter_cons, if_pos (by simp [keepE, hmem])]; rfl)
      generalize es[q] = en at e0 e1 e2 HDX HTK
      obtain ⟨s1, k1, d1⟩ := en
      obtain ⟨xA, xn, xc⟩ := x
      have hq0 : (q : Int) < (m : Int) := by omega
      have HCr := Lib.hid (Kd.C_below HC.out HB.out)
      have HBF := Lib.hid hbuf
      clear hC' hE' hdx htk hq2 hbuf
      obtain ⟨wo, hwo⟩ : ∃ wo : World, wo = wr := ⟨_, rfl⟩
      subst hwo
      go_wp2_with fail
      go_loopw [7, 8] (fun nm i wr => ∃ (t : Nat), t ≤ n ∧ i = .int .i64 t ∧ nm = .bool (decide (s1 ∈ xs.take t)) ∧ Hid (∃ r, wr = wo.drewN r)) (fun _ i _ => n - (intOf i).toNat)
      case atStart => exact ⟨0, by omega, rfl, by rw [List.take_zero]; rfl, Lib.hid ⟨0, rfl⟩⟩
      case round =>
        obtain ⟨t, ht, rfl, hnm, HQ⟩ := hrel
        by_cases htn : t < n
        · have htx : t < xs.length := by rw [← HNX.out]; exact htn
          have hCt : Kd.C (Kd.int .i64) wr A xs.length xs := by obtain ⟨r, rfl⟩ := HQ.out; rw [← HNX.out]; exact Kd.C_drewN HCr.out r
          obtain ⟨bx, ox, rfl, _, hcell⟩ := row_of_C hCt (by omega)
          have a0 := hcell t htx
          rw [List.getD_eq_getElem?_getD, List.getElem?_eq_getElem htx, Option.getD_some] at a0
          have f0 : wr.cell? ⟨g, 0, none⟩ = some (.slice (some ⟨b, off, none⟩) m cb) := by obtain ⟨r, rfl⟩ := HQ.out; exact c0
          have f1 : wr.cell? ⟨b, off + q * 3, none⟩ = some (.int .i64 s1) := by obtain ⟨r, rfl⟩ := HQ.out; exact e0
          have HTX : Hid (xs.take (t + 1) = xs.take t ++ [xs[t]]) := Lib.hid (List.take_succ_eq_append_getElem htx)
          generalize xs[t] = y at a0 HTX
          have ht0 : (t : Int) < (n : Int) := by omega
          clear hCt hcell htx
          by_cases hy : y = s1
          · have hyb : (y == s1) = true := beq_iff_eq.2 hy
            have HNM : Hid (true = decide (s1 ∈ xs.take (t + 1))) := Lib.hid (by rw [HTX.out]; exact (decide_eq_true (List.mem_append.2 (.inr (by rw [hy]; exact List.mem_singleton.2 rfl)))).symm)
            clear hy
            subst hnm
            go_wp2_with fail
            go_quiet (fail)
            go_wp2_with fail
            go_roundw
            case rel => exact ⟨t + 1, htn, by go_num, by rw [← HNM.out], Lib.hid (by obtain ⟨r, rfl⟩ := HQ.out; exact ⟨_, World.drewN_drewN _ _ _⟩)⟩
            case measure => exact step_measure htn
          · have hyb : (y == s1) = false := beq_eq_false_iff_ne.2 hy
            have HNM : Hid (decide (s1 ∈ xs.take t) = decide (s1 ∈ xs.take (t + 1))) := Lib.hid (by
              rw [HTX.out]
              refine decide_eq_decide.2 ⟨fun h => List.mem_append.2 (.inl h), fun h => ?_⟩
              rcases List.mem_append.1 h with h | h
              · exact h
              · exact absurd (List.mem_singleton.1 h).symm hy)
            clear hy
            subst hnm
            go_wp2_with fail
            go_quiet (fail)
            go_wp2_with fail
            go_roundw
            case rel => exact ⟨t + 1, htn, by go_num, by rw [← HNM.out], Lib.hid (by obtain ⟨r, rfl⟩ := HQ.out; exact ⟨_, World.drewN_drewN _ _ _⟩)⟩
            case measure => exact step_measure htn
        · obtain rfl : t = n := by omega
          rw [HNX.out, List.take_length] at hnm
          subst hnm
          have f0 : wr.cell? ⟨g, 0, none⟩ = some (.slice (some ⟨b, off, none⟩) m cb) := by obtain ⟨r, rfl⟩ := HQ.out; exact c0
          have f1 : wr.cell? ⟨b, off + q * 3, none⟩ = some (.int .i64 s1) := by obtain ⟨r, rfl⟩ := HQ.out; exact e0
          have f2 : wr.cell? ⟨b, off + q * 3 + 1, none⟩ = some (.int .i64 k1) := by obtain ⟨r, rfl⟩ := HQ.out; exact e1
          have f3 : wr.cell? ⟨b, off + q * 3 + 2, none⟩ = some (.slice xA xn xc) := by obtain ⟨r, rfl⟩ := HQ.out; exact e2
          have HB1 : Hid (Below w.heap.size w wr) := Lib.hid (by obtain ⟨r, rfl⟩ := HQ.out; exact pw_below_drewN HB.out r)
          have HNr : Hid (N0 ≤ wr.heap.size) := Lib.hid (Nat.le_trans hN HB1.out.size)
          have HRO1 : Hid (ERow wr N0 w.heap.size u5 ((es.take q).filter (keepE xs))) := Lib.hid (by obtain ⟨r, rfl⟩ := HQ.out; exact HRO.out.at_ (fun _ _ => rfl) (keep_drewN _ _ _))
          have HDX1 : Hid (DatF wr N0 (xA, xn, xc) d1) := Lib.hid (by obtain ⟨r, rfl⟩ := HQ.out; exact HDX.out.move (keep_drewN _ _ _))
          clear htn HQ HCr HDX HRO
          by_cases hmem : s1 ∈ xs
          · have hmd : decide (s1 ∈ xs) = true := decide_eq_true hmem
            have htk := HTK.out
            rw [if_pos hmem, List.append_nil] at htk
            have HTK2 := Lib.hid htk
            rw [hmd]
            clear htk hmem hmd
            go_wp2_with fail
            go_roundw
            case rel => exact ⟨q + 1, hqm, by go_num, by rw [HTK2.out]; exact HRO1, HB1⟩
            case measure => exact step_measure hqm
          · have hmd : decide (s1 ∈ xs) = false := decide_eq_false hmem
            have htk := HTK.out
            rw [if_neg hmem] at htk
            have HTK2 := Lib.hid htk
            rw [hmd]
            obtain ⟨hs2, hR2, hE2⟩ := HRO1.out
            have hl2 := All2.len hE2
            have hl3 := List.length_filter_le (keepE xs) (es.take q)
            rw [List.length_take] at hl3
            have HZ : Hid ((hs2.length + 1) * 40 ≤ 140737488355328) := Lib.hid (by omega)
            have HR2 := Lib.hid hR2
            have HEE := Lib.hid hE2
            clear htk hmem hmd hR2 hE2 hl2 hl3
            go_wp2_with (at_builtin; refine Kd.R_append kEh (w0 := w) w.heap.size rfl (.tmp 40) (.tmp 48) 48 54 _ 40 rfl Try.underlying48 info54 rfl (by decide) (by decide) _ hs2 (s1, k1, xA, xn, xc) (ehC (s1, k1, xA, xn, xc)) _ (fun _ => False) rfl rfl (kEh_M _ _ _ _) (fun _ h => h.elim) (fun _ _ => trivial) HR2.out HB1.out HB1.out.size HZ.out ?_; intro v9 w9 hr9 hb9 hg9 hat9; have HB9 := Lib.hid hb9; have HR9 := Lib.hid (erow_snoc HR2.out HEE.out HNr.out hN (show EntF _ N0 (s1, k1, xA, xn, xc) (s1, k1, d1) from ⟨rfl, rfl, HDX1.out⟩) hr9 hg9); clear hr9 hb9 hg9 hat9)
            rw [← HTK2.out] at HR9
            go_roundw
            case rel => exact ⟨q + 1, hqm, by go_num, HR9, HB9⟩
            case measure => exact step_measure hqm
    · obtain rfl : q = m := by omega
      have hro := HRO.out
      rw [HM.out, List.take_length] at hro
      have hle : (es.filter (keepE xs)).length ≤ es.length := List.length_filter_le _ _
      rw [← HM.out] at hle
      obtain ⟨E, hE⟩ : ∃ E, E = es.filter (keepE xs) := ⟨_, rfl⟩
      rw [← hE] at hro hle
      have HEQ := Lib.hid hE
      clear hE
      obtain ⟨A6, c6, hs6, rfl, _, _, _, _⟩ := hro.form
      have HFIN := Lib.hid (rbuf_store hbuf hro hN hg (by have := HH.out.fit; rw [← HM.out] at this; omega))
      have HOW := Lib.hid (fun q hq => (hro.own (k := q) hq).2.1)
      have hz := blk_frozen hbuf.blk
      have hle0 : (E.length : Int) ≤ (q : Int) := by omega
      clear hro hle hqm hbuf
      go_wp2_with fail
      go_ret
      rw [← HEQ.out]
      exact ⟨rfl, _, HFIN.out.1, (Mods.of_below HB.out (fun q => q = g)).trans HFIN.out.2 (fun i h => .inl h), by
        cases ho : (Value.slice A6 E.length c6).ownBlock with
        | none => exact .inl rfl
        | some q => exact .inr ⟨q, rfl, HOW.out q ho⟩⟩
end
end Go.Proofs.Ytnkgbnipcjgjeaa
