import Derived.Test.YtnkgbnipcjgjeaaBI
namespace Go.Proofs.Ytnkgbnipcjgjeaa
open Go.RowKit Go.Lib Go.Proofs.YtnkgbnipcjgjeaaW.PrintWords Go.Proofs.YtnkgbnipcjgjeaaW.PrintLast Go.Proofs.YtnkgbnipcjgjeaaW.PrintMore
set_option linter.unusedVariables false
def drop1 (es : List Ent) (s : Int) : List Ent := if 0 ≤ plc s es 0 then es.eraseIdx (plc s es 0).toNat else es
def dropL (es : List Ent) (xs : List Int) : List Ent := xs.foldl drop1 es
theorem plc_lt (s : Int) : ∀ (es : List Ent) (k : Nat), plc s es k < 0 ∨ ((k : Int) ≤ plc s es k ∧ plc s es k < k + es.length)
  | [], k => .inl (by rw [plc]; omega)
  | e :: r, k => by
    rw [plc]
    split
    · right; rw [List.length_cons]; omega
    · rcases plc_lt s r (k + 1) with h | h
      · exact .inl h
      · right; rw [List.length_cons]; omega
theorem drop1_le (es : List Ent) (s : Int) : (drop1 es s).length ≤ es.length := by
  unfold drop1
  split
  · rw [List.length_eraseIdx]; split <;> omega
  · omega
theorem dropL_le (xs : List Int) : ∀ es : List Ent, (dropL es xs).length ≤ es.length := by
  induction xs with
  | nil => intro es; exact Nat.le_refl _
  | cons x r ih => intro es; exact Nat.le_trans (ih _) (drop1_le es x)
section
variable {w : World} {N0 g : Nat} {v : Value} {es : List Ent} {most size : Nat}
/-- One entry less, and the buffer told of it. -/
theorem buf_less {w3 w4 : World} {b c i : Nat} {hs : List Eh} (h : BufIs w3 N0 g (.slice (some ⟨b, 0, none⟩) es.length c) es most size) (hE : EAll w3 N0 hs es) (hi : i < es.length) (hR : Kd.R kEh 54 w4 N0 (fun _ => True) (.slice (some ⟨b, 0, none⟩) (es.length - 1) c) (hs.eraseIdx i)) (hm : Mods w3 w4 (fun k => k = b)) :
    BufIs (w4.setCell ⟨g, 0, none⟩ (.slice (some ⟨b, 0, none⟩) (es.length - 1) c)) N0 g (.slice (some ⟨b, 0, none⟩) (es.length - 1) c) (es.eraseIdx i) most size ∧ Mods w3 (w4.setCell ⟨g, 0, none⟩ (.slice (some ⟨b, 0, none⟩) (es.length - 1) c)) (BufS g (.slice (some ⟨b, 0, none⟩) es.length c)) ∧ w4.heap[g]? = some (.cells #[.slice (some ⟨b, 0, none⟩) es.length c, .int .i64 most, .int .i64 size] 142 (0, 0)) := by
  have hown : ∀ n, (Value.slice (some ⟨b, 0, none⟩) n c).ownBlock = some b := fun n => by simp [Value.ownBlock]
  have hob := h.own (hown _)
  have hk : Keep (Bt N0 w3) w3 w4 := Bt.mods h.hN hm (fun k e => h.notBt k (.inr (by rw [hown, e])))
  have hb5 : w4.heap[g]? = some (.cells #[.slice (some ⟨b, 0, none⟩) es.length c, .int .i64 most, .int .i64 size] 142 (0, 0)) := (hm.block g h.ltg (fun e => hob.2.2.1 e.symm)).trans h.blk
  have hgb : ∀ k, k = g → ¬ Bt N0 w4 k := fun k e hk => by
    subst e
    have := h.lo
    rcases hk with hk | ⟨cs, fr, hk⟩
    · omega
    · rw [hb5] at hk; injection hk with hk; injection hk with _ h2 _; cases h2
  have hM5 : Mods w4 (w4.setCell ⟨g, 0, none⟩ (.slice (some ⟨b, 0, none⟩) (es.length - 1) c)) (fun k => k = g) := (Mods.refl w4 (fun k => k = g)).setCell (.inl rfl) _
  have hk5 : Keep (Bt N0 w4) w4 (w4.setCell ⟨g, 0, none⟩ (.slice (some ⟨b, 0, none⟩) (es.length - 1) c)) := Bt.mods (Nat.le_trans h.hN hm.size) hM5 hgb
  have hE2 : EAll w3 N0 (hs.eraseIdx i) (es.eraseIdx i) := by
    rw [List.eraseIdx_eq_take_drop_succ, List.eraseIdx_eq_take_drop_succ]
    exact All2.app (All2.take i hE) (All2.drop (i + 1) hE)
  refine ⟨⟨blk_put hb5 0 _ rfl, h.lo, ⟨_, Kd.R_mono (Kd.R_move (Kd.R_tight rfl hR) (fun k hk => Below.heap_setCell w4 ⟨g, 0, none⟩ _ k (fun e => ?_))) (fun _ _ => trivial), (hE2.move hk).move hk5⟩, h.small, by rw [List.length_eraseIdx, if_pos hi]; have := h.fit; omega⟩, ?_, hb5⟩
  · rw [hown] at hk; injection hk with hk; rw [hk] at e; exact hob.2.2.1 e
  · exact (hm.mono (fun k e => .inr (by rw [hown, e]))).setCell (.inl (.inl rfl)) _
theorem BufIs.head (h : BufIs w N0 g v es most size) (hp : 0 < es.length) : ∃ b c, v = .slice (some ⟨b, 0, none⟩) es.length c := by
  obtain ⟨Ab, cb, hs, hv, hl, hcb, _, _⟩ := h.form
  obtain ⟨hs', hRv, _⟩ := h.row
  obtain ⟨inner, ho⟩ := Kd.R_own hRv
  rcases ho.2 with ⟨h1, h2⟩ | ⟨g', cap, cur, h1, _⟩
  · rw [hv] at h1; injection h1 with _ h1 _; omega
  · rw [hv] at h1; injection h1 with h1 _ _; exact ⟨g', cb, by rw [hv, h1]⟩
set_option maxHeartbeats 4000000 in
set_option maxRecDepth 100000 in
theorem bdrop_ok (h : BufIs w N0 g v es most size) (A : Option Addr) (c : Nat) (xs : List Int) (okS : Nat → Prop) (hF : Kd.F (Kd.int .i64) w okS A xs.length xs) (hS : ∀ k, okS k → ¬ BufS g v k) (hl : xs.length ≤ 100000) :
    Calls Try.prog 35 #[.pointer (some ⟨g, 0, none⟩), .slice A xs.length c] w fun e w' => e = .returned (.int .i64 ((es.length : Int) - (dropL es xs).length)) ∧ ∃ v', BufIs w' N0 g v' (dropL es xs) most size ∧ v'.ownBlock = v.ownBlock ∧ Mods w w' (BufS g v) := by
  have HL := Lib.hid (blen_ok h)
  have HH := Lib.hid h
  have HF := Lib.hid hF
  have HS := Lib.hid hS
  have hesl : es.length ≤ 1024 := by have := h.fit; have := h.small; omega
  obtain ⟨T, hT⟩ : ∃ T, T = dropL es xs := ⟨_, rfl⟩
  rw [← hT]
  have HT := Lib.hid hT
  have htl : T.length ≤ es.length := by rw [hT]; exact dropL_le xs es
  obtain ⟨m, hm⟩ : ∃ m, m = es.length := ⟨_, rfl⟩
  rw [← hm] at HL hesl htl ⊢
  have HM := Lib.hid hm
  obtain ⟨n, hn⟩ : ∃ n, n = xs.length := ⟨_, rfl⟩
  rw [← hn] at HF hl ⊢
  have HN := Lib.hid hn
  clear h hF hS hT hm hn
  go_enter Try.func35, Try.ntmps35
  go_wp2_with (go_at_call 34; refine (HL.out).mono ?_; rintro e w' ⟨rfl, rfl⟩)
  go_loopw [13] (fun i wr => ∃ (k : Nat) (vk : Value) (ek : List Ent), k ≤ n ∧ i = .int .i64 k ∧ Hid (ek = dropL es (xs.take k)) ∧ Hid (BufIs wr N0 g vk ek most size) ∧ Hid (vk.ownBlock = v.ownBlock) ∧ Hid (Mods w' wr (BufS g v))) (fun i _ => n - (intOf i).toNat)
  case atStart => exact ⟨0, v, es, by omega, rfl, Lib.hid rfl, HH, Lib.hid rfl, Lib.hid (Mods.refl _ _)⟩
  case round =>
    obtain ⟨k, vk, ek, hk, rfl, HEK, HB, HO, HMO⟩ := hrel
    by_cases hkn : k < n
    · have hks : k < xs.length := by rw [← HN.out]; exact hkn
      have hFr := Kd.F_step HF.out (fun j hj hlt => HMO.out.block j hlt (HS.out j hj))
      rw [HN.out] at hFr
      obtain ⟨b1, o1, rfl, _, hcell⟩ := row_of_C (Kd.F_now hFr) (by omega)
      have e0 := hcell k hks
      have HTK : Hid (dropL es (xs.take (k + 1)) = drop1 ek (xs.getD k 0)) := Lib.hid (by
        rw [List.take_succ_eq_append_getElem hks, dropL, List.foldl_append, show List.foldl drop1 es (xs.take k) = dropL es (xs.take k) from rfl, ← HEK.out, List.getD_eq_getElem?_getD, List.getElem?_eq_getElem hks]
        rfl)
      generalize xs.getD k 0 = s at e0 HTK
      have HPL := Lib.hid (bplace_ok HB.out s)
      have hk0 : (k : Int) < (n : Int) := by omega
      have hn0 : (n : Int) ≤ 100000 := by omega
      have hpl := plc_lt s ek 0
      by_cases hp : plc s ek 0 < 0
      · have hp0 : ¬ 0 ≤ plc s ek 0 := by omega
        have HT1 : Hid (ek = dropL es (xs.take (k + 1))) := Lib.hid (by rw [HTK.out, drop1, if_neg hp0])
        generalize plc s ek 0 = P at hp hp0 HPL hpl
        clear hpl hFr hks hcell
        go_wp2_with (go_at_call 89; refine (HPL.out).mono ?_; rintro e w2 ⟨rfl, hb2⟩)
        go_roundw
        case rel => exact ⟨k + 1, vk, ek, hkn, by go_num, HT1, Lib.hid (HB.out.below hb2), HO, Lib.hid (HMO.out.below hb2)⟩
        case measure => exact step_measure hkn
      · obtain ⟨P, hP⟩ : ∃ P : Nat, plc s ek 0 = (P : Int) := Int.eq_ofNat_of_zero_le (by omega)
        have hPl : P < ek.length := by omega
        have HT1 : Hid (ek.eraseIdx P = dropL es (xs.take (k + 1))) := Lib.hid (by rw [HTK.out, drop1, if_pos (by omega), hP, Int.toNat_natCast])
        rw [hP] at HPL
        have hp0 : (0 : Int) ≤ (P : Int) := by omega
        have hP5 : (P : Int) ≤ 1024 := by have := HB.out.fit; have := HB.out.small; omega
        obtain ⟨b, cb, rfl⟩ := HB.out.head (by omega)
        have HO2 : Hid (∀ n, (Value.slice (some ⟨b, 0, none⟩) n cb).ownBlock = v.ownBlock) := Lib.hid (fun n => by rw [← HO.out]; simp [Value.ownBlock])
        have hekl : ek.length ≤ 1024 := by have := HB.out.fit; have := HB.out.small; omega
        clear hpl hFr hks hcell hp hP
        go_upto_region 7 with (go_at_call 89; refine (HPL.out).mono ?_; rintro e w2 ⟨rfl, hb2⟩)
        have h2 := HB.out.below hb2
        have HM2 := Lib.hid (HMO.out.below hb2)
        obtain ⟨hs2, hR2, hE2⟩ := h2.row
        have hd := bdel_ok hR2 P hPl (by omega) h2.hN
        simp only [Int.natCast_add, Int.natCast_one] at hd
        have HD := Lib.hid hd
        have c0 := h2.c0
        have HH2 := Lib.hid h2
        have HE2 := Lib.hid hE2
        clear hb2 hR2 hE2 hd h2
        go_wp2_with (go_at_call 91; refine (HD.out).mono ?_; rintro e w3 ⟨rfl, hr3, hm3⟩; have HF3 := Lib.hid (buf_less HH2.out HE2.out hPl hr3 hm3); have f3 := blk_cell HF3.out.2.2 0; have f3z := blk_frozen HF3.out.2.2 0; clear hr3 hm3)
        go_roundw
        case rel => exact ⟨k + 1, _, _, hkn, by go_num, HT1, Lib.hid HF3.out.1, Lib.hid (HO2.out _), Lib.hid (HM2.out.trans HF3.out.2.1 (fun i h => .inl (h.imp id (fun h => by rw [← h, HO2.out])))) ⟩
        case measure => exact step_measure hkn
    · have hk2 : k = n := by omega
      subst hk2
      have hek := HEK.out
      rw [HN.out, List.take_length, ← HT.out] at hek
      subst hek
      have HL2 := Lib.hid (blen_ok HB.out)
      have HFIN := Lib.hid HB.out
      clear hkn
      go_wp2_with (go_at_call 34; refine (HL2.out).mono ?_; rintro e w2 ⟨rfl, rfl⟩)
      go_ret
      exact ⟨rfl, vk, HFIN.out, HO.out, HMO.out⟩
end
end Go.Proofs.Ytnkgbnipcjgjeaa
