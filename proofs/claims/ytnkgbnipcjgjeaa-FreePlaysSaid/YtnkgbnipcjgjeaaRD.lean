import Derived.Test.YtnkgbnipcjgjeaaRC
namespace Go.Proofs.Ytnkgbnipcjgjeaa
open Go.RowKit Go.Shelf Go.Sort Go.Lib Go.Proofs.YtnkgbnipcjgjeaaW.PrintWords Go.Proofs.YtnkgbnipcjgjeaaW.PrintLast Go.Proofs.YtnkgbnipcjgjeaaW.PrintMore
set_option linter.unusedVariables false
def outL (l : List (Int × Int)) (a : Nat) : Nat → List (Int × Int)
  | 0 => []
  | k + 1 => outL l a k ++ (if k = a then [] else [gP l k])
theorem gP_get (l : List (Int × Int)) {i : Nat} (h : i < l.length) : gP l i = l[i] := by unfold gP; rw [List.getD_eq_getElem?_getD, List.getElem?_eq_getElem h]; rfl
theorem outL_eq (l : List (Int × Int)) (a : Nat) : ∀ k, k ≤ l.length → outL l a k = (l.take k).eraseIdx a
  | 0, _ => by simp [outL]
  | k + 1, h => by
    have hk : k < l.length := by omega
    unfold outL
    rw [outL_eq l a k (by omega), List.take_succ_eq_append_getElem hk, gP_get l hk]
    by_cases e : k = a
    · rw [if_pos e, List.append_nil]
      subst e
      rw [List.eraseIdx_append_of_length_le (by rw [List.length_take]; exact Nat.min_le_left _ _)]
      have hz : k - (l.take k).length = 0 := by rw [List.length_take]; omega
      rw [hz, List.eraseIdx_cons_zero, List.append_nil, List.eraseIdx_of_length_le (by rw [List.length_take]; exact Nat.min_le_left _ _)]
    · rw [if_neg e]
      by_cases h2 : a < k
      · rw [List.eraseIdx_append_of_lt_length (by rw [List.length_take]; omega)]
      · rw [List.eraseIdx_of_length_le (by rw [List.length_take]; omega), List.eraseIdx_of_length_le (by rw [List.length_append, List.length_take]; simp; omega)]
theorem outL_len (l : List (Int × Int)) (a k : Nat) : (outL l a k).length ≤ k := by
  induction k with
  | zero => exact Nat.le_refl _
  | succ k ih =>
    unfold outL
    rw [List.length_append]
    split <;> simp <;> omega
theorem two_nil (w : World) (B g : Nat) : Two w B g (.slice none 0 0) (.slice none 0 0) [] [] := ⟨Kd.R_nil _ _ _ _ _, Kd.R_nil _ _ _ _ _⟩
set_option maxHeartbeats 8000000 in
set_option maxRecDepth 100000 in
theorem rout_ok (g a : Nat) (l : List (Int × Int)) (w : World) (h : RR w g l) (hl : l.length ≤ 1000) (ha : a < l.length) : Calls Try.prog 26 #[.pointer (some ⟨g, 0, none⟩), .int .i64 (a : Int)] w fun e w' => e = .returned (.tuple #[]) ∧ RP w' g w.heap.size (l.eraseIdx a) ∧ Mods w w' (fun k => k = g) := by
  obtain ⟨A1, c1, A2, c2, h0, h3, h4, hc⟩ := h.cells
  have HC := Lib.hid hc
  have HL := Lib.hid hl
  obtain ⟨n, hn⟩ : ∃ n, n = l.length := ⟨_, rfl⟩
  rw [← hn] at h0
  have HN := Lib.hid hn
  have hgl : g < w.heap.size := blk_lt h0
  have H0 := Lib.hid h0
  have HA := Lib.hid ha
  have hn2 : (n : Int) ≤ 1000 := by omega
  have ha0 : (a : Int) < (n : Int) := by omega
  have HB0 := Lib.hid (Below.refl w.heap.size w)
  clear h hc hl h3 h4 h0 hn ha
  go_enter Try.func26, Try.ntmps26
  go_wp2_with fail
  go_loopw [4, 5, 6] (fun v1 v2 i wr => ∃ (k : Nat), k ≤ n ∧ i = .int .i64 k ∧ Hid (Two wr w.heap.size g v1 v2 (fs (outL l a k)) (sn (outL l a k))) ∧ Hid (Below w.heap.size w wr)) (fun _ _ i _ => n - (intOf i).toNat)
  case atStart => exact ⟨0, by omega, rfl, Lib.hid (two_nil _ _ _), HB0⟩
  case round =>
    clear HB0
    obtain ⟨k, hk, rfl, HT, HB⟩ := hrel
    have hg0 : wr.cell? ⟨g, 0, none⟩ = some (.slice A1 n c1) := (HB.out.cell (p := ⟨g, 0, none⟩) hgl).trans (blk_cell H0.out 0)
    have hg1 : wr.cell? ⟨g, 1, none⟩ = some (.slice A2 n c2) := (HB.out.cell (p := ⟨g, 1, none⟩) hgl).trans (blk_cell H0.out 1)
    by_cases hkn : k < n
    · obtain ⟨b1, o1, b2, o2, rfl, rfl, hb1, hb2, hcell⟩ := HC.out (by have := HN.out; omega)
      have ek := hcell k (by have := HN.out; omega)
      have e1 : wr.cell? ⟨b1, o1 + k, none⟩ = some (.int .i64 (gP l k).1) := (HB.out.cell (p := ⟨b1, o1 + k, none⟩) hb1).trans ek.1
      have e2 : wr.cell? ⟨b2, o2 + k, none⟩ = some (.int .i64 (gP l k).2) := (HB.out.cell (p := ⟨b2, o2 + k, none⟩) hb2).trans ek.2
      have hk0 : (k : Int) < (n : Int) := by omega
      have hsucc : outL l a (k + 1) = outL l a k ++ (if k = a then [] else [gP l k]) := rfl
      have hlen := outL_len l a k
      have hB1 := HB.out.size
      by_cases hka : k = a
      · rw [if_pos hka, List.append_nil] at hsucc
        have HS := Lib.hid hsucc
        have hb : ((k : Int) != (a : Int)) = false := by rw [hka]; simp
        clear hcell ek hsucc hka hlen
        go_wp2_with fail
        go_roundw
        case rel => exact ⟨k + 1, hkn, by go_num, by rw [HS.out]; exact HT, HB⟩
        case measure => exact step_measure hkn
      · rw [if_neg hka] at hsucc
        have HS := Lib.hid hsucc
        have hb : ((k : Int) != (a : Int)) = true := by rw [bne_iff_ne]; omega
        have HF := Lib.hid (HT.out.fresh1 (Nat.lt_of_lt_of_le hgl hB1))
        have hbig1 : ((fs (outL l a k)).length + 1) * 8 ≤ 140737488355328 := by rw [fs_len]; omega
        have hbig2 : ((sn (outL l a k)).length + 1) * 8 ≤ 140737488355328 := by rw [sn_len]; omega
        have HG1 := Lib.hid hbig1
        have HG2 := Lib.hid hbig2
        generalize gP l k = p at e1 e2 HS
        obtain ⟨x, y⟩ := p
        generalize hls : outL l a k = ls at HT HF HG1 HG2 HS
        clear hls hcell ek hsucc hka hlen hbig1 hbig2
        have hB1' : w.heap.size ≤ wr.heap.size := hB1
        have HB1 := Lib.hid hB1'
        clear hB1 hB1'
        go_wp2_with (first | (at_builtin; refine Kd.R_append (Kd.int .i64) (w0 := w) w.heap.size rfl (.tmp 19) (.tmp 27) 32 3 _ 8 rfl Try.underlying32 infoI rfl (by decide) (by decide) _ (fs ls) x [.int .i64 x] _ (fun _ => False) rfl rfl rfl (fun _ h => h.elim) HF.out HT.out.1 HB.out HB1.out HG1.out ?_; intro v3 w3 hr3 hb3 hg3 hat3; have ht3 := Two.app1 HT.out hr3 hg3 hat3; have hs3 := hb3.size; have f0 : w3.cell? ⟨g, 0, none⟩ = some (.slice (some ⟨b1, o1, none⟩) n c1) := (hb3.cell (p := ⟨g, 0, none⟩) hgl).trans (blk_cell H0.out 0); have f1 : w3.cell? ⟨g, 1, none⟩ = some (.slice (some ⟨b2, o2, none⟩) n c2) := (hb3.cell (p := ⟨g, 1, none⟩) hgl).trans (blk_cell H0.out 1); have f2 := (hb3.cell (p := ⟨b2, o2 + k, none⟩) hb2).trans ((HB.out.cell (p := ⟨b2, o2 + k, none⟩) hb2).symm.trans e2); have HF3 := Lib.hid (ht3.fresh2 (Nat.lt_of_lt_of_le hgl hs3)); have HT3 := Lib.hid ht3; have HB3 := Lib.hid hb3; clear hr3 hb3 hg3 hat3 ht3 hs3) | (at_builtin; refine Kd.R_append (Kd.int .i64) (w0 := w) w.heap.size rfl (.tmp 29) (.tmp 37) 32 3 _ 8 rfl Try.underlying32 infoI rfl (by decide) (by decide) _ (sn ls) y [.int .i64 y] _ (fun _ => False) rfl rfl rfl (fun _ h => h.elim) HF3.out HT3.out.2 HB3.out HB3.out.size HG2.out ?_; intro v5 w5 hr5 hb5 hg5 hat5; have HT5 := Lib.hid (Two.app2 HT3.out hr5 hg5 hat5); have HB5 := Lib.hid hb5; clear hr5 hb5 hg5 hat5))
        go_roundw
        case rel => exact ⟨k + 1, hkn, by go_num, by rw [HS.out, fs_app, sn_app]; exact HT5, HB5⟩
        case measure => exact step_measure hkn
    · have hk2 : k = n := by omega
      subst hk2
      have hout : outL l a k = l.eraseIdx a := by rw [outL_eq l a k (by have := HN.out; omega), HN.out, List.take_length]
      rw [hout] at HT
      have hblk : wr.heap[g]? = some (.cells #[.slice A1 k c1, .slice A2 k c2] 39 (0, 0)) := (HB.out.block g hgl).trans H0.out
      obtain ⟨A3, c3, hv3⟩ := Kd.R_slice HT.out.1
      obtain ⟨A4, c4, hv4⟩ := Kd.R_slice HT.out.2
      subst hv3
      subst hv4
      have f0 : wr.frozen? ⟨g, 0, none⟩ = false := blk_frozen hblk 0
      have f1 : wr.frozen? ⟨g, 1, none⟩ = false := blk_frozen hblk 1
      have HBK := Lib.hid hblk
      have hfin : RP ((wr.setCell ⟨g, 0, none⟩ (.slice A3 (fs (l.eraseIdx a)).length c3)).setCell ⟨g, 1, none⟩ (.slice A4 (sn (l.eraseIdx a)).length c4)) g w.heap.size (l.eraseIdx a) := ⟨_, _, blk_put (blk_put hblk 0 _ rfl) 1 _ rfl, (HT.out.set 0 _).set 1 _⟩
      have hmod : Mods w ((wr.setCell ⟨g, 0, none⟩ (.slice A3 (fs (l.eraseIdx a)).length c3)).setCell ⟨g, 1, none⟩ (.slice A4 (sn (l.eraseIdx a)).length c4)) (fun k => k = g) := ((Mods.of_below HB.out (fun k => k = g)).setCell (p := ⟨g, 0, none⟩) (.inl rfl) _).setCell (p := ⟨g, 1, none⟩) (.inl rfl) _
      have HFIN := Lib.hid hfin
      have HMOD := Lib.hid hmod
      clear hfin hmod hblk hout hkn
      generalize (fs (l.eraseIdx a)).length = z1 at HFIN HMOD ⊢
      generalize (sn (l.eraseIdx a)).length = z2 at HFIN HMOD ⊢
      go_wp2_with fail
      go_end0
      exact ⟨rfl, HFIN.out, HMOD.out⟩
end Go.Proofs.Ytnkgbnipcjgjeaa
