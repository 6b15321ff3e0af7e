import Derived.Test.YtfmogmgdpamfgaaJwb
namespace Go.Proofs.Ytfmogmgdpamfgaa.Jd
open Go.RowKit Go.Proofs.YtfmogmgdpamfgaaW.PrintWords Go.Proofs.YtfmogmgdpamfgaaW.PrintLast Go.Proofs.YtfmogmgdpamfgaaW.PrintMore
set_option linter.unusedVariables false
section
variable {w : World} {p : Nat} {g : Ge} {t : Nat → Nat} {s : JS} {gb : Nat} {hl hr he hd : Value}
/-- A block is made anew: a row of zeros, and three stores. -/
def freshW (e : Bool) (w : World) (gb x m : Nat) : World := (((w.alloc (.cells (madeCells #[.int .i64 0] m) 3)).setCell ⟨gb, x * 3, none⟩ (.bool e)).setCell ⟨gb, x * 3 + 1, none⟩ (.int .i64 (-1))).setCell ⟨gb, x * 3 + 2, none⟩ (.slice (some ⟨w.heap.size, 0, none⟩) m m)
theorem freshW_far {er : Bool} {k : Nat} (hk : k < w.heap.size) (hne : k ≠ gb) (x m : Nat) : (freshW er w gb x m).heap[k]? = w.heap[k]? := by
  unfold freshW
  rw [Below.heap_setCell _ _ _ k hne, Below.heap_setCell _ _ _ k hne, Below.heap_setCell _ _ _ k hne]
  exact Below.heap_alloc w _ k hk
theorem freshW_size {er : Bool} (x m : Nat) : (freshW er w gb x m).heap.size = w.heap.size + 1 := by
  unfold freshW; simp
theorem JAt.fresh (er : Bool) (h : JAt w p g t s gb hl hr he hd) (x m : Nat) (hx : x < s.blocks.length) (hm : m ≤ 100000) :
    ∃ t3, JAt (freshW er w gb x m) p g t3 { s with blocks := s.blocks.set x ⟨er, -1, List.replicate m 0⟩ } gb hl hr he hd ∧ Nxt w (freshW er w gb x m) t t3 := by
  obtain ⟨cur, hB⟩ := h.bat
  have hg2 : t gb % 16 = 2 := hB.own.1
  have hglt := blk_lt hB.blk
  have hfar : ∀ k, k < w.heap.size → k ≠ gb → (freshW er w gb x m).heap[k]? = w.heap[k]? := fun k hk hne => freshW_far hk hne x m
  have hlt := Ob.lt h
  have hne2 : ∀ k, t k ≠ 0 → k ≠ w.heap.size := fun k hk e => by have := hlt k hk; omega
  refine ⟨fun k => if k = w.heap.size then 2 + 16 * (x + 1) else t k, ?_, ⟨⟨rfl, rfl, rfl, by rw [freshW_size]; omega, fun k hk hn => hfar k hk (fun e => hn (by rw [e]; intro e2; rw [e2] at hg2; omega))⟩, fun k hk => ?_⟩⟩
  · have hgb : (if gb = w.heap.size then 2 + 16 * (x + 1) else t gb) = t gb := if_neg (by omega)
    have hblk : (freshW er w gb x m).heap[gb]? = some (.cells (((cur.setIfInBounds (x * 3) (.bool er)).setIfInBounds (x * 3 + 1) (.int .i64 (-1))).setIfInBounds (x * 3 + 2) (.slice (some ⟨w.heap.size, 0, none⟩) m m)) 91 (0, 0)) :=
      blk_set (blk_set (blk_set ((Below.heap_alloc w _ gb hglt).trans hB.blk) _ _) _ _) _ _
    have hrow : ∀ (q : Nat) (v : Value) (xs : List Int), q ≠ x → (Kd.int .i64).R 3 w 0 (fun k => okC t 0 k ∧ subC t k = q + 1) v xs →
        (Kd.int .i64).R 3 (freshW er w gb x m) 0 (fun k => okC (fun k => if k = w.heap.size then 2 + 16 * (x + 1) else t k) 0 k ∧ subC (fun k => if k = w.heap.size then 2 + 16 * (x + 1) else t k) k = q + 1) v xs := fun q v xs hq hR => by
      have hbd := Kd.R_bound hR
      refine scalar_re (Kd.R_step hbd (fun k hk hlt2 => hfar k hlt2 (fun e => by
        have h2 := hk.1.2
        rw [e, hB.own.2] at h2
        omega))) (fun k hk => ?_)
      have h6 := hbd.1 k hk
      have h7 : k ≠ w.heap.size := by have := h6.2.2.1; omega
      show (if k = w.heap.size then 2 + 16 * (x + 1) else t k) % 16 = 0 + 2 ∧ (if k = w.heap.size then 2 + 16 * (x + 1) else t k) / 16 = q + 1
      rw [if_neg h7]
      exact h6.1.1 |> fun a => ⟨a, h6.1.2⟩
    have h2 := Ob.upd h (c := 0) (w' := freshW er w gb x m) (t' := fun k => if k = w.heap.size then 2 + 16 * (x + 1) else t k) (r' := bRow gb (s.blocks.set x ⟨er, -1, List.replicate m 0⟩)) (by show 0 < 5; decide)
      (fun k hk h3 => hfar k hk (fun e => h3 (by rw [e]; exact hg2))) (fun k _ h3 => if_neg (hne2 k h3)) (fun k hk => by
        rw [freshW_size]
        by_cases e : k = w.heap.size
        · omega
        · rw [if_neg e] at hk
          have := hlt k hk
          omega)
      ⟨_, ⟨⟨by show (if gb = w.heap.size then _ else t gb) % 16 = 2; rw [hgb]; exact hg2, by show (if gb = w.heap.size then _ else t gb) / 16 = 0; rw [hgb]; exact hB.own.2⟩, hblk, fun q b hq => by
        rw [List.getElem?_set] at hq
        by_cases e : x = q
        · subst e
          rw [if_pos rfl, if_pos hx] at hq
          obtain rfl := Option.some.inj hq
          obtain ⟨v, a1, a2, a3, _⟩ := hB.at_ x _ (bB_get hx)
          have l1 := (Array.getElem?_eq_some_iff.1 a1).1
          have l2 := (Array.getElem?_eq_some_iff.1 a2).1
          have l3 := (Array.getElem?_eq_some_iff.1 a3).1
          refine ⟨.slice (some ⟨w.heap.size, 0, none⟩) m m, ?_, ?_, ?_, ?_⟩
          · rw [Array.getElem?_setIfInBounds_ne (by omega), Array.getElem?_setIfInBounds_ne (by omega), Array.getElem?_setIfInBounds, if_pos rfl, if_pos l1]
          · rw [Array.getElem?_setIfInBounds_ne (by omega), Array.getElem?_setIfInBounds, if_pos rfl, if_pos (by simpa using l2)]
          · rw [Array.getElem?_setIfInBounds, if_pos rfl, if_pos (by simpa using l3)]
          · have hown := own_made_of (enc := Value.int .i64) (d := (0 : Int)) w 0 3 m (Nat.zero_le _) (by omega)
            have hR : (Kd.int .i64).R 3 (w.alloc (.cells (madeCells #[.int .i64 0] m) 3)) 0 (fun k => k = w.heap.size) (.slice (some ⟨w.heap.size, 0, none⟩) m m) (List.replicate m 0) :=
              Kd.R_of_own (by rw [List.length_replicate]; exact hown) (fun k hk => by
                simp [Value.ownBlock] at hk
                exact hk.symm)
            have hgs : ∀ k, k = w.heap.size → k ≠ gb := fun k hk e => by omega
            have hR2 := Kd.R_far (p := ⟨gb, x * 3 + 2, none⟩) (Kd.R_far (p := ⟨gb, x * 3 + 1, none⟩) (Kd.R_far (p := ⟨gb, x * 3, none⟩) hR hgs (.bool er)) hgs (.int .i64 (-1))) hgs (.slice (some ⟨w.heap.size, 0, none⟩) m m)
            refine Kd.R_mono hR2 (fun k hk => ?_)
            subst hk
            show (if w.heap.size = w.heap.size then 2 + 16 * (x + 1) else t w.heap.size) % 16 = 0 + 2 ∧ (if w.heap.size = w.heap.size then 2 + 16 * (x + 1) else t w.heap.size) / 16 = x + 1
            rw [if_pos rfl]
            exact ⟨by omega, by omega⟩
        · rw [if_neg e] at hq
          obtain ⟨v, a1, a2, a3, a4⟩ := hB.at_ q b hq
          refine ⟨v, ?_, ?_, ?_, hrow q v _ (fun h => e h.symm) a4⟩
          · rw [Array.getElem?_setIfInBounds_ne (by omega), Array.getElem?_setIfInBounds_ne (by omega), Array.getElem?_setIfInBounds_ne (by omega)]; exact a1
          · rw [Array.getElem?_setIfInBounds_ne (by omega), Array.getElem?_setIfInBounds_ne (by omega), Array.getElem?_setIfInBounds_ne (by omega)]; exact a2
          · rw [Array.getElem?_setIfInBounds_ne (by omega), Array.getElem?_setIfInBounds_ne (by omega), Array.getElem?_setIfInBounds_ne (by omega)]; exact a3⟩⟩
    refine JAt.re h2 ?_ rfl
    unfold cellsJ
    simp only [List.length_set]
  · by_cases e : k = w.heap.size
    · exact .inr (by omega)
    · rw [if_neg e] at hk
      exact .inl hk
/-- The blocks whose erase the chip is busy with are those that were listed. -/
theorem JAt.moved (h : JAt w p g t s gb hl hr he hd) : ∃ t', JAt ((w.setCell ⟨p, 19, none⟩ he).setCell ⟨p, 18, none⟩ (.slice none 0 0)) p g t' { s with doing := s.erases, erases := [] } gb hl hr (.slice none 0 0) he ∧ Nxt w ((w.setCell ⟨p, 19, none⟩ he).setCell ⟨p, 18, none⟩ (.slice none 0 0)) t t' := by
  have h2 := (Ob.set h 19 he).set 18 (.slice none 0 0)
  have hX := Ob.setsN h [(19, he), (18, .slice none 0 0)]
  simp only [sets] at hX
  generalize (w.setCell ⟨p, 19, none⟩ he).setCell ⟨p, 18, none⟩ (.slice none 0 0) = w2 at h2 hX ⊢
  have hne : ∀ k, t k % 16 ≠ 5 → t k % 16 ≠ 6 → (if t k % 16 = 5 then t k + 1 else if t k % 16 = 6 then 15 else t k) = t k := fun k h3 h4 => by rw [if_neg h3, if_neg h4]
  have hst : ∀ (c : Nat) (r : Row), c ≤ 2 → (rowsJ s gb hl hr he hd)[c]? = some r → r.P w2 (okC (fun k => if t k % 16 = 5 then t k + 1 else if t k % 16 = 6 then 15 else t k) c) (subC (fun k => if t k % 16 = 5 then t k + 1 else if t k % 16 = 6 then 15 else t k)) := fun c r hc hr => by
    refine r.st (Ob.row h2 c r hr) (fun k hk _ => ?_)
    have hk2 : t k % 16 = c + 2 := hk
    have e := hne k (by omega) (by omega)
    exact ⟨rfl, by show (if t k % 16 = 5 then t k + 1 else if t k % 16 = 6 then 15 else t k) % 16 = c + 2; rw [e]; exact hk2, by show (if t k % 16 = 5 then t k + 1 else if t k % 16 = 6 then 15 else t k) / 16 = t k / 16; rw [e]⟩
  refine ⟨fun k => if t k % 16 = 5 then t k + 1 else if t k % 16 = 6 then 15 else t k, ?_, ⟨hX.m, fun k hk => .inl (fun e => hk (by rw [e]; rfl))⟩⟩
  have h5 : Ob w2 p 89 (fun k => if t k % 16 = 5 then t k + 1 else if t k % 16 = 6 then 15 else t k) (((cellsJ g s gb hl hr he hd).setIfInBounds 19 he).setIfInBounds 18 (.slice none 0 0)) [bRow gb s.blocks, rU hl s.listed, rI hr s.rows, rI (.slice none 0 0) [], rI he s.erases] := by
    refine ⟨h2.blk, by rw [h2.tp]; rfl, fun k hk => h2.lt k (fun e => hk (by rw [e]; rfl)), fun c r hc => ?_, by show 5 ≤ 13; decide⟩
    match c, hc with
    | 0, hc => obtain rfl := Option.some.inj hc; exact hst 0 _ (by decide) rfl
    | 1, hc => obtain rfl := Option.some.inj hc; exact hst 1 _ (by decide) rfl
    | 2, hc => obtain rfl := Option.some.inj hc; exact hst 2 _ (by decide) rfl
    | 3, hc => obtain rfl := Option.some.inj hc; exact Kd.R_nil _ _ _ _ _
    | 4, hc =>
      obtain rfl := Option.some.inj hc
      refine scalar_re (Ob.rowAt h2 3 rfl) (fun k hk => ?_)
      have h3 : t k % 16 = 5 := (Ob.rowAt h2 3 rfl).1 k hk
      show (if t k % 16 = 5 then t k + 1 else if t k % 16 = 6 then 15 else t k) % 16 = 6
      rw [if_pos h3]
      omega
    | n + 5, hc => simp at hc
  exact JAt.re h5 rfl rfl
end
end Go.Proofs.Ytfmogmgdpamfgaa.Jd
