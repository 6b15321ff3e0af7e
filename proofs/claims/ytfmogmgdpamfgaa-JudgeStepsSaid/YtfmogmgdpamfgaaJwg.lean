import Derived.Test.YtfmogmgdpamfgaaJwf
namespace Go.Proofs.Ytfmogmgdpamfgaa.Jd
open Go.RowKit Go.Proofs.YtfmogmgdpamfgaaW.PrintWords Go.Proofs.YtfmogmgdpamfgaaW.PrintLast Go.Proofs.YtfmogmgdpamfgaaW.PrintMore
set_option linter.unusedVariables false
set_option linter.unusedSimpArgs false
def nB (k m pg : Nat) : List Blk := List.replicate k ⟨false, -1, List.replicate pg 0⟩ ++ List.replicate (m - k) z0
theorem nB_len (k m pg : Nat) (h : k ≤ m) : (nB k m pg).length = m := by unfold nB; simp; omega
theorem nB_set (k m pg : Nat) (h : k < m) : (nB k m pg).set k ⟨false, -1, List.replicate pg 0⟩ = nB (k + 1) m pg := by
  unfold nB
  obtain ⟨d, hd⟩ : ∃ d, m - k = d + 1 := ⟨m - k - 1, by omega⟩
  rw [hd, show m - (k + 1) = d by omega, List.set_append_right _ _ (by simp), List.length_replicate, Nat.sub_self, List.replicate_succ, List.set_cons_zero, List.replicate_succ', List.append_assoc]
  rfl
theorem nxt_low {N0 : Nat} {a b : World} {t t' : Nat → Nat} (h : Nxt a b t t') (hl : ∀ k, t k ≠ 0 → N0 ≤ k) (hN : N0 ≤ a.heap.size) : ∀ k, t' k ≠ 0 → N0 ≤ k := fun k hk => (h.n k hk).elim (hl k) (fun h2 => Nat.le_trans hN h2)
theorem nxt_below {N0 : Nat} {w a b : World} {t t' : Nat → Nat} (h : Nxt a b t t') (hb : Below N0 w a) (hl : ∀ k, t k ≠ 0 → N0 ≤ k) (hN : N0 ≤ a.heap.size) : Below N0 w b := Mods.toBelow hb h.m hN hl
theorem JAt.made' (w : World) (g : Ge) (m pg : Nat) (hm : g.bl = (m : Int)) : JAt (((w.alloc (.cells (madeCells #[.bool false, .int .i64 0, .slice none 0 0] (m * 3)) 91)).alloc (.cells #[.int .i64 g.pl, .int .i64 (m : Int), .int .i64 g.pg, .int .i64 g.ch, .int .i64 g.ck, .int .i64 g.ru, .int .i64 g.pa, .slice (some ⟨w.heap.size, 0, none⟩) m m, .int .i64 0, .slice none 0 0, .int .i64 0, .bool false, .bool false, .bool false, .int .i64 0, .int .i64 0, .bool false, .slice none 0 0, .slice none 0 0, .slice none 0 0] 89)).drew) (w.heap.size + 1) g (fun k => if k = w.heap.size then 2 else if k = w.heap.size + 1 then 1 else 0) (S0 (nB 0 m pg)) w.heap.size (.slice none 0 0) (.slice none 0 0) (.slice none 0 0) (.slice none 0 0) := by
  have h := JAt.made w g m
  have e : cellsJ g (S0 (List.replicate m z0)) w.heap.size (.slice none 0 0) (.slice none 0 0) (.slice none 0 0) (.slice none 0 0) = #[.int .i64 g.pl, .int .i64 (m : Int), .int .i64 g.pg, .int .i64 g.ch, .int .i64 g.ck, .int .i64 g.ru, .int .i64 g.pa, .slice (some ⟨w.heap.size, 0, none⟩) m m, .int .i64 0, .slice none 0 0, .int .i64 0, .bool false, .bool false, .bool false, .int .i64 0, .int .i64 0, .bool false, .slice none 0 0, .slice none 0 0, .slice none 0 0] := by
    unfold cellsJ S0
    simp only [List.length_replicate, hm]
  rw [e] at h
  have e2 : nB 0 m pg = List.replicate m z0 := by unfold nB; rfl
  rw [e2]
  exact JAt.drew h
section
variable {g : Ge}
set_option maxHeartbeats 4000000 in
set_option maxRecDepth 100000 in
theorem jnew_bad (hg : ¬ g.ok) (w : World) : Calls Try.prog 14 #[g.v] w fun e w' => e = .returned (.tuple #[.pointer none, .int .i64 2]) ∧ Below w.heap.size w w' := by
  have hab := alloc_below w (.cells #[.int .i64 g.pl, .int .i64 g.bl, .int .i64 g.pg, .int .i64 g.ch, .int .i64 g.ck, .int .i64 g.ru, .int .i64 g.pa] 23)
  have hc := check_no (pl := g.pl) (bl := g.bl) (pg := g.pg) (cs := g.ch) (ck := g.ck) (rg := g.ru) (pt := g.pa) hg
  have HC := Lib.hid hc
  have HB := Lib.hid hab
  clear hg hc hab
  unfold Ge.v
  go_enter Try.func14, Try.ntmps14
  go_wp2_with (go_at_call 56; refine (HC.out _).mono ?_; rintro e w1 ⟨rfl, hb1⟩; have HB1 := Lib.hid (chainC (Nat.le_refl _) HB.out hb1); clear hb1)
  go_ret2
  exact ⟨rfl, HB1.out⟩
set_option maxHeartbeats 8000000 in
set_option maxRecDepth 100000 in
theorem jnew_ok (hg : g.ok) (w : World) : Calls Try.prog 14 #[g.v] w fun e w' => ∃ p t gb, e = .returned (.tuple #[.pointer (some ⟨p, 0, none⟩), .int .i64 0]) ∧ JG w' p g t (newP g) gb ∧ Below w.heap.size w w' ∧ ∀ k, t k ≠ 0 → w.heap.size ≤ k := by
  have hab := alloc_below w (.cells #[.int .i64 g.pl, .int .i64 g.bl, .int .i64 g.pg, .int .i64 g.ch, .int .i64 g.ck, .int .i64 g.ru, .int .i64 g.pa] 23)
  have hbk := blk_new w (.cells #[.int .i64 g.pl, .int .i64 g.bl, .int .i64 g.pg, .int .i64 g.ch, .int .i64 g.ck, .int .i64 g.ru, .int .i64 g.pa] 23)
  have hc := check_ok (pl := g.pl) (bl := g.bl) (pg := g.pg) (cs := g.ch) (ck := g.ck) (rg := g.ru) (pt := g.pa) hg
  have HC := Lib.hid hc
  have HB := Lib.hid hab
  have HK := Lib.hid hbk
  obtain ⟨m, hm⟩ := Int.eq_ofNat_of_zero_le (show 0 ≤ g.bl by have := hg.2.1.1; omega)
  obtain ⟨pg, hpg⟩ := Int.eq_ofNat_of_zero_le (show 0 ≤ g.pg by have := hg.2.2.1.1; omega)
  have HM := Lib.hid hm
  have HPG := Lib.hid hpg
  have HMS : Hid (2 ≤ m ∧ m ≤ 256) := Lib.hid (by have := hg.2.1; omega)
  have HPS : Hid (pg ≤ 64) := Lib.hid (by have := hg.2.2.1.2; omega)
  clear hc hab hbk hm hpg hg
  unfold Ge.v
  go_enter Try.func14, Try.ntmps14
  go_upto_region 1 with fail
  have HK2 : Hid ((w.alloc (.cells #[.int .i64 g.pl, .int .i64 g.bl, .int .i64 g.pg, .int .i64 g.ch, .int .i64 g.ck, .int .i64 g.ru, .int .i64 g.pa] 23)).heap[w.heap.size]? = some (.cells #[.int .i64 g.pl, .int .i64 g.bl, .int .i64 g.pg, .int .i64 g.ch, .int .i64 g.ck, .int .i64 g.ru, .int .i64 g.pa] 23 (0, 0))) := HK
  generalize w.alloc (.cells #[.int .i64 g.pl, .int .i64 g.bl, .int .i64 g.pg, .int .i64 g.ch, .int .i64 g.ck, .int .i64 g.ru, .int .i64 g.pa] 23) = w0 at HB HK2 ⊢
  clear HK
  obtain ⟨b0, hb0⟩ : ∃ b0, b0 = w.heap.size := ⟨_, rfl⟩
  rw [← hb0] at HK2 ⊢
  have HB0 := Lib.hid hb0
  clear hb0
  have gc : ∀ (W : World), Hid (W.heap[b0]? = some (.cells #[.int .i64 g.pl, .int .i64 g.bl, .int .i64 g.pg, .int .i64 g.ch, .int .i64 g.ck, .int .i64 g.ru, .int .i64 g.pa] 23 (0, 0))) → (W.cell? ⟨b0, 0, none⟩ = some (.int .i64 g.pl) ∧ W.cell? ⟨b0, 1, none⟩ = some (.int .i64 g.bl) ∧ W.cell? ⟨b0, 2, none⟩ = some (.int .i64 g.pg) ∧ W.cell? ⟨b0, 3, none⟩ = some (.int .i64 g.ch) ∧ W.cell? ⟨b0, 4, none⟩ = some (.int .i64 g.ck) ∧ W.cell? ⟨b0, 5, none⟩ = some (.int .i64 g.ru) ∧ W.cell? ⟨b0, 6, none⟩ = some (.int .i64 g.pa)) := fun W h => ⟨blk_cell h.out 0, blk_cell h.out 1, blk_cell h.out 2, blk_cell h.out 3, blk_cell h.out 4, blk_cell h.out 5, blk_cell h.out 6⟩
  have GC := Lib.hid gc
  clear gc
  obtain ⟨c0, c1, c2, c3, c4, c5, c6⟩ := GC.out _ HK2
  go_upto_region 3 with (go_at_call 56; refine (HC.out _).mono ?_; rintro e w1 ⟨rfl, hb1⟩; have HB1 := Lib.hid (chainC (Nat.le_refl _) HB.out hb1); have HK3 : Hid (w1.heap[b0]? = some (.cells #[.int .i64 g.pl, .int .i64 g.bl, .int .i64 g.pg, .int .i64 g.ch, .int .i64 g.ck, .int .i64 g.ru, .int .i64 g.pa] 23 (0, 0))) := Lib.hid ((hb1.block b0 (blk_lt HK2.out)).trans HK2.out); clear hb1)
  clear c0 c1 c2 c3 c4 c5 c6 HK2 HB
  obtain ⟨c0, c1, c2, c3, c4, c5, c6⟩ := GC.out _ HK3
  rw [HM.out] at c1
  have hmk := make_blocks m (by have := HMS.out; omega)
  have hmk1 := hmk w1.drew
  go_region_held3 (fun W => W.cell? ⟨b0, 0, none⟩ = some (.int .i64 g.pl) ∧ W.cell? ⟨b0, 1, none⟩ = some (.int .i64 (m : Int)) ∧ W.cell? ⟨b0, 2, none⟩ = some (.int .i64 g.pg) ∧ W.cell? ⟨b0, 3, none⟩ = some (.int .i64 g.ch) ∧ W.cell? ⟨b0, 4, none⟩ = some (.int .i64 g.ck) ∧ W.cell? ⟨b0, 5, none⟩ = some (.int .i64 g.ru) ∧ W.cell? ⟨b0, 6, none⟩ = some (.int .i64 g.pa)) (first | exact ⟨c0, c1, c2, c3, c4, c5, c6⟩ | exact ⟨pw_cell_below (alloc_below _ _) c0, pw_cell_below (alloc_below _ _) c1, pw_cell_below (alloc_below _ _) c2, pw_cell_below (alloc_below _ _) c3, pw_cell_below (alloc_below _ _) c4, pw_cell_below (alloc_below _ _) c5, pw_cell_below (alloc_below _ _) c6⟩ | exact ⟨pw_cell_below (alloc_below _ _) (pw_cell_below (alloc_below _ _) c0), pw_cell_below (alloc_below _ _) (pw_cell_below (alloc_below _ _) c1), pw_cell_below (alloc_below _ _) (pw_cell_below (alloc_below _ _) c2), pw_cell_below (alloc_below _ _) (pw_cell_below (alloc_below _ _) c3), pw_cell_below (alloc_below _ _) (pw_cell_below (alloc_below _ _) c4), pw_cell_below (alloc_below _ _) (pw_cell_below (alloc_below _ _) c5), pw_cell_below (alloc_below _ _) (pw_cell_below (alloc_below _ _) c6)⟩) (fail)
  go_upto_region 4 with fail
  have hJ := JAt.made' w1 g m pg HM.out
  have hsz : w.heap.size ≤ w1.heap.size := HB1.out.size
  have HT : Hid (∀ k, (fun k => if k = w1.heap.size then 2 else if k = w1.heap.size + 1 then 1 else 0) k ≠ 0 → w.heap.size ≤ k) := Lib.hid (fun k hk => by
    by_cases e : k = w1.heap.size
    · omega
    · by_cases e2 : k = w1.heap.size + 1
      · omega
      · exact absurd (by show (if k = w1.heap.size then 2 else if k = w1.heap.size + 1 then 1 else 0) = 0; rw [if_neg e, if_neg e2]) hk)
  have HB2 := Lib.hid (below_drew (below_alloc (below_alloc HB1.out (.cells (madeCells #[.bool false, .int .i64 0, .slice none 0 0] (m * 3)) 91)) (.cells #[.int .i64 g.pl, .int .i64 (m : Int), .int .i64 g.pg, .int .i64 g.ch, .int .i64 g.ck, .int .i64 g.ru, .int .i64 g.pa, .slice (some ⟨w1.heap.size, 0, none⟩) m m, .int .i64 0, .slice none 0 0, .int .i64 0, .bool false, .bool false, .bool false, .int .i64 0, .int .i64 0, .bool false, .slice none 0 0, .slice none 0 0, .slice none 0 0] 89)))
  have HK4 : Hid ((((w1.alloc (.cells (madeCells #[.bool false, .int .i64 0, .slice none 0 0] (m * 3)) 91)).alloc (.cells #[.int .i64 g.pl, .int .i64 (m : Int), .int .i64 g.pg, .int .i64 g.ch, .int .i64 g.ck, .int .i64 g.ru, .int .i64 g.pa, .slice (some ⟨w1.heap.size, 0, none⟩) m m, .int .i64 0, .slice none 0 0, .int .i64 0, .bool false, .bool false, .bool false, .int .i64 0, .int .i64 0, .bool false, .slice none 0 0, .slice none 0 0, .slice none 0 0] 89)).drew).heap[b0]? = some (.cells #[.int .i64 g.pl, .int .i64 g.bl, .int .i64 g.pg, .int .i64 g.ch, .int .i64 g.ck, .int .i64 g.ru, .int .i64 g.pa] 23 (0, 0))) := Lib.hid ((Below.heap_alloc _ _ b0 (Nat.lt_of_lt_of_le (blk_lt HK3.out) (by simp))).trans ((Below.heap_alloc w1 _ b0 (blk_lt HK3.out)).trans HK3.out))
  have HTB : Hid ((fun k => if k = w1.heap.size then 2 else if k = w1.heap.size + 1 then 1 else 0) b0 = 0) := Lib.hid (by
    have := blk_lt HK3.out
    show (if b0 = w1.heap.size then 2 else if b0 = w1.heap.size + 1 then 1 else 0) = 0
    rw [if_neg (by omega), if_neg (by omega)])
  have HJ := Lib.hid hJ
  clear hJ hsz c0 c1 c2 c3 c4 c5 c6 hmk hmk1 HB1 HK3
  generalize ((w1.alloc (.cells (madeCells #[.bool false, .int .i64 0, .slice none 0 0] (m * 3)) 91)).alloc (.cells #[.int .i64 g.pl, .int .i64 (m : Int), .int .i64 g.pg, .int .i64 g.ch, .int .i64 g.ck, .int .i64 g.ru, .int .i64 g.pa, .slice (some ⟨w1.heap.size, 0, none⟩) m m, .int .i64 0, .slice none 0 0, .int .i64 0, .bool false, .bool false, .bool false, .int .i64 0, .int .i64 0, .bool false, .slice none 0 0, .slice none 0 0, .slice none 0 0] 89)).drew = w2 at HJ HB2 HK4 ⊢
  generalize (fun k => if k = w1.heap.size then 2 else if k = w1.heap.size + 1 then 1 else 0) = t0 at HJ HT HTB
  generalize w1.heap.size + 1 = p at HJ ⊢
  generalize w1.heap.size = gb at HJ ⊢
  have hnl : (nB 0 m pg).length = m := nB_len 0 m pg (Nat.zero_le _)
  have c7 : w2.cell? ⟨p, 7, none⟩ = some (.slice (some ⟨gb, 0, none⟩) m m) := by have := HJ.out.c7; rw [show (S0 (nB 0 m pg)).blocks.length = m from hnl] at this; exact this
  clear hnl
  have hmb : m ≤ 256 := HMS.out.2
  have hmk : ∀ W : World, (Instr.makeSlice 44 (.int .i64 g.pg) (.int .i64 g.pg)).run Try.prog W = .ok (.slice (some ⟨W.heap.size, 0, none⟩) pg pg) (W.alloc (.cells (madeCells #[.int .i64 0] pg) 3)) := fun W => by
    rw [HPG.out]
    exact print_make_of 44 3 (.int .i64 0) 8 Try.underlying44 info3 rfl (by decide) pg (by have := HPS.out; omega) W
  go_wp2_with fail
  go_loopw [20] (fun i wr => ∃ k : Nat, k ≤ m ∧ i = .int .i64 k ∧ ∃ t2, Hid (JAt wr p g t2 (S0 (nB k m pg)) gb (.slice none 0 0) (.slice none 0 0) (.slice none 0 0) (.slice none 0 0)) ∧ Hid (Below w.heap.size w wr) ∧ Hid (∀ j, t2 j ≠ 0 → w.heap.size ≤ j) ∧ Hid (wr.heap[b0]? = some (.cells #[.int .i64 g.pl, .int .i64 g.bl, .int .i64 g.pg, .int .i64 g.ch, .int .i64 g.ck, .int .i64 g.ru, .int .i64 g.pa] 23 (0, 0))) ∧ Hid (t2 b0 = 0)) (fun i _ => m - (intOf i).toNat)
  case atStart => exact ⟨0, by omega, rfl, _, HJ, HB2, HT, HK4, HTB⟩
  case round =>
    clear HJ HB2 HT HK4 HTB c7
    obtain ⟨k, hk, rfl, t2, HJ, HB, HT, HK, HTB⟩ := hrel
    by_cases hkm : k < m
    · have hk0 : (k : Int) < (m : Int) := by omega
      have hnl : (nB k m pg).length = m := nB_len k m pg hk
      have c7 : wr.cell? ⟨p, 7, none⟩ = some (.slice (some ⟨gb, 0, none⟩) m m) := by have := HJ.out.c7; rw [show (S0 (nB k m pg)).blocks.length = m from hnl] at this; exact this
      obtain ⟨_, _, c2, _, _, _, _⟩ := GC.out wr HK
      obtain ⟨cur, hB⟩ := HJ.out.bat
      have hxl : k < (nB k m pg).length := by rw [hnl]; exact hkm
      obtain ⟨v, d0, d1, d2, _, z0⟩ := hB.get k hxl
      have hab := alloc_below wr (.cells (madeCells #[.int .i64 0] pg) 3)
      have k0 := pw_cell_below hab d0
      have k1 := pw_cell_below hab d1
      have k2 := pw_cell_below hab d2
      have kz : ∀ j, (wr.alloc (.cells (madeCells #[.int .i64 0] pg) 3)).frozen? ⟨gb, j, none⟩ = false := fun j => (hab.frozen (p := ⟨gb, j, none⟩) (blk_lt hB.blk)).trans (z0 j)
      obtain ⟨t3, hjf, hxf⟩ := HJ.out.fresh false k pg hxl (by have := HPS.out; omega)
      have HJF : Hid (JAt (freshW false wr gb k pg) p g t3 (S0 (nB (k + 1) m pg)) gb (.slice none 0 0) (.slice none 0 0) (.slice none 0 0) (.slice none 0 0)) := Lib.hid (by
        rw [← nB_set k m pg hkm]
        exact hjf)
      have HBF := Lib.hid (nxt_below hxf HB.out HT.out HB.out.size)
      have HTF := Lib.hid (nxt_low hxf HT.out HB.out.size)
      have hb0lt := blk_lt HK.out
      have HKF : Hid ((freshW false wr gb k pg).heap[b0]? = some (.cells #[.int .i64 g.pl, .int .i64 g.bl, .int .i64 g.pg, .int .i64 g.ch, .int .i64 g.ck, .int .i64 g.ru, .int .i64 g.pa] 23 (0, 0))) := Lib.hid ((hxf.far hb0lt HTB.out).trans HK.out)
      have HTBF : Hid (t3 b0 = 0) := Lib.hid (by
        by_cases e : t3 b0 = 0
        · exact e
        · rcases hxf.n b0 e with h2 | h2
          · exact absurd HTB.out h2
          · omega)
      have f7 : (freshW false wr gb k pg).cell? ⟨p, 7, none⟩ = some (.slice (some ⟨gb, 0, none⟩) m m) := by
        have := HJF.out.c7
        rw [show (S0 (nB (k + 1) m pg)).blocks.length = m from nB_len (k + 1) m pg hkm] at this
        exact this
      obtain ⟨_, _, f2, _, _, _, _⟩ := GC.out _ HKF
      have a2 := pw_cell_below hab c2
      have a7 := pw_cell_below hab c7
      have hmk1 := hmk wr.drew
      have hmk2 := hmk wr
      clear hjf hxf hB hxl hnl hb0lt
      go_upto_region 7 with fail
      go_region_held3 (fun W => W.cell? ⟨b0, 2, none⟩ = some (.int .i64 g.pg) ∧ W.cell? ⟨p, 7, none⟩ = some (.slice (some ⟨gb, 0, none⟩) m m)) (first | exact ⟨c2, c7⟩ | exact ⟨a2, a7⟩ | exact ⟨f2, f7⟩) (fail)
      all_goals
        go_wp2_with fail
        go_roundw
        case rel => exact ⟨k + 1, hkm, by go_num, _, Lib.hid (HJF.out.drewN _), Lib.hid (pw_below_drewN HBF.out _), HTF, HKF, HTBF⟩
        case measure => exact step_measure hkm
    · have hke : m = k := by omega
      subst hke
      have HFIN : Hid (S0 (nB m m pg) = newP g) := Lib.hid (by
        unfold S0 newP nB
        rw [Nat.sub_self, List.replicate_zero, List.append_nil, HM.out, HPG.out, Int.toNat_natCast, Int.toNat_natCast])
      clear hkm hk
      go_wp2_with fail
      go_ret2
      exact ⟨p, _, gb, rfl, ⟨_, _, _, _, by rw [← HFIN.out]; exact HJ.out⟩, HB.out, HT.out⟩
end
end Go.Proofs.Ytfmogmgdpamfgaa.Jd
