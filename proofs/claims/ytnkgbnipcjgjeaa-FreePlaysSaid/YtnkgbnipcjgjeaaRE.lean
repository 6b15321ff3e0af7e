import Derived.Test.YtnkgbnipcjgjeaaRD
namespace Go.Proofs.Ytnkgbnipcjgjeaa
open Go.RowKit Go.Shelf Go.Sort Go.Lib Go.Proofs.YtnkgbnipcjgjeaaW.PrintWords Go.Proofs.YtnkgbnipcjgjeaaW.PrintLast Go.Proofs.YtnkgbnipcjgjeaaW.PrintMore
set_option linter.unusedVariables false
def lenV : Value → Nat
  | .slice _ n _ => n
  | _ => 0
/-- The pool is read as before whatever is appended to the row v. -/
def RRx (w : World) (g : Nat) (l : List (Int × Int)) (v : Value) : Prop := RR w g l ∧ ∀ w', w.grownBy w' v.ownBlock → RR w' g l
theorem RRx.of_rp {w : World} {g B : Nat} {l : List (Int × Int)} {v : Value} (h : RP w g B l) (hv : ∀ b, v.ownBlock = some b → b < B ∧ b ≠ g) : RRx w g l v := by
  refine ⟨h.rr, fun w' hg => ?_⟩
  cases hb : v.ownBlock with
  | none =>
    rw [hb] at hg
    exact h.rr.below ⟨hg.os, hg.tape, hg.output, hg.size, fun k hk => hg.block k hk (fun e => by cases e)⟩
  | some b =>
    rw [hb] at hg
    have := hv b hb
    exact (h.grown hg this.1 (fun e => this.2 e.symm)).rr
theorem listP_head {l : List (Int × Int)} {p : Int × Int} {m : List (Int × Int)} (hs : sortP l = p :: sortP m) : listP l = p.1 :: listP m := by
  unfold listP
  rw [hs]; rfl
set_option maxHeartbeats 8000000 in
set_option maxRecDepth 100000 in
theorem rlist_ok (g : Nat) (l : List (Int × Int)) (w : World) (h : RR w g l) (hl : l.length ≤ 1000) : Calls Try.prog 29 #[.pointer (some ⟨g, 0, none⟩)] w fun e w' => (∃ A c, e = .returned (.slice A (listP l).length c) ∧ (listP l).length ≤ c ∧ (Kd.int .i64).C w' A (listP l).length (listP l)) ∧ Below w.heap.size w w' := by
  obtain ⟨A1, c1, A2, c2, h0, h1, h2, h3, h4⟩ := h
  have hg0 : w.cell? ⟨g, 0, none⟩ = some (.slice A1 l.length c1) := blk_cell h0 0
  have hg1 : w.cell? ⟨g, 1, none⟩ = some (.slice A2 l.length c2) := blk_cell h0 1
  obtain ⟨n, hn⟩ : ∃ n, n = l.length := ⟨_, rfl⟩
  have HR : Hid (RR (w.alloc (.cells #[.slice A1 n c1, .slice A2 n c2] 39)).drew w.heap.size l) := Lib.hid (by rw [hn]; exact ⟨A1, c1, A2, c2, blk_new w _, Kd.C_alloc h1 _, Kd.C_alloc h2 _, h3, h4⟩)
  rw [← hn] at hg0 hg1
  have HL := Lib.hid hl
  have HB := Lib.hid (((Below.refl w.heap.size w).alloc (Nat.le_refl _) (.cells #[.slice A1 n c1, .slice A2 n c2] 39)).drew)
  clear h0 h1 h2 h3 h4 hn hl
  go_enter Try.func29, Try.ntmps29
  go_wp2_with fail
  go_region_held3 (fun w' => w'.cell? ⟨g, 0, none⟩ = some (.slice A1 n c1) ∧ w'.cell? ⟨g, 1, none⟩ = some (.slice A2 n c2)) (go_keep) (fail)
  have hgs : w.heap.size < (w.alloc (.cells #[.slice A1 n c1, .slice A2 n c2] 39)).drew.heap.size := by rw [show (w.alloc (.cells #[.slice A1 n c1, .slice A2 n c2] 39)).drew.heap.size = w.heap.size + 1 from by simp]; omega
  generalize (w.alloc (.cells #[.slice A1 n c1, .slice A2 n c2] 39)).drew = w1 at HR HB hgs ⊢
  obtain ⟨g2, hg2⟩ : ∃ g2, g2 = w.heap.size := ⟨_, rfl⟩
  rw [← hg2] at HR hgs
  have HG2 := Lib.hid hg2
  have HGS := Lib.hid hgs
  clear hg0 hg1 hg2 hgs
  go_wp2_with fail
  rw [← HG2.out]
  go_loopw [4] (fun v wr => ∃ (xs : List Int) (r : List (Int × Int)), Hid ((Kd.int .i64).R 3 wr g2 (fun k => k ≠ g2) v xs) ∧ Hid (RRx wr g2 r v) ∧ Hid (Below g2 w wr) ∧ Hid (xs ++ listP r = listP l) ∧ Hid (xs.length + r.length = l.length) ∧ Hid (g2 < wr.heap.size)) (fun v _ => l.length - lenV v)
  case atStart => exact ⟨[], l, Lib.hid (Kd.R_nil _ _ _ _ _), Lib.hid ⟨HR.out, fun w' hg => HR.out.below ⟨hg.os, hg.tape, hg.output, hg.size, fun k hk => hg.block k hk (fun e => by cases e)⟩⟩, Lib.hid (by rw [HG2.out]; exact HB.out), Lib.hid rfl, Lib.hid (Nat.zero_add _), HGS⟩
  case round =>
    clear HR HB HGS
    obtain ⟨xs, r, HV, HR, HB, HX, HN, HGS⟩ := hrel
    have hnx := rnext_ok g2 r wr HR.out.1 (by have := HN.out; have := HL.out; omega)
    by_cases hr : r = []
    · rw [minI_nil hr] at hnx
      have hx := HX.out
      rw [hr, listP_nil, List.append_nil] at hx
      have HNX := Lib.hid hnx
      have HX2 := Lib.hid hx
      obtain ⟨A, c, hv, hc, hC⟩ := Kd.R_reads HV.out
      subst hv
      have HC := Lib.hid hC
      have HCC := Lib.hid hc
      clear hnx hx hr hC hc
      go_wp2_with fail
      refine (HNX.out).mono ?_
      rintro e w2 ⟨rfl, ⟨q, rfl⟩⟩
      go_wp2_with fail
      go_ret
      refine ⟨⟨A, c, ?_, ?_, ?_⟩, ?_⟩
      · rw [HX2.out]; rfl
      · rw [← HX2.out]; exact HCC.out
      · rw [← HX2.out]; exact Kd.C_drewN HC.out q
      · rw [← HG2.out]; exact pw_below_drewN HB.out q
    · obtain ⟨j, hj, hjl, hsr⟩ := minI_ok hr
      rw [hj] at hnx
      have hlp := listP_head hsr
      have hgj := gP_get r hjl
      obtain ⟨A1', c1', A2', c2', hblk, hc1, hc2, hcells⟩ := HR.out.1.cells
      obtain ⟨b1, o1, b2, o2, rfl, rfl, hb1, hb2, hcell⟩ := hcells (by omega)
      obtain ⟨m, hm⟩ : ∃ m, m = r.length := ⟨_, rfl⟩
      rw [← hm] at hblk hjl
      have e0 : wr.cell? ⟨g2, 0, none⟩ = some (.slice (some ⟨b1, o1, none⟩) m c1') := blk_cell hblk 0
      have e1 := (hcell j (by omega)).1
      have hnn : ∀ q, Calls Try.prog 23 #[.pointer (some ⟨g2, 0, none⟩)] (wr.drewN q) fun e w' => e = .returned (.int .i64 j) ∧ ∃ q, w' = wr.drewN q := fun q => by
        refine (rnext_ok g2 r (wr.drewN q) HR.out.1 (by have := HN.out; have := HL.out; omega)).mono ?_
        rintro e w' ⟨he, q2, hq⟩
        rw [hj] at he
        exact ⟨he, q + q2, by rw [hq, World.drewN, World.drewN, World.drewN]; simp [Nat.add_assoc]⟩
      have HNX := Lib.hid hnn
      have hj0 : (0 : Int) ≤ (j : Int) := by omega
      have hjm : (j : Int) < (m : Int) := by omega
      have HFR : Hid (∀ k, wr.heap.size ≤ k → k ≠ g2) := Lib.hid (fun k hk => by have := HGS.out; omega)
      have HBG : Hid ((xs.length + 1) * 8 ≤ 140737488355328) := Lib.hid (by have := HN.out; have := HL.out; omega)
      have HJ := Lib.hid (show j < r.length by omega)
      have HRE := Lib.hid hlp
      have HM := Lib.hid hm
      generalize (gP r j).1 = z at e1 HRE
      clear hnx hr hj hsr hlp hgj hcells hcell hblk hc1 hc2 hm hb1 hb2 hnn
      go_wp2_with fail
      refine ((HNX.out 0)).mono ?_
      rintro e w2 ⟨rfl, ⟨q, rfl⟩⟩
      go_wp2_with fail
      refine ((HNX.out q)).mono ?_
      rintro e w2 ⟨rfl, ⟨q2, rfl⟩⟩
      have HV2 := Lib.hid (Kd.R_drewN HV.out q2)
      have HBB := Lib.hid (pw_below_drewN HB.out q2)
      have HGS2 : Hid (g2 < (wr.drewN q2).heap.size) := HGS
      have HFR2 : Hid (∀ k, (wr.drewN q2).heap.size ≤ k → k ≠ g2) := HFR
      have HRX : Hid (RRx (wr.drewN q2) g2 r u4) := Lib.hid ⟨HR.out.1, fun w' hg => HR.out.2 w' ⟨hg.os, hg.tape, hg.output, hg.size, hg.block⟩⟩
      have e2 : (wr.drewN q2).cell? ⟨g2, 0, none⟩ = some (.slice (some ⟨b1, o1, none⟩) m c1') := e0
      have e3 : (wr.drewN q2).cell? ⟨b1, o1 + j, none⟩ = some (.int .i64 z) := e1
      clear e0 e1 HV HB HGS HFR HR HNX
      generalize wr.drewN q2 = w3 at *
      go_wp2_with (first | (at_builtin; refine Kd.R_append (Kd.int .i64) (w0 := w) g2 rfl (.tmp 21) (.tmp 29) 32 3 _ 8 rfl Try.underlying32 infoI rfl (by decide) (by decide) _ xs z [.int .i64 z] _ (fun _ => False) rfl rfl rfl (fun _ h => h.elim) HFR2.out HV2.out HBB.out (Nat.le_of_lt HGS2.out) HBG.out ?_; intro v4 w4 hr4 hb4 hg4 hat4; have hrr := HRX.out.2 w4 hg4; have hsz := hg4.size; have HR4 := Lib.hid hr4; have HB4 := Lib.hid hb4; have HRO := Lib.hid (rout_ok g2 j r w4 hrr (by have := HN.out; have := HL.out; omega) HJ.out); clear hr4 hb4 hg4 hat4 hrr))
      refine HRO.out.mono ?_
      rintro e w5 ⟨rfl, hrp, hm5⟩
      have hsz4 := hm5.size
      have hown : ∀ b, v4.ownBlock = some b → b < w4.heap.size ∧ b ≠ g2 := fun b hb => ⟨by obtain ⟨_, ho⟩ := Kd.R_own HR4.out; exact own_lt ho b hb, HR4.out.1 b hb⟩
      have HV5 := Lib.hid (hm5.R HR4.out (fun k hk => hk))
      have HB5 := Lib.hid (Mods.toBelow HB4.out hm5 (by have := HGS2.out; omega) (fun i e => by omega))
      have HG5 := Lib.hid hrp.lt
      have HR5 := Lib.hid (RRx.of_rp hrp hown)
      have HN5 : Hid ((xs ++ [z]).length + (r.eraseIdx j).length = l.length) := Lib.hid (by rw [List.length_append, List.length_eraseIdx_of_lt HJ.out]; have := HN.out; have := HJ.out; simp; omega)
      have HX5 : Hid ((xs ++ [z]) ++ listP (r.eraseIdx j) = listP l) := Lib.hid (by rw [← HX.out, HRE.out, List.append_assoc]; rfl)
      obtain ⟨A4, c4, rfl⟩ := Kd.R_slice HR4.out
      have hap : (xs ++ [z]).length = xs.length + 1 := by simp
      rw [hap] at HV5 HR5 HN5
      clear hrp hm5 hsz4 hown hap
      go_wp2_with fail
      go_roundw
      case rel => exact ⟨xs ++ [z], r.eraseIdx j, HV5, HR5, HB5, HX5, by rw [List.length_append]; exact HN5, HG5⟩
      case measure =>
        obtain ⟨Au, cu, rfl⟩ := Kd.R_slice HV2.out
        show l.length - (xs.length + 1) < l.length - xs.length
        have := HN.out
        have := HJ.out
        simp
        omega
end Go.Proofs.Ytnkgbnipcjgjeaa
