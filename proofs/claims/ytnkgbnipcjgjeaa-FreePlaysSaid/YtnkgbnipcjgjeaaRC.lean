import Derived.Test.YtnkgbnipcjgjeaaRB
namespace Go.Proofs.Ytnkgbnipcjgjeaa
open Go.RowKit Go.Shelf Go.Sort Go.Lib Go.Proofs.YtnkgbnipcjgjeaaW.PrintWords Go.Proofs.YtnkgbnipcjgjeaaW.PrintLast Go.Proofs.YtnkgbnipcjgjeaaW.PrintMore
set_option linter.unusedVariables false
theorem infoI : (Try.prog.info? 3).map (fun i => (i.zero, i.size, i.bytes)) = some (some (.int .i64 0), 1, 8) := by kernel_rfl
/-- Two rows of ints of one's own, apart, neither of them block g. -/
def Two (w : World) (B g : Nat) (v1 v2 : Value) (xs ys : List Int) : Prop := (Kd.int .i64).R 3 w B (fun k => k ≠ g ∧ some k ≠ v2.ownBlock) v1 xs ∧ (Kd.int .i64).R 3 w B (fun k => k ≠ g ∧ some k ≠ v1.ownBlock) v2 ys
section
variable {w w' : World} {B g : Nat} {v1 v2 : Value} {xs ys : List Int}
theorem Two.below (h : Two w B g v1 v2 xs ys) (hb : Below w.heap.size w w') : Two w' B g v1 v2 xs ys := ⟨Kd.R_below h.1 hb, Kd.R_below h.2 hb⟩
theorem Two.set (h : Two w B g v1 v2 xs ys) (j : Nat) (u : Value) : Two (w.setCell ⟨g, j, none⟩ u) B g v1 v2 xs ys := ⟨Kd.R_far h.1 (fun k hk => hk.1) u, Kd.R_far h.2 (fun k hk => hk.1) u⟩
theorem Two.lower {B' : Nat} (h : Two w B g v1 v2 xs ys) (hb : B' ≤ B) : Two w B' g v1 v2 xs ys := ⟨Kd.R_lower h.1 hb, Kd.R_lower h.2 hb⟩
theorem Two.fresh1 (h : Two w B g v1 v2 xs ys) (hg : g < w.heap.size) : ∀ k, w.heap.size ≤ k → (k ≠ g ∧ some k ≠ v2.ownBlock) := fun k hk => ⟨by omega, fun e => by
  obtain ⟨_, ho⟩ := Kd.R_own h.2
  have := own_lt ho k e.symm
  omega⟩
theorem Two.fresh2 (h : Two w B g v1 v2 xs ys) (hg : g < w.heap.size) : ∀ k, w.heap.size ≤ k → (k ≠ g ∧ some k ≠ v1.ownBlock) := fun k hk => ⟨by omega, fun e => by
  obtain ⟨_, ho⟩ := Kd.R_own h.1
  have := own_lt ho k e.symm
  omega⟩
theorem Two.app1 {u : Value} {zs : List Int} (h : Two w B g v1 v2 xs ys) (hr : (Kd.int .i64).R 3 w' B (fun k => k ≠ g ∧ some k ≠ v2.ownBlock) u zs) (hg : w.grownBy w' v1.ownBlock) (hat : u.ownBlock = v1.ownBlock ∨ ∃ b, u.ownBlock = some b ∧ w.heap.size ≤ b) : Two w' B g u v2 zs ys := by
  refine ⟨hr, Kd.R_mono (Kd.R_grown (Kd.R_mono (Kd.R_bound h.2) (ok' := fun k => (k ≠ g ∧ some k ≠ v1.ownBlock) ∧ k < w.heap.size) (fun k hk => ⟨hk.1, hk.2.2.1⟩)) hg (fun k hk => hk.1.2)) (fun k hk => ⟨hk.1.1, fun e => ?_⟩)⟩
  rcases hat with hat | ⟨b, hb, hle⟩
  · exact hk.1.2 (e.trans hat)
  · rw [hb] at e
    injection e with e
    omega
theorem Two.app2 {u : Value} {zs : List Int} (h : Two w B g v1 v2 xs ys) (hr : (Kd.int .i64).R 3 w' B (fun k => k ≠ g ∧ some k ≠ v1.ownBlock) u zs) (hg : w.grownBy w' v2.ownBlock) (hat : u.ownBlock = v2.ownBlock ∨ ∃ b, u.ownBlock = some b ∧ w.heap.size ≤ b) : Two w' B g v1 u xs zs := by
  have := Two.app1 (w := w) (w' := w') (v1 := v2) (v2 := v1) (xs := ys) (ys := xs) ⟨h.2, h.1⟩ hr hg hat
  exact ⟨this.2, this.1⟩
theorem Two.ne1 (h : Two w B g v1 v2 xs ys) : some g ≠ v1.ownBlock := fun e => (h.1.1 g e.symm).1 rfl
theorem Two.ne2 (h : Two w B g v1 v2 xs ys) : some g ≠ v2.ownBlock := fun e => (h.2.1 g e.symm).1 rfl
end
/-- The document's pool at block g, with rows of its own from block B on. -/
def RP (w : World) (g B : Nat) (l : List (Int × Int)) : Prop := ∃ v1 v2, w.heap[g]? = some (.cells #[v1, v2] 39 (0, 0)) ∧ Two w B g v1 v2 (fs l) (sn l)
/-- Blocks of structs (not rows of ints), but for g, are as they were. -/
def Far (w w' : World) (g : Nat) : Prop := ∀ k cs t fr, w.heap[k]? = some (.cells cs t fr) → t ≠ 3 → k ≠ g → w'.heap[k]? = some (.cells cs t fr)
theorem own3 {w : World} {B : Nat} {ok : Nat → Prop} {v : Value} {xs : List Int} (h : (Kd.int .i64).R 3 w B ok v xs) {k t : Nat} {cs : Array Value} {fr : Nat × Nat} (hk : w.heap[k]? = some (.cells cs t fr)) (ht : t ≠ 3) : v.ownBlock ≠ some k := fun e => by
  obtain ⟨_, _, _, q, hq, cells, hc⟩ := (Kd.R_bound h).1 k e
  rw [hk] at hc
  injection hc with hc
  injection hc with h1 h2 h3
  have : q ∈ [3] := hq
  simp only [List.mem_singleton] at this
  exact ht (h2.trans this)
theorem Far.of_grown {w w' : World} {g B : Nat} {ok : Nat → Prop} {v : Value} {xs : List Int} (h : (Kd.int .i64).R 3 w B ok v xs) (hg : w.grownBy w' v.ownBlock) : Far w w' g := fun k cs t fr hk ht _ => (hg.block k (blk_lt hk) (fun e => own3 h hk ht e.symm)).trans hk
theorem Far.set (w : World) (g j : Nat) (u : Value) : Far w (w.setCell ⟨g, j, none⟩ u) g := fun k cs t fr hk _ hne => (Below.heap_setCell w ⟨g, j, none⟩ u k hne).trans hk
theorem Far.trans {a b c : World} {g : Nat} (h1 : Far a b g) (h2 : Far b c g) : Far a c g := fun k cs t fr hk ht hne => h2 k cs t fr (h1 k cs t fr hk ht hne) ht hne
theorem RP.rr {w : World} {g B : Nat} {l : List (Int × Int)} (h : RP w g B l) : RR w g l := by
  obtain ⟨v1, v2, h0, h1, h2⟩ := h
  obtain ⟨A1, c1, rfl, l1, C1⟩ := Kd.R_reads h1
  obtain ⟨A2, c2, rfl, l2, C2⟩ := Kd.R_reads h2
  rw [fs_len] at h0 l1 C1
  rw [sn_len] at h0 l2 C2
  exact ⟨A1, c1, A2, c2, h0, C1, C2, l1, l2⟩
theorem RP.below {w w' : World} {g B : Nat} {l : List (Int × Int)} (h : RP w g B l) (hb : Below w.heap.size w w') : RP w' g B l := by
  obtain ⟨v1, v2, h0, h1⟩ := h
  exact ⟨v1, v2, blk_below h0 hb, h1.below hb⟩
theorem RP.lt {w : World} {g B : Nat} {l : List (Int × Int)} (h : RP w g B l) : g < w.heap.size := by
  obtain ⟨v1, v2, h0, _⟩ := h
  exact blk_lt h0
theorem RP.lower {w : World} {g B B' : Nat} {l : List (Int × Int)} (h : RP w g B l) (hb : B' ≤ B) : RP w g B' l := by
  obtain ⟨v1, v2, h0, h1⟩ := h
  exact ⟨v1, v2, h0, h1.lower hb⟩
/-- Blocks from B on, but for g, are the pool's alone: a block below B that turns is none of its. -/
theorem RP.grown {w w' : World} {g B b : Nat} {l : List (Int × Int)} (h : RP w g B l) (hg : w.grownBy w' (some b)) (hb : b < B) (hne : g ≠ b) : RP w' g B l := by
  obtain ⟨v1, v2, h0, h1, h2⟩ := h
  refine ⟨v1, v2, blk_grown h0 hg (fun e => hne (by injection e)), ?_, ?_⟩
  · exact Kd.R_mono (Kd.R_grown (Kd.R_bound h1) hg (fun k hk e => by injection e with e; have := hk.2.1; omega)) (fun k hk => hk.1)
  · exact Kd.R_mono (Kd.R_grown (Kd.R_bound h2) hg (fun k hk e => by injection e with e; have := hk.2.1; omega)) (fun k hk => hk.1)
theorem fs_app (l : List (Int × Int)) (p : Int × Int) : fs (l ++ [p]) = fs l ++ [p.1] := by unfold fs; rw [List.map_append]; rfl
theorem sn_app (l : List (Int × Int)) (p : Int × Int) : sn (l ++ [p]) = sn l ++ [p.2] := by unfold sn; rw [List.map_append]; rfl
set_option maxHeartbeats 4000000 in
set_option maxRecDepth 100000 in
theorem rput_no (g : Nat) (l : List (Int × Int)) (x y : Int) (w : World) (h : RR w g l) (hl : l.length ≤ 1000) (hno : ¬ (0 ≤ x ∧ x < 256 ∧ 0 ≤ y ∧ y ≤ 2147483648) ∨ 0 ≤ posI l x) : Calls Try.prog 22 #[.pointer (some ⟨g, 0, none⟩), .int .i64 x, .int .i64 y] w fun e w' => e = .returned (.int .i64 2) ∧ w' = w := by
  have HF := Lib.hid (find_ok g l x w h hl)
  clear h hl
  by_cases h1 : x < 0
  · clear hno
    go_enter Try.func22, Try.ntmps22
    go_wp2_with fail
    go_ret
    exact ⟨rfl, rfl⟩
  · by_cases h2 : 256 ≤ x
    · clear hno
      go_enter Try.func22, Try.ntmps22
      go_wp2_with fail
      go_ret
      exact ⟨rfl, rfl⟩
    · by_cases h3 : y < 0
      · clear hno
        go_enter Try.func22, Try.ntmps22
        go_wp2_with fail
        go_ret
        exact ⟨rfl, rfl⟩
      · by_cases h4 : 2147483648 < y
        · clear hno
          go_enter Try.func22, Try.ntmps22
          go_wp2_with fail
          go_ret
          exact ⟨rfl, rfl⟩
        · have h5 : 0 ≤ posI l x := hno.resolve_left (fun h => h (by omega))
          generalize posI l x = t at HF h5
          clear hno
          go_enter Try.func22, Try.ntmps22
          go_wp2_with (go_at_call 27; refine (HF.out).mono ?_; rintro e w' ⟨rfl, rfl⟩)
          go_ret
          exact ⟨rfl, rfl⟩
set_option maxHeartbeats 8000000 in
set_option maxRecDepth 100000 in
theorem rput_ok (g B : Nat) (l : List (Int × Int)) (x y : Int) (w w0 : World) (h : RP w g B l) (hl : l.length ≤ 1000) (hx : 0 ≤ x ∧ x < 256 ∧ 0 ≤ y ∧ y ≤ 2147483648) (hpos : posI l x = -1) (hb0 : Below B w0 w) (hB : B ≤ w.heap.size) (hg : B ≤ g) : Calls Try.prog 22 #[.pointer (some ⟨g, 0, none⟩), .int .i64 x, .int .i64 y] w fun e w' => e = .returned (.int .i64 0) ∧ RP w' g B (l ++ [(x, y)]) ∧ Below B w0 w' ∧ Far w w' g := by
  have HF := Lib.hid (find_ok g l x w h.rr hl)
  rw [hpos] at HF
  obtain ⟨x1, x2, x3, x4⟩ := hx
  obtain ⟨v1, v2, hblk, htwo⟩ := h
  have hgl := blk_lt hblk
  have hbig1 : ((fs l).length + 1) * 8 ≤ 140737488355328 := by rw [fs_len]; omega
  have hbig2 : ((sn l).length + 1) * 8 ≤ 140737488355328 := by rw [sn_len]; omega
  have c0 : w.cell? ⟨g, 0, none⟩ = some v1 := blk_cell hblk 0
  have HT := Lib.hid htwo
  have HBK := Lib.hid hblk
  have HB0 := Lib.hid hb0
  have HB1 := Lib.hid hbig1
  have HB2 := Lib.hid hbig2
  have HFR := Lib.hid (htwo.fresh1 hgl)
  have HSZ := Lib.hid hB
  have HG := Lib.hid hg
  have HGL := Lib.hid hgl
  obtain ⟨A1, k1, rfl⟩ := Kd.R_slice htwo.1
  obtain ⟨A2, k2, rfl⟩ := Kd.R_slice htwo.2
  clear htwo hblk hb0 hbig1 hbig2 hB hg hgl hpos hl
  go_enter Try.func22, Try.ntmps22
  go_wp2_with (first | (go_at_call 27; refine (HF.out).mono ?_; rintro e w' ⟨rfl, rfl⟩) | (at_builtin; refine Kd.R_append (Kd.int .i64) (w0 := w0) B rfl (.tmp 31) (.tmp 33) 32 3 _ 8 rfl Try.underlying32 infoI rfl (by decide) (by decide) _ (fs l) x [.int .i64 x] _ (fun _ => False) rfl rfl rfl (fun _ h => h.elim) HFR.out HT.out.1 HB0.out HSZ.out HB1.out ?_; intro v3 w3 hr3 hb3 hg3 hat3; obtain ⟨A3, k3, rfl⟩ := Kd.R_slice hr3; rw [List.length_append] at hr3 hat3; have ht3 := Two.app1 HT.out hr3 hg3 hat3; have hbk3 := blk_grown HBK.out hg3 (HT.out.ne1); have f0 : w3.frozen? ⟨g, 0, none⟩ = false := blk_frozen hbk3 0; have f1 : w3.frozen? ⟨g, 1, none⟩ = false := blk_frozen hbk3 1; have q0 : w3.cell? ⟨g, 0, none⟩ = some _ := blk_cell hbk3 0; have q1 : w3.cell? ⟨g, 1, none⟩ = some (Value.slice A2 (sn l).length k2) := blk_cell hbk3 1; have hf4 : Far _ (w3.setCell ⟨g, 0, none⟩ (.slice A3 ((fs l).length + 1) k3)) g := (Far.of_grown HT.out.1 hg3).trans (Far.set w3 g 0 _); have ht4 := ht3.set 0 (.slice A3 ((fs l).length + 1) k3); have hbk4 := blk_put hbk3 0 (.slice A3 ((fs l).length + 1) k3) rfl; have HFR4 := Lib.hid (ht4.fresh2 (blk_lt hbk4)); have HT4 := Lib.hid ht4; have HF4 := Lib.hid hf4; have HBK4 := Lib.hid hbk4; clear hf4; have HB4 := Lib.hid (hb3.setCell (p := ⟨g, 0, none⟩) HG.out (.slice A3 ((fs l).length + 1) k3)); clear hr3 hb3 hg3 hat3 ht3 hbk3 ht4 hbk4) | (at_builtin; refine Kd.R_append (Kd.int .i64) (w0 := w0) B rfl (.tmp 41) (.tmp 43) 32 3 _ 8 rfl Try.underlying32 infoI rfl (by decide) (by decide) _ (sn l) y [.int .i64 y] _ (fun _ => False) rfl (show Value.slice (some ⟨w3.heap.size, 0, none⟩) 1 1 = .slice (some ⟨(w3.setCell ⟨g, 0, none⟩ (.slice A3 ((fs l).length + 1) k3)).heap.size, 0, none⟩) 1 1 from by simp) rfl (fun _ h => h.elim) HFR4.out HT4.out.2 HB4.out (Nat.le_trans HG.out (Nat.le_of_lt (blk_lt HBK4.out))) HB2.out ?_; intro v5 w5 hr5 hb5 hg5 hat5; obtain ⟨A5, k5, rfl⟩ := Kd.R_slice hr5; rw [List.length_append] at hr5 hat5; have ht5 := Two.app2 HT4.out hr5 hg5 hat5; have hbk5 := blk_grown HBK4.out hg5 (HT4.out.ne2); have g1 : w5.frozen? ⟨g, 1, none⟩ = false := blk_frozen hbk5 1; have r1 : w5.cell? ⟨g, 1, none⟩ = some (Value.slice A2 (sn l).length k2) := blk_cell hbk5 1; have HF6 := Lib.hid ((HF4.out.trans (Far.of_grown HT4.out.2 hg5)).trans (Far.set w5 g 1 (.slice A5 ((sn l).length + 1) k5))); have HT6 := Lib.hid (ht5.set 1 (.slice A5 ((sn l).length + 1) k5)); have HBK6 := Lib.hid (blk_put hbk5 1 (.slice A5 ((sn l).length + 1) k5) rfl); have HB6 := Lib.hid (hb5.setCell (p := ⟨g, 1, none⟩) HG.out (.slice A5 ((sn l).length + 1) k5)); clear hr5 hb5 hg5 hat5 ht5 hbk5))
  go_ret
  refine ⟨rfl, ⟨.slice A3 ((fs l).length + 1) k3, .slice A5 ((sn l).length + 1) k5, HBK6.out, ?_⟩, HB6.out, HF6.out⟩
  rw [fs_app, sn_app]
  exact HT6.out
end Go.Proofs.Ytnkgbnipcjgjeaa
