import Derived.Test.YthcabffoaaknaaaGiven7
namespace Go.Proofs.Ythcabffoaaknaaa
open Go.RowKit Go.Shelf Go.Proofs.YthcabffoaaknaaaW.PrintWords Go.Proofs.YthcabffoaaknaaaW.PrintLast Go.Proofs.YthcabffoaaknaaaW.PrintMore
set_option linter.unusedVariables false
/-- The block that a row lies in holds ints. -/
def Typed3 (w : World) (base : Nat) (A : Option Addr) : Prop := ∀ a, A = some a → base ≤ a.block ∧ ∃ cur, w.heap[a.block]? = some (.cells cur 3 (0, 0))
set_option maxHeartbeats 8000000 in
set_option maxRecDepth 100000 in
theorem of_ok2 (A0 : Option Addr) (c0 : Nat) (l0 : List Int) (w : World) (hr0 : Kd.C (Kd.int .i64) w A0 l0.length l0) (hc0 : l0.length ≤ c0) (hl : l0.length ≤ 1000) (he : mayV l0 = 0) (hp : 0 < l0.length) {lo hi sm : Int} (hlo : minL l0 = lo) (hhi : maxL l0 = hi) (hsm : totL l0 = sm)
    (lo0 : 0 ≤ lo) (lohi : lo ≤ hi) (hi0 : hi ≤ 2147483648) (hb : Hid (∀ x ∈ l0, lo ≤ x ∧ x ≤ hi)) :
    Calls Try.prog 7 #[.slice A0 l0.length c0] w fun e w' => ∃ (A : Option Addr) (c : Nat), e = .returned (.tuple #[.agg #[.int .i64 lo, .int .i64 hi, .int .i64 sm, .int .i64 (l0.length : Int), .slice A (barsL lo hi l0).length c], .int .i64 0]) ∧ (barsL lo hi l0).length ≤ c ∧ Kd.C (Kd.int .i64) w' A (barsL lo hi l0).length (barsL lo hi l0) ∧ Typed3 w' w.heap.size A ∧ Below w.heap.size w w' := by
  have hm := fun W h => wear_may.calls A0 c0 l0 0 W h hc0 (by unfold wear_may.f; rw [if_pos hl, he])
  have hmin := fun W h => smin_ok A0 c0 l0 W h hl hp
  have hmax := fun W h => smax_ok A0 c0 l0 W h hl hp
  have htot := fun W h => total_ok A0 c0 l0 W h hl
  rw [hlo] at hmin
  rw [hhi] at hmax
  rw [hsm] at htot
  have HB := (Below.refl w.heap.size w).alloc (Nat.le_refl _) (.cells #[.int .i64 0, .int .i64 0, .int .i64 0, .int .i64 0, .slice none 0 0] 25)
  have hR := blk_new w (.cells #[.int .i64 0, .int .i64 0, .int .i64 0, .int .i64 0, .slice none 0 0] 25)
  have hr1 := Kd.C_alloc hr0 (.cells #[.int .i64 0, .int .i64 0, .int .i64 0, .int .i64 0, .slice none 0 0] 25)
  have Hmin := Lib.hid hmin
  have Hmax := Lib.hid hmax
  have Htot := Lib.hid htot
  have HL := Lib.hid lo0
  have HLH := Lib.hid lohi
  have HH := Lib.hid hi0
  have HR0 := Lib.hid hr0
  obtain ⟨BL, hBL⟩ : ∃ B, B = barsL lo hi l0 := ⟨_, rfl⟩
  rw [← hBL]
  have HBL := Lib.hid hBL
  clear hBL
  clear he hc0 hr0 hlo hhi hsm hmin hmax htot lo0 lohi hi0
  obtain ⟨n, hn⟩ : ∃ n, n = l0.length := ⟨_, rfl⟩
  rw [← hn] at hm Hmin Hmax Htot hr1 hp hl ⊢
  have HN := Lib.hid hn
  clear hn
  go_enter Try.func7, Try.ntmps7
  go_upto_region 1 with fail
  generalize (w.alloc (.cells #[.int .i64 0, .int .i64 0, .int .i64 0, .int .i64 0, .slice none 0 0] 25)) = w1 at HB hR hr1 ⊢
  go_upto_region 4 with (go_at_call 17; refine (hm _ hr1).mono ?_; rintro e w' ⟨rfl, ⟨q, rfl⟩⟩; replace hr1 := Kd.C_drewN hr1 q; replace HB := b_drewN HB q; replace hR := blk_drewN hR q)
  generalize w1.drewN q = w2 at HB hR hr1 ⊢
  have hmin := Hmin.out w2 hr1
  have hmax := Hmax.out w2 hr1
  have htot := Htot.out w2 hr1
  have hr2 := hr1
  clear hr1 hm
  go_upto_region 5 with (first | (go_at_call 18; refine hmin.mono ?_; rintro e w2 ⟨rfl, rfl⟩) | (go_at_call 19; refine hmax.mono ?_; rintro e w2 ⟨rfl, rfl⟩) | (go_at_call 20; refine htot.mono ?_; rintro e w2 ⟨rfl, rfl⟩))
  clear hmin hmax htot
  have hsz : w.heap.size ≤ w2.heap.size := Nat.le_trans (by simp) HB.size
  have hlt := blk_lt hR
  have hS := blk_new w2 (.cells #[.int .i64 lo, .int .i64 hi, .int .i64 sm, .int .i64 (n : Int), .slice none 0 0] 25)
  have HB5 := HB.alloc hsz (.cells #[.int .i64 lo, .int .i64 hi, .int .i64 sm, .int .i64 (n : Int), .slice none 0 0] 25)
  have hR5 := blk_alloc hR (.cells #[.int .i64 lo, .int .i64 hi, .int .i64 sm, .int .i64 (n : Int), .slice none 0 0] 25)
  have hr5 := Kd.C_alloc hr2 (.cells #[.int .i64 lo, .int .i64 hi, .int .i64 sm, .int .i64 (n : Int), .slice none 0 0] 25)
  obtain ⟨g5, hg5⟩ : ∃ g, g = w2.heap.size := ⟨_, rfl⟩
  have hne : w.heap.size ≠ g5 := by omega
  have hg5' : w.heap.size ≤ g5 := by omega
  rw [← hg5] at hS ⊢
  generalize (w2.alloc (.cells #[.int .i64 lo, .int .i64 hi, .int .i64 sm, .int .i64 (n : Int), .slice none 0 0] 25)) = w3 at hS HB5 hR5 hr5 ⊢
  clear hr2 HB hR hlt hsz hg5
  have cS0 : w3.cell? ⟨g5, 0, none⟩ = some (.int .i64 lo) := blk_cell hS 0
  have fS0 : w3.frozen? ⟨g5, 0, none⟩ = false := blk_frozen hS 0
  have cS1 : w3.cell? ⟨g5, 1, none⟩ = some (.int .i64 hi) := blk_cell hS 1
  have fS1 : w3.frozen? ⟨g5, 1, none⟩ = false := blk_frozen hS 1
  have cS2 : w3.cell? ⟨g5, 2, none⟩ = some (.int .i64 sm) := blk_cell hS 2
  have fS2 : w3.frozen? ⟨g5, 2, none⟩ = false := blk_frozen hS 2
  have cS3 : w3.cell? ⟨g5, 3, none⟩ = some (.int .i64 (n : Int)) := blk_cell hS 3
  have fS3 : w3.frozen? ⟨g5, 3, none⟩ = false := blk_frozen hS 3
  have cS4 : w3.cell? ⟨g5, 4, none⟩ = some (.slice none 0 0) := blk_cell hS 4
  have fS4 : w3.frozen? ⟨g5, 4, none⟩ = false := blk_frozen hS 4
  have lo0 := HL.out
  have lohi := HLH.out
  have hi0 := HH.out
  have hwr : IntKind.i64.wrap (hi - lo) = hi - lo := IntWalk.i64_in _ (by omega)
  have hwr1 : IntKind.i64.wrap (hi - lo + 1) = hi - lo + 1 := IntWalk.i64_in _ (by omega)
  have hw64 : wrap64 (hi - lo) = hi - lo := by unfold wrap64; omega
  have hw641 : wrap64 (hi - lo + 1) = hi - lo + 1 := by unfold wrap64; omega
  by_cases hlt : hi - lo < 1024
  · obtain ⟨s, hs⟩ : ∃ s : Nat, (s : Int) = hi - lo := ⟨(hi - lo).toNat, by omega⟩
    rw [← hs] at hwr1 hlt hw641
    clear hwr
    have hw64s : wrap64 (hi - lo) = (s : Int) := by rw [hw64, ← hs]
    clear hw64
    have HS := Lib.hid hs
    have hsd : hi - lo = (s : Int) := hs.symm
    clear hs lohi hi0 lo0
    have hw : w.heap.size ≤ w3.heap.size := HB5.size
    go_upto_region 7 with (at_make; refine Kd.R_make (Kd.int .i64) (w0 := w) w.heap.size 3 rfl rfl 22 _ _ rfl 1024 rfl rfl Try.underlying22 (.int .i64 0) 8 (by kernel_rfl) rfl (by decide) (by decide) 0 (ok := fun _ => True) (okp := fun _ => True) rfl (fun _ h => h) trivial (by decide) (by decide) HB5 hw ?_; intro v1 w4 hown HB4 hg4 hnew; obtain ⟨gb, cap, cur, rfl, hgb, hcur, hcap, hcells⟩ := own_ints hown (by simp))
    have hS4 := blk_grown hS hg4 (by simp)
    have hR4 := blk_grown hR5 hg4 (by simp)
    have hb5 : g5 < gb := by
      obtain ⟨b, e1, e2⟩ := hnew
      simp only [Value.ownBlock, Option.some.injEq] at e1
      have := blk_lt hS
      omega
    simp only [List.length_replicate] at hcap hcells
    have hc1 : (s : Int) + 1 ≤ (cap : Int) := by omega
    clear hown hg4 hnew HB5 hS hR5 hr5 hw cS0 fS0 cS1 fS1 cS2 fS2 cS3 fS3 cS4 fS4
    have cS0 : w4.cell? ⟨g5, 0, none⟩ = some (.int .i64 lo) := blk_cell hS4 0
    have fS0 : w4.frozen? ⟨g5, 0, none⟩ = false := blk_frozen hS4 0
    have cS1 : w4.cell? ⟨g5, 1, none⟩ = some (.int .i64 hi) := blk_cell hS4 1
    have fS1 : w4.frozen? ⟨g5, 1, none⟩ = false := blk_frozen hS4 1
    have cS2 : w4.cell? ⟨g5, 2, none⟩ = some (.int .i64 sm) := blk_cell hS4 2
    have fS2 : w4.frozen? ⟨g5, 2, none⟩ = false := blk_frozen hS4 2
    have cS3 : w4.cell? ⟨g5, 3, none⟩ = some (.int .i64 (n : Int)) := blk_cell hS4 3
    have fS3 : w4.frozen? ⟨g5, 3, none⟩ = false := blk_frozen hS4 3
    have cS4 : w4.cell? ⟨g5, 4, none⟩ = some (.slice none 0 0) := blk_cell hS4 4
    have fS4 : w4.frozen? ⟨g5, 4, none⟩ = false := blk_frozen hS4 4
    go_upto_region 8 with fail
    have hS6 := blk_put (cs' := #[.int .i64 lo, .int .i64 hi, .int .i64 sm, .int .i64 (n : Int), .slice (some ⟨gb, 0, none⟩) (s + 1) (s + 1)]) hS4 4 (.slice (some ⟨gb, 0, none⟩) (s + 1) (s + 1)) rfl
    have hne5 : w.heap.size ≠ (⟨g5, 4, none⟩ : Addr).block := hne
    have hR6 := blk_far hR4 hne5 (.slice (some ⟨gb, 0, none⟩) (s + 1) (s + 1))
    have hB6 := blk_far hcur (p := ⟨g5, 4, none⟩) (by show gb ≠ g5; omega) (.slice (some ⟨gb, 0, none⟩) (s + 1) (s + 1))
    have HB6 : Below w.heap.size w (w4.setCell ⟨g5, 4, none⟩ (.slice (some ⟨gb, 0, none⟩) (s + 1) (s + 1))) := Below.setCell HB4 hg5' _
    generalize (w4.setCell ⟨g5, 4, none⟩ (.slice (some ⟨gb, 0, none⟩) (s + 1) (s + 1))) = w5 at hS6 hR6 hB6 HB6 ⊢
    clear hS4 hR4 hcur HB4 hne5 cS0 fS0 cS1 fS1 cS2 fS2 cS3 fS3 cS4 fS4
    go_wp2_with fail
    go_loopw [48] (fun i wr => ∃ (k : Nat) (cu : Array Value), k ≤ n ∧ i = .int .i64 k ∧ wr.heap[gb]? = some (.cells cu 3 (0, 0)) ∧ (∀ j, j < 1024 → cu[j]? = some (.int .i64 (cntL lo (l0.take k) j))) ∧ wr.heap[g5]? = some (.cells #[.int .i64 lo, .int .i64 hi, .int .i64 sm, .int .i64 (n : Int), .slice (some ⟨gb, 0, none⟩) (s + 1) (s + 1)] 25 (0, 0)) ∧ wr.heap[w.heap.size]? = some (.cells #[.int .i64 0, .int .i64 0, .int .i64 0, .int .i64 0, .slice none 0 0] 25 (0, 0)) ∧ Below w.heap.size w wr) (fun i _ => n - (intOf i).toNat)
    case atStart => exact ⟨0, cur, by omega, rfl, hB6, fun j hj => by rw [hcells j hj, List.take_zero, cnt_nil, zeros_getD], hS6, hR6, HB6⟩
    case round =>
      clear hB6 hS6 hR6 HB6 hcells cur
      obtain ⟨k, cu, hk, rfl, hcu, hcc, hS, hR, HB⟩ := hrel
      have cS0 : wr.cell? ⟨g5, 0, none⟩ = some (.int .i64 lo) := blk_cell hS 0
      have cS1 : wr.cell? ⟨g5, 1, none⟩ = some (.int .i64 hi) := blk_cell hS 1
      have cS2 : wr.cell? ⟨g5, 2, none⟩ = some (.int .i64 sm) := blk_cell hS 2
      have cS3 : wr.cell? ⟨g5, 3, none⟩ = some (.int .i64 (n : Int)) := blk_cell hS 3
      have cS4 : wr.cell? ⟨g5, 4, none⟩ = some (.slice (some ⟨gb, 0, none⟩) (s + 1) (s + 1)) := blk_cell hS 4
      by_cases hkn : k < n
      · have hlen : k < l0.length := by rw [← HN.out]; exact hkn
        obtain ⟨b, off, rfl, hbb, hc⟩ := row_of_C (Kd.C_below HR0.out HB) (by omega)
        have hck := hc k hlen
        have hx0 : l0.getD k 0 ∈ l0 := by rw [List.getD_eq_getElem?_getD, List.getElem?_eq_getElem hlen]; exact List.getElem_mem hlen
        obtain ⟨x, hx⟩ : ∃ x, x = l0.getD k 0 := ⟨_, rfl⟩
        rw [← hx] at hck hx0
        have hxb := hb.out x hx0
        have HX := Lib.hid hx
        clear hx hc hx0
        have hsd := HS.out
        have lo0 := HL.out
        have hi0 := HH.out
        obtain ⟨j, hj⟩ : ∃ j : Nat, (j : Int) = x - lo := ⟨(x - lo).toNat, by omega⟩
        have hj1 : j < s + 1 := by omega
        have hj2 : j < 1024 := by omega
        have hw2 : wrap64 (x - lo) = (j : Int) := by unfold wrap64; omega
        have hcj : wr.cell? ⟨gb, j, none⟩ = some (.int .i64 (cntL lo (l0.take k) j)) := (blk_cell hcu j).trans (hcc j hj2)
        have hfj : wr.frozen? ⟨gb, j, none⟩ = false := blk_frozen hcu j
        have hcb := cnt_le lo (l0.take k) j
        rw [List.length_take] at hcb
        obtain ⟨c, hcq⟩ : ∃ c, c = cntL lo (l0.take k) j := ⟨_, rfl⟩
        rw [← hcq] at hcj hcb
        have HCQ := Lib.hid hcq
        have hw3 : wrap64 (c + 1) = c + 1 := by unfold wrap64; omega
        have HJ := Lib.hid hj
        have HCC := Lib.hid hcc
        clear hcq hj hxb lo0 hi0 hsd hcb hcc
        go_wp2
        go_roundw
        case rel =>
          refine ⟨k + 1, cu.setIfInBounds j (.int .i64 (c + 1)), by omega, by go_num, blk_set hcu j _, ?_, blk_far hS (p := ⟨gb, j, none⟩) (by show g5 ≠ gb; omega) _, blk_far hR (p := ⟨gb, j, none⟩) (by show w.heap.size ≠ gb; omega) _, Below.setCell HB hgb _⟩
          refine cells_set HCC.out hj2 ?_ (fun i hi => ?_)
          · rw [cnt_step _ _ _ _ hlen, ← HX.out, if_pos HJ.out.symm, HCQ.out]
          · rw [cnt_step _ _ _ _ hlen, ← HX.out, if_neg (by have := HJ.out; omega), Int.add_zero]
        case measure => simp [intOf]; omega
      · have hk2 : k = n := by omega
        subst hk2
        have htk : l0.take k = l0 := by rw [HN.out]; exact List.take_length
        rw [htk] at hcc
        have HCC := Lib.hid hcc
        clear hcc htk hkn
        have cR0 : wr.cell? ⟨w.heap.size, 0, none⟩ = some (.int .i64 0) := blk_cell hR 0
        have fR0 : wr.frozen? ⟨w.heap.size, 0, none⟩ = false := blk_frozen hR 0
        have cR1 : wr.cell? ⟨w.heap.size, 1, none⟩ = some (.int .i64 0) := blk_cell hR 1
        have fR1 : wr.frozen? ⟨w.heap.size, 1, none⟩ = false := blk_frozen hR 1
        have cR2 : wr.cell? ⟨w.heap.size, 2, none⟩ = some (.int .i64 0) := blk_cell hR 2
        have fR2 : wr.frozen? ⟨w.heap.size, 2, none⟩ = false := blk_frozen hR 2
        have cR3 : wr.cell? ⟨w.heap.size, 3, none⟩ = some (.int .i64 0) := blk_cell hR 3
        have fR3 : wr.frozen? ⟨w.heap.size, 3, none⟩ = false := blk_frozen hR 3
        have cR4 : wr.cell? ⟨w.heap.size, 4, none⟩ = some (.slice none 0 0) := blk_cell hR 4
        have fR4 : wr.frozen? ⟨w.heap.size, 4, none⟩ = false := blk_frozen hR 4
        go_wp2
        have yr := results_ct (P := Try.prog) (fn := Try.f7) (p := 2) (u := 3) rfl
        have hBLe : BL = (List.range (s + 1)).map (cntL lo l0) := by
          rw [HBL.out]
          unfold barsL
          have := HS.out
          rw [if_pos (by omega), show (hi - lo).toNat + 1 = s + 1 by omega]
        have hlenB : BL.length = s + 1 := by rw [hBLe]; simp
        refine bodyPost_ret (by exact yr _ _ w.heap.size 25 _ (0, 0) _ rfl (put5 hR _ _ _ _ _) Try.underlying25 rfl (by kernel_rfl)) rfl ⟨some ⟨gb, 0, none⟩, s + 1, by rw [hlenB]; rfl, by omega, ?_, ?_, below5 HB (Nat.le_refl _) _ _ _ _ _⟩
        rotate_left
        · intro k hk
          obtain rfl : gb = k.block := by simp only [Option.some.injEq] at hk; rw [← hk]
          exact ⟨hgb, _, far5 hcu (by omega) _ _ _ _ _⟩
        refine C_mk (by omega) (fun j hj => ?_)
        rw [blk_cell (far5 hcu (by omega) _ _ _ _ _) j, HCC.out j (by omega), hBLe, List.getD_eq_getElem?_getD, List.getElem?_map, List.getElem?_range (by omega)]
        rfl
  · clear lohi hi0 lo0
    have cR0 : w3.cell? ⟨w.heap.size, 0, none⟩ = some (.int .i64 0) := blk_cell hR5 0
    have fR0 : w3.frozen? ⟨w.heap.size, 0, none⟩ = false := blk_frozen hR5 0
    have cR1 : w3.cell? ⟨w.heap.size, 1, none⟩ = some (.int .i64 0) := blk_cell hR5 1
    have fR1 : w3.frozen? ⟨w.heap.size, 1, none⟩ = false := blk_frozen hR5 1
    have cR2 : w3.cell? ⟨w.heap.size, 2, none⟩ = some (.int .i64 0) := blk_cell hR5 2
    have fR2 : w3.frozen? ⟨w.heap.size, 2, none⟩ = false := blk_frozen hR5 2
    have cR3 : w3.cell? ⟨w.heap.size, 3, none⟩ = some (.int .i64 0) := blk_cell hR5 3
    have fR3 : w3.frozen? ⟨w.heap.size, 3, none⟩ = false := blk_frozen hR5 3
    have cR4 : w3.cell? ⟨w.heap.size, 4, none⟩ = some (.slice none 0 0) := blk_cell hR5 4
    have fR4 : w3.frozen? ⟨w.heap.size, 4, none⟩ = false := blk_frozen hR5 4
    go_wp2
    have yr := results_ct (P := Try.prog) (fn := Try.f7) (p := 2) (u := 3) rfl
    have hBLe : BL = [] := by rw [HBL.out]; unfold barsL; rw [if_neg (by omega)]
    subst hBLe
    refine bodyPost_ret (by exact yr _ _ w.heap.size 25 _ (0, 0) _ rfl (put5 hR5 _ _ _ _ _) Try.underlying25 rfl (by kernel_rfl)) rfl ⟨none, 0, rfl, Nat.le_refl _, ⟨rfl, by decide, fun h => absurd h (by decide)⟩, fun k hk => by simp at hk, ?_⟩
    exact below5 HB5 (Nat.le_refl _) _ _ _ _ _

theorem mn_spec : ∀ (l : List Int) (a : Int), foldFrom mn a l ≤ a ∧ (∀ x ∈ l, foldFrom mn a l ≤ x) ∧ (foldFrom mn a l = a ∨ foldFrom mn a l ∈ l)
  | [], a => ⟨Int.le_refl _, fun x hx => by simp at hx, .inl rfl⟩
  | y :: ys, a => by
    have h := mn_spec ys (mn a y)
    unfold foldFrom
    have h1 : mn a y ≤ a ∧ mn a y ≤ y ∧ (mn a y = a ∨ mn a y = y) := by unfold mn; split <;> omega
    refine ⟨by omega, fun x hx => ?_, ?_⟩
    · rcases List.mem_cons.1 hx with rfl | hx
      · omega
      · exact h.2.1 x hx
    · rcases h.2.2 with e | e
      · rcases h1.2.2 with e1 | e1
        · exact .inl (e.trans e1)
        · exact .inr (by rw [e, e1]; exact List.mem_cons_self ..)
      · exact .inr (List.mem_cons_of_mem _ e)
theorem mx_spec : ∀ (l : List Int) (a : Int), a ≤ foldFrom mx a l ∧ (∀ x ∈ l, x ≤ foldFrom mx a l) ∧ (foldFrom mx a l = a ∨ foldFrom mx a l ∈ l)
  | [], a => ⟨Int.le_refl _, fun x hx => by simp at hx, .inl rfl⟩
  | y :: ys, a => by
    have h := mx_spec ys (mx a y)
    unfold foldFrom
    have h1 : a ≤ mx a y ∧ y ≤ mx a y ∧ (mx a y = a ∨ mx a y = y) := by unfold mx; split <;> omega
    refine ⟨by omega, fun x hx => ?_, ?_⟩
    · rcases List.mem_cons.1 hx with rfl | hx
      · omega
      · exact h.2.1 x hx
    · rcases h.2.2 with e | e
      · rcases h1.2.2 with e1 | e1
        · exact .inl (e.trans e1)
        · exact .inr (by rw [e, e1]; exact List.mem_cons_self ..)
      · exact .inr (List.mem_cons_of_mem _ e)
theorem minL_spec {l : List Int} (hp : 0 < l.length) : minL l ∈ l ∧ ∀ x ∈ l, minL l ≤ x := by
  cases l with
  | nil => simp at hp
  | cons y ys =>
    have h := mn_spec ys y
    have e : minL (y :: ys) = foldFrom mn y ys := rfl
    rw [e]
    refine ⟨?_, fun x hx => ?_⟩
    · rcases h.2.2 with e1 | e1
      · rw [e1]; exact List.mem_cons_self ..
      · exact List.mem_cons_of_mem _ e1
    · rcases List.mem_cons.1 hx with rfl | hx
      · exact h.1
      · exact h.2.1 x hx
theorem maxL_spec {l : List Int} (hp : 0 < l.length) : maxL l ∈ l ∧ ∀ x ∈ l, x ≤ maxL l := by
  cases l with
  | nil => simp at hp
  | cons y ys =>
    have h := mx_spec ys y
    have e : maxL (y :: ys) = foldFrom mx y ys := rfl
    rw [e]
    refine ⟨?_, fun x hx => ?_⟩
    · rcases h.2.2 with e1 | e1
      · rw [e1]; exact List.mem_cons_self ..
      · exact List.mem_cons_of_mem _ e1
    · rcases List.mem_cons.1 hx with rfl | hx
      · exact h.1
      · exact h.2.1 x hx
theorem mayV_okN {l : List Int} (h : mayV l = 0) : okN l ∧ 0 < l.length := by
  unfold mayV at h
  split at h
  · simp at h
  · rename_i ha
    split at h
    · simp at h
    · rename_i hn
      refine ⟨fun x hx => ?_, List.length_pos_iff.2 hn⟩
      have : badN x = false := by
        cases hb : badN x with
        | false => rfl
        | true => exact absurd (List.any_eq_true.2 ⟨x, hx, hb⟩) ha
      unfold badN at this
      simp only [Bool.or_eq_false_iff, decide_eq_false_iff_not] at this
      omega
/-- As Kd.R, but the block may be longer than the slice's capacity. -/
def RB (d : Kd Int) (e : Nat) (w : World) (base : Nat) (ok : Nat → Prop) (v : Value) (xs : List Int) : Prop :=
  (∀ k, v.ownBlock = some k → ok k ∧ base ≤ k ∧ ∃ cur, w.heap[k]? = some (.cells cur e (0, 0))) ∧ ∃ A c, v = .slice A xs.length c ∧ xs.length ≤ c ∧ Kd.C (Kd.int .i64) w A xs.length xs
section
variable {d : Kd Int} {e : Nat} {w w1 : World} {base : Nat} {ok ok' : Nat → Prop} {v : Value} {xs : List Int}
theorem C_same {A : Option Addr} {n : Nat} (hC : Kd.C (Kd.int .i64) w A n xs) (hm : ∀ a, A = some a → w1.heap[a.block]? = w.heap[a.block]?) : Kd.C (Kd.int .i64) w1 A n xs := by
  refine ⟨hC.1, hC.2.1, fun hp => ?_⟩
  obtain ⟨ad, ea, hr⟩ := hC.2.2 hp
  refine ⟨ad, ea, fun j p hj => ?_⟩
  obtain ⟨cc, h1, h2, h3⟩ := hr j p hj
  refine ⟨cc, h1, h2, fun i u hu => ?_⟩
  have h4 := h3 i u hu
  have hb : (ad.add (j * (Kd.int .i64).sz + i)).block = ad.block := by unfold Addr.add; split <;> rfl
  unfold World.cell? at h4 ⊢
  rw [hb] at h4 ⊢
  rw [hm ad ea]
  exact h4
theorem RB_mono (h : RB d e w base ok v xs) (hok : ∀ k, ok k → ok' k) : RB d e w base ok' v xs :=
  ⟨fun k hk => ⟨hok k (h.1 k hk).1, (h.1 k hk).2⟩, h.2⟩
theorem RB_bound (h : RB d e w base ok v xs) : RB d e w base (fun k => ok k ∧ base ≤ k ∧ k < w.heap.size ∧ ∃ cur, w.heap[k]? = some (.cells cur e (0, 0))) v xs :=
  ⟨fun k hk => by
    obtain ⟨h1, h2, cur, h3⟩ := h.1 k hk
    exact ⟨⟨h1, h2, blk_lt h3, cur, h3⟩, h2, cur, h3⟩, h.2⟩
theorem RB_move (h : RB d e w base ok v xs) (hm : ∀ k, ok k → w1.heap[k]? = w.heap[k]?) : RB d e w1 base ok v xs := by
  obtain ⟨h0, A, c, rfl, hl, hC⟩ := h
  refine ⟨fun k hk => ?_, A, c, rfl, hl, C_same hC (fun a ha => ?_)⟩
  · obtain ⟨h1, h2, cur, h3⟩ := h0 k hk
    exact ⟨h1, h2, cur, (hm k h1).trans h3⟩
  · subst ha
    exact hm _ (h0 a.block rfl).1
theorem RB_step (h : RB d e w base ok v xs) (hm : ∀ k, ok k → k < w.heap.size → w1.heap[k]? = w.heap[k]?) : RB d e w1 base ok v xs :=
  RB_mono (RB_move (RB_bound h) (fun k hk => hm k hk.1 hk.2.2.1)) (fun _ hk => hk.1)
theorem RB_lower {base' : Nat} (h : RB d e w base ok v xs) (hb : base' ≤ base) : RB d e w base' ok v xs :=
  ⟨fun k hk => ⟨(h.1 k hk).1, Nat.le_trans hb (h.1 k hk).2.1, (h.1 k hk).2.2⟩, h.2⟩
theorem RB_below (h : RB d e w base ok v xs) (hb : Below w.heap.size w w1) : RB d e w1 base ok v xs := RB_step h (fun k _ hk => hb.block k hk)
theorem RB_alloc (h : RB d e w base ok v xs) (o : Obj) : RB d e (w.alloc o) base ok v xs := RB_below h ((Below.refl _ _).alloc (Nat.le_refl _) o)
theorem RB_drewN (h : RB d e w base ok v xs) (n : Nat) : RB d e (w.drewN n) base ok v xs := RB_below h (b_drewN (Below.refl _ _) n)
theorem RB_drew (h : RB d e w base ok v xs) : RB d e w.drew base ok v xs := RB_drewN h 1
theorem RB_far (h : RB d e w base ok v xs) {p : Addr} (hok : ∀ k, ok k → k ≠ p.block) (u : Value) : RB d e (w.setCell p u) base ok v xs := RB_step h (fun k ho _ => Below.heap_setCell w p u k (hok k ho))
theorem RB_types (h : RB d e w base ok v xs) {g t : Nat} {cells : Array Value} (hb : w.heap[g]? = some (.cells cells t (0, 0))) (ht : ∀ q, q ∈ [e] → q ≠ t) : RB d e w base (fun k => ok k ∧ k ≠ g) v xs :=
  RB_mono (RB_bound h) (fun k hk => ⟨hk.1, by
    obtain ⟨_, _, _, cur, hc⟩ := hk
    rintro rfl
    rw [hc] at hb
    injection hb with hb
    injection hb with _ hb
    exact ht e (List.mem_singleton.2 rfl) hb⟩)
theorem RB_lt (h : RB d e w base ok v xs) : ∀ k, v.ownBlock = some k → k < w.heap.size := fun k hk => by
  obtain ⟨_, _, cur, h3⟩ := h.1 k hk
  exact blk_lt h3
theorem RB_after {u v1 : Value} (h : RB d e w base (fun k => ok k ∧ some k ≠ v.ownBlock) u xs) (hg : w.grownBy w1 v.ownBlock) (hat : v1.ownBlock = v.ownBlock ∨ ∃ b, v1.ownBlock = some b ∧ w.heap.size ≤ b) : RB d e w1 base (fun k => ok k ∧ some k ≠ v1.ownBlock) u xs := by
  refine RB_mono (RB_move (RB_bound h) (fun k hk => hg.block k hk.2.2.1 hk.1.2)) (fun k hk => ⟨hk.1.1, ?_⟩)
  rcases hat with hat | ⟨b, hb, hle⟩
  · rw [hat]; exact hk.1.2
  · rw [hb]
    intro he
    have := hk.2.2.1
    injection he with he
    omega
theorem RB_slice (h : RB d e w base ok v xs) : ∃ A c, v = .slice A xs.length c := by
  obtain ⟨_, A, c, rfl, _⟩ := h
  exact ⟨A, c, rfl⟩
theorem RB_reads' {A : Option Addr} {n c : Nat} (h : RB d e w base ok (.slice A n c) xs) : n = xs.length ∧ n ≤ c ∧ (Kd.int .i64).C w A xs.length xs := by
  obtain ⟨_, A', c', he, hl, hr⟩ := h
  injection he with h1 h2 h3
  subst h1
  exact ⟨h2, by omega, hr⟩
end
def wear_Of.f (l0 : List Int) : Option (Int × Int × Int × Int × List Int × Int) :=
  if l0.length ≤ 1000 then (if mayV l0 = 0 then some (minL l0, maxL l0, totL l0, (l0.length : Int), barsL (minL l0) (maxL l0) l0, 0) else some (0, 0, 0, 0, [], mayV l0)) else none
theorem wear_Of.calls (A0 : Option Addr) (c0 : Nat) (l0 : List Int) (r1 r2 r3 r4 : Int) (r5 : List Int) (r6 : Int) (w : World) (hr0 : Kd.C (Kd.int .i64) w A0 l0.length l0) (hc0 : l0.length ≤ c0) (h : wear_Of.f l0 = some (r1, r2, r3, r4, r5, r6)) :
    Calls Try.prog 7 #[.slice A0 l0.length c0] w fun e w' => ∃ v0_ : Value, e = .returned (.tuple #[.agg #[.int .i64 r1, .int .i64 r2, .int .i64 r3, .int .i64 r4, v0_], .int .i64 r6]) ∧ RB (Kd.int .i64) 3 w' w.heap.size (fun _ => True) v0_ r5 ∧ Below w.heap.size w w' := by
  unfold wear_Of.f at h
  split at h
  · rename_i hl
    split at h
    · rename_i he
      simp only [Option.some.injEq, Prod.mk.injEq] at h
      obtain ⟨rfl, rfl, rfl, rfl, rfl, rfl⟩ := h
      obtain ⟨hok, hp⟩ := mayV_okN he
      have h1 := minL_spec hp
      have h2 := maxL_spec hp
      refine (of_ok2 A0 c0 l0 w hr0 hc0 hl he hp rfl rfl rfl (hok _ h1.1).1 (h1.2 _ h2.1) (hok _ h2.1).2 (Lib.hid (fun x hx => ⟨h1.2 x hx, h2.2 x hx⟩))).mono ?_
      rintro e w' ⟨A, c, rfl, hc, hC, hT, hb⟩
      refine ⟨_, rfl, ⟨fun k hk => ?_, A, c, rfl, hc, hC⟩, hb⟩
      cases A with
      | none => simp [Value.ownBlock] at hk
      | some a =>
        simp only [Value.ownBlock, Option.some.injEq] at hk
        subst hk
        exact ⟨trivial, hT a rfl⟩
    · rename_i he
      simp only [Option.some.injEq, Prod.mk.injEq] at h
      obtain ⟨rfl, rfl, rfl, rfl, rfl, rfl⟩ := h
      refine (of_err A0 c0 l0 w hr0 hc0 hl rfl he).mono ?_
      rintro e w' ⟨rfl, hb⟩
      exact ⟨_, rfl, ⟨fun k hk => by simp [Value.ownBlock] at hk, none, 0, rfl, Nat.le_refl _, ⟨rfl, by decide, fun h => absurd h (by decide)⟩⟩, hb⟩
  · simp at h
end Go.Proofs.Ythcabffoaaknaaa
