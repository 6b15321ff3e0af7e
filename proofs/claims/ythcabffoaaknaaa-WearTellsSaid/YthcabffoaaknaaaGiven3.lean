import Derived.Test.YthcabffoaaknaaaGiven2
import Derived.Deep.DeepCutAuto
namespace Go.Proofs.Ythcabffoaaknaaa
open Go.RowKit Go.Shelf Go.Proofs.YthcabffoaaknaaaW.PrintWords Go.Proofs.YthcabffoaaknaaaW.PrintLast Go.Proofs.YthcabffoaaknaaaW.PrintMore
set_option linter.unusedVariables false
theorem chainC {B : Nat} {a w w1 : World} (hB : B ≤ a.heap.size) (h : Below B a w) (k : Below w.heap.size w w1) : Below B a w1 := h.trans (k.mono (Nat.le_trans hB h.size))
theorem b_drewN {B : Nat} {w W : World} (h : Below B w W) (n : Nat) : Below B w (W.drewN n) := ⟨h.os, h.tape, h.output, h.size, h.block⟩
theorem put5 {w : World} {g : Nat} {t : TypeId} {a0 a1 a2 a3 a4 : Value} (h : w.heap[g]? = some (.cells #[a0, a1, a2, a3, a4] t (0, 0))) (b0 b1 b2 b3 b4 : Value) :
    (((((w.setCell ⟨g, 0, none⟩ b0).setCell ⟨g, 1, none⟩ b1).setCell ⟨g, 2, none⟩ b2).setCell ⟨g, 3, none⟩ b3).setCell ⟨g, 4, none⟩ b4).heap[g]? = some (.cells #[b0, b1, b2, b3, b4] t (0, 0)) :=
  blk_put (blk_put (blk_put (blk_put (blk_put h 0 b0 (cs' := #[b0, a1, a2, a3, a4]) rfl) 1 b1 (cs' := #[b0, b1, a2, a3, a4]) rfl) 2 b2 (cs' := #[b0, b1, b2, a3, a4]) rfl) 3 b3 (cs' := #[b0, b1, b2, b3, a4]) rfl) 4 b4 (cs' := #[b0, b1, b2, b3, b4]) rfl
theorem below5 {w W : World} {B g : Nat} (h : Below B w W) (hg : B ≤ g) (b0 b1 b2 b3 b4 : Value) :
    Below B w (((((W.setCell ⟨g, 0, none⟩ b0).setCell ⟨g, 1, none⟩ b1).setCell ⟨g, 2, none⟩ b2).setCell ⟨g, 3, none⟩ b3).setCell ⟨g, 4, none⟩ b4) := by
  iterate 5 refine Below.setCell ?_ hg _
  exact h
theorem far5 {W : World} {o : Obj} {g g' : Nat} (h : W.heap[g']? = some o) (hg : g' ≠ g) (b0 b1 b2 b3 b4 : Value) :
    (((((W.setCell ⟨g, 0, none⟩ b0).setCell ⟨g, 1, none⟩ b1).setCell ⟨g, 2, none⟩ b2).setCell ⟨g, 3, none⟩ b3).setCell ⟨g, 4, none⟩ b4).heap[g']? = some o := by
  rw [Below.heap_setCell _ _ _ g' hg, Below.heap_setCell _ _ _ g' hg, Below.heap_setCell _ _ _ g' hg, Below.heap_setCell _ _ _ g' hg, Below.heap_setCell _ _ _ g' hg]
  exact h
theorem C_mk {w : World} {g : Nat} {xs : List Int} (hl : xs.length ≤ 9223372036854775807) (h : ∀ j, j < xs.length → w.cell? ⟨g, j, none⟩ = some (.int .i64 (xs.getD j 0))) : Kd.C (Kd.int .i64) w (some ⟨g, 0, none⟩) xs.length xs := by
  refine ⟨rfl, hl, fun _ => ⟨_, rfl, fun j p hp => ⟨[.int .i64 p], rfl, rfl, fun i u hu => ?_⟩⟩⟩
  have hj : j < xs.length := (List.getElem?_eq_some_iff.1 hp).1
  have hi : i = 0 := by
    rcases i with _ | i
    · rfl
    · simp at hu
  subst hi
  simp only [List.getElem?_cons_zero, Option.some.injEq] at hu
  subst hu
  show w.cell? ((⟨g, 0, none⟩ : Addr).add (j * 1 + 0)) = _
  rw [add_plain, Nat.mul_one, Nat.add_zero, Nat.zero_add, h j hj, List.getD_eq_getElem?_getD, hp]
  rfl
theorem own_ints {w : World} {base : Nat} {ok : Nat → Prop} {v : Value} {xs : List Int} (h : (Kd.int .i64).R 3 w base ok v xs) (hp : 0 < xs.length) :
    ∃ g cap cur, v = .slice (some ⟨g, 0, none⟩) xs.length cap ∧ base ≤ g ∧ w.heap[g]? = some (.cells cur 3 (0, 0)) ∧ xs.length ≤ cap ∧ ∀ j, j < xs.length → cur[j]? = some (.int .i64 (xs.getD j 0)) := by
  obtain ⟨A, c, rfl, hc, hC⟩ := Kd.R_reads h
  obtain ⟨inner, ho⟩ := Kd.R_own h
  rcases ho.2 with ⟨h1, h2⟩ | ⟨g, cap, cur, h1, h2, h3, h4, h5, h6, h7⟩
  · omega
  · injection h1 with hA hn hcap
    subst hA
    subst hcap
    obtain ⟨b, off, hA, hb, hcells⟩ := row_of_C hC hp
    injection hA with hA
    injection hA with hA1 hA2
    subst hA1
    subst hA2
    refine ⟨g, c, cur, rfl, h2, h3, hc, fun j hj => ?_⟩
    have h8 := hcells j hj
    rw [Nat.zero_add, blk_cell h3 j] at h8
    exact h8
def cntL (lo : Int) (l : List Int) (j : Nat) : Int := (l.countP fun x => decide (x - lo = (j : Int)) : Nat)
theorem cnt_nil (lo : Int) (j : Nat) : cntL lo [] j = 0 := rfl
theorem cnt_step (lo : Int) (l : List Int) (k j : Nat) (h : k < l.length) : cntL lo (l.take (k + 1)) j = cntL lo (l.take k) j + (if l.getD k 0 - lo = (j : Int) then 1 else 0) := by
  unfold cntL
  rw [List.take_succ_eq_append_getElem h, List.countP_append]
  simp only [List.countP_singleton, List.getD_eq_getElem?_getD, List.getElem?_eq_getElem h, Option.getD_some, decide_eq_true_eq]
  split <;> simp
theorem cnt_le (lo : Int) (l : List Int) (j : Nat) : 0 ≤ cntL lo l j ∧ cntL lo l j ≤ l.length := by
  unfold cntL
  have := List.countP_le_length (p := fun x => decide (x - lo = (j : Int))) (l := l)
  omega
def barsL (lo hi : Int) (l : List Int) : List Int := if hi - lo < 1024 then (List.range ((hi - lo).toNat + 1)).map (cntL lo l) else []
theorem zeros_getD (n j : Nat) : (List.replicate n (0 : Int)).getD j 0 = 0 := by
  rw [List.getD_eq_getElem?_getD, List.getElem?_replicate]
  split <;> rfl
theorem cells_set {cu : Array Value} {F G : Nat → Int} {m j : Nat} {v : Int} (h : ∀ i, i < m → cu[i]? = some (.int .i64 (F i))) (hj : j < m) (h1 : G j = v) (h2 : ∀ i, i ≠ j → G i = F i) :
    ∀ i, i < m → (cu.setIfInBounds j (.int .i64 v))[i]? = some (.int .i64 (G i)) := by
  intro i hi
  have hs : j < cu.size := (Array.getElem?_eq_some_iff.1 (h j hj)).1
  rw [Array.getElem?_setIfInBounds]
  by_cases e : j = i
  · subst e
    rw [if_pos rfl, if_pos hs, h1]
  · rw [if_neg e, h i hi, h2 i (fun e' => e e'.symm)]
def okN (l0 : List Int) : Prop := ∀ x ∈ l0, 0 ≤ x ∧ x ≤ 2147483648
set_option maxHeartbeats 4000000 in
set_option maxRecDepth 100000 in
theorem of_err (A0 : Option Addr) (c0 : Nat) (l0 : List Int) (w : World) (hr0 : Kd.C (Kd.int .i64) w A0 l0.length l0) (hc0 : l0.length ≤ c0) (hl : l0.length ≤ 1000) {e0 : Int} (he : mayV l0 = e0) (hne : e0 ≠ 0) :
    Calls Try.prog 7 #[.slice A0 l0.length c0] w fun e w' => e = .returned (.tuple #[.agg #[.int .i64 0, .int .i64 0, .int .i64 0, .int .i64 0, .slice none 0 0], .int .i64 e0]) ∧ Below w.heap.size w w' := by
  have hm := fun W h => wear_may.calls A0 c0 l0 e0 W h hc0 (by unfold wear_may.f; rw [if_pos hl, he])
  have HB := (Below.refl w.heap.size w).alloc (Nat.le_refl _) (.cells #[.int .i64 0, .int .i64 0, .int .i64 0, .int .i64 0, .slice none 0 0] 25)
  have hR := blk_new w (.cells #[.int .i64 0, .int .i64 0, .int .i64 0, .int .i64 0, .slice none 0 0] 25)
  have hr1 := Kd.C_alloc hr0 (.cells #[.int .i64 0, .int .i64 0, .int .i64 0, .int .i64 0, .slice none 0 0] 25)
  clear he hc0 hl hr0
  have hE : (e0 == 0) = false := beq_eq_false_iff_ne.2 hne
  generalize l0.length = n at *
  go_enter Try.func7, Try.ntmps7
  go_upto_region 1 with fail
  generalize (w.alloc (.cells #[.int .i64 0, .int .i64 0, .int .i64 0, .int .i64 0, .slice none 0 0] 25)) = w1 at HB hR hr1 ⊢
  have hcR := blk_cell hR
  have hfR := blk_frozen hR
  go_wp2_with (go_at_call 17; refine (hm _ hr1).mono ?_; rintro e w' ⟨rfl, ⟨q, rfl⟩⟩)
  have yr := results_ct (P := Try.prog) (fn := Try.f7) (p := 2) (u := 3) rfl
  refine bodyPost_ret (by exact yr _ _ w.heap.size 25 _ (0, 0) _ rfl (put5 (blk_drewN hR q) _ _ _ _ _) Try.underlying25 rfl (by kernel_rfl)) rfl ⟨rfl, ?_⟩
  exact below5 (b_drewN HB q) (Nat.le_refl _) _ _ _ _ _
set_option maxHeartbeats 8000000 in
set_option maxRecDepth 100000 in
theorem of_ok (A0 : Option Addr) (c0 : Nat) (l0 : List Int) (w : World) (hr0 : Kd.C (Kd.int .i64) w A0 l0.length l0) (hc0 : l0.length ≤ c0) (hl : l0.length ≤ 1000) (he : mayV l0 = 0) (hp : 0 < l0.length) {lo hi sm : Int} (hlo : minL l0 = lo) (hhi : maxL l0 = hi) (hsm : totL l0 = sm)
    (lo0 : 0 ≤ lo) (lohi : lo ≤ hi) (hi0 : hi ≤ 2147483648) (hb : Hid (∀ x ∈ l0, lo ≤ x ∧ x ≤ hi)) :
    Calls Try.prog 7 #[.slice A0 l0.length c0] w fun e w' => ∃ (A : Option Addr) (c : Nat), e = .returned (.tuple #[.agg #[.int .i64 lo, .int .i64 hi, .int .i64 sm, .int .i64 (l0.length : Int), .slice A (barsL lo hi l0).length c], .int .i64 0]) ∧ (barsL lo hi l0).length ≤ c ∧ Kd.C (Kd.int .i64) w' A (barsL lo hi l0).length (barsL lo hi l0) ∧ Below w.heap.size w w' := by
  have hm := fun W h => wear_may.calls A0 c0 l0 0 W h hc0 (by unfold wear_may.f; rw [if_pos hl, he])
  have hmin := fun W h => smin_ok A0 c0 l0 W h hl hp
  have hmax := fun W h => smax_ok A0 c0 l0 W h hl hp
  have htot := fun W h => total_ok A0 c0 l0 W h hl
  rw [hlo] at hmin
  rw [hhi] at hmax
  rw [hsm] at htot
  have HB := (Below.refl w.heap.size w).alloc (Nat.le_refl _) (.cells #[.int .i64 0, .int .i64 0, .int .i64 0, .int .i64 0, .slice none 0 0] 25)
  have hR := blk_new w (.cells #[.int .i64 0, .int .i64 0, .int .i64 0, .int .i64 0, .slice none 0 0] 25)
  have hr1 := Kd.C_alloc hr0 (.cells #[.int .i64 0, .int .i64 0, .int .i64 0, .int .i64 0, .slice none 0 0] 25)
  have Hmin := Lib.hid hmin
  have Hmax := Lib.hid hmax
  have Htot := Lib.hid htot
  have HL := Lib.hid lo0
  have HLH := Lib.hid lohi
  have HH := Lib.hid hi0
  have HR0 := Lib.hid hr0
  obtain ⟨BL, hBL⟩ : ∃ B, B = barsL lo hi l0 := ⟨_, rfl⟩
  rw [← hBL]
  have HBL := Lib.hid hBL
  clear hBL
  clear he hc0 hr0 hlo hhi hsm hmin hmax htot lo0 lohi hi0
  obtain ⟨n, hn⟩ : ∃ n, n = l0.length := ⟨_, rfl⟩
  rw [← hn] at hm Hmin Hmax Htot hr1 hp hl ⊢
  have HN := Lib.hid hn
  clear hn
  go_enter Try.func7, Try.ntmps7
  go_upto_region 1 with fail
  generalize (w.alloc (.cells #[.int .i64 0, .int .i64 0, .int .i64 0, .int .i64 0, .slice none 0 0] 25)) = w1 at HB hR hr1 ⊢
  go_upto_region 4 with (go_at_call 17; refine (hm _ hr1).mono ?_; rintro e w' ⟨rfl, ⟨q, rfl⟩⟩; replace hr1 := Kd.C_drewN hr1 q; replace HB := b_drewN HB q; replace hR := blk_drewN hR q)
  generalize w1.drewN q = w2 at HB hR hr1 ⊢
  have hmin := Hmin.out w2 hr1
  have hmax := Hmax.out w2 hr1
  have htot := Htot.out w2 hr1
  have hr2 := hr1
  clear hr1 hm
  go_upto_region 5 with (first | (go_at_call 18; refine hmin.mono ?_; rintro e w2 ⟨rfl, rfl⟩) | (go_at_call 19; refine hmax.mono ?_; rintro e w2 ⟨rfl, rfl⟩) | (go_at_call 20; refine htot.mono ?_; rintro e w2 ⟨rfl, rfl⟩))
  clear hmin hmax htot
  have hsz : w.heap.size ≤ w2.heap.size := Nat.le_trans (by simp) HB.size
  have hlt := blk_lt hR
  have hS := blk_new w2 (.cells #[.int .i64 lo, .int .i64 hi, .int .i64 sm, .int .i64 (n : Int), .slice none 0 0] 25)
  have HB5 := HB.alloc hsz (.cells #[.int .i64 lo, .int .i64 hi, .int .i64 sm, .int .i64 (n : Int), .slice none 0 0] 25)
  have hR5 := blk_alloc hR (.cells #[.int .i64 lo, .int .i64 hi, .int .i64 sm, .int .i64 (n : Int), .slice none 0 0] 25)
  have hr5 := Kd.C_alloc hr2 (.cells #[.int .i64 lo, .int .i64 hi, .int .i64 sm, .int .i64 (n : Int), .slice none 0 0] 25)
  obtain ⟨g5, hg5⟩ : ∃ g, g = w2.heap.size := ⟨_, rfl⟩
  have hne : w.heap.size ≠ g5 := by omega
  have hg5' : w.heap.size ≤ g5 := by omega
  rw [← hg5] at hS ⊢
  generalize (w2.alloc (.cells #[.int .i64 lo, .int .i64 hi, .int .i64 sm, .int .i64 (n : Int), .slice none 0 0] 25)) = w3 at hS HB5 hR5 hr5 ⊢
  clear hr2 HB hR hlt hsz hg5
  have cS0 : w3.cell? ⟨g5, 0, none⟩ = some (.int .i64 lo) := blk_cell hS 0
  have fS0 : w3.frozen? ⟨g5, 0, none⟩ = false := blk_frozen hS 0
  have cS1 : w3.cell? ⟨g5, 1, none⟩ = some (.int .i64 hi) := blk_cell hS 1
  have fS1 : w3.frozen? ⟨g5, 1, none⟩ = false := blk_frozen hS 1
  have cS2 : w3.cell? ⟨g5, 2, none⟩ = some (.int .i64 sm) := blk_cell hS 2
  have fS2 : w3.frozen? ⟨g5, 2, none⟩ = false := blk_frozen hS 2
  have cS3 : w3.cell? ⟨g5, 3, none⟩ = some (.int .i64 (n : Int)) := blk_cell hS 3
  have fS3 : w3.frozen? ⟨g5, 3, none⟩ = false := blk_frozen hS 3
  have cS4 : w3.cell? ⟨g5, 4, none⟩ = some (.slice none 0 0) := blk_cell hS 4
  have fS4 : w3.frozen? ⟨g5, 4, none⟩ = false := blk_frozen hS 4
  have lo0 := HL.out
  have lohi := HLH.out
  have hi0 := HH.out
  have hwr : IntKind.i64.wrap (hi - lo) = hi - lo := IntWalk.i64_in _ (by omega)
  have hwr1 : IntKind.i64.wrap (hi - lo + 1) = hi - lo + 1 := IntWalk.i64_in _ (by omega)
  have hw64 : wrap64 (hi - lo) = hi - lo := by unfold wrap64; omega
  have hw641 : wrap64 (hi - lo + 1) = hi - lo + 1 := by unfold wrap64; omega
  by_cases hlt : hi - lo < 1024
  · obtain ⟨s, hs⟩ : ∃ s : Nat, (s : Int) = hi - lo := ⟨(hi - lo).toNat, by omega⟩
    rw [← hs] at hwr1 hlt hw641
    clear hwr
    have hw64s : wrap64 (hi - lo) = (s : Int) := by rw [hw64, ← hs]
    clear hw64
    have HS := Lib.hid hs
    have hsd : hi - lo = (s : Int) := hs.symm
    clear hs lohi hi0 lo0
    have hw : w.heap.size ≤ w3.heap.size := HB5.size
    go_upto_region 7 with (at_make; refine Kd.R_make (Kd.int .i64) (w0 := w) w.heap.size 3 rfl rfl 22 _ _ rfl 1024 rfl rfl Try.underlying22 (.int .i64 0) 8 (by kernel_rfl) rfl (by decide) (by decide) 0 (ok := fun _ => True) (okp := fun _ => True) rfl (fun _ h => h) trivial (by decide) (by decide) HB5 hw ?_; intro v1 w4 hown HB4 hg4 hnew; obtain ⟨gb, cap, cur, rfl, hgb, hcur, hcap, hcells⟩ := own_ints hown (by simp))
    have hS4 := blk_grown hS hg4 (by simp)
    have hR4 := blk_grown hR5 hg4 (by simp)
    have hb5 : g5 < gb := by
      obtain ⟨b, e1, e2⟩ := hnew
      simp only [Value.ownBlock, Option.some.injEq] at e1
      have := blk_lt hS
      omega
    simp only [List.length_replicate] at hcap hcells
    have hc1 : (s : Int) + 1 ≤ (cap : Int) := by omega
    clear hown hg4 hnew HB5 hS hR5 hr5 hw cS0 fS0 cS1 fS1 cS2 fS2 cS3 fS3 cS4 fS4
    have cS0 : w4.cell? ⟨g5, 0, none⟩ = some (.int .i64 lo) := blk_cell hS4 0
    have fS0 : w4.frozen? ⟨g5, 0, none⟩ = false := blk_frozen hS4 0
    have cS1 : w4.cell? ⟨g5, 1, none⟩ = some (.int .i64 hi) := blk_cell hS4 1
    have fS1 : w4.frozen? ⟨g5, 1, none⟩ = false := blk_frozen hS4 1
    have cS2 : w4.cell? ⟨g5, 2, none⟩ = some (.int .i64 sm) := blk_cell hS4 2
    have fS2 : w4.frozen? ⟨g5, 2, none⟩ = false := blk_frozen hS4 2
    have cS3 : w4.cell? ⟨g5, 3, none⟩ = some (.int .i64 (n : Int)) := blk_cell hS4 3
    have fS3 : w4.frozen? ⟨g5, 3, none⟩ = false := blk_frozen hS4 3
    have cS4 : w4.cell? ⟨g5, 4, none⟩ = some (.slice none 0 0) := blk_cell hS4 4
    have fS4 : w4.frozen? ⟨g5, 4, none⟩ = false := blk_frozen hS4 4
    go_upto_region 8 with fail
    have hS6 := blk_put (cs' := #[.int .i64 lo, .int .i64 hi, .int .i64 sm, .int .i64 (n : Int), .slice (some ⟨gb, 0, none⟩) (s + 1) (s + 1)]) hS4 4 (.slice (some ⟨gb, 0, none⟩) (s + 1) (s + 1)) rfl
    have hne5 : w.heap.size ≠ (⟨g5, 4, none⟩ : Addr).block := hne
    have hR6 := blk_far hR4 hne5 (.slice (some ⟨gb, 0, none⟩) (s + 1) (s + 1))
    have hB6 := blk_far hcur (p := ⟨g5, 4, none⟩) (by show gb ≠ g5; omega) (.slice (some ⟨gb, 0, none⟩) (s + 1) (s + 1))
    have HB6 : Below w.heap.size w (w4.setCell ⟨g5, 4, none⟩ (.slice (some ⟨gb, 0, none⟩) (s + 1) (s + 1))) := Below.setCell HB4 hg5' _
    generalize (w4.setCell ⟨g5, 4, none⟩ (.slice (some ⟨gb, 0, none⟩) (s + 1) (s + 1))) = w5 at hS6 hR6 hB6 HB6 ⊢
    clear hS4 hR4 hcur HB4 hne5 cS0 fS0 cS1 fS1 cS2 fS2 cS3 fS3 cS4 fS4
    go_wp2_with fail
    go_loopw [48] (fun i wr => ∃ (k : Nat) (cu : Array Value), k ≤ n ∧ i = .int .i64 k ∧ wr.heap[gb]? = some (.cells cu 3 (0, 0)) ∧ (∀ j, j < 1024 → cu[j]? = some (.int .i64 (cntL lo (l0.take k) j))) ∧ wr.heap[g5]? = some (.cells #[.int .i64 lo, .int .i64 hi, .int .i64 sm, .int .i64 (n : Int), .slice (some ⟨gb, 0, none⟩) (s + 1) (s + 1)] 25 (0, 0)) ∧ wr.heap[w.heap.size]? = some (.cells #[.int .i64 0, .int .i64 0, .int .i64 0, .int .i64 0, .slice none 0 0] 25 (0, 0)) ∧ Below w.heap.size w wr) (fun i _ => n - (intOf i).toNat)
    case atStart => exact ⟨0, cur, by omega, rfl, hB6, fun j hj => by rw [hcells j hj, List.take_zero, cnt_nil, zeros_getD], hS6, hR6, HB6⟩
    case round =>
      clear hB6 hS6 hR6 HB6 hcells cur
      obtain ⟨k, cu, hk, rfl, hcu, hcc, hS, hR, HB⟩ := hrel
      have cS0 : wr.cell? ⟨g5, 0, none⟩ = some (.int .i64 lo) := blk_cell hS 0
      have cS1 : wr.cell? ⟨g5, 1, none⟩ = some (.int .i64 hi) := blk_cell hS 1
      have cS2 : wr.cell? ⟨g5, 2, none⟩ = some (.int .i64 sm) := blk_cell hS 2
      have cS3 : wr.cell? ⟨g5, 3, none⟩ = some (.int .i64 (n : Int)) := blk_cell hS 3
      have cS4 : wr.cell? ⟨g5, 4, none⟩ = some (.slice (some ⟨gb, 0, none⟩) (s + 1) (s + 1)) := blk_cell hS 4
      by_cases hkn : k < n
      · have hlen : k < l0.length := by rw [← HN.out]; exact hkn
        obtain ⟨b, off, rfl, hbb, hc⟩ := row_of_C (Kd.C_below HR0.out HB) (by omega)
        have hck := hc k hlen
        have hx0 : l0.getD k 0 ∈ l0 := by rw [List.getD_eq_getElem?_getD, List.getElem?_eq_getElem hlen]; exact List.getElem_mem hlen
        obtain ⟨x, hx⟩ : ∃ x, x = l0.getD k 0 := ⟨_, rfl⟩
        rw [← hx] at hck hx0
        have hxb := hb.out x hx0
        have HX := Lib.hid hx
        clear hx hc hx0
        have hsd := HS.out
        have lo0 := HL.out
        have hi0 := HH.out
        obtain ⟨j, hj⟩ : ∃ j : Nat, (j : Int) = x - lo := ⟨(x - lo).toNat, by omega⟩
        have hj1 : j < s + 1 := by omega
        have hj2 : j < 1024 := by omega
        have hw2 : wrap64 (x - lo) = (j : Int) := by unfold wrap64; omega
        have hcj : wr.cell? ⟨gb, j, none⟩ = some (.int .i64 (cntL lo (l0.take k) j)) := (blk_cell hcu j).trans (hcc j hj2)
        have hfj : wr.frozen? ⟨gb, j, none⟩ = false := blk_frozen hcu j
        have hcb := cnt_le lo (l0.take k) j
        rw [List.length_take] at hcb
        obtain ⟨c, hcq⟩ : ∃ c, c = cntL lo (l0.take k) j := ⟨_, rfl⟩
        rw [← hcq] at hcj hcb
        have HCQ := Lib.hid hcq
        have hw3 : wrap64 (c + 1) = c + 1 := by unfold wrap64; omega
        have HJ := Lib.hid hj
        have HCC := Lib.hid hcc
        clear hcq hj hxb lo0 hi0 hsd hcb hcc
        go_wp2
        go_roundw
        case rel =>
          refine ⟨k + 1, cu.setIfInBounds j (.int .i64 (c + 1)), by omega, by go_num, blk_set hcu j _, ?_, blk_far hS (p := ⟨gb, j, none⟩) (by show g5 ≠ gb; omega) _, blk_far hR (p := ⟨gb, j, none⟩) (by show w.heap.size ≠ gb; omega) _, Below.setCell HB hgb _⟩
          refine cells_set HCC.out hj2 ?_ (fun i hi => ?_)
          · rw [cnt_step _ _ _ _ hlen, ← HX.out, if_pos HJ.out.symm, HCQ.out]
          · rw [cnt_step _ _ _ _ hlen, ← HX.out, if_neg (by have := HJ.out; omega), Int.add_zero]
        case measure => simp [intOf]; omega
      · have hk2 : k = n := by omega
        subst hk2
        have htk : l0.take k = l0 := by rw [HN.out]; exact List.take_length
        rw [htk] at hcc
        have HCC := Lib.hid hcc
        clear hcc htk hkn
        have cR0 : wr.cell? ⟨w.heap.size, 0, none⟩ = some (.int .i64 0) := blk_cell hR 0
        have fR0 : wr.frozen? ⟨w.heap.size, 0, none⟩ = false := blk_frozen hR 0
        have cR1 : wr.cell? ⟨w.heap.size, 1, none⟩ = some (.int .i64 0) := blk_cell hR 1
        have fR1 : wr.frozen? ⟨w.heap.size, 1, none⟩ = false := blk_frozen hR 1
        have cR2 : wr.cell? ⟨w.heap.size, 2, none⟩ = some (.int .i64 0) := blk_cell hR 2
        have fR2 : wr.frozen? ⟨w.heap.size, 2, none⟩ = false := blk_frozen hR 2
        have cR3 : wr.cell? ⟨w.heap.size, 3, none⟩ = some (.int .i64 0) := blk_cell hR 3
        have fR3 : wr.frozen? ⟨w.heap.size, 3, none⟩ = false := blk_frozen hR 3
        have cR4 : wr.cell? ⟨w.heap.size, 4, none⟩ = some (.slice none 0 0) := blk_cell hR 4
        have fR4 : wr.frozen? ⟨w.heap.size, 4, none⟩ = false := blk_frozen hR 4
        go_wp2
        have yr := results_ct (P := Try.prog) (fn := Try.f7) (p := 2) (u := 3) rfl
        have hBLe : BL = (List.range (s + 1)).map (cntL lo l0) := by
          rw [HBL.out]
          unfold barsL
          have := HS.out
          rw [if_pos (by omega), show (hi - lo).toNat + 1 = s + 1 by omega]
        have hlenB : BL.length = s + 1 := by rw [hBLe]; simp
        refine bodyPost_ret (by exact yr _ _ w.heap.size 25 _ (0, 0) _ rfl (put5 hR _ _ _ _ _) Try.underlying25 rfl (by kernel_rfl)) rfl ⟨some ⟨gb, 0, none⟩, s + 1, by rw [hlenB]; rfl, by omega, ?_, below5 HB (Nat.le_refl _) _ _ _ _ _⟩
        refine C_mk (by omega) (fun j hj => ?_)
        rw [blk_cell (far5 hcu (by omega) _ _ _ _ _) j, HCC.out j (by omega), hBLe, List.getD_eq_getElem?_getD, List.getElem?_map, List.getElem?_range (by omega)]
        rfl
  · clear lohi hi0 lo0
    have cR0 : w3.cell? ⟨w.heap.size, 0, none⟩ = some (.int .i64 0) := blk_cell hR5 0
    have fR0 : w3.frozen? ⟨w.heap.size, 0, none⟩ = false := blk_frozen hR5 0
    have cR1 : w3.cell? ⟨w.heap.size, 1, none⟩ = some (.int .i64 0) := blk_cell hR5 1
    have fR1 : w3.frozen? ⟨w.heap.size, 1, none⟩ = false := blk_frozen hR5 1
    have cR2 : w3.cell? ⟨w.heap.size, 2, none⟩ = some (.int .i64 0) := blk_cell hR5 2
    have fR2 : w3.frozen? ⟨w.heap.size, 2, none⟩ = false := blk_frozen hR5 2
    have cR3 : w3.cell? ⟨w.heap.size, 3, none⟩ = some (.int .i64 0) := blk_cell hR5 3
    have fR3 : w3.frozen? ⟨w.heap.size, 3, none⟩ = false := blk_frozen hR5 3
    have cR4 : w3.cell? ⟨w.heap.size, 4, none⟩ = some (.slice none 0 0) := blk_cell hR5 4
    have fR4 : w3.frozen? ⟨w.heap.size, 4, none⟩ = false := blk_frozen hR5 4
    go_wp2
    have yr := results_ct (P := Try.prog) (fn := Try.f7) (p := 2) (u := 3) rfl
    have hBLe : BL = [] := by rw [HBL.out]; unfold barsL; rw [if_neg (by omega)]
    subst hBLe
    refine bodyPost_ret (by exact yr _ _ w.heap.size 25 _ (0, 0) _ rfl (put5 hR5 _ _ _ _ _) Try.underlying25 rfl (by kernel_rfl)) rfl ⟨none, 0, rfl, Nat.le_refl _, ⟨rfl, by decide, fun h => absurd h (by decide)⟩, ?_⟩
    exact below5 HB5 (Nat.le_refl _) _ _ _ _ _
end Go.Proofs.Ythcabffoaaknaaa
