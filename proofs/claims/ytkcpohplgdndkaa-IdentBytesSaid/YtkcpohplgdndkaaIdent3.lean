import Derived.Test.YtkcpohplgdndkaaIdent2
import Derived.Test.YtkcpohplgdndkaaQGx3
namespace Go.Proofs.Ytkcpohplgdndkaa
open Go.RowKit Go.Proofs.Ytkcpohplgdndkaa.QG Go.Proofs.YtkcpohplgdndkaaW.PrintWords
set_option linter.unusedVariables false

set_option maxHeartbeats 1000000 in
theorem put_no {pl bl pg cs ck rg pt : Int} (h : ¬ Right pl bl pg cs ck rg pt) (w : World) :
    Calls Try.prog 33 #[.agg #[.int .i64 pl, .int .i64 bl, .int .i64 pg, .int .i64 cs, .int .i64 ck, .int .i64 rg, .int .i64 pt]] w fun e w' => e = .returned (.tuple #[.slice none 0 0, .int .i64 2]) ∧ Below w.heap.size w w' := by
  have HH := Lib.hid h
  clear h
  have HB := Below.refl (w.heap.size + 1) (w.alloc (.cells #[.int .i64 pl, .int .i64 bl, .int .i64 pg, .int .i64 cs, .int .i64 ck, .int .i64 rg, .int .i64 pt] 23))
  go_enter Try.func33, Try.ntmps33
  go_wp2_with (first | (go_at_call 18; refine (check_no HH.out _).mono ?_; rintro e w1 ⟨rfl, hb1⟩; replace HB := chainB (by simp) HB hb1; clear hb1; (try clear hcA); have hcA := boxes1 HB))
  go_ret2
  exact ⟨rfl, chain1 _ HB⟩
theorem back16 (n : Int) (h0 : 0 ≤ n) (h1 : n < 65536) : n % 256 + 256 * (n / 256 % 256) = n := by omega
theorem take_g {w : World} {A : Option Addr} {c : Nat} {pl bl pg cs ck rg pt : Int} (h : Right pl bl pg cs ck rg pt) (hC : Kd.C (Kd.int .u8) w A 14 (gbytes pl bl pg cs ck rg pt)) (hl : 14 ≤ c) :
    Calls Try.prog 34 #[.slice A 14 c] w fun e w' => e = .returned (.tuple #[.agg #[.int .i64 pl, .int .i64 bl, .int .i64 pg, .int .i64 cs, .int .i64 ck, .int .i64 rg, .int .i64 pt], .int .i64 0]) ∧ Below w.heap.size w w' := by
  obtain ⟨⟨a1, a2⟩, ⟨b1, b2⟩, ⟨c1, c2⟩, ⟨d1, d2⟩, ⟨e1, e2⟩, ⟨f1, f2⟩, ⟨g1, g2⟩, h1, h2⟩ := id h
  have k := @take_ok w A c (pl % 256) (pl / 256 % 256) (bl % 256) (bl / 256 % 256) (pg % 256) (pg / 256 % 256) (cs % 256) (cs / 256 % 256) (ck % 256) (ck / 256 % 256) (rg % 256) (rg / 256 % 256) (pt % 256) (pt / 256 % 256) (by omega) (by omega) (by omega) (by omega) (by omega) (by omega) (by omega) (by omega) (by omega) (by omega) (by omega) (by omega) (by omega) (by omega)
  rw [back16 pl (by omega) (by omega), back16 bl (by omega) (by omega), back16 pg (by omega) (by omega), back16 cs (by omega) (by omega), back16 ck (by omega) (by omega), back16 rg (by omega) (by omega), back16 pt (by omega) (by omega)] at k
  exact k h hC hl
theorem tmod_pos (n : Int) (h0 : 0 ≤ n) : Int.tmod n 256 % 256 = n % 256 := by rw [Int.tmod_eq_emod_of_nonneg h0]; omega
theorem tdiv_pos (n : Int) (h0 : 0 ≤ n) (h1 : n < 65536) : wrap64 (Int.tdiv n 256) % 256 = n / 256 % 256 := by rw [Int.tdiv_eq_ediv_of_nonneg h0, w64 _ (by omega) (by omega)]
theorem refPut_step (k : Nat) (xs ys : List Int) (i j n : Int) (hj : j = i + 1) (h0 : 0 ≤ i) (h1 : i < xs.length) (hi : i ≤ 100) (hy : ys.length ≤ 100) (hn : rd xs i = n) (n0 : 0 ≤ n) (n1 : n < 65536) :
    incunableref18_Put.l0 (k + 1) xs ys i = incunableref18_Put.l0 k xs (ys ++ [n % 256, n / 256 % 256]) j := by
  subst hj
  simp only [incunableref18_Put.l0, Option.bind_some]
  rw [if_pos h1, if_pos h0, if_pos (by simp; omega), hn, tmod_pos n n0, tdiv_pos n n0 n1, w64 (i + 1) (by omega) (by omega)]
theorem refPut_f {pl bl pg cs ck rg pt : Int} (h : Right pl bl pg cs ck rg pt) : incunableref18_Put.f 8 pl bl pg cs ck rg pt = some (gbytes pl bl pg cs ck rg pt) := by
  obtain ⟨⟨a1, a2⟩, ⟨b1, b2⟩, ⟨c1, c2⟩, ⟨d1, d2⟩, ⟨e1, e2⟩, ⟨f1, f2⟩, ⟨g1, g2⟩, h1, h2⟩ := h
  unfold incunableref18_Put.f
  rw [refPut_step _ _ _ 0 1 pl rfl (by omega) (by simp) (by omega) (by simp) rfl (by omega) (by omega)]
  rw [refPut_step _ _ _ 1 2 bl rfl (by omega) (by simp) (by omega) (by simp) rfl (by omega) (by omega)]
  rw [refPut_step _ _ _ 2 3 pg rfl (by omega) (by simp) (by omega) (by simp) rfl (by omega) (by omega)]
  rw [refPut_step _ _ _ 3 4 cs rfl (by omega) (by simp) (by omega) (by simp) rfl (by omega) (by omega)]
  rw [refPut_step _ _ _ 4 5 ck rfl (by omega) (by simp) (by omega) (by simp) rfl (by omega) (by omega)]
  rw [refPut_step _ _ _ 5 6 rg rfl (by omega) (by simp) (by omega) (by simp) rfl (by omega) (by omega)]
  rw [refPut_step _ _ _ 6 7 pt rfl (by omega) (by simp) (by omega) (by simp) rfl (by omega) (by omega)]
  simp only [incunableref18_Put.l0]
  rw [if_neg (by simp)]
  rfl
theorem refPut_ok {pl bl pg cs ck rg pt : Int} (h : Right pl bl pg cs ck rg pt) (w : World) :
    Calls Try.prog 35 #[.agg #[.int .i64 pl, .int .i64 bl, .int .i64 pg, .int .i64 cs, .int .i64 ck, .int .i64 rg, .int .i64 pt]] w fun e w' => ∃ A c, e = .returned (.slice A 14 c) ∧ 14 ≤ c ∧ Kd.C (Kd.int .u8) w' A 14 (gbytes pl bl pg cs ck rg pt) ∧ Below w.heap.size w w' := by
  refine (incunableref18_Put.calls 8 pl bl pg cs ck rg pt _ w (refPut_f h)).mono ?_
  rintro e w' ⟨v, rfl, hR, hb⟩
  obtain ⟨A, c, rfl, hl, hC⟩ := Kd.R_reads hR
  exact ⟨A, c, rfl, hl, hC, hb⟩
theorem same_ok {A B : Option Addr} {c d : Nat} {xs : List Int} (n : Nat) (hn : xs.length = n) (hm : n ≤ 1000) (w : World) (hA : Kd.C (Kd.int .u8) w A n xs) (hB : Kd.C (Kd.int .u8) w B n xs) (hc : n ≤ c) (hd : n ≤ d) :
    Calls Try.prog 24 #[.slice A n c, .slice B n d] w fun e w' => e = .returned (.bool true) ∧ Below w.heap.size w w' := by
  subst hn
  exact (incunableref01_Same.calls (xs.length + 1) A c xs B d xs true w hA hc hB hd (by rw [same_eq xs xs (by omega) _ (by omega)]; simp)).mono fun _ _ ⟨he, hx⟩ => ⟨he, hx.below⟩

theorem awake18_f {w : World} {A : Option Addr} (hC : Kd.C (Kd.int .u8) w A 14 (gbytes 1 2 4 1 300 1 1)) : ∃ g o, A = some ⟨g, o, none⟩ ∧ w.cell? ⟨g, o + 8, none⟩ = some (.int .u8 44) ∧ w.cell? ⟨g, o + 9, none⟩ = some (.int .u8 1) := by
  obtain ⟨g, o, rfl, _, _, _, _, _, _, _, _, _, h8, h9, _⟩ := open14 hC
  exact ⟨g, o, rfl, h8, h9⟩
theorem plain18_ok (w : World) : Calls Try.prog 82 #[] w fun e w' => e = .returned (.agg #[.int .i64 1, .int .i64 2, .int .i64 4, .int .i64 1, .int .i64 300, .int .i64 1, .int .i64 1]) ∧ Below w.heap.size w w' :=
  incunablelaw18_plain.calls 1 2 4 1 300 1 1 w rfl
set_option maxHeartbeats 1000000 in
theorem awake18_ok (w : World) : Calls Try.prog 32 #[] w fun e w' => e = .returned (.bool true) ∧ Below w.heap.size w w' := by
  have hr : Right 1 2 4 1 300 1 1 := by decide
  have HH := Lib.hid hr
  clear hr
  have HB := Below.refl w.heap.size w
  go_enter Try.func32, Try.ntmps32
  go_wp2_with (first | (go_at_call 82; refine (plain18_ok _).mono ?_; rintro e w1 ⟨rfl, hb1⟩; replace HB := HB.trans (hb1.mono HB.size); clear hb1) | (go_at_call 33; refine (put_ok HH.out _).mono ?_; rintro e w1 ⟨A, c, rfl, hl, hC, hb1⟩; replace HB := HB.trans (hb1.mono HB.size); clear hb1; obtain ⟨g, o, rfl, h8, h9⟩ := awake18_f hC; clear hC))
  go_ret
  exact ⟨rfl, HB⟩

set_option maxHeartbeats 4000000 in
set_option maxRecDepth 100000 in
theorem ib_no {pl bl pg cs ck rg pt : Int} (h : ¬ Right pl bl pg cs ck rg pt) {w : World} {A0 : Option Addr} {n c0 : Nat} (hn : n ≤ 100) {x0 x1 x2 x3 x4 x5 x6 k : Int} (hT : ∀ W, Below w.heap.size w W → Calls Try.prog 34 #[.slice A0 n c0] W fun e w' => e = .returned (.tuple #[.agg #[.int .i64 x0, .int .i64 x1, .int .i64 x2, .int .i64 x3, .int .i64 x4, .int .i64 x5, .int .i64 x6], .int .i64 k]) ∧ Below W.heap.size W w') (hR : ∀ W, Below w.heap.size w W → Calls Try.prog 36 #[.slice A0 n c0] W fun e w' => e = .returned (.tuple #[.agg #[.int .i64 x0, .int .i64 x1, .int .i64 x2, .int .i64 x3, .int .i64 x4, .int .i64 x5, .int .i64 x6], .int .i64 k]) ∧ Below W.heap.size W w') :
    Calls Try.prog 6 #[.agg #[.int .i64 pl, .int .i64 bl, .int .i64 pg, .int .i64 cs, .int .i64 ck, .int .i64 rg, .int .i64 pt], .slice A0 n c0] w fun e w' => e = .returned (.bool true) ∧ Below w.heap.size w w' := by
  have HH := Lib.hid h
  have HT := Lib.hid hT
  have HR := Lib.hid hR
  clear h hT hR
  have HB := Below.refl (w.heap.size + 1) (w.alloc (.cells #[.int .i64 pl, .int .i64 bl, .int .i64 pg, .int .i64 cs, .int .i64 ck, .int .i64 rg, .int .i64 pt] 23))
  go_enter Try.func6, Try.ntmps6
  go_wp2_with (first | (go_at_call 32; refine (awake18_ok _).mono ?_; rintro e w1 ⟨rfl, hb1⟩; replace HB := chainB (by simp) HB hb1; clear hb1; (try clear hcA); have hcA := boxes1 HB) | (go_at_call 33; refine (put_no HH.out _).mono ?_; rintro e w1 ⟨rfl, hb1⟩; replace HB := chainB (by simp) HB hb1; clear hb1; (try clear hcA); have hcA := boxes1 HB) | (go_at_call 27; refine (refRight_no HH.out _).mono ?_; rintro e w1 ⟨rfl, hb1⟩; replace HB := chainB (by simp) HB hb1; clear hb1; (try clear hcA); have hcA := boxes1 HB))
  refine (HT.out _ (chain1 _ HB)).mono ?_
  rintro e w1 ⟨rfl, hb1⟩; replace HB := chainB (by simp) HB hb1; (try clear hcA); have hcA := boxes1 HB; clear hb1
  go_wp2_with fail
  have HB1 := HB.alloc (by have := HB.size; simpa using this) (.cells #[.int .i64 x0, .int .i64 x1, .int .i64 x2, .int .i64 x3, .int .i64 x4, .int .i64 x5, .int .i64 x6] 23)
  have hA : (w1.alloc (.cells #[.int .i64 x0, .int .i64 x1, .int .i64 x2, .int .i64 x3, .int .i64 x4, .int .i64 x5, .int .i64 x6] 23)).heap[w1.heap.size]? = some (.cells #[.int .i64 x0, .int .i64 x1, .int .i64 x2, .int .i64 x3, .int .i64 x4, .int .i64 x5, .int .i64 x6] 23 (0, 0)) := blk_new w1 _ rfl
  refine (HR.out _ (chain1 _ HB1)).mono ?_
  rintro e w2 ⟨rfl, hb1⟩
  replace HB := chainB (by simp) HB1 hb1
  replace hA := blk_below hA hb1
  have hcB := blk_cell hA
  have hlt := blk_lt hA
  clear HB1 hb1 hcA
  go_wp2
  go_ret
  exact ⟨rfl, below_alloc (chain1 _ HB) _⟩


set_option maxHeartbeats 8000000 in
set_option maxRecDepth 100000 in
theorem ib_ok {pl bl pg cs ck rg pt : Int} (h : Right pl bl pg cs ck rg pt) {w : World} {A0 : Option Addr} {n c0 : Nat} (hn : n ≤ 100) {x0 x1 x2 x3 x4 x5 x6 k : Int} (hT : ∀ W, Below w.heap.size w W → Calls Try.prog 34 #[.slice A0 n c0] W fun e w' => e = .returned (.tuple #[.agg #[.int .i64 x0, .int .i64 x1, .int .i64 x2, .int .i64 x3, .int .i64 x4, .int .i64 x5, .int .i64 x6], .int .i64 k]) ∧ Below W.heap.size W w') (hR : ∀ W, Below w.heap.size w W → Calls Try.prog 36 #[.slice A0 n c0] W fun e w' => e = .returned (.tuple #[.agg #[.int .i64 x0, .int .i64 x1, .int .i64 x2, .int .i64 x3, .int .i64 x4, .int .i64 x5, .int .i64 x6], .int .i64 k]) ∧ Below W.heap.size W w') :
    Calls Try.prog 6 #[.agg #[.int .i64 pl, .int .i64 bl, .int .i64 pg, .int .i64 cs, .int .i64 ck, .int .i64 rg, .int .i64 pt], .slice A0 n c0] w fun e w' => e = .returned (.bool true) ∧ Below w.heap.size w w' := by
  have HH := Lib.hid h
  have HT := Lib.hid hT
  have HR := Lib.hid hR
  clear h hT hR
  have HB := Below.refl (w.heap.size + 1) (w.alloc (.cells #[.int .i64 pl, .int .i64 bl, .int .i64 pg, .int .i64 cs, .int .i64 ck, .int .i64 rg, .int .i64 pt] 23))
  go_enter Try.func6, Try.ntmps6
  go_wp2_with (first | (go_at_call 32; refine (awake18_ok _).mono ?_; rintro e w1 ⟨rfl, hb1⟩; replace HB := chainB (by simp) HB hb1; clear hb1; (try clear hcA); have hcA := boxes1 HB) | (go_at_call 33; refine (put_ok HH.out _).mono ?_; rintro e w1 ⟨A, c, rfl, hl, hC, hb1⟩; replace HB := chainB (by simp) HB hb1; (try clear hcA); have hcA := boxes1 HB; clear hb1) | (go_at_call 27; refine (refRight_ok HH.out _).mono ?_; rintro e w1 ⟨rfl, hb1⟩; replace hC := Kd.C_below hC hb1; replace HB := chainB (by simp) HB hb1; (try clear hcA); have hcA := boxes1 HB; clear hb1))
  -- Take of what was put
  refine (take_g HH.out hC hl).mono ?_
  rintro e w3 ⟨rfl, hb1⟩
  replace HB := chainB (by simp) HB hb1
  replace hC := Kd.C_below hC hb1
  clear hb1 hcA
  have hcA := boxes1 HB
  have hlt0 : w.heap.size < w3.heap.size := by have := HB.size; simp at this; omega
  go_wp2_with fail
  have HB1 := HB.alloc (by have := HB.size; simpa using this) (.cells #[.int .i64 pl, .int .i64 bl, .int .i64 pg, .int .i64 cs, .int .i64 ck, .int .i64 rg, .int .i64 pt] 23)
  have hA : (w3.alloc (.cells #[.int .i64 pl, .int .i64 bl, .int .i64 pg, .int .i64 cs, .int .i64 ck, .int .i64 rg, .int .i64 pt] 23)).heap[w3.heap.size]? = some (.cells #[.int .i64 pl, .int .i64 bl, .int .i64 pg, .int .i64 cs, .int .i64 ck, .int .i64 rg, .int .i64 pt] 23 (0, 0)) := blk_new w3 _ rfl
  refine (refPut_ok HH.out _).mono ?_
  rintro e w4 ⟨A', c', rfl, hl', hC', hb1⟩
  replace HB := chainB (by simp) HB1 hb1
  replace hA := blk_below hA hb1
  replace hC := Kd.C_below (Kd.C_alloc hC _) hb1
  clear HB1 hb1 hcA hlt0
  go_wp2_with fail
  refine (same_ok 14 rfl (by omega) _ hC hC' hl hl').mono ?_
  rintro e w5 ⟨rfl, hb1⟩
  replace HB := chainB (by simp) HB hb1
  replace hA := blk_below hA hb1
  clear hb1 hC hC' hl hl'
  have hcA := boxes1 HB
  have hcB := blk_cell hA
  have hlt := blk_lt hA
  go_wp2_with fail
  clear hA hcB
  refine (HT.out _ (chain1 _ HB)).mono ?_
  rintro e w6 ⟨rfl, hb1⟩; clear hlt; replace HB := chainB (by simp) HB hb1; (try clear hcA); have hcA := boxes1 HB; clear hb1
  go_wp2_with fail
  have HB1 := HB.alloc (by have := HB.size; simpa using this) (.cells #[.int .i64 x0, .int .i64 x1, .int .i64 x2, .int .i64 x3, .int .i64 x4, .int .i64 x5, .int .i64 x6] 23)
  have hA : (w6.alloc (.cells #[.int .i64 x0, .int .i64 x1, .int .i64 x2, .int .i64 x3, .int .i64 x4, .int .i64 x5, .int .i64 x6] 23)).heap[w6.heap.size]? = some (.cells #[.int .i64 x0, .int .i64 x1, .int .i64 x2, .int .i64 x3, .int .i64 x4, .int .i64 x5, .int .i64 x6] 23 (0, 0)) := blk_new w6 _ rfl
  refine (HR.out _ (chain1 _ HB1)).mono ?_
  rintro e w7 ⟨rfl, hb1⟩
  replace HB := chainB (by simp) HB1 hb1
  replace hA := blk_below hA hb1
  have hcB := blk_cell hA
  have hlt := blk_lt hA
  clear HB1 hb1 hcA
  go_wp2
  go_ret
  exact ⟨rfl, below_alloc (chain1 _ HB) _⟩

set_option maxHeartbeats 1000000 in
theorem ib_big {pl bl pg cs ck rg pt : Int} {w : World} {A0 : Option Addr} {n c0 : Nat} (hn : 100 < n) :
    Calls Try.prog 6 #[.agg #[.int .i64 pl, .int .i64 bl, .int .i64 pg, .int .i64 cs, .int .i64 ck, .int .i64 rg, .int .i64 pt], .slice A0 n c0] w fun e w' => e = .returned (.bool true) ∧ Below w.heap.size w w' := by
  have HB := Below.refl (w.heap.size + 1) (w.alloc (.cells #[.int .i64 pl, .int .i64 bl, .int .i64 pg, .int .i64 cs, .int .i64 ck, .int .i64 rg, .int .i64 pt] 23))
  go_enter Try.func6, Try.ntmps6
  go_wp2_with (first | (go_at_call 32; refine (awake18_ok _).mono ?_; rintro e w1 ⟨rfl, hb1⟩; replace HB := chainB (by simp) HB hb1; clear hb1; (try clear hcA); have hcA := boxes1 HB))
  go_ret
  exact ⟨rfl, chain1 _ HB⟩
theorem list14 (l : List Int) (h : l.length = 14) : ∃ b0 b1 b2 b3 b4 b5 b6 b7 b8 b9 b10 b11 b12 b13, l = [b0, b1, b2, b3, b4, b5, b6, b7, b8, b9, b10, b11, b12, b13] := by
  match l, h with
  | [b0, b1, b2, b3, b4, b5, b6, b7, b8, b9, b10, b11, b12, b13], _ => exact ⟨b0, b1, b2, b3, b4, b5, b6, b7, b8, b9, b10, b11, b12, b13, rfl⟩
set_option maxRecDepth 100000 in
theorem identBytes_walk (w : World) (x0 : (Int × Int × Int × Int × Int × Int × Int)) (hw0 : ((Lit.int .i64 x0.1).wf = true ∧ (Lit.int .i64 x0.2.1).wf = true ∧ (Lit.int .i64 x0.2.2.1).wf = true ∧ (Lit.int .i64 x0.2.2.2.1).wf = true ∧ (Lit.int .i64 x0.2.2.2.2.1).wf = true ∧ (Lit.int .i64 x0.2.2.2.2.2.1).wf = true ∧ (Lit.int .i64 x0.2.2.2.2.2.2).wf = true)) (x1 : (List Int)) {A1_0 : Option Addr} {c1_0 : Nat} (l1_0 : x1.length ≤ c1_0) (g1_0 : Kd.C (Kd.int .u8) w A1_0 x1.length x1) (hw1 : (∀ z0 ∈ x1, (Lit.int .u8 z0).wf = true)) :
    Calls Try.prog 6 #[.agg #[.int .i64 x0.1, .int .i64 x0.2.1, .int .i64 x0.2.2.1, .int .i64 x0.2.2.2.1, .int .i64 x0.2.2.2.2.1, .int .i64 x0.2.2.2.2.2.1, .int .i64 x0.2.2.2.2.2.2], .slice A1_0 x1.length c1_0] w fun e w' => e = .returned (.bool true) ∧ Below w.heap.size w w' := by
  obtain ⟨pl, bl, pg, cs, ck, rg, pt⟩ := x0
  clear hw0
  by_cases hn : x1.length ≤ 100
  · have main : ∀ {y0 y1 y2 y3 y4 y5 y6 k : Int} (hT : ∀ W, Below w.heap.size w W → Calls Try.prog 34 #[.slice A1_0 x1.length c1_0] W fun e w' => e = .returned (.tuple #[.agg #[.int .i64 y0, .int .i64 y1, .int .i64 y2, .int .i64 y3, .int .i64 y4, .int .i64 y5, .int .i64 y6], .int .i64 k]) ∧ Below W.heap.size W w') (hR : ∀ W, Below w.heap.size w W → Calls Try.prog 36 #[.slice A1_0 x1.length c1_0] W fun e w' => e = .returned (.tuple #[.agg #[.int .i64 y0, .int .i64 y1, .int .i64 y2, .int .i64 y3, .int .i64 y4, .int .i64 y5, .int .i64 y6], .int .i64 k]) ∧ Below W.heap.size W w'), Calls Try.prog 6 #[.agg #[.int .i64 pl, .int .i64 bl, .int .i64 pg, .int .i64 cs, .int .i64 ck, .int .i64 rg, .int .i64 pt], .slice A1_0 x1.length c1_0] w fun e w' => e = .returned (.bool true) ∧ Below w.heap.size w w' := by
      intro y0 y1 y2 y3 y4 y5 y6 k hT hR
      by_cases h : Right pl bl pg cs ck rg pt
      · exact ib_ok h hn hT hR
      · exact ib_no h hn hT hR
    have h3 : x1.length < 14 ∨ 14 < x1.length ∨ x1.length = 14 := by omega
    rcases h3 with h3 | h3 | h3
    · exact main (fun W _ => take_short h3 W) (fun W _ => rtake_short h3 W)
    · exact main (fun W _ => take_long h3 W) (fun W _ => rtake_long h3 W)
    · obtain ⟨b0, b1, b2, b3, b4, b5, b6, b7, b8, b9, b10, b11, b12, b13, rfl⟩ := list14 x1 h3
      have hb0 := Pure.wf8 (hw1 b0 (by simp))
      have hb1 := Pure.wf8 (hw1 b1 (by simp))
      have hb2 := Pure.wf8 (hw1 b2 (by simp))
      have hb3 := Pure.wf8 (hw1 b3 (by simp))
      have hb4 := Pure.wf8 (hw1 b4 (by simp))
      have hb5 := Pure.wf8 (hw1 b5 (by simp))
      have hb6 := Pure.wf8 (hw1 b6 (by simp))
      have hb7 := Pure.wf8 (hw1 b7 (by simp))
      have hb8 := Pure.wf8 (hw1 b8 (by simp))
      have hb9 := Pure.wf8 (hw1 b9 (by simp))
      have hb10 := Pure.wf8 (hw1 b10 (by simp))
      have hb11 := Pure.wf8 (hw1 b11 (by simp))
      have hb12 := Pure.wf8 (hw1 b12 (by simp))
      have hb13 := Pure.wf8 (hw1 b13 (by simp))
      by_cases h : Right (b0 + 256 * b1) (b2 + 256 * b3) (b4 + 256 * b5) (b6 + 256 * b7) (b8 + 256 * b9) (b10 + 256 * b11) (b12 + 256 * b13)
      · exact main (fun W hb => take_ok hb0 hb1 hb2 hb3 hb4 hb5 hb6 hb7 hb8 hb9 hb10 hb11 hb12 hb13 h (Kd.C_below g1_0 hb) l1_0) (fun W hb => rtake_ok hb0 hb1 hb2 hb3 hb4 hb5 hb6 hb7 hb8 hb9 hb10 hb11 hb12 hb13 h (Kd.C_below g1_0 hb) l1_0)
      · exact main (fun W hb => take_bad hb0 hb1 hb2 hb3 hb4 hb5 hb6 hb7 hb8 hb9 hb10 hb11 hb12 hb13 h (Kd.C_below g1_0 hb) l1_0) (fun W hb => rtake_bad hb0 hb1 hb2 hb3 hb4 hb5 hb6 hb7 hb8 hb9 hb10 hb11 hb12 hb13 h (Kd.C_below g1_0 hb) l1_0)
  · exact ib_big (by omega)

end Go.Proofs.Ytkcpohplgdndkaa
