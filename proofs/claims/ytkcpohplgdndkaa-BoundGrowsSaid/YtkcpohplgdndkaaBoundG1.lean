import Derived.Test.YtkcpohplgdndkaaBoundG0
import Derived.Deep.DeepCutAuto
namespace Go.Proofs.Ytkcpohplgdndkaa
open Go.RowKit Go.Proofs.Ytkcpohplgdndkaa.QB Go.Proofs.YtkcpohplgdndkaaW.PrintWords
set_option linter.unusedVariables false
set_option maxHeartbeats 8000000 in
set_option maxRecDepth 100000 in
theorem bg_no {pl bl pg cs ck rg pt sec spr thr b buf more : Int} (m0 : 0 ≤ more) (m1 : more ≤ 65535) (h : ¬ Valid pl bl pg cs ck rg pt sec spr thr b buf) (w : World) : Calls Try.prog 15 #[.agg #[.int .i64 pl, .int .i64 bl, .int .i64 pg, .int .i64 cs, .int .i64 ck, .int .i64 rg, .int .i64 pt, .int .i64 sec, .int .i64 spr, .int .i64 thr, .int .i64 b, .int .i64 buf], .int .u16 more] w fun e w' => e = .returned (.bool true) ∧ Below w.heap.size w w' := by
  have HV := Lib.hid h
  clear h
  have HB := Below.refl (w.heap.size + 1) (w.alloc (.cells #[.int .i64 pl, .int .i64 bl, .int .i64 pg, .int .i64 cs, .int .i64 ck, .int .i64 rg, .int .i64 pt, .int .i64 sec, .int .i64 spr, .int .i64 thr, .int .i64 b, .int .i64 buf] 106))
  go_enter Try.func15, Try.ntmps15
  go_upto_region 4 with (first | (go_at_call 65; refine (awake37_ok _).mono ?_; rintro e w1 ⟨rfl, hb1⟩; replace HB := chainC (by simp) HB hb1; clear hb1; (try clear hcA); have hcA := boxC HB))
  have HB1 := HB.alloc (by have := HB.size; simpa using this) (.cells #[.int .i64 pl, .int .i64 bl, .int .i64 pg, .int .i64 cs, .int .i64 ck, .int .i64 rg, .int .i64 pt, .int .i64 sec, .int .i64 spr, .int .i64 thr, .int .i64 b, .int .i64 buf] 106)
  have hcB := boxC HB1
  have hdB := blkNew w1 (.cells #[.int .i64 pl, .int .i64 bl, .int .i64 pg, .int .i64 cs, .int .i64 ck, .int .i64 rg, .int .i64 pt, .int .i64 sec, .int .i64 spr, .int .i64 thr, .int .i64 b, .int .i64 buf] 106) rfl
  have hdC := blk_cell hdB
  have hdF := blk_frozen hdB
  go_upto_region 5 with fail
  clear hcB hdB hdC hdF HB1
  generalize (if 65536 < if b < 0 then 0 else b then 65536 else if b < 0 then 0 else b) = v15
  generalize (if b < 0 then 0 else b) = v14
  generalize v15 + more = b'
  replace HB := HB.alloc (by have := HB.size; simpa using this) (.cells #[.int .i64 pl, .int .i64 bl, .int .i64 pg, .int .i64 cs, .int .i64 ck, .int .i64 rg, .int .i64 pt, .int .i64 sec, .int .i64 spr, .int .i64 thr, .int .i64 b', .int .i64 buf] 106)
  have hL := blkNew w1 (.cells #[.int .i64 pl, .int .i64 bl, .int .i64 pg, .int .i64 cs, .int .i64 ck, .int .i64 rg, .int .i64 pt, .int .i64 sec, .int .i64 spr, .int .i64 thr, .int .i64 b', .int .i64 buf] 106) rfl
  obtain ⟨g, hg⟩ : ∃ g, g = w1.heap.size := ⟨_, rfl⟩
  rw [← hg]
  rw [← hg] at hL
  generalize (w1.alloc (.cells #[.int .i64 pl, .int .i64 bl, .int .i64 pg, .int .i64 cs, .int .i64 ck, .int .i64 rg, .int .i64 pt, .int .i64 sec, .int .i64 spr, .int .i64 thr, .int .i64 b', .int .i64 buf] 106)) = w2 at HB hL ⊢
  clear hcA hg
  have hcA := boxC HB
  have hcD := blk_cell hL
  go_wp2_with (first | (go_at_call 71; refine (scheck_no HV.out _).mono ?_; rintro e w3 ⟨rfl, hb1⟩; (first | (replace HB := chainC (by simp) HB hb1; replace hL := blk_below hL hb1) | (replace HB := chainC (by simp) HB.drew hb1; replace hL := blk_below (blk_drew hL) hb1)); clear hb1; (try clear hcA); (try clear hcD); have hcA := boxC HB; have hcD := blk_cell hL))
  go_ret
  exact ⟨rfl, boxDone _ HB⟩

set_option maxHeartbeats 8000000 in
set_option maxRecDepth 100000 in
theorem bg_half {pl bl pg cs ck rg pt sec spr thr b b' buf more : Int} (m0 : 0 ≤ more) (m1 : more ≤ 65535) (h : Valid pl bl pg cs ck rg pt sec spr thr b buf) (h' : ¬ Valid pl bl pg cs ck rg pt sec spr thr b' buf) (HB' : Hid (b' = b + more)) (w : World) : Calls Try.prog 15 #[.agg #[.int .i64 pl, .int .i64 bl, .int .i64 pg, .int .i64 cs, .int .i64 ck, .int .i64 rg, .int .i64 pt, .int .i64 sec, .int .i64 spr, .int .i64 thr, .int .i64 b, .int .i64 buf], .int .u16 more] w fun e w' => e = .returned (.bool true) ∧ Below w.heap.size w w' := by
  have hbb : 1 ≤ b ∧ b ≤ 65536 := by have := okay_of h; obtain ⟨pl1, pl2, bl1, bl2, pg1, pg2, rg1, rg2, b1, b2, f1, f2, r1, r2⟩ := this; exact ⟨b1, b2⟩
  obtain ⟨hb1', hb2'⟩ := hbb
  have HV := Lib.hid h
  have HN := Lib.hid h'
  clear h h'
  have HB := Below.refl (w.heap.size + 1) (w.alloc (.cells #[.int .i64 pl, .int .i64 bl, .int .i64 pg, .int .i64 cs, .int .i64 ck, .int .i64 rg, .int .i64 pt, .int .i64 sec, .int .i64 spr, .int .i64 thr, .int .i64 b, .int .i64 buf] 106))
  go_enter Try.func15, Try.ntmps15
  go_upto_region 4 with (first | (go_at_call 65; refine (awake37_ok _).mono ?_; rintro e w1 ⟨rfl, hb1⟩; replace HB := chainC (by simp) HB hb1; clear hb1; (try clear hcA); have hcA := boxC HB))
  have HB1 := HB.alloc (by have := HB.size; simpa using this) (.cells #[.int .i64 pl, .int .i64 bl, .int .i64 pg, .int .i64 cs, .int .i64 ck, .int .i64 rg, .int .i64 pt, .int .i64 sec, .int .i64 spr, .int .i64 thr, .int .i64 b, .int .i64 buf] 106)
  have hcB := boxC HB1
  have hdB := blkNew w1 (.cells #[.int .i64 pl, .int .i64 bl, .int .i64 pg, .int .i64 cs, .int .i64 ck, .int .i64 rg, .int .i64 pt, .int .i64 sec, .int .i64 spr, .int .i64 thr, .int .i64 b, .int .i64 buf] 106) rfl
  have hdC := blk_cell hdB
  have hdF := blk_frozen hdB
  go_upto_region 5 with fail
  clear hcB hdB hdC hdF HB1
  rw [← HB'.out]
  replace HB := HB.alloc (by have := HB.size; simpa using this) (.cells #[.int .i64 pl, .int .i64 bl, .int .i64 pg, .int .i64 cs, .int .i64 ck, .int .i64 rg, .int .i64 pt, .int .i64 sec, .int .i64 spr, .int .i64 thr, .int .i64 b', .int .i64 buf] 106)
  have hL := blkNew w1 (.cells #[.int .i64 pl, .int .i64 bl, .int .i64 pg, .int .i64 cs, .int .i64 ck, .int .i64 rg, .int .i64 pt, .int .i64 sec, .int .i64 spr, .int .i64 thr, .int .i64 b', .int .i64 buf] 106) rfl
  obtain ⟨g, hg⟩ : ∃ g, g = w1.heap.size := ⟨_, rfl⟩
  rw [← hg]
  rw [← hg] at hL
  generalize (w1.alloc (.cells #[.int .i64 pl, .int .i64 bl, .int .i64 pg, .int .i64 cs, .int .i64 ck, .int .i64 rg, .int .i64 pt, .int .i64 sec, .int .i64 spr, .int .i64 thr, .int .i64 b', .int .i64 buf] 106)) = w2 at HB hL ⊢
  clear hcA hg
  have hcA := boxC HB
  have hcD := blk_cell hL
  go_wp2_with (first | (go_at_call 71; (first | (have hdn2 := hdone; refine (scheck_no HN.out _).mono ?_) | (have hdone : 0 = 0 := rfl; refine (scheck_ok HV.out _).mono ?_)); rintro e w3 ⟨rfl, hb1⟩; (first | (replace HB := chainC (by simp) HB hb1; replace hL := blk_below hL hb1) | (replace HB := chainC (by simp) HB.drew hb1; replace hL := blk_below (blk_drew hL) hb1)); clear hb1; (try clear hcA); (try clear hcD); have hcA := boxC HB; have hcD := blk_cell hL))
  go_ret
  exact ⟨rfl, boxDone _ HB⟩

end Go.Proofs.Ytkcpohplgdndkaa
