import Derived.Test.YtnkgbnipcjgjeaaDF
namespace Go.Proofs.Ytnkgbnipcjgjeaa
open Go.RowKit Go.Shelf Go.Sort Go.Lib Go.Proofs.YtnkgbnipcjgjeaaW.PrintWords Go.Proofs.YtnkgbnipcjgjeaaW.PrintLast Go.Proofs.YtnkgbnipcjgjeaaW.PrintMore
set_option linter.unusedVariables false
set_option maxHeartbeats 2000000 in
set_option maxRecDepth 100000 in
theorem dsettle_nil (w : World) (s : Int) (A : Option Addr) (m c : Nat) : Calls Try.prog 59 #[.pointer none, .int .i64 s, .slice A m c] w fun e w' => e = .returned (.int .i64 1) ∧ w' = w := by
  go_enter Try.func59, Try.ntmps59
  go_wp2_with (go_at_call 99; refine (may_nil _ _).mono ?_; rintro e w' ⟨rfl, rfl⟩)
  go_ret
  exact ⟨rfl, rfl⟩
set_option maxHeartbeats 2000000 in
set_option maxRecDepth 100000 in
theorem dflush_nil (w : World) : Calls Try.prog 60 #[.pointer none] w fun e w' => e = .returned (.int .i64 1) ∧ w' = w := by
  go_enter Try.func60, Try.ntmps60
  go_wp2_with (go_at_call 99; refine (may_nil _ _).mono ?_; rintro e w' ⟨rfl, rfl⟩)
  go_ret
  exact ⟨rfl, rfl⟩
set_option maxHeartbeats 2000000 in
set_option maxRecDepth 100000 in
theorem dopen_nil (w : World) : Calls Try.prog 62 #[.pointer none] w fun e w' => e = .returned (.int .i64 0) ∧ w' = w := by
  go_enter Try.func62, Try.ntmps62
  go_wp2_with (go_at_call 99; refine (may_nil _ _).mono ?_; rintro e w' ⟨rfl, rfl⟩)
  go_ret
  exact ⟨rfl, rfl⟩
theorem vst_one {w w3 : World} {F : Nat → Prop} {A3 : Option Addr} {c3 : Nat} {data : List Int} (hFs : ∀ k, F k → k < w.heap.size) (hs : w.heap.size ≤ w3.heap.size) (hc3 : data.length ≤ c3) (hk3 : ∀ w', Keep (Fp F w w3) w3 w' → kB.C w' A3 data.length data) :
    VSt (w3.alloc (.cells #[.slice A3 data.length c3] 52)) (Fp F w (w3.alloc (.cells #[.slice A3 data.length c3] 52))) (.slice (some ⟨w3.heap.size, 0, none⟩) 1 1) [data] := by
  refine ⟨some ⟨w3.heap.size, 0, none⟩, 1, [(A3, data.length, c3)], rfl, Nat.le_refl _, fun w' hk => ?_, ⟨⟨rfl, hc3, fun w' hk => hk3 w' (fun k hF => ?_)⟩, trivial⟩⟩
  · exact c_one1 (enc := vH) (h1 := fun _ => rfl) (x := (A3, data.length, c3)) ((hk w3.heap.size (.inr ⟨hs, by simp⟩)).trans (blk_new w3 _))
  · refine (hk k ?_).trans (Below.heap_alloc w3 _ k ?_)
    · rcases hF with hF | hF
      · exact .inl hF
      · exact .inr ⟨hF.1, by simp; omega⟩
    · rcases hF with hF | hF
      · exact Nat.lt_of_lt_of_le (hFs k hF) hs
      · exact hF.2
set_option maxHeartbeats 4000000 in
set_option maxRecDepth 100000 in
/-- Settle: what may not be is refused; the record is as it was. -/
theorem dsettle_bad {w : World} {g b n sz : Nat} {F : Nat → Prop} {l : Rec} (s : Int) (data : List Int) (Ad : Option Addr) (cd : Nat) (h : RecIs w g b n sz F l) (hs : okI s) (hd : kB.C w Ad data.length data) (hcd : data.length ≤ cd) (hby : isB data) (hcnt : (ofV l sz s).length ≤ 1000) (hno : ¬ ((0 ≤ s ∧ s < n) ∧ data ∈ ofV l sz s)) :
    Calls Try.prog 59 #[.pointer (some ⟨g, 0, none⟩), .int .i64 s, .slice Ad data.length cd] w fun e w' => e = .returned (.int .i64 2) ∧ Below w.heap.size w w' := by
  have HMAY := Lib.hid (may_ok s h)
  have hm := dmay_ok s data Ad cd h hs hd hcd hby hcnt
  rw [decide_eq_false hno] at hm
  have HM := Lib.hid hm
  clear hs hd hcd hby hcnt hno hm h
  by_cases hin : 0 ≤ s ∧ s < n
  · have hmay := HMAY.out
    unfold mayE at hmay
    rw [if_pos hin] at hmay
    replace HMAY := Lib.hid hmay
    clear hmay hin
    go_enter Try.func59, Try.ntmps59
    go_wp2_with (go_at_call 99; refine (HMAY.out).mono ?_; rintro e w' ⟨rfl, rfl⟩)
    refine (HM.out).mono ?_
    rintro e w2 ⟨rfl, hb⟩
    go_wp2_with fail
    go_ret
    exact ⟨rfl, hb⟩
  · have hmay := HMAY.out
    unfold mayE at hmay
    rw [if_neg hin] at hmay
    replace HMAY := Lib.hid hmay
    clear hmay hin
    go_enter Try.func59, Try.ntmps59
    go_wp2_with (go_at_call 99; refine (HMAY.out).mono ?_; rintro e w' ⟨rfl, rfl⟩)
    go_ret
    exact ⟨rfl, Below.refl _ _⟩
set_option maxHeartbeats 8000000 in
set_option maxRecDepth 100000 in
theorem dsettle_ok {w : World} {g b n sz : Nat} {F : Nat → Prop} {l : Rec} (s : Int) (data : List Int) (Ad : Option Addr) (cd : Nat) (h : RecIs w g b n sz F l) (hs : okI s) (hd : kB.C w Ad data.length data) (hcd : data.length ≤ cd) (hby : isB data) (hcnt : (ofV l sz s).length ≤ 1000) (hyes : (0 ≤ s ∧ s < n) ∧ data ∈ ofV l sz s) :
    Calls Try.prog 59 #[.pointer (some ⟨g, 0, none⟩), .int .i64 s, .slice Ad data.length cd] w fun e w' => e = .returned (.int .i64 0) ∧ ∃ F', RecIs w' g b n sz F' (mput l s [data]) ∧ Nx w F F' ∧ Mods w w' (fun k => k = b) := by
  have hmay := may_ok s h
  unfold mayE at hmay
  rw [if_pos hyes.1] at hmay
  have HMAY := Lib.hid hmay
  have hm := dmay_ok s data Ad cd h hs hd hcd hby hcnt
  rw [decide_eq_true hyes] at hm
  have HM := Lib.hid hm
  have hlen := ((ofV_isB h s).2 data hyes.2).1
  have hsm := h.small
  have HLEN := Lib.hid hlen
  have HWF : Hid ([data] ≠ [] ∧ ∀ r ∈ [data], r.length = sz ∧ ∀ x ∈ r, 0 ≤ x ∧ x < 256) := Lib.hid ⟨by simp, fun r hr => by rw [List.mem_singleton.1 hr]; exact ⟨hlen, hby⟩⟩
  have HR := Lib.hid h
  have HS := Lib.hid hs
  have HIN := Lib.hid hyes.1
  have HD := Lib.hid hd
  have HCD := Lib.hid hcd
  have HNE := Lib.hid h.ne
  have hlg := h.ltg
  clear hs hd hcd hby hcnt hyes hm h hmay hlen
  go_enter Try.func59, Try.ntmps59
  go_wp2_with (go_at_call 99; refine (HMAY.out).mono ?_; rintro e w' ⟨rfl, rfl⟩)
  refine (HM.out).mono ?_
  rintro e w2 ⟨rfl, hb2⟩
  have hr2 := HR.out.below hb2
  have c0 : w2.drew.cell? ⟨g, 0, none⟩ = some (.map (some b)) := hr2.cell
  have c1 : w2.cell? ⟨g, 0, none⟩ = some (.map (some b)) := hr2.cell
  have hlg2 : g < w2.drew.heap.size := hr2.ltg
  have HR2 := Lib.hid (hr2.drewN 1)
  have HB2 := Lib.hid hb2
  have HCL := Lib.hid (clone_ok Ad cd data w2.drew (Kd.C_drewN (Kd.C_below HD.out hb2) 1) HCD.out (by have := HLEN.out; omega))
  clear hr2 hb2
  go_wp2_with fail
  go_region_held3 (fun w' => w'.cell? ⟨g, 0, none⟩ = some (.map (some b))) (go_keep) (first | (go_at_call 95; refine (HCL.out).mono ?_; rintro e w3 ⟨⟨v3, rfl, hv3⟩, hb3⟩; obtain ⟨A3, c3, rfl, hc3, hk3⟩ := r_keep (F := F) hv3; have f3 : w3.cell? ⟨g, 0, none⟩ = some (.map (some b)) := (hb3.cell (p := ⟨g, 0, none⟩) hlg2).trans c0; have f3a : (w3.alloc (.cells #[.slice A3 data.length c3] 52)).cell? ⟨g, 0, none⟩ = some (.map (some b)) := blk_alloc_cell f3 _; obtain ⟨vs, hm2, hst2⟩ := HR2.out.map; have hbb : Below w2.drew.heap.size w2.drew (w3.alloc (.cells #[.slice A3 data.length c3] 52)) := hb3.alloc hb3.size _; obtain ⟨w6, hrun6, hm6, hg6, hs6⟩ := (hm2.below hbb).put keI' Try.underlying156 HS.out (.slice (some ⟨w3.heap.size, 0, none⟩) 1 1); have hrun7 : (Instr.mapUpdate 156 (.map (some b)) (.int .i64 s) (.slice (some ⟨w3.heap.size, 0, none⟩) 1 1)).run Try.prog (w3.alloc (.cells #[.slice A3 data.length c3] 52)) = .ok () w6 := hrun6; have f6 : w6.cell? ⟨g, 0, none⟩ = some (.map (some b)) := (cell_block (p := ⟨g, 0, none⟩) (hg6.block g (Nat.lt_of_lt_of_le hlg2 hbb.size) (fun e => HNE.out (by injection e)))).trans f3a; have HFIN := Lib.hid (rec_put (w := w2.drew) HR2.out hst2 hbb (vst_one (w := w2.drew) (fun k hk => (HR2.out.foot k hk).1) hb3.size hc3 hk3) hm6 hg6 hs6 HIN.out HWF.out); clear hm6 hg6 hs6 hrun6 hb3 hc3 hk3 hv3 hm2 hst2 hbb))
  all_goals
    go_wp2_with fail
    go_ret
    exact ⟨rfl, _, HFIN.out.1, fun k hk => hk.imp id (fun h => Nat.le_trans HB2.out.size h.1), (Mods.of_below HB2.out (fun k => k = b)).trans ⟨HFIN.out.2.os, HFIN.out.2.tape, HFIN.out.2.output, HFIN.out.2.size, HFIN.out.2.block⟩ (fun i h => .inl h)⟩
end Go.Proofs.Ytnkgbnipcjgjeaa
