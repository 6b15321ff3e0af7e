import Derived.Test.YtnkgbnipcjgjeaaDC
namespace Go.Proofs.Ytnkgbnipcjgjeaa
open Go.RowKit Go.Shelf Go.Sort Go.Lib Go.Proofs.YtnkgbnipcjgjeaaW.PrintWords Go.Proofs.YtnkgbnipcjgjeaaW.PrintLast Go.Proofs.YtnkgbnipcjgjeaaW.PrintMore
set_option linter.unusedVariables false
/-- The blocks of what is there then: those of now, and new ones. -/
def Nx (w : World) (F F' : Nat → Prop) : Prop := ∀ k, F' k → F k ∨ w.heap.size ≤ k
theorem Nx.fp (w w' : World) (F : Nat → Prop) : Nx w F (Fp F w w') := fun k hk => hk.imp id (fun h => h.1)
theorem Nx.trans {w w1 : World} {F F1 F2 : Nat → Prop} (h1 : Nx w F F1) (h2 : Nx w1 F1 F2) (hs : w.heap.size ≤ w1.heap.size) : Nx w F F2 := fun k hk => by
  rcases h2 k hk with h | h
  · exact h1 k h
  · exact .inr (Nat.le_trans hs h)
theorem Nx.refl (w : World) (F : Nat → Prop) : Nx w F F := fun k hk => .inl hk
set_option maxHeartbeats 2000000 in
set_option maxRecDepth 100000 in
theorem dwrite_bad1 {w : World} {g b n sz : Nat} {F : Nat → Prop} {l : Rec} (s : Int) (v : Value) (h : RecIs w g b n sz F l) (hin : ¬ (0 ≤ s ∧ s < n)) :
    Calls Try.prog 55 #[.pointer (some ⟨g, 0, none⟩), .int .i64 s, v] w fun e w' => e = .returned (.int .i64 2) ∧ w' = w := by
  have hmay := may_ok s h
  unfold mayE at hmay
  rw [if_neg hin] at hmay
  have HMAY := Lib.hid hmay
  clear h hmay hin
  go_enter Try.func55, Try.ntmps55
  go_wp2_with (go_at_call 99; refine (HMAY.out).mono ?_; rintro e w' ⟨rfl, rfl⟩)
  go_ret
  exact ⟨rfl, rfl⟩
set_option maxHeartbeats 2000000 in
set_option maxRecDepth 100000 in
theorem dwrite_bad2 {w : World} {g b n sz : Nat} {F : Nat → Prop} {l : Rec} (s : Int) (m : Nat) (Ad : Option Addr) (cd : Nat) (h : RecIs w g b n sz F l) (hin : 0 ≤ s ∧ s < n) (hlen : m ≠ sz) :
    Calls Try.prog 55 #[.pointer (some ⟨g, 0, none⟩), .int .i64 s, .slice Ad m cd] w fun e w' => e = .returned (.int .i64 2) ∧ w' = w := by
  have hmay := may_ok s h
  unfold mayE at hmay
  rw [if_pos hin] at hmay
  have c2 : w.cell? ⟨g, 2, none⟩ = some (.int .i64 sz) := blk_cell h.blk 2
  have HMAY := Lib.hid hmay
  have hdl : ((m : Int) != (sz : Int)) = true := by rw [bne_iff_ne]; omega
  clear h hmay hin hlen
  go_enter Try.func55, Try.ntmps55
  go_wp2_with (go_at_call 99; refine (HMAY.out).mono ?_; rintro e w' ⟨rfl, rfl⟩)
  go_ret
  exact ⟨rfl, rfl⟩
set_option maxHeartbeats 2000000 in
set_option maxRecDepth 100000 in
theorem dwrite_nil (w : World) (s : Int) (v : Value) : Calls Try.prog 55 #[.pointer none, .int .i64 s, v] w fun e w' => e = .returned (.int .i64 1) ∧ w' = w := by
  go_enter Try.func55, Try.ntmps55
  go_wp2_with (go_at_call 99; refine (may_nil _ _).mono ?_; rintro e w' ⟨rfl, rfl⟩)
  go_ret
  exact ⟨rfl, rfl⟩
set_option maxHeartbeats 2000000 in
set_option maxRecDepth 100000 in
theorem dtrim_nil (w : World) (s : Int) : Calls Try.prog 56 #[.pointer none, .int .i64 s] w fun e w' => e = .returned (.int .i64 1) ∧ w' = w := by
  go_enter Try.func56, Try.ntmps56
  go_wp2_with (go_at_call 99; refine (may_nil _ _).mono ?_; rintro e w' ⟨rfl, rfl⟩)
  go_ret
  exact ⟨rfl, rfl⟩
set_option maxHeartbeats 2000000 in
set_option maxRecDepth 100000 in
theorem dtrim_bad {w : World} {g b n sz : Nat} {F : Nat → Prop} {l : Rec} (s : Int) (h : RecIs w g b n sz F l) (hin : ¬ (0 ≤ s ∧ s < n)) :
    Calls Try.prog 56 #[.pointer (some ⟨g, 0, none⟩), .int .i64 s] w fun e w' => e = .returned (.int .i64 2) ∧ w' = w := by
  have hmay := may_ok s h
  unfold mayE at hmay
  rw [if_neg hin] at hmay
  have HMAY := Lib.hid hmay
  clear h hmay hin
  go_enter Try.func56, Try.ntmps56
  go_wp2_with (go_at_call 99; refine (HMAY.out).mono ?_; rintro e w' ⟨rfl, rfl⟩)
  go_ret
  exact ⟨rfl, rfl⟩
set_option maxHeartbeats 4000000 in
set_option maxRecDepth 100000 in
theorem dtrim_ok {w : World} {g b n sz : Nat} {F : Nat → Prop} {l : Rec} (s : Int) (h : RecIs w g b n sz F l) (hs : okI s) (hin : 0 ≤ s ∧ s < n) (hcnt : (ofV l sz s).length ≤ 1000) :
    Calls Try.prog 56 #[.pointer (some ⟨g, 0, none⟩), .int .i64 s] w fun e w' => e = .returned (.int .i64 0) ∧ ∃ F', RecIs w' g b n sz F' (mput l s (ofV l sz s ++ [zeros sz])) ∧ Nx w F F' ∧ Mods w w' (fun k => k = b) := by
  have hmay := may_ok s h
  unfold mayE at hmay
  rw [if_pos hin] at hmay
  have c2 : w.cell? ⟨g, 2, none⟩ = some (.int .i64 sz) := blk_cell h.blk 2
  have hsm := h.small
  have HMAY := Lib.hid hmay
  have HR := Lib.hid h
  have HS := Lib.hid hs
  have HIN := Lib.hid hin
  have HCN := Lib.hid hcnt
  clear h hmay hin hs hcnt
  go_enter Try.func56, Try.ntmps56
  go_wp2_with (first | (go_at_call 99; refine (HMAY.out).mono ?_; rintro e w' ⟨rfl, rfl⟩) | (at_make; refine Kd.R_make kB (w0 := w') w'.heap.size 5 rfl rfl 52 (.tmp 17) (.tmp 17) rfl (sz : Int) rfl rfl Try.underlying52 (.int .u8 0) 1 info5 rfl (by decide) (by decide) 0 (ok := fun _ => True) (okp := fun _ => True) rfl (fun _ h => h) trivial (by omega) (by have := hsm.2; simp; omega) (Below.refl _ _) (Nat.le_refl _) ?_; intro v1 w1 hr1 hb1 hg1 hat1; obtain ⟨A1, c1, rfl, hc1, hC1⟩ := Kd.R_reads hr1; rw [Int.toNat_natCast] at hc1 hC1 ⊢; have hz : (zeros sz).length = sz := List.length_replicate; have hW := dwrite_ok s (zeros sz) A1 c1 (HR.out.below hb1) HS.out hC1 hc1 (fun x hx => by have := (List.mem_replicate.1 hx).2; omega) HIN.out hz HCN.out; rw [List.length_replicate] at hc1 ⊢; rw [hz] at hW; have HW := Lib.hid hW; have HB1 := Lib.hid hb1; clear hr1 hb1 hg1 hat1 hc1 hC1 hW hz))
  refine (HW.out).mono ?_
  rintro e w2 ⟨rfl, hr2, hm2⟩
  have HR2 := Lib.hid hr2
  have HM2 := Lib.hid hm2
  clear hr2 hm2
  go_wp2_with fail
  go_ret
  exact ⟨rfl, _, HR2.out, fun k hk => hk.imp id (fun h => Nat.le_trans HB1.out.size h.1), (Mods.of_below HB1.out (fun k => k = b)).trans HM2.out (fun i h => .inl h)⟩
end Go.Proofs.Ytnkgbnipcjgjeaa
