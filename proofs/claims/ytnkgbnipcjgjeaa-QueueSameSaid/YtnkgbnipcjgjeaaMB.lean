import Derived.Test.YtnkgbnipcjgjeaaMA
namespace Go.Proofs.Ytnkgbnipcjgjeaa
open Go.RowKit Go.Lib Go.Proofs.YtnkgbnipcjgjeaaW.PrintWords Go.Proofs.YtnkgbnipcjgjeaaW.PrintLast Go.Proofs.YtnkgbnipcjgjeaaW.PrintMore
set_option linter.unusedVariables false
namespace Mo
/-- What an op makes of a model, and what it tells. -/
def askL (n sz : Nat) (l : Md) (k s : Int) (xs : List Int) : Md := if 0 ≤ s ∧ s < n then (if k = 1 then mput l s xs else if k = 2 then mdel l s else l) else l
def askR (n sz : Nat) (l : Md) (k s : Int) : List Int := if k = 3 ∧ 0 ≤ s ∧ s < n then mV l sz s else []
set_option maxHeartbeats 4000000 in
set_option maxRecDepth 100000 in
theorem ask_ok {w : World} {N0 g b n sz : Nat} {l : Md} (k s : Int) (xs : List Int) (A2 : Option Addr) (c2 : Nat) (h : ModIs w N0 g b n sz l) (hs : okI s) (hd : kB.C w A2 xs.length xs) (hc : xs.length ≤ c2) (hlen : k = 1 → xs.length = sz) :
    Calls Try.prog 68 #[.pointer (some ⟨g, 0, none⟩), .agg #[.int .i64 k, .int .i64 s, .slice A2 xs.length c2]] w fun e w' => (∃ A c, e = .returned (.slice A (askR n sz l k s).length c) ∧ DatF w' N0 (A, (askR n sz l k s).length, c) (askR n sz l k s)) ∧ ModIs w' N0 g b n sz (askL n sz l k s xs) ∧ Mods w w' (fun k => k = b) := by
  have hu116 := Try.underlying116
  have hb0 := (Below.refl w.heap.size w).alloc (Nat.le_refl _) (.cells #[.int .i64 k, .int .i64 s, .slice A2 xs.length c2] 116)
  have hS := blk_new w (.cells #[.int .i64 k, .int .i64 s, .slice A2 xs.length c2] 116)
  have h1 := h.below hb0
  have hM0 : Mods w (w.alloc (.cells #[.int .i64 k, .int .i64 s, .slice A2 xs.length c2] 116)) (fun k => k = b) := Mods.of_below hb0 _
  have hd1 := Kd.C_below hd hb0
  have HM0 := Lib.hid hM0
  have HD1 := Lib.hid hd1
  have HH1 := Lib.hid h1
  have HC := Lib.hid hc
  have HS := Lib.hid hs
  have HL := Lib.hid hlen
  have q0 : (w.alloc (.cells #[.int .i64 k, .int .i64 s, .slice A2 xs.length c2] 116)).cell? ⟨w.heap.size, 0, none⟩ = some (.int .i64 k) := blk_cell hS 0
  have q1 : (w.alloc (.cells #[.int .i64 k, .int .i64 s, .slice A2 xs.length c2] 116)).cell? ⟨w.heap.size, 1, none⟩ = some (.int .i64 s) := blk_cell hS 1
  have q2 : (w.alloc (.cells #[.int .i64 k, .int .i64 s, .slice A2 xs.length c2] 116)).cell? ⟨w.heap.size, 2, none⟩ = some (.slice A2 xs.length c2) := blk_cell hS 2
  clear hb0 hS h1 hM0 hd1 hd hc hs hlen h
  by_cases hin : 0 ≤ s ∧ s < n
  · by_cases k1 : k = 1
    · subst k1
      have HW := Lib.hid (mwrite_ok s xs A2 c2 HH1.out HS.out HD1.out HC.out hin (HL.out rfl))
      have e1 : askL n sz l 1 s xs = mput l s xs := by unfold askL; rw [if_pos hin, if_pos rfl]
      have e2 : askR n sz l 1 s = [] := by unfold askR; rw [if_neg (by omega)]
      rw [e1, e2]
      clear e1 e2 hin
      go_enter Try.func68, Try.ntmps68
      generalize xs.length = m at *
      go_wp2_with (go_at_call 69; refine (HW.out).mono ?_; rintro e w2 ⟨rfl, hm2, hM2⟩; have HM2 := Lib.hid hm2; have HQ2 := Lib.hid hM2; clear hm2 hM2)
      go_ret
      exact ⟨⟨_, _, rfl, DatF.nil _ _ _ _⟩, HM2.out, HM0.out.trans HQ2.out (fun i h => .inl h)⟩
    · by_cases k2 : k = 2
      · subst k2
        have HW := Lib.hid (mtrim_ok s HH1.out HS.out hin)
        have e1 : askL n sz l 2 s xs = mdel l s := by unfold askL; rw [if_pos hin, if_neg (by omega), if_pos rfl]
        have e2 : askR n sz l 2 s = [] := by unfold askR; rw [if_neg (by omega)]
        rw [e1, e2]
        clear e1 e2 hin k1
        go_enter Try.func68, Try.ntmps68
        generalize xs.length = m at *
        go_wp2_with (go_at_call 70; refine (HW.out).mono ?_; rintro e w2 ⟨rfl, hm2, hM2⟩; have HM2 := Lib.hid hm2; have HQ2 := Lib.hid hM2; clear hm2 hM2)
        go_ret
        exact ⟨⟨_, _, rfl, DatF.nil _ _ _ _⟩, HM2.out, HM0.out.trans HQ2.out (fun i h => .inl h)⟩
      · by_cases k3 : k = 3
        · subst k3
          have HW := Lib.hid (mread_ok s HH1.out HS.out hin)
          have e1 : askL n sz l 3 s xs = l := by unfold askL; rw [if_pos hin, if_neg (by omega), if_neg (by omega)]
          have e2 : askR n sz l 3 s = mV l sz s := by unfold askR; rw [if_pos ⟨rfl, hin⟩]
          rw [e1, e2]
          clear e1 e2 hin k1 k2
          go_enter Try.func68, Try.ntmps68
          generalize xs.length = m at *
          go_wp2_with (go_at_call 71; refine (HW.out).mono ?_; rintro e w2 ⟨⟨v, rfl, hv⟩, hb2⟩; have HV := Lib.hid hv; obtain ⟨A3, c3, rfl⟩ := Kd.R_slice hv; have HB2 := Lib.hid hb2; clear hv hb2)
          go_ret
          exact ⟨⟨_, _, rfl, DatF.own HV.out⟩, HH1.out.below HB2.out, HM0.out.below HB2.out⟩
        · have e1 : askL n sz l k s xs = l := by unfold askL; rw [if_pos hin, if_neg k1, if_neg k2]
          have e2 : askR n sz l k s = [] := by unfold askR; rw [if_neg (by omega)]
          rw [e1, e2]
          clear e1 e2 hin
          have b1 : (k == 1) = false := by simpa using k1
          have b2 : (k == 2) = false := by simpa using k2
          have b3 : (k == 3) = false := by simpa using k3
          clear k1 k2 k3
          go_enter Try.func68, Try.ntmps68
          generalize xs.length = m at *
          go_wp2_with fail
          go_ret
          exact ⟨⟨_, _, rfl, DatF.nil _ _ _ _⟩, HH1.out, HM0.out⟩
  · have e1 : askL n sz l k s xs = l := by unfold askL; rw [if_neg hin]
    have e2 : askR n sz l k s = [] := by unfold askR; rw [if_neg (by omega)]
    rw [e1, e2]
    clear e1 e2
    have HW1 := Lib.hid (mwrite_bad s (.slice A2 xs.length c2) HH1.out hin)
    have HW2 := Lib.hid (mtrim_bad s HH1.out hin)
    have HW3 := Lib.hid (mread_bad s HH1.out hin)
    clear hin
    by_cases k1 : k = 1
    · subst k1
      go_enter Try.func68, Try.ntmps68
      generalize xs.length = m at *
      go_wp2_with (go_at_call 69; refine (HW1.out).mono ?_; rintro e w2 ⟨rfl, rfl⟩)
      go_ret
      exact ⟨⟨_, _, rfl, DatF.nil _ _ _ _⟩, HH1.out, HM0.out⟩
    · by_cases k2 : k = 2
      · subst k2
        go_enter Try.func68, Try.ntmps68
        generalize xs.length = m at *
        go_wp2_with (go_at_call 70; refine (HW2.out).mono ?_; rintro e w2 ⟨rfl, rfl⟩)
        go_ret
        exact ⟨⟨_, _, rfl, DatF.nil _ _ _ _⟩, HH1.out, HM0.out⟩
      · by_cases k3 : k = 3
        · subst k3
          go_enter Try.func68, Try.ntmps68
          generalize xs.length = m at *
          go_wp2_with (go_at_call 71; refine (HW3.out).mono ?_; rintro e w2 ⟨rfl, rfl⟩)
          go_ret
          exact ⟨⟨_, _, rfl, DatF.nil _ _ _ _⟩, HH1.out, HM0.out⟩
        · have b1 : (k == 1) = false := by simpa using k1
          have b2 : (k == 2) = false := by simpa using k2
          have b3 : (k == 3) = false := by simpa using k3
          clear k1 k2 k3
          go_enter Try.func68, Try.ntmps68
          generalize xs.length = m at *
          go_wp2_with fail
          go_ret
          exact ⟨⟨_, _, rfl, DatF.nil _ _ _ _⟩, HH1.out, HM0.out⟩
end Mo
end Go.Proofs.Ytnkgbnipcjgjeaa
