import Derived.Test.YtfmogmgdpamfgaaJw1
import Derived.Test.YtfmogmgdpamfgaaGm1
namespace Go.Proofs.Ytfmogmgdpamfgaa.Jd
open Go.RowKit Go.Proofs.YtfmogmgdpamfgaaW.PrintWords Go.Proofs.YtfmogmgdpamfgaaW.PrintLast Go.Proofs.YtfmogmgdpamfgaaW.PrintMore
set_option linter.unusedVariables false
section
variable {w : World} {p : Nat} {g : Ge} {t : Nat → Nat} {s : JS} {gb : Nat} {hl hr he hd : Value}
def InB (s : JS) (l : List Int) : Prop := (∀ x ∈ l, 0 ≤ x ∧ x < (s.blocks.length : Int)) ∧ l.length ≤ 1000000
set_option maxHeartbeats 2000000 in
set_option maxRecDepth 100000 in
theorem drop_ok (h : JAt w p g t s gb hl hr he hd) (hr1 : InB s s.doing) : Calls Try.prog 63 #[.pointer (some ⟨p, 0, none⟩)] w fun e w' => e = .returned (.tuple #[]) ∧ JAt w' p g t (dropP s) gb (.slice none 0 0) (.slice none 0 0) (.slice none 0 0) (.slice none 0 0) ∧ Nxt w w' t t := by
  have HL := Lib.hid (lost_ok h hr1.1 hr1.2)
  obtain ⟨⟨A1, m1, rfl⟩, ⟨A2, m2, rfl⟩, ⟨A3, m3, rfl⟩, _⟩ := h.slices
  clear h hr1
  go_enter Try.func63, Try.ntmps63
  go_wp2_with fail
  refine (HL.out).mono ?_
  rintro e w1 ⟨rfl, h1, hn1⟩
  have HF := Lib.hid ((((((((h1.s9).s10 0).s11 false).s12 false).s13 false).s16 false).s17).s18)
  have HN := Lib.hid (hn1.trans (h1.n [(9, .slice none 0 0), (10, .int .i64 0), (11, .bool false), (12, .bool false), (13, .bool false), (16, .bool false), (17, .slice none 0 0), (18, .slice none 0 0)]))
  have hz := h1.z
  have c9 := h1.c9
  have c10 := h1.c10
  have c11 := h1.c11
  have c12 := h1.c12
  have c13 := h1.c13
  have c16 := h1.c16
  have c17 := h1.c17
  have c18 := h1.c18
  clear h1 hn1 HL
  go_wp2_with fail
  go_end0
  exact ⟨rfl, HF.out, HN.out⟩
set_option maxHeartbeats 2000000 in
set_option maxRecDepth 100000 in
theorem is_ok (h : JAt w p g t s gb hl hr he hd) (hn : 0 < s.blocks.length) : Calls Try.prog 57 #[.pointer (some ⟨p, 0, none⟩)] w fun e w' => e = .returned (.bool true) ∧ w' = w := by
  have c7 := h.c7
  have hb : decide ((0 : Int) < (s.blocks.length : Int)) = true := decide_eq_true (by omega)
  clear h
  go_enter Try.func57, Try.ntmps57
  go_wp2_with fail
  go_ret
  exact ⟨rfl, rfl⟩
set_option maxHeartbeats 2000000 in
set_option maxRecDepth 100000 in
theorem is_nil (w : World) : Calls Try.prog 57 #[.pointer none] w fun e w' => e = .returned (.bool false) ∧ w' = w := by
  go_enter Try.func57, Try.ntmps57
  go_wp2_with fail
  go_ret
  exact ⟨rfl, rfl⟩
set_option maxHeartbeats 2000000 in
set_option maxRecDepth 100000 in
theorem busy_ok (h : JAt w p g t s gb hl hr he hd) (hn : 0 < s.blocks.length) : Calls Try.prog 17 #[.pointer (some ⟨p, 0, none⟩)] w fun e w' => e = .returned (.bool s.busy) ∧ w' = w := by
  have HI := Lib.hid (is_ok h hn)
  have c12 := h.c12
  clear h hn
  go_enter Try.func17, Try.ntmps17
  go_wp2_with (go_at_call 57; refine (HI.out).mono ?_; rintro e w' ⟨rfl, rfl⟩)
  go_ret
  exact ⟨rfl, rfl⟩
set_option maxHeartbeats 2000000 in
set_option maxRecDepth 100000 in
theorem busy_nil (w : World) : Calls Try.prog 17 #[.pointer none] w fun e w' => e = .returned (.bool false) ∧ w' = w := by
  go_enter Try.func17, Try.ntmps17
  go_wp2_with (go_at_call 57; refine (is_nil _).mono ?_; rintro e w' ⟨rfl, rfl⟩)
  go_ret
  exact ⟨rfl, rfl⟩
set_option maxHeartbeats 2000000 in
set_option maxRecDepth 100000 in
theorem power_nil (w : World) : Calls Try.prog 22 #[.pointer none] w fun e w' => e = .returned (.tuple #[]) ∧ w' = w := by
  go_enter Try.func22, Try.ntmps22
  go_wp2_with (go_at_call 57; refine (is_nil _).mono ?_; rintro e w' ⟨rfl, rfl⟩)
  go_end0
  exact ⟨rfl, rfl⟩
set_option maxHeartbeats 2000000 in
set_option maxRecDepth 100000 in
theorem power_ok (h : JAt w p g t s gb hl hr he hd) (hn : 0 < s.blocks.length) (hr1 : InB s s.doing) : Calls Try.prog 22 #[.pointer (some ⟨p, 0, none⟩)] w fun e w' => e = .returned (.tuple #[]) ∧ JAt w' p g t (powerP s) gb (.slice none 0 0) (.slice none 0 0) (.slice none 0 0) (.slice none 0 0) ∧ Nxt w w' t t := by
  have HI := Lib.hid (is_ok h hn)
  have HD := Lib.hid (drop_ok h hr1)
  clear h hn hr1
  go_enter Try.func22, Try.ntmps22
  go_wp2_with (go_at_call 57; refine (HI.out).mono ?_; rintro e w' ⟨rfl, rfl⟩)
  refine (HD.out).mono ?_
  rintro e w1 ⟨rfl, h1, hn1⟩
  have HF := Lib.hid (h1.s8 0)
  have HN := Lib.hid (hn1.trans (h1.n [(8, .int .i64 0)]))
  have hz := h1.z
  have c8 := h1.c8
  clear h1 hn1 HI HD
  go_wp2_with fail
  go_end0
  exact ⟨rfl, HF.out, HN.out⟩
end
end Go.Proofs.Ytfmogmgdpamfgaa.Jd

namespace Go.Proofs.Ytfmogmgdpamfgaa.Jd
open Go.RowKit Go.Proofs.YtfmogmgdpamfgaaW.PrintWords Go.Proofs.YtfmogmgdpamfgaaW.PrintLast Go.Proofs.YtfmogmgdpamfgaaW.PrintMore
set_option linter.unusedVariables false
theorem bit_all : ∀ n : Fin 256, (bits BinOp.and IntKind.u8 (n.val : Int) 64 != 0) = bit6 (n.val : Int) ∧ (bits BinOp.and IntKind.u8 (n.val : Int) 32 != 0) = bit5 (n.val : Int) ∧ (bits BinOp.and IntKind.u8 (n.val : Int) 1 != 0) = bit0 (n.val : Int) := by decide +kernel
theorem bit_of {b : Int} (h : 0 ≤ b ∧ b ≤ 255) : (bits BinOp.and IntKind.u8 b 64 != 0) = bit6 b ∧ (bits BinOp.and IntKind.u8 b 32 != 0) = bit5 b ∧ (bits BinOp.and IntKind.u8 b 1 != 0) = bit0 b := by
  obtain ⟨n, rfl⟩ := Int.eq_ofNat_of_zero_le h.1
  exact bit_all ⟨n, by omega⟩
section
variable {w : World} {p : Nat} {g : Ge} {t : Nat → Nat} {s : JS} {gb : Nat} {hl hr he hd : Value}
set_option maxHeartbeats 4000000 in
set_option maxRecDepth 100000 in
theorem poll_ok (b : Int) (hb : 0 ≤ b ∧ b ≤ 255) (h : JAt w p g t s gb hl hr he hd) (hr1 : InB s s.doing) : Calls Try.prog 88 #[.pointer (some ⟨p, 0, none⟩), .int .u8 b] w fun e w' => e = .returned (.bool true) ∧ (∃ hd', JAt w' p g t (pollP s b) gb hl hr he hd') ∧ Nxt w w' t t := by
  have HL := Lib.hid (lost_ok h hr1.1 hr1.2)
  obtain ⟨b6, b5, b0⟩ := bit_of hb
  have c12 := h.c12
  have HJ := Lib.hid h
  clear h hr1 hb
  cases e6 : bit6 b with
  | false =>
    rw [e6] at b6
    rw [show pollP s b = s from by unfold pollP; rw [e6]; rfl]
    go_enter Try.func88, Try.ntmps88
    go_wp2_with fail
    go_ret
    exact ⟨rfl, ⟨_, HJ.out⟩, Nxt.refl _ _⟩
  | true =>
    rw [e6] at b6
    cases eb : (s.busy && bit0 b) with
    | true =>
      rw [Bool.and_eq_true] at eb
      obtain ⟨eb1, eb2⟩ := eb
      rw [eb1] at c12
      rw [eb2] at b0
      cases e5 : bit5 b with
      | true =>
        rw [e5] at b5
        rw [show pollP s b = { lostP s with busy := false, doing := [], behind := false } from by unfold pollP; rw [e6, eb1, eb2, e5]; rfl]
        go_enter Try.func88, Try.ntmps88
        go_wp2_with (go_at_call 101; refine (HL.out).mono ?_; rintro e w1 ⟨rfl, h1, hn1⟩; have HW := Lib.hid (((h1.s12 false).s19).s13 false); have HN := Lib.hid (hn1.trans (h1.n [(12, .bool false), (19, .slice none 0 0), (13, .bool false)])); have hz := h1.z; have d12 := h1.c12; have d19 := h1.c19; have d13 := h1.c13; clear h1 hn1)
        go_ret
        exact ⟨rfl, ⟨_, HW.out⟩, HN.out⟩
      | false =>
        rw [e5] at b5
        rw [show pollP s b = { lostP s with busy := false, doing := [] } from by unfold pollP; rw [e6, eb1, eb2, e5]; rfl]
        go_enter Try.func88, Try.ntmps88
        go_wp2_with (go_at_call 101; refine (HL.out).mono ?_; rintro e w1 ⟨rfl, h1, hn1⟩; have HW := Lib.hid ((h1.s12 false).s19); have HN := Lib.hid (hn1.trans (h1.n [(12, .bool false), (19, .slice none 0 0)])); have hz := h1.z; have d12 := h1.c12; have d19 := h1.c19; clear h1 hn1)
        go_ret
        exact ⟨rfl, ⟨_, HW.out⟩, HN.out⟩
    | false =>
      have hz := HJ.out.z
      have d19 := HJ.out.c19
      have d13 := HJ.out.c13
      have eb2 : s.busy = false ∨ (s.busy = true ∧ bit0 b = false) := by cases hh : s.busy <;> simp_all
      obtain ⟨_, _, _, ⟨A4, m4, rfl⟩⟩ := HJ.out.slices
      cases e5 : bit5 b with
      | true =>
        rw [e5] at b5
        rw [show pollP s b = { s with busy := false, doing := [], behind := false } from by unfold pollP; rw [e6, eb, e5]; rfl]
        have HW := Lib.hid (((HJ.out.s12 false).s19).s13 false)
        have HN := Lib.hid (HJ.out.n [(12, .bool false), (19, .slice none 0 0), (13, .bool false)])
        rcases eb2 with eb2 | ⟨eb1, eb2⟩
        · rw [eb2] at c12
          clear b0 eb
          go_enter Try.func88, Try.ntmps88
          go_wp2_with fail
          go_ret
          exact ⟨rfl, ⟨_, HW.out⟩, HN.out⟩
        · rw [eb1] at c12
          rw [eb2] at b0
          clear eb
          go_enter Try.func88, Try.ntmps88
          go_wp2_with fail
          go_ret
          exact ⟨rfl, ⟨_, HW.out⟩, HN.out⟩
      | false =>
        rw [e5] at b5
        rw [show pollP s b = { s with busy := false, doing := [] } from by unfold pollP; rw [e6, eb, e5]; rfl]
        have HW := Lib.hid ((HJ.out.s12 false).s19)
        have HN := Lib.hid (HJ.out.n [(12, .bool false), (19, .slice none 0 0)])
        rcases eb2 with eb2 | ⟨eb1, eb2⟩
        · rw [eb2] at c12
          clear b0 eb
          go_enter Try.func88, Try.ntmps88
          go_wp2_with fail
          go_ret
          exact ⟨rfl, ⟨_, HW.out⟩, HN.out⟩
        · rw [eb1] at c12
          rw [eb2] at b0
          clear eb
          go_enter Try.func88, Try.ntmps88
          go_wp2_with fail
          go_ret
          exact ⟨rfl, ⟨_, HW.out⟩, HN.out⟩
end
end Go.Proofs.Ytfmogmgdpamfgaa.Jd

