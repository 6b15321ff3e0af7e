import Derived.Test.YtnkgbnipcjgjeaaQT
import Derived.StillTailTactics
namespace Go.Proofs.Ytnkgbnipcjgjeaa.Qu
open Go.RowKit Go.Proofs.Ytnkgbnipcjgjeaa.QW Go.Proofs.Ytnkgbnipcjgjeaa.Mo Go.Proofs.YtnkgbnipcjgjeaaW.PrintWords Go.Proofs.YtnkgbnipcjgjeaaW.PrintLast Go.Proofs.YtnkgbnipcjgjeaaW.PrintMore
set_option linter.unusedVariables false
def WfL (l : List S116) : Prop := ∀ z ∈ l, (Lit.int .i64 z.f0).wf = true ∧ (Lit.int .i64 z.f1).wf = true ∧ (∀ z1 ∈ z.f2, (Lit.int .u8 z1).wf = true)
set_option maxHeartbeats 4000000 in
set_option maxRecDepth 100000 in
theorem qsame_much (w : World) (x0 : List S116) {A0 : Option Addr} {c0 : Nat} (l0 : x0.length ≤ c0) (g0 : Kd.C k116 w A0 x0.length x0) (hf : fewV x0 x0 = false) :
    Calls Try.prog 13 #[.slice A0 x0.length c0] w fun e w' => e = .returned (.bool true) ∧ Below w.heap.size w w' := by
  have hfew : ∀ W, Below w.heap.size w W → Calls Try.prog 64 #[.slice A0 x0.length c0] W fun e w' => e = .returned (.bool false) ∧ Below W.heap.size W w' := fun W hb => by
    have h := few_call A0 c0 x0 W (Kd.C_below g0 hb) l0
    rw [hf] at h; exact h
  have HF := Lib.hid hfew
  clear hfew hf g0 l0
  generalize x0.length = n at HF ⊢
  go_enter Try.func13, Try.ntmps13
  go_wp2_with fail
  refine (awake_ok segOk _).mono ?_
  rintro e w1 ⟨rfl, hb⟩
  have HB := Lib.hid hb
  clear hb
  go_wp2_with (go_at_call 64; refine (HF.out _ HB.out).mono ?_; rintro e w2 ⟨rfl, hb⟩; have HB2 := Lib.hid (chainC (Nat.le_refl _) HB.out hb); clear hb)
  go_ret
  exact ⟨rfl, HB2.out⟩
set_option maxHeartbeats 4000000 in
set_option maxRecDepth 100000 in
theorem qsame_bad (w : World) (x0 : List S116) {A0 : Option Addr} {c0 : Nat} (l0 : x0.length ≤ c0) (g0 : Kd.C k116 w A0 x0.length x0) (hf : fewV x0 x0 = true) (ha : anyWrong x0 = true) :
    Calls Try.prog 13 #[.slice A0 x0.length c0] w fun e w' => e = .returned (.bool true) ∧ Below w.heap.size w w' := by
  have hl := few_40 hf
  have hfew : ∀ W, Below w.heap.size w W → Calls Try.prog 64 #[.slice A0 x0.length c0] W fun e w' => e = .returned (.bool true) ∧ Below W.heap.size W w' := fun W hb => by
    have h := few_call A0 c0 x0 W (Kd.C_below g0 hb) l0
    rw [hf] at h; exact h
  have hbet := fun W hb => better_bad A0 c0 x0 W (Kd.C_below g0 hb) (by omega) ha
  have HF := Lib.hid hfew
  have HT : Hid (∀ W, Below w.heap.size w W → Calls Try.prog 65 #[.slice A0 x0.length c0] W fun e w' => e = .returned (.tuple #[.slice none 0 0, .int .i64 2]) ∧ Below W.heap.size W w') := Lib.hid hbet
  clear hfew hf g0 l0 hbet ha hl
  generalize x0.length = n at HF HT ⊢
  go_enter Try.func13, Try.ntmps13
  go_wp2_with fail
  refine (awake_ok segOk _).mono ?_
  rintro e w1 ⟨rfl, hb⟩
  have HB := Lib.hid hb
  clear hb
  go_wp2_with (first | (go_at_call 64; refine (HF.out _ HB.out).mono ?_; rintro e w2 ⟨rfl, hb⟩; have HB2 := Lib.hid (chainC (Nat.le_refl _) HB.out hb); clear hb) | (go_at_call 65; refine (HT.out _ HB2.out).mono ?_; rintro e w3 ⟨rfl, hb⟩; have HB3 := Lib.hid (chainC (Nat.le_refl _) HB2.out hb); clear hb))
  go_ret
  exact ⟨rfl, HB3.out⟩
end Go.Proofs.Ytnkgbnipcjgjeaa.Qu
