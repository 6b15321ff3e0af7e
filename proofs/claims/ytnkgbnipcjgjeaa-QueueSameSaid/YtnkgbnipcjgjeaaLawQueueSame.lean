/-
  For every input, QueueSame returns true and its arguments read behind the call as before (the row, out of the walk). Conditions: none beyond the statement's own.
-/
import Derived.Test.YtnkgbnipcjgjeaaRows
import Derived.Test.YtnkgbnipcjgjeaaOpen
import Derived.Test.YtnkgbnipcjgjeaaQO
import Derived.WalkKit
import Derived.ProofKit
import Derived.OpenShut
import Derived.ShutString
import Derived.ChangeOld
import Derived.Below
import Derived.SizedLaws
namespace Go.Proofs.Ytnkgbnipcjgjeaa.queueSameRow
open Go.ChangeShapes Go.WideShapes Go.ChangeAt Go.RowKit Go.Proofs.YtnkgbnipcjgjeaaW.PrintWords  Go.Proofs.Ytnkgbnipcjgjeaa.QW Go.Proofs.Ytnkgbnipcjgjeaa.Qu
set_option linter.unusedVariables false
theorem own : ownKnob Try.prog.godebug = none := by kernel_rfl
theorem laidOut : laidOutB Try.prog = true := by kernel_rfl
set_option maxRecDepth 100000 in
theorem o3 : Opens Try.prog 3 (Kd.int .i64) (fun (x : Int) => (Lit.int .i64 x).wf = true) := (opens_int Try.underlying3 (by kernel_rfl))
set_option maxRecDepth 100000 in
theorem o5 : Opens Try.prog 5 (Kd.int .u8) (fun (x : Int) => (Lit.int .u8 x).wf = true) := (opens_int Try.underlying5 (by kernel_rfl))
set_option maxRecDepth 100000 in
theorem o52 : Opens Try.prog 52 (Kd.slice 5 (Kd.int .u8)) (fun (x : (List Int)) => (∀ z0 ∈ x, (Lit.int .u8 z0).wf = true)) := (opens_slice Try.underlying52 (by kernel_rfl) o5)
set_option maxRecDepth 100000 in
theorem o116 : Opens Try.prog 116 k116 (fun (x : S116) => ((Lit.int .i64 x.f0).wf = true ∧ (Lit.int .i64 x.f1).wf = true ∧ (∀ z0 ∈ x.f2, (Lit.int .u8 z0).wf = true))) := (opens_struct (fun x => (⟨x.1, x.2.1, x.2.2⟩ : S116)) (fun _ => rfl) Try.underlying116 (by kernel_rfl) (opens_more (Wf := fun (x : Int) => (Lit.int .i64 x).wf = true) (Wf' := fun (x : Int × (List Int)) => (Lit.int .i64 x.1).wf = true ∧ (∀ z0 ∈ x.2, (Lit.int .u8 z0).wf = true)) rfl o3 (opens_more (Wf := fun (x : Int) => (Lit.int .i64 x).wf = true) (Wf' := fun (x : (List Int)) => (∀ z0 ∈ x, (Lit.int .u8 z0).wf = true)) rfl o3 (opens_one rfl o52))))
set_option maxRecDepth 100000 in
theorem o108 : Opens Try.prog 108 (Kd.slice 116 k116) (fun (x : (List S116)) => (∀ z0 ∈ x, ((Lit.int .i64 z0.f0).wf = true ∧ (Lit.int .i64 z0.f1).wf = true ∧ (∀ z1 ∈ z0.f2, (Lit.int .u8 z1).wf = true)))) := (opens_slice Try.underlying108 (by kernel_rfl) o116)
set_option maxRecDepth 100000 in
theorem lifted (os : Os) (started : os.Started) (H : Type) (enc : TypeId × Value → H) :
    ReturnsInHanded {} Try.checked os 13 .any (Rows.queueSameSpec.pre6 enc Try.prog Try.f13 Rows.queueSameRow.domain false) (Rows.queueSameSpec.post enc Try.prog Try.f13 false true false false) := by
  refine returnsInHanded_of_change_sized (C := Try.checked) own started (by kernel_rfl) Try.func13
    (ChangeSpec.witness6 (enc := enc) (C := Try.checked) false ⟨#[], #[.slice none 0 0], []⟩ 8 (by kernel_rfl) (by kernel_rfl) (by kernel_rfl) (by kernel_rfl)) ?_
  intro W base args ds gs before hval0 hW hcnd hsz0 _
  have hval : ∀ (j : Nat) t v, Try.f13.params[j]? = some t → args[j]? = some v → Value.okWide Try.prog W .any base t v := hval0
  have hW' := hW
  obtain ⟨p, q, hA0, hV, rfl, hfz, hnd⟩ := hW
  have hA : DataW.TrodAll enc Try.prog W 0 (fun _ => true) true Try.f13.params.toList args.toList ds p := hA0
  rw [Try.params13] at hA hval
  obtain ⟨v0, vs0, d0, ds0, p0, q0, hargs, rfl, rfl, h0, r0⟩ := trodAll_cons hA
  obtain ⟨rfl, rfl, rfl⟩ := trodAll_nil r0
  obtain rfl : args = #[v0] := by cases args; simp_all
  obtain ⟨rfl, rfl⟩ := trodVars_none hV
  have k0 := h0
  have lt0 : ∀ x ∈ p0, x.block < W.heap.size := by obtain ⟨m, hm⟩ := k0; exact DataW.trod_lt m _ _ _ hm
  obtain ⟨a0, len0, cap0, rfl⟩ := okWide_slice Try.underlying108 (hval 0 108 v0 rfl rfl)
  obtain ⟨fu0, hf0⟩ := h0
  obtain ⟨x0, hk0, hw0⟩ := o108.2 enc W 0 _ _ _ _ _ hf0
  obtain ⟨A0_0, c0_0, he0, l0_0, g0_0⟩ := hk0
  simp only [Value.cells, List.cons.injEq, Value.slice.injEq, and_true] at he0
  obtain ⟨rfl, rfl, rfl⟩ := he0
  clear hA0 hval0 hsz0
  refine (queueSame_walk W x0 l0_0 g0_0 hw0).mono fun e W' ⟨he, bel⟩ => ?_
  subst he
  exact ⟨_, rfl, _, _, _, [], _, [], hW', trodAll_mk1 (shut_bool Try.underlying4 _), (trodAll_cons_mk (Below.trod laidOut (by kernel_rfl) (of_decide_eq_true (by kernel_rfl)) k0 bel lt0) trodAll_mk0), rfl, bel.frame _, fun h => by cases h⟩
theorem over : Rows.queueSameRow.holds Try.pinned (OpenSpec.ofChange Rows.queueSameSpec) :=
  OpenClaim.holds_of_wide 13 Try.f13 rfl rfl rfl rfl rfl rfl rfl ⟨rfl, rfl, rfl, rfl, rfl⟩ rfl rfl rfl rfl rfl (by kernel_rfl) Try.func13 (by kernel_rfl)
    (of_decide_eq_true (by kernel_rfl)) (by unfold Func.isWrapper; first | (rw [if_pos (by decide +kernel)]; kernel_rfl) | (rw [if_neg (by decide +kernel)]; exact ⟨rfl, rfl⟩))
    (fun os started H enc _ => lifted os started H enc)
theorem proved : Rows.QueueSameSaid := over
#print axioms proved
end Go.Proofs.Ytnkgbnipcjgjeaa.queueSameRow
namespace Go.Proofs.Ytnkgbnipcjgjeaa
/-- The row, under a short name, for the claim. -/
theorem queueSame_holds : Rows.QueueSameSaid := queueSameRow.proved
end Go.Proofs.Ytnkgbnipcjgjeaa
