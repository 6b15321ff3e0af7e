/-
  For every input, JudgeSteps returns true and its arguments read behind the call as before (the row, out of the walk). Conditions: none beyond the statement's own.
-/
import Derived.Test.YtfmogmgdpamfgaaRows
import Derived.Test.YtfmogmgdpamfgaaOpen
import Derived.Test.YtfmogmgdpamfgaaJt5
import Derived.WalkKit
import Derived.ProofKit
import Derived.OpenShut
import Derived.ShutString
import Derived.ChangeOld
import Derived.Below
import Derived.SizedLaws
namespace Go.Proofs.Ytfmogmgdpamfgaa.judgeStepsRow
open Go.ChangeShapes Go.WideShapes Go.ChangeAt Go.RowKit Go.Proofs.YtfmogmgdpamfgaaW.PrintWords 
set_option linter.unusedVariables false
theorem own : ownKnob Try.prog.godebug = none := by kernel_rfl
theorem laidOut : laidOutB Try.prog = true := by kernel_rfl
set_option maxRecDepth 100000 in
theorem o3 : Opens Try.prog 3 (Kd.int .i64) (fun (x : Int) => (Lit.int .i64 x).wf = true) := (opens_int Try.underlying3 (by kernel_rfl))
set_option maxRecDepth 100000 in
theorem o23 : Opens Try.prog 23 (Kd.pair (Kd.int .i64) (Kd.pair (Kd.int .i64) (Kd.pair (Kd.int .i64) (Kd.pair (Kd.int .i64) (Kd.pair (Kd.int .i64) (Kd.pair (Kd.int .i64) (Kd.int .i64))))))) (fun (x : (Int × Int × Int × Int × Int × Int × Int)) => ((Lit.int .i64 x.1).wf = true ∧ (Lit.int .i64 x.2.1).wf = true ∧ (Lit.int .i64 x.2.2.1).wf = true ∧ (Lit.int .i64 x.2.2.2.1).wf = true ∧ (Lit.int .i64 x.2.2.2.2.1).wf = true ∧ (Lit.int .i64 x.2.2.2.2.2.1).wf = true ∧ (Lit.int .i64 x.2.2.2.2.2.2).wf = true)) := (opens_struct' Try.underlying23 (by kernel_rfl) (opens_more (Wf := fun (x : Int) => (Lit.int .i64 x).wf = true) (Wf' := fun (x : Int × Int × Int × Int × Int × Int) => (Lit.int .i64 x.1).wf = true ∧ (Lit.int .i64 x.2.1).wf = true ∧ (Lit.int .i64 x.2.2.1).wf = true ∧ (Lit.int .i64 x.2.2.2.1).wf = true ∧ (Lit.int .i64 x.2.2.2.2.1).wf = true ∧ (Lit.int .i64 x.2.2.2.2.2).wf = true) rfl o3 (opens_more (Wf := fun (x : Int) => (Lit.int .i64 x).wf = true) (Wf' := fun (x : Int × Int × Int × Int × Int) => (Lit.int .i64 x.1).wf = true ∧ (Lit.int .i64 x.2.1).wf = true ∧ (Lit.int .i64 x.2.2.1).wf = true ∧ (Lit.int .i64 x.2.2.2.1).wf = true ∧ (Lit.int .i64 x.2.2.2.2).wf = true) rfl o3 (opens_more (Wf := fun (x : Int) => (Lit.int .i64 x).wf = true) (Wf' := fun (x : Int × Int × Int × Int) => (Lit.int .i64 x.1).wf = true ∧ (Lit.int .i64 x.2.1).wf = true ∧ (Lit.int .i64 x.2.2.1).wf = true ∧ (Lit.int .i64 x.2.2.2).wf = true) rfl o3 (opens_more (Wf := fun (x : Int) => (Lit.int .i64 x).wf = true) (Wf' := fun (x : Int × Int × Int) => (Lit.int .i64 x.1).wf = true ∧ (Lit.int .i64 x.2.1).wf = true ∧ (Lit.int .i64 x.2.2).wf = true) rfl o3 (opens_more (Wf := fun (x : Int) => (Lit.int .i64 x).wf = true) (Wf' := fun (x : Int × Int) => (Lit.int .i64 x.1).wf = true ∧ (Lit.int .i64 x.2).wf = true) rfl o3 (opens_more (Wf := fun (x : Int) => (Lit.int .i64 x).wf = true) (Wf' := fun (x : Int) => (Lit.int .i64 x).wf = true) rfl o3 (opens_one rfl o3))))))))
set_option maxRecDepth 100000 in
theorem o5 : Opens Try.prog 5 (Kd.int .u8) (fun (x : Int) => (Lit.int .u8 x).wf = true) := (opens_int Try.underlying5 (by kernel_rfl))
set_option maxRecDepth 100000 in
theorem o33 : Opens Try.prog 33 (Kd.pair (Kd.int .i64) (Kd.int .u8)) (fun (x : (Int × Int)) => ((Lit.int .i64 x.1).wf = true ∧ (Lit.int .u8 x.2).wf = true)) := (opens_struct' Try.underlying33 (by kernel_rfl) (opens_more (Wf := fun (x : Int) => (Lit.int .i64 x).wf = true) (Wf' := fun (x : Int) => (Lit.int .u8 x).wf = true) rfl o3 (opens_one rfl o5)))
set_option maxRecDepth 100000 in
theorem o38 : Opens Try.prog 38 (Kd.slice 33 (Kd.pair (Kd.int .i64) (Kd.int .u8))) (fun (x : (List (Int × Int))) => (∀ z0 ∈ x, ((Lit.int .i64 z0.1).wf = true ∧ (Lit.int .u8 z0.2).wf = true))) := (opens_slice Try.underlying38 (by kernel_rfl) o33)
set_option maxRecDepth 100000 in
theorem lifted (os : Os) (started : os.Started) (H : Type) (enc : TypeId × Value → H) :
    ReturnsInHanded {} Try.checked os 4 .any (Rows.judgeStepsSpec.pre6 enc Try.prog Try.f4 Rows.judgeStepsRow.domain false) (Rows.judgeStepsSpec.post enc Try.prog Try.f4 false true false false) := by
  refine returnsInHanded_of_change_sized (C := Try.checked) own started (by kernel_rfl) Try.func4
    (ChangeSpec.witness6 (enc := enc) (C := Try.checked) false ⟨#[], #[.agg #[.int .i64 0, .int .i64 0, .int .i64 0, .int .i64 0, .int .i64 0, .int .i64 0, .int .i64 0], .slice none 0 0], []⟩ 8 (by kernel_rfl) (by kernel_rfl) (by kernel_rfl) (by kernel_rfl)) ?_
  intro W base args ds gs before hval0 hW hcnd hsz0 _
  have hval : ∀ (j : Nat) t v, Try.f4.params[j]? = some t → args[j]? = some v → Value.okWide Try.prog W .any base t v := hval0
  have hW' := hW
  obtain ⟨p, q, hA0, hV, rfl, hfz, hnd⟩ := hW
  have hA : DataW.TrodAll enc Try.prog W 0 (fun _ => true) true Try.f4.params.toList args.toList ds p := hA0
  rw [Try.params4] at hA hval
  obtain ⟨v0, vs0, d0, ds0, p0, q0, hargs, rfl, rfl, h0, r0⟩ := trodAll_cons hA
  obtain ⟨v1, vs1, d1, ds1, p1, q1, rfl, rfl, rfl, h1, r1⟩ := trodAll_cons r0
  obtain ⟨rfl, rfl, rfl⟩ := trodAll_nil r1
  obtain rfl : args = #[v0, v1] := by cases args; simp_all
  obtain ⟨rfl, rfl⟩ := trodVars_none hV
  have k0 := h0
  have lt0 : ∀ x ∈ p0, x.block < W.heap.size := by obtain ⟨m, hm⟩ := k0; exact DataW.trod_lt m _ _ _ hm
  obtain ⟨cs0, rfl, _⟩ : ∃ cs, v0 = .agg cs ∧ True := by
    have hq := (hval 0 23 v0 rfl rfl)
    simp only [Value.okWide, Try.underlying23] at hq
    obtain ⟨cs, e, _⟩ := hq
    exact ⟨cs, e, trivial⟩
  obtain ⟨fu0, hf0⟩ := h0
  obtain ⟨x0, hk0, hw0⟩ := o23.2 enc W 0 _ _ _ _ _ hf0
  obtain ⟨cl0, hcl0⟩ : ∃ cl, cs0.toList = cl := ⟨_, rfl⟩
  have hk0' : (Kd.pair (Kd.int .i64) (Kd.pair (Kd.int .i64) (Kd.pair (Kd.int .i64) (Kd.pair (Kd.int .i64) (Kd.pair (Kd.int .i64) (Kd.pair (Kd.int .i64) (Kd.int .i64))))))).K W x0 cl0 := by rw [← hcl0]; exact hk0
  obtain rfl : cs0 = cl0.toArray := by rw [← hcl0]
  clear hk0
  obtain ⟨_, _, rfl, rfl, ⟨_, _, rfl, rfl, ⟨_, _, rfl, rfl, ⟨_, _, rfl, rfl, ⟨_, _, rfl, rfl, ⟨_, _, rfl, rfl, rfl⟩⟩⟩⟩⟩⟩ := hk0'
  have k1 := h1
  have lt1 : ∀ x ∈ p1, x.block < W.heap.size := by obtain ⟨m, hm⟩ := k1; exact DataW.trod_lt m _ _ _ hm
  obtain ⟨a1, len1, cap1, rfl⟩ := okWide_slice Try.underlying38 (hval 1 38 v1 rfl rfl)
  obtain ⟨fu1, hf1⟩ := h1
  obtain ⟨x1, hk1, hw1⟩ := o38.2 enc W 0 _ _ _ _ _ hf1
  obtain ⟨A1_0, c1_0, he1, l1_0, g1_0⟩ := hk1
  simp only [Value.cells, List.cons.injEq, Value.slice.injEq, and_true] at he1
  obtain ⟨rfl, rfl, rfl⟩ := he1
  clear hA0 hval0 hsz0
  refine (judgeSteps_walk W x0 hw0 x1 l1_0 g1_0 hw1).mono fun e W' ⟨he, bel⟩ => ?_
  subst he
  exact ⟨_, rfl, _, _, _, [], _, [], hW', trodAll_mk1 (shut_bool Try.underlying4 _), (trodAll_cons_mk (Below.trod laidOut (by kernel_rfl) (of_decide_eq_true (by kernel_rfl)) k0 bel lt0) (trodAll_cons_mk (Below.trod laidOut (by kernel_rfl) (of_decide_eq_true (by kernel_rfl)) k1 bel lt1) trodAll_mk0)), rfl, bel.frame _, fun h => by cases h⟩
theorem over : Rows.judgeStepsRow.holds Try.pinned (OpenSpec.ofChange Rows.judgeStepsSpec) :=
  OpenClaim.holds_of_wide 4 Try.f4 rfl rfl rfl rfl rfl rfl rfl ⟨rfl, rfl, rfl, rfl, rfl⟩ rfl rfl rfl rfl rfl (by kernel_rfl) Try.func4 (by kernel_rfl)
    (of_decide_eq_true (by kernel_rfl)) (by unfold Func.isWrapper; first | (rw [if_pos (by decide +kernel)]; kernel_rfl) | (rw [if_neg (by decide +kernel)]; exact ⟨rfl, rfl⟩))
    (fun os started H enc _ => lifted os started H enc)
theorem proved : Rows.JudgeStepsSaid := over
#print axioms proved
end Go.Proofs.Ytfmogmgdpamfgaa.judgeStepsRow
namespace Go.Proofs.Ytfmogmgdpamfgaa
/-- The row, under a short name, for the claim. -/
theorem judgeSteps_holds : Rows.JudgeStepsSaid := judgeStepsRow.proved
end Go.Proofs.Ytfmogmgdpamfgaa
