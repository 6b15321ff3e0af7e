/-
  For every input, BufferPlays returns true and its arguments read behind the call as before (the row, out of the walk). Conditions: none beyond the statement's own.
-/
import Derived.Test.YtnkgbnipcjgjeaaRows
import Derived.Test.YtnkgbnipcjgjeaaOpen
import Derived.Test.YtnkgbnipcjgjeaaBW
import Derived.WalkKit
import Derived.ProofKit
import Derived.OpenShut
import Derived.ShutString
import Derived.ChangeOld
import Derived.Below
import Derived.SizedLaws
namespace Go.Proofs.Ytnkgbnipcjgjeaa.bufferPlaysRow
open Go.ChangeShapes Go.WideShapes Go.ChangeAt Go.RowKit Go.Proofs.YtnkgbnipcjgjeaaW.PrintWords 
set_option linter.unusedVariables false
theorem own : ownKnob Try.prog.godebug = none := by kernel_rfl
theorem laidOut : laidOutB Try.prog = true := by kernel_rfl
set_option maxRecDepth 100000 in
theorem o3 : Opens Try.prog 3 (Kd.int .i64) (fun (x : Int) => (Lit.int .i64 x).wf = true) := (opens_int Try.underlying3 (by kernel_rfl))
set_option maxRecDepth 100000 in
theorem o5 : Opens Try.prog 5 (Kd.int .u8) (fun (x : Int) => (Lit.int .u8 x).wf = true) := (opens_int Try.underlying5 (by kernel_rfl))
set_option maxRecDepth 100000 in
theorem o52 : Opens Try.prog 52 (Kd.slice 5 (Kd.int .u8)) (fun (x : (List Int)) => (∀ z0 ∈ x, (Lit.int .u8 z0).wf = true)) := (opens_slice Try.underlying52 (by kernel_rfl) o5)
set_option maxRecDepth 100000 in
theorem o54 : Opens Try.prog 54 (Kd.pair (Kd.int .i64) (Kd.pair (Kd.int .i64) (Kd.slice 5 (Kd.int .u8)))) (fun (x : (Int × Int × (List Int))) => ((Lit.int .i64 x.1).wf = true ∧ (Lit.int .i64 x.2.1).wf = true ∧ (∀ z0 ∈ x.2.2, (Lit.int .u8 z0).wf = true))) := (opens_struct' Try.underlying54 (by kernel_rfl) (opens_more (Wf := fun (x : Int) => (Lit.int .i64 x).wf = true) (Wf' := fun (x : Int × (List Int)) => (Lit.int .i64 x.1).wf = true ∧ (∀ z0 ∈ x.2, (Lit.int .u8 z0).wf = true)) rfl o3 (opens_more (Wf := fun (x : Int) => (Lit.int .i64 x).wf = true) (Wf' := fun (x : (List Int)) => (∀ z0 ∈ x, (Lit.int .u8 z0).wf = true)) rfl o3 (opens_one rfl o52))))
set_option maxRecDepth 100000 in
theorem o32 : Opens Try.prog 32 (Kd.slice 3 (Kd.int .i64)) (fun (x : (List Int)) => (∀ z0 ∈ x, (Lit.int .i64 z0).wf = true)) := (opens_slice Try.underlying32 (by kernel_rfl) o3)
set_option maxRecDepth 100000 in
theorem o64 : Opens Try.prog 64 (Kd.pair (Kd.int .i64) (Kd.pair (Kd.pair (Kd.int .i64) (Kd.pair (Kd.int .i64) (Kd.slice 5 (Kd.int .u8)))) (Kd.slice 3 (Kd.int .i64)))) (fun (x : (Int × (Int × Int × (List Int)) × (List Int))) => ((Lit.int .i64 x.1).wf = true ∧ ((Lit.int .i64 x.2.1.1).wf = true ∧ (Lit.int .i64 x.2.1.2.1).wf = true ∧ (∀ z0 ∈ x.2.1.2.2, (Lit.int .u8 z0).wf = true)) ∧ (∀ z0 ∈ x.2.2, (Lit.int .i64 z0).wf = true))) := (opens_struct' Try.underlying64 (by kernel_rfl) (opens_more (Wf := fun (x : Int) => (Lit.int .i64 x).wf = true) (Wf' := fun (x : (Int × Int × (List Int)) × (List Int)) => ((Lit.int .i64 x.1.1).wf = true ∧ (Lit.int .i64 x.1.2.1).wf = true ∧ (∀ z0 ∈ x.1.2.2, (Lit.int .u8 z0).wf = true)) ∧ (∀ z0 ∈ x.2, (Lit.int .i64 z0).wf = true)) rfl o3 (opens_more (Wf := fun (x : (Int × Int × (List Int))) => ((Lit.int .i64 x.1).wf = true ∧ (Lit.int .i64 x.2.1).wf = true ∧ (∀ z0 ∈ x.2.2, (Lit.int .u8 z0).wf = true))) (Wf' := fun (x : (List Int)) => (∀ z0 ∈ x, (Lit.int .i64 z0).wf = true)) rfl o54 (opens_one rfl o32))))
set_option maxRecDepth 100000 in
theorem o59 : Opens Try.prog 59 (Kd.slice 64 (Kd.pair (Kd.int .i64) (Kd.pair (Kd.pair (Kd.int .i64) (Kd.pair (Kd.int .i64) (Kd.slice 5 (Kd.int .u8)))) (Kd.slice 3 (Kd.int .i64))))) (fun (x : (List (Int × (Int × Int × (List Int)) × (List Int)))) => (∀ z0 ∈ x, ((Lit.int .i64 z0.1).wf = true ∧ ((Lit.int .i64 z0.2.1.1).wf = true ∧ (Lit.int .i64 z0.2.1.2.1).wf = true ∧ (∀ z1 ∈ z0.2.1.2.2, (Lit.int .u8 z1).wf = true)) ∧ (∀ z1 ∈ z0.2.2, (Lit.int .i64 z1).wf = true)))) := (opens_slice Try.underlying59 (by kernel_rfl) o64)
set_option maxRecDepth 100000 in
theorem lifted (os : Os) (started : os.Started) (H : Type) (enc : TypeId × Value → H) :
    ReturnsInHanded {} Try.checked os 7 .any (Rows.bufferPlaysSpec.pre6 enc Try.prog Try.f7 Rows.bufferPlaysRow.domain false) (Rows.bufferPlaysSpec.post enc Try.prog Try.f7 false true false false) := by
  refine returnsInHanded_of_change_sized (C := Try.checked) own started (by kernel_rfl) Try.func7
    (ChangeSpec.witness6 (enc := enc) (C := Try.checked) false ⟨#[], #[.int .i64 0, .int .i64 0, .slice none 0 0], []⟩ 8 (by kernel_rfl) (by kernel_rfl) (by kernel_rfl) (by kernel_rfl)) ?_
  intro W base args ds gs before hval0 hW hcnd hsz0 _
  have hval : ∀ (j : Nat) t v, Try.f7.params[j]? = some t → args[j]? = some v → Value.okWide Try.prog W .any base t v := hval0
  have hW' := hW
  obtain ⟨p, q, hA0, hV, rfl, hfz, hnd⟩ := hW
  have hA : DataW.TrodAll enc Try.prog W 0 (fun _ => true) true Try.f7.params.toList args.toList ds p := hA0
  rw [Try.params7] at hA hval
  obtain ⟨v0, vs0, d0, ds0, p0, q0, hargs, rfl, rfl, h0, r0⟩ := trodAll_cons hA
  obtain ⟨v1, vs1, d1, ds1, p1, q1, rfl, rfl, rfl, h1, r1⟩ := trodAll_cons r0
  obtain ⟨v2, vs2, d2, ds2, p2, q2, rfl, rfl, rfl, h2, r2⟩ := trodAll_cons r1
  obtain ⟨rfl, rfl, rfl⟩ := trodAll_nil r2
  obtain rfl : args = #[v0, v1, v2] := by cases args; simp_all
  obtain ⟨rfl, rfl⟩ := trodVars_none hV
  have k0 := h0
  have lt0 : ∀ x ∈ p0, x.block < W.heap.size := by obtain ⟨m, hm⟩ := k0; exact DataW.trod_lt m _ _ _ hm
  obtain ⟨fu0, hf0⟩ := h0
  obtain ⟨x0, hk0, hw0⟩ := o3.2 enc W 0 _ _ _ _ _ hf0
  have hk0' : v0.cells.toList = [.int .i64 x0] := hk0
  obtain rfl : v0 = .int .i64 x0 := by
    have hq := (hval 0 3 v0 rfl rfl)
    simp only [Value.okWide, Cell.okWide, Try.underlying3] at hq
    cases v0 <;> simp_all [Cell.ok, Value.cells]
  have k1 := h1
  have lt1 : ∀ x ∈ p1, x.block < W.heap.size := by obtain ⟨m, hm⟩ := k1; exact DataW.trod_lt m _ _ _ hm
  obtain ⟨fu1, hf1⟩ := h1
  obtain ⟨x1, hk1, hw1⟩ := o3.2 enc W 0 _ _ _ _ _ hf1
  have hk1' : v1.cells.toList = [.int .i64 x1] := hk1
  obtain rfl : v1 = .int .i64 x1 := by
    have hq := (hval 1 3 v1 rfl rfl)
    simp only [Value.okWide, Cell.okWide, Try.underlying3] at hq
    cases v1 <;> simp_all [Cell.ok, Value.cells]
  have k2 := h2
  have lt2 : ∀ x ∈ p2, x.block < W.heap.size := by obtain ⟨m, hm⟩ := k2; exact DataW.trod_lt m _ _ _ hm
  obtain ⟨a2, len2, cap2, rfl⟩ := okWide_slice Try.underlying59 (hval 2 59 v2 rfl rfl)
  obtain ⟨fu2, hf2⟩ := h2
  obtain ⟨x2, hk2, hw2⟩ := o59.2 enc W 0 _ _ _ _ _ hf2
  obtain ⟨A2_0, c2_0, he2, l2_0, g2_0⟩ := hk2
  simp only [Value.cells, List.cons.injEq, Value.slice.injEq, and_true] at he2
  obtain ⟨rfl, rfl, rfl⟩ := he2
  clear hA0 hval0 hsz0
  refine (bufferPlays_walk W x0 hw0 x1 hw1 x2 l2_0 g2_0 hw2).mono fun e W' ⟨he, bel⟩ => ?_
  subst he
  exact ⟨_, rfl, _, _, _, [], _, [], hW', trodAll_mk1 (shut_bool Try.underlying4 _), (trodAll_cons_mk (Below.trod laidOut (by kernel_rfl) (of_decide_eq_true (by kernel_rfl)) k0 bel lt0) (trodAll_cons_mk (Below.trod laidOut (by kernel_rfl) (of_decide_eq_true (by kernel_rfl)) k1 bel lt1) (trodAll_cons_mk (Below.trod laidOut (by kernel_rfl) (of_decide_eq_true (by kernel_rfl)) k2 bel lt2) trodAll_mk0))), rfl, bel.frame _, fun h => by cases h⟩
theorem over : Rows.bufferPlaysRow.holds Try.pinned (OpenSpec.ofChange Rows.bufferPlaysSpec) :=
  OpenClaim.holds_of_wide 7 Try.f7 rfl rfl rfl rfl rfl rfl rfl ⟨rfl, rfl, rfl, rfl, rfl⟩ rfl rfl rfl rfl rfl (by kernel_rfl) Try.func7 (by kernel_rfl)
    (of_decide_eq_true (by kernel_rfl)) (by unfold Func.isWrapper; first | (rw [if_pos (by decide +kernel)]; kernel_rfl) | (rw [if_neg (by decide +kernel)]; exact ⟨rfl, rfl⟩))
    (fun os started H enc _ => lifted os started H enc)
theorem proved : Rows.BufferPlaysSaid := over
#print axioms proved
end Go.Proofs.Ytnkgbnipcjgjeaa.bufferPlaysRow
namespace Go.Proofs.Ytnkgbnipcjgjeaa
/-- The row, under a short name, for the claim. -/
theorem bufferPlays_holds : Rows.BufferPlaysSaid := bufferPlaysRow.proved
end Go.Proofs.Ytnkgbnipcjgjeaa
