import Derived.Test.YthcabffoaaknaaaProg
import Derived.Test.YthcabffoaaknaaaWWords
import Derived.Shelf.SlicesE.IndexFunc
import Derived.WalkKit
import Derived.BigQuiet
namespace Go.Proofs.Ythcabffoaaknaaa
open Go.RowKit Go.Shelf Go.Proofs.YthcabffoaaknaaaW.PrintWords
set_option linter.unusedVariables false
def lay26_ren : Go.Shelf.Ren := ⟨fun | 8 => 26 | 6 => 31 | n => n, fun | 22 => 22 | 23 => 3 | 25 => 48 | 4 => 4 | 3 => 3 | 0 => 0 | n => n, fun | n => n⟩
theorem lay26 : Go.Proofs.SlLaysH.n8 Try.prog lay26_ren := {
  mixed := by kernel_rfl,
  f6 := ⟨Try.f31.name, by decide, Try.func31.trans (congrArg some (by kernel_rfl))⟩,
  f8 := ⟨Try.f26.name, by decide, Try.func26.trans (congrArg some (by kernel_rfl))⟩,
  t0 := Try.underlying0,
  a0 := Try.isAgg0,
  z0 := Try.sizeOf0,
  v0 := Try.zeroValue0,
  t3 := Try.underlying3,
  a3 := Try.isAgg3,
  z3 := Try.sizeOf3,
  v3 := Try.zeroValue3,
  t4 := Try.underlying4,
  a4 := Try.isAgg4,
  z4 := Try.sizeOf4,
  v4 := Try.zeroValue4,
  t22 := Try.underlying22,
  a22 := Try.isAgg22,
  z22 := Try.sizeOf22,
  v22 := Try.zeroValue22,
  a23 := Try.isAgg3,
  z23 := Try.sizeOf3,
  t25 := Try.underlying48,
  a25 := Try.isAgg48,
  z25 := Try.sizeOf48,
  v25 := Try.zeroValue48 }

theorem spotless {w : World} {ad : Addr} {v : Value} (h : w.cell? ad = some v) : ad = ⟨ad.block, ad.off, none⟩ := by
  obtain ⟨b, o, sp⟩ := ad
  cases sp with
  | none => rfl
  | some s =>
    exfalso
    unfold World.cell? at h
    simp only [Option.isSome_some, if_true] at h
    split at h <;> simp at h
theorem add_plain (b o j : Nat) : (⟨b, o, none⟩ : Addr).add j = ⟨b, o + j, none⟩ := by
  unfold Addr.add
  split
  · subst_vars; rfl
  · rfl
/-- A row of ints that is read, of one element or more: its block, its place, its cells. -/
theorem row_of_C {A0 : Option Addr} {l0 : List Int} {w : World} (hr0 : Kd.C (Kd.int .i64) w A0 l0.length l0) (hp : 0 < l0.length) :
    ∃ b off, A0 = some ⟨b, off, none⟩ ∧ b < w.heap.size ∧ ∀ j, j < l0.length → w.cell? ⟨b, off + j, none⟩ = some (.int .i64 (l0.getD j 0)) := by
  have hC := Kd.reads_of_C (d := (0 : Int)) (h1 := fun _ => rfl) hr0
  obtain ⟨ad, rfl, hc⟩ := hC.2.2 hp
  have h0 := hc 0 hp
  have e := spotless (show w.cell? ad = some _ from h0)
  refine ⟨ad.block, ad.off, by rw [← e], World.block_lt_of_cell? w ad h0, fun j hj => ?_⟩
  rw [← add_plain, ← e]
  exact hc j hj
def badN (n : Int) : Bool := decide (n < 0) || decide (2147483648 < n)
theorem pred27 (w : World) : PredAt Try.prog 27 #[] (Value.int .i64) badN w := fun W x hb => by
  show Calls Try.prog 27 #[.int .i64 x] W _
  unfold badN
  go_enter Try.func27, Try.ntmps27
  by_cases h : x < 0
  · go_wp2
    go_ret; exact ⟨by simp_all, 0, rfl⟩
  · by_cases h2 : 2147483648 < x
    · go_wp2
      go_ret; exact ⟨by simp_all, 0, rfl⟩
    · go_wp2
      go_ret; exact ⟨by simp_all, 0, rfl⟩
def mayV (l0 : List Int) : Int := if l0.any badN then 2 else if l0 = [] then 33 else 0
def wear_may.f (l0 : List Int) : Option Int := if l0.length ≤ 1000 then some (mayV l0) else none
theorem any_ok (A0 : Option Addr) (c0 : Nat) (l0 : List Int) (w : World) (hr0 : Kd.C (Kd.int .i64) w A0 l0.length l0) (hl : l0.length ≤ 1000) :
    Calls Try.prog 26 #[.slice A0 l0.length c0, .func (.func 27) #[] #[]] w fun e w' => e = .returned (.bool (l0.any badN)) ∧ ∃ q, w' = w.drewN q := by
  cases l0 with
  | nil =>
    refine (AnyE.slices_ContainsFunc_empty lay26 A0 c0 (.func (.func 27) #[] #[]) w).mono ?_
    rintro e w' ⟨rfl, rfl⟩
    exact ⟨rfl, 0, rfl⟩
  | cons x xs =>
    have eg : ∀ args w, (callFunc 27 args).run Try.prog w = .ok (.enter 27 args) w := enters_of Try.func27 (by kernel_rfl) rfl
    obtain ⟨b, off, rfl, hb, hc⟩ := row_of_C hr0 (by simp)
    have h := AnyE.slices_ContainsFunc lay26 (Value.int .i64) badN 27 #[] eg b off (x :: xs).length c0 (x :: xs) w (pred27 w) (Nat.le_refl _) (by omega) (fun j hj => by rw [hc j hj, List.getElem!_eq_getElem?_getD, List.getD_eq_getElem?_getD]; rfl)
    rw [List.take_length] at h
    exact h
theorem wear_may.calls (A0 : Option Addr) (c0 : Nat) (l0 : List Int) (r : Int) (w : World) (hr0 : Kd.C (Kd.int .i64) w A0 l0.length l0) (hc0 : l0.length ≤ c0) (h : wear_may.f l0 = some r) :
    Calls Try.prog 17 #[.slice A0 l0.length c0] w fun e w' => e = .returned (.int .i64 r) ∧ Drawn0 w w' := by
  have hl : l0.length ≤ 1000 := by
    unfold wear_may.f at h
    split at h
    · assumption
    · simp at h
  have hv : mayV l0 = r := by
    unfold wear_may.f at h
    rw [if_pos hl] at h
    exact Option.some.inj h
  have ha := any_ok A0 c0 l0 w hr0 hl
  clear h hr0
  have h1 : ¬ ((65536 : Int) < (l0.length : Int)) := by omega
  unfold mayV at hv
  have hd : decide ((65536 : Int) < (l0.length : Int)) = false := decide_eq_false h1
  cases hb : l0.any badN with
  | true =>
    rw [hb] at ha hv
    simp only [if_true] at hv
    subst hv
    go_enter Try.func17, Try.ntmps17
    go_wp2_with (go_at_call 26; refine ha.mono ?_; rintro e w' ⟨rfl, q, rfl⟩)
    go_ret
    exact ⟨rfl, ⟨q, rfl⟩⟩
  | false =>
    rw [hb] at ha hv
    simp only [Bool.false_eq_true, if_false] at hv
    by_cases hn : l0 = []
    · subst hn
      rw [if_pos rfl] at hv
      subst hv
      go_enter Try.func17, Try.ntmps17
      go_wp2_with (go_at_call 26; refine ha.mono ?_; rintro e w' ⟨rfl, q, rfl⟩)
      go_ret
      exact ⟨rfl, ⟨q, rfl⟩⟩
    · rw [if_neg hn] at hv
      subst hv
      have hp : 0 < l0.length := List.length_pos_iff.2 hn
      have h3 : ((l0.length : Int) == 0) = false := beq_eq_false_iff_ne.2 (by omega)
      clear hn hb
      generalize l0.length = n at *
      go_enter Try.func17, Try.ntmps17
      go_wp2_with (go_at_call 26; refine ha.mono ?_; rintro e w' ⟨rfl, q, rfl⟩)
      go_ret
      exact ⟨rfl, ⟨q, rfl⟩⟩
end Go.Proofs.Ythcabffoaaknaaa
