import Derived.Test.YtnkgbnipcjgjeaaFL0
import Derived.Test.YtnkgbnipcjgjeaaMr
import Derived.Test.YtnkgbnipcjgjeaaQYx1
namespace Go.Proofs.Ytnkgbnipcjgjeaa
open Go.RowKit Go.Shelf Go.Sort Go.Lib Go.Proofs.YtnkgbnipcjgjeaaW.PrintWords Go.Proofs.YtnkgbnipcjgjeaaW.PrintLast Go.Proofs.YtnkgbnipcjgjeaaW.PrintMore
set_option linter.unusedVariables false
abbrev kB : Kd Int := Kd.int .u8
abbrev Hdr := Option Addr × Nat × Nat
def vH (h : Hdr) : Value := .slice h.1 h.2.1 h.2.2
def kH : Kd Hdr := Kd.scalar vH (fun _ => rfl)
theorem info5 : (Try.prog.info? 5).map (fun i => (i.zero, i.size, i.bytes)) = some (some (.int .u8 0), 1, 1) := by kernel_rfl
theorem info52 : (Try.prog.info? 52).map (fun i => (i.zero, i.size, i.bytes)) = some (some (.slice none 0 0), 1, 24) := by kernel_rfl
theorem R_empty {α : Type} (enc : α → Value) {h1 : ∀ x : α, (enc x).oneCell' = true} (e : Nat) (w : World) (ok : Nat → Prop) (hok : ∀ k, w.heap.size ≤ k → ok k) :
    (Kd.scalar enc h1).R e (w.alloc (.cells #[] e)) w.heap.size ok (.slice (some ⟨w.heap.size, 0, none⟩) 0 0) [] := by
  refine ⟨fun k hk => hok k (by simp [Value.ownBlock] at hk; omega), [], ⟨rfl, .inr ⟨w.heap.size, 0, #[], rfl, Nat.le_refl _, blk_new w _, Nat.le_refl _, Nat.zero_le _, rfl, rfl⟩⟩, Reps.none _ _⟩
set_option maxHeartbeats 2000000 in
set_option maxRecDepth 100000 in
theorem clone_ok (A : Option Addr) (c : Nat) (xs : List Int) (w : World) (hr : kB.C w A xs.length xs) (hc : xs.length ≤ c) (hl : xs.length ≤ 100000) :
    Calls Try.prog 95 #[.slice A xs.length c] w fun e w' => (∃ v, e = .returned v ∧ kB.R 5 w' w.heap.size (fun _ => True) v xs) ∧ Below w.heap.size w w' := by
  have HR := Lib.hid hr
  clear hr
  have hu52 := Try.underlying52
  have heq : ∀ (a : Option Addr) (n c : Nat) (W : World), (binOp .eql 52 (.slice a n c) (.slice none 0 0)).run Try.prog W = .ok (.bool a.isNone) W := fun a n c W => Lib.run_eql_slice_nil W 52 5 a n c 0 0 Try.underlying52
  cases A with
  | none =>
    have hx : xs = [] := by
      cases xs with
      | nil => rfl
      | cons x r => obtain ⟨ad, h, _⟩ := HR.out.2.2 (by simp); cases h
    subst hx
    go_enter Try.func95, Try.ntmps95
    go_wp2_with fail
    go_ret
    exact ⟨⟨_, rfl, Kd.R_nil _ _ _ _ _⟩, Below.refl _ _⟩
  | some ad =>
    go_enter Try.func95, Try.ntmps95
    have HO := Lib.hid (R_empty (Value.int .u8) (h1 := fun _ => rfl) 5 w (fun _ => True) (fun _ _ => trivial))
    have HB := Lib.hid ((Below.refl w.heap.size w).alloc (Nat.le_refl _) (.cells #[] 5))
    have HC := Lib.hid (Kd.C_alloc HR.out (.cells #[] 5))
    have HS : Hid (w.heap.size ≤ (w.alloc (.cells #[] 5)).heap.size) := Lib.hid (by simp)
    have HZ : Hid ((([] : List Int).length + xs.length) * 1 ≤ 140737488355328) := Lib.hid (by simp; omega)
    clear hl
    go_wp2_with (at_builtin; refine Kd.R_append_row (Value.int .u8) (0 : Int) (h1 := fun _ => rfl) (w0 := w) w.heap.size rfl (.tmp 5) (.tmp 6) 52 5 (.int .u8 0) 1 rfl Try.underlying52 info5 rfl (by decide) _ [] xs (some ad) xs.length c (fun _ => True) rfl rfl (fun _ _ => trivial) HO.out HC.out HB.out HS.out HZ.out ?_; intro v3 w3 hR3 hb3 hg3 hat3; have HO3 := Lib.hid hR3; have HB3 := Lib.hid hb3; obtain ⟨A3, c3, rfl⟩ := Kd.R_slice hR3; clear hR3 hb3 hg3 hat3)
    go_ret
    exact ⟨⟨_, rfl, HO3.out⟩, HB3.out⟩
set_option maxHeartbeats 2000000 in
set_option maxRecDepth 100000 in
/-- A row of rows: the outer one is new, the headers are as they were. -/
theorem clone2_ok (A : Option Addr) (c : Nat) (hs : List Hdr) (w : World) (hr : kH.C w A hs.length hs) (hc : hs.length ≤ c) (hl : hs.length ≤ 100000) :
    Calls Try.prog 100 #[.slice A hs.length c] w fun e w' => (∃ v, e = .returned v ∧ kH.R 52 w' w.heap.size (fun _ => True) v hs) ∧ Below w.heap.size w w' := by
  have HR := Lib.hid hr
  clear hr
  have hu102 := Try.underlying102
  have heq : ∀ (a : Option Addr) (n c : Nat) (W : World), (binOp .eql 102 (.slice a n c) (.slice none 0 0)).run Try.prog W = .ok (.bool a.isNone) W := fun a n c W => Lib.run_eql_slice_nil W 102 52 a n c 0 0 Try.underlying102
  cases A with
  | none =>
    have hx : hs = [] := by
      cases hs with
      | nil => rfl
      | cons x r => obtain ⟨ad, h, _⟩ := HR.out.2.2 (by simp); cases h
    subst hx
    go_enter Try.func100, Try.ntmps100
    go_wp2_with fail
    go_ret
    exact ⟨⟨_, rfl, Kd.R_nil _ _ _ _ _⟩, Below.refl _ _⟩
  | some ad =>
    go_enter Try.func100, Try.ntmps100
    have HO := Lib.hid (R_empty vH (h1 := fun _ => rfl) 52 w (fun _ => True) (fun _ _ => trivial))
    have HB := Lib.hid ((Below.refl w.heap.size w).alloc (Nat.le_refl _) (.cells #[] 52))
    have HC := Lib.hid (Kd.C_alloc HR.out (.cells #[] 52))
    have HS : Hid (w.heap.size ≤ (w.alloc (.cells #[] 52)).heap.size) := Lib.hid (by simp)
    have HZ : Hid ((([] : List Hdr).length + hs.length) * 24 ≤ 140737488355328) := Lib.hid (by simp; omega)
    clear hl
    go_wp2_with (at_builtin; refine Kd.R_append_row vH ((none, 0, 0) : Hdr) (h1 := fun _ => rfl) (w0 := w) w.heap.size rfl (.tmp 5) (.tmp 6) 102 52 (.slice none 0 0) 24 rfl Try.underlying102 info52 rfl (by decide) _ [] hs (some ad) hs.length c (fun _ => True) rfl rfl (fun _ _ => trivial) HO.out HC.out HB.out HS.out HZ.out ?_; intro v3 w3 hR3 hb3 hg3 hat3; have HO3 := Lib.hid hR3; have HB3 := Lib.hid hb3; obtain ⟨A3, c3, rfl⟩ := Kd.R_slice hR3; clear hR3 hb3 hg3 hat3)
    go_ret
    exact ⟨⟨_, rfl, HO3.out⟩, HB3.out⟩
end Go.Proofs.Ytnkgbnipcjgjeaa
