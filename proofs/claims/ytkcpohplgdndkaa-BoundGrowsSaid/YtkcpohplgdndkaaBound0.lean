import Derived.Test.YtkcpohplgdndkaaQBx5
import Derived.Lib.Hide
import Derived.WalkSpells
import Derived.WalkLawsBesides
namespace Go.Proofs.Ytkcpohplgdndkaa
open Go.RowKit Go.Proofs.Ytkcpohplgdndkaa.QB Go.Proofs.YtkcpohplgdndkaaW.PrintWords
set_option linter.unusedVariables false
theorem b_trans {B : Nat} {w w1 w2 : World} (h : Below B w w1) (hB : B ≤ w.heap.size) (k : Below w1.heap.size w1 w2) : Below B w w2 := h.trans (k.mono (Nat.le_trans hB h.size))

def bound_Reset.f (a0_0 a0_1 a0_2 a0_3 a0_4 a0_5 a0_6 a0_7 a0_8 a0_9 a0_10 a0_11 : Int) : Option Int := (bound_of.f a0_0 a0_1 a0_2 a0_3 a0_4 a0_5 a0_6 a0_7 a0_8 a0_9 a0_10 a0_11).bind fun t => if t.2.2.2.2.2.2.2.2.2.2.2.2.2 = true then bound_sizes_reset.f t.1 t.2.1 t.2.2.1 t.2.2.2.1 t.2.2.2.2.1 t.2.2.2.2.2.1 t.2.2.2.2.2.2.1 t.2.2.2.2.2.2.2.1 t.2.2.2.2.2.2.2.2.1 t.2.2.2.2.2.2.2.2.2.1 t.2.2.2.2.2.2.2.2.2.2.1 t.2.2.2.2.2.2.2.2.2.2.2.1 t.2.2.2.2.2.2.2.2.2.2.2.2.1 else some 0
set_option maxHeartbeats 4000000 in
set_option maxRecDepth 100000 in
theorem bound_Reset.calls (a0_0 a0_1 a0_2 a0_3 a0_4 a0_5 a0_6 a0_7 a0_8 a0_9 a0_10 a0_11 : Int) (r : Int) (w : World) (h : bound_Reset.f a0_0 a0_1 a0_2 a0_3 a0_4 a0_5 a0_6 a0_7 a0_8 a0_9 a0_10 a0_11 = some r) :
    Calls Try.prog 66 #[.agg #[.int .i64 a0_0, .int .i64 a0_1, .int .i64 a0_2, .int .i64 a0_3, .int .i64 a0_4, .int .i64 a0_5, .int .i64 a0_6, .int .i64 a0_7, .int .i64 a0_8, .int .i64 a0_9, .int .i64 a0_10, .int .i64 a0_11]] w fun e w' => e = .returned (.int .i64 r) ∧ Below w.heap.size w w' := by
  unfold bound_Reset.f at h
  obtain ⟨⟨r1, r2, r3, r4, r5, r6, r7, r8, r9, r10, r11, r12, r13, r14⟩, ht, h⟩ := Option.bind_eq_some_iff.1 h
  have HT := Lib.hid ht
  clear ht
  have HB := Below.refl w.heap.size w
  cases r14 with
  | true =>
    rw [if_pos rfl] at h
    have H := Lib.hid h
    clear h
    go_enter Try.func66, Try.ntmps66
    go_wp2_with (first | (go_at_call 123; refine (bound_of.calls a0_0 a0_1 a0_2 a0_3 a0_4 a0_5 a0_6 a0_7 a0_8 a0_9 a0_10 a0_11 r1 r2 r3 r4 r5 r6 r7 r8 r9 r10 r11 r12 r13 true _ HT.out).mono ?_; rintro e w1 ⟨rfl, hb1⟩; replace HB := b_trans (below_alloc (below_alloc HB _) _) (Nat.le_refl _) hb1; clear hb1) | (go_at_call 102; refine (bound_sizes_reset.calls r1 r2 r3 r4 r5 r6 r7 r8 r9 r10 r11 r12 r13 r _ H.out).mono ?_; rintro e w2 ⟨rfl, hb1⟩; replace HB := b_trans (below_alloc HB _) (Nat.le_refl _) hb1; clear hb1) | go_in)
    go_ret
    exact ⟨rfl, HB⟩
  | false =>
    rw [if_neg Bool.false_ne_true] at h
    obtain rfl := Option.some.inj h
    clear h
    go_enter Try.func66, Try.ntmps66
    go_wp2_with (first | (go_at_call 123; refine (bound_of.calls a0_0 a0_1 a0_2 a0_3 a0_4 a0_5 a0_6 a0_7 a0_8 a0_9 a0_10 a0_11 r1 r2 r3 r4 r5 r6 r7 r8 r9 r10 r11 r12 r13 false _ HT.out).mono ?_; rintro e w1 ⟨rfl, hb1⟩; replace HB := b_trans (below_alloc (below_alloc HB _) _) (Nat.le_refl _) hb1; clear hb1) | go_in)
    go_ret
    exact ⟨rfl, below_alloc HB _⟩

def bound_Read.f (k : Nat) (a0_0 a0_1 a0_2 a0_3 a0_4 a0_5 a0_6 a0_7 a0_8 a0_9 a0_10 a0_11 : Int) : Option Int := (bound_of.f a0_0 a0_1 a0_2 a0_3 a0_4 a0_5 a0_6 a0_7 a0_8 a0_9 a0_10 a0_11).bind fun t => if t.2.2.2.2.2.2.2.2.2.2.2.2.2 = true then bound_sizes_read.f k t.1 t.2.1 t.2.2.1 t.2.2.2.1 t.2.2.2.2.1 t.2.2.2.2.2.1 t.2.2.2.2.2.2.1 t.2.2.2.2.2.2.2.1 t.2.2.2.2.2.2.2.2.1 t.2.2.2.2.2.2.2.2.2.1 t.2.2.2.2.2.2.2.2.2.2.1 t.2.2.2.2.2.2.2.2.2.2.2.1 t.2.2.2.2.2.2.2.2.2.2.2.2.1 else some 0
set_option maxHeartbeats 4000000 in
set_option maxRecDepth 100000 in
theorem bound_Read.calls (k : Nat) (a0_0 a0_1 a0_2 a0_3 a0_4 a0_5 a0_6 a0_7 a0_8 a0_9 a0_10 a0_11 : Int) (r : Int) (w : World) (h : bound_Read.f k a0_0 a0_1 a0_2 a0_3 a0_4 a0_5 a0_6 a0_7 a0_8 a0_9 a0_10 a0_11 = some r) :
    Calls Try.prog 67 #[.agg #[.int .i64 a0_0, .int .i64 a0_1, .int .i64 a0_2, .int .i64 a0_3, .int .i64 a0_4, .int .i64 a0_5, .int .i64 a0_6, .int .i64 a0_7, .int .i64 a0_8, .int .i64 a0_9, .int .i64 a0_10, .int .i64 a0_11]] w fun e w' => e = .returned (.int .i64 r) ∧ Below w.heap.size w w' := by
  unfold bound_Read.f at h
  obtain ⟨⟨r1, r2, r3, r4, r5, r6, r7, r8, r9, r10, r11, r12, r13, r14⟩, ht, h⟩ := Option.bind_eq_some_iff.1 h
  have HT := Lib.hid ht
  clear ht
  have HB := Below.refl w.heap.size w
  cases r14 with
  | true =>
    rw [if_pos rfl] at h
    have H := Lib.hid h
    clear h
    go_enter Try.func67, Try.ntmps67
    go_wp2_with (first | (go_at_call 123; refine (bound_of.calls a0_0 a0_1 a0_2 a0_3 a0_4 a0_5 a0_6 a0_7 a0_8 a0_9 a0_10 a0_11 r1 r2 r3 r4 r5 r6 r7 r8 r9 r10 r11 r12 r13 true _ HT.out).mono ?_; rintro e w1 ⟨rfl, hb1⟩; replace HB := b_trans (below_alloc (below_alloc HB _) _) (Nat.le_refl _) hb1; clear hb1) | (go_at_call 103; refine (bound_sizes_read.calls k r1 r2 r3 r4 r5 r6 r7 r8 r9 r10 r11 r12 r13 r _ H.out).mono ?_; rintro e w2 ⟨rfl, hb1⟩; replace HB := b_trans (below_alloc HB _) (Nat.le_refl _) hb1; clear hb1) | go_in)
    go_ret
    exact ⟨rfl, HB⟩
  | false =>
    rw [if_neg Bool.false_ne_true] at h
    obtain rfl := Option.some.inj h
    clear h
    go_enter Try.func67, Try.ntmps67
    go_wp2_with (first | (go_at_call 123; refine (bound_of.calls a0_0 a0_1 a0_2 a0_3 a0_4 a0_5 a0_6 a0_7 a0_8 a0_9 a0_10 a0_11 r1 r2 r3 r4 r5 r6 r7 r8 r9 r10 r11 r12 r13 false _ HT.out).mono ?_; rintro e w1 ⟨rfl, hb1⟩; replace HB := b_trans (below_alloc (below_alloc HB _) _) (Nat.le_refl _) hb1; clear hb1) | go_in)
    go_ret
    exact ⟨rfl, below_alloc HB _⟩

def bound_Put.f (k : Nat) (a0_0 a0_1 a0_2 a0_3 a0_4 a0_5 a0_6 a0_7 a0_8 a0_9 a0_10 a0_11 : Int) : Option Int := (bound_of.f a0_0 a0_1 a0_2 a0_3 a0_4 a0_5 a0_6 a0_7 a0_8 a0_9 a0_10 a0_11).bind fun t => if t.2.2.2.2.2.2.2.2.2.2.2.2.2 = true then bound_sizes_put.f k t.1 t.2.1 t.2.2.1 t.2.2.2.1 t.2.2.2.2.1 t.2.2.2.2.2.1 t.2.2.2.2.2.2.1 t.2.2.2.2.2.2.2.1 t.2.2.2.2.2.2.2.2.1 t.2.2.2.2.2.2.2.2.2.1 t.2.2.2.2.2.2.2.2.2.2.1 t.2.2.2.2.2.2.2.2.2.2.2.1 t.2.2.2.2.2.2.2.2.2.2.2.2.1 else some 0
set_option maxHeartbeats 4000000 in
set_option maxRecDepth 100000 in
theorem bound_Put.calls (k : Nat) (a0_0 a0_1 a0_2 a0_3 a0_4 a0_5 a0_6 a0_7 a0_8 a0_9 a0_10 a0_11 : Int) (r : Int) (w : World) (h : bound_Put.f k a0_0 a0_1 a0_2 a0_3 a0_4 a0_5 a0_6 a0_7 a0_8 a0_9 a0_10 a0_11 = some r) :
    Calls Try.prog 68 #[.agg #[.int .i64 a0_0, .int .i64 a0_1, .int .i64 a0_2, .int .i64 a0_3, .int .i64 a0_4, .int .i64 a0_5, .int .i64 a0_6, .int .i64 a0_7, .int .i64 a0_8, .int .i64 a0_9, .int .i64 a0_10, .int .i64 a0_11]] w fun e w' => e = .returned (.int .i64 r) ∧ Below w.heap.size w w' := by
  unfold bound_Put.f at h
  obtain ⟨⟨r1, r2, r3, r4, r5, r6, r7, r8, r9, r10, r11, r12, r13, r14⟩, ht, h⟩ := Option.bind_eq_some_iff.1 h
  have HT := Lib.hid ht
  clear ht
  have HB := Below.refl w.heap.size w
  cases r14 with
  | true =>
    rw [if_pos rfl] at h
    have H := Lib.hid h
    clear h
    go_enter Try.func68, Try.ntmps68
    go_wp2_with (first | (go_at_call 123; refine (bound_of.calls a0_0 a0_1 a0_2 a0_3 a0_4 a0_5 a0_6 a0_7 a0_8 a0_9 a0_10 a0_11 r1 r2 r3 r4 r5 r6 r7 r8 r9 r10 r11 r12 r13 true _ HT.out).mono ?_; rintro e w1 ⟨rfl, hb1⟩; replace HB := b_trans (below_alloc (below_alloc HB _) _) (Nat.le_refl _) hb1; clear hb1) | (go_at_call 104; refine (bound_sizes_put.calls k r1 r2 r3 r4 r5 r6 r7 r8 r9 r10 r11 r12 r13 r _ H.out).mono ?_; rintro e w2 ⟨rfl, hb1⟩; replace HB := b_trans (below_alloc HB _) (Nat.le_refl _) hb1; clear hb1) | go_in)
    go_ret
    exact ⟨rfl, HB⟩
  | false =>
    rw [if_neg Bool.false_ne_true] at h
    obtain rfl := Option.some.inj h
    clear h
    go_enter Try.func68, Try.ntmps68
    go_wp2_with (first | (go_at_call 123; refine (bound_of.calls a0_0 a0_1 a0_2 a0_3 a0_4 a0_5 a0_6 a0_7 a0_8 a0_9 a0_10 a0_11 r1 r2 r3 r4 r5 r6 r7 r8 r9 r10 r11 r12 r13 false _ HT.out).mono ?_; rintro e w1 ⟨rfl, hb1⟩; replace HB := b_trans (below_alloc (below_alloc HB _) _) (Nat.le_refl _) hb1; clear hb1) | go_in)
    go_ret
    exact ⟨rfl, below_alloc HB _⟩

def bound_Drain.f (k : Nat) (a0_0 a0_1 a0_2 a0_3 a0_4 a0_5 a0_6 a0_7 a0_8 a0_9 a0_10 a0_11 : Int) : Option Int := (bound_of.f a0_0 a0_1 a0_2 a0_3 a0_4 a0_5 a0_6 a0_7 a0_8 a0_9 a0_10 a0_11).bind fun t => if t.2.2.2.2.2.2.2.2.2.2.2.2.2 = true then bound_sizes_drain.f k t.1 t.2.1 t.2.2.1 t.2.2.2.1 t.2.2.2.2.1 t.2.2.2.2.2.1 t.2.2.2.2.2.2.1 t.2.2.2.2.2.2.2.1 t.2.2.2.2.2.2.2.2.1 t.2.2.2.2.2.2.2.2.2.1 t.2.2.2.2.2.2.2.2.2.2.1 t.2.2.2.2.2.2.2.2.2.2.2.1 t.2.2.2.2.2.2.2.2.2.2.2.2.1 else some 0
set_option maxHeartbeats 4000000 in
set_option maxRecDepth 100000 in
theorem bound_Drain.calls (k : Nat) (a0_0 a0_1 a0_2 a0_3 a0_4 a0_5 a0_6 a0_7 a0_8 a0_9 a0_10 a0_11 : Int) (r : Int) (w : World) (h : bound_Drain.f k a0_0 a0_1 a0_2 a0_3 a0_4 a0_5 a0_6 a0_7 a0_8 a0_9 a0_10 a0_11 = some r) :
    Calls Try.prog 69 #[.agg #[.int .i64 a0_0, .int .i64 a0_1, .int .i64 a0_2, .int .i64 a0_3, .int .i64 a0_4, .int .i64 a0_5, .int .i64 a0_6, .int .i64 a0_7, .int .i64 a0_8, .int .i64 a0_9, .int .i64 a0_10, .int .i64 a0_11]] w fun e w' => e = .returned (.int .i64 r) ∧ Below w.heap.size w w' := by
  unfold bound_Drain.f at h
  obtain ⟨⟨r1, r2, r3, r4, r5, r6, r7, r8, r9, r10, r11, r12, r13, r14⟩, ht, h⟩ := Option.bind_eq_some_iff.1 h
  have HT := Lib.hid ht
  clear ht
  have HB := Below.refl w.heap.size w
  cases r14 with
  | true =>
    rw [if_pos rfl] at h
    have H := Lib.hid h
    clear h
    go_enter Try.func69, Try.ntmps69
    go_wp2_with (first | (go_at_call 123; refine (bound_of.calls a0_0 a0_1 a0_2 a0_3 a0_4 a0_5 a0_6 a0_7 a0_8 a0_9 a0_10 a0_11 r1 r2 r3 r4 r5 r6 r7 r8 r9 r10 r11 r12 r13 true _ HT.out).mono ?_; rintro e w1 ⟨rfl, hb1⟩; replace HB := b_trans (below_alloc (below_alloc HB _) _) (Nat.le_refl _) hb1; clear hb1) | (go_at_call 105; refine (bound_sizes_drain.calls k r1 r2 r3 r4 r5 r6 r7 r8 r9 r10 r11 r12 r13 r _ H.out).mono ?_; rintro e w2 ⟨rfl, hb1⟩; replace HB := b_trans (below_alloc HB _) (Nat.le_refl _) hb1; clear hb1) | go_in)
    go_ret
    exact ⟨rfl, HB⟩
  | false =>
    rw [if_neg Bool.false_ne_true] at h
    obtain rfl := Option.some.inj h
    clear h
    go_enter Try.func69, Try.ntmps69
    go_wp2_with (first | (go_at_call 123; refine (bound_of.calls a0_0 a0_1 a0_2 a0_3 a0_4 a0_5 a0_6 a0_7 a0_8 a0_9 a0_10 a0_11 r1 r2 r3 r4 r5 r6 r7 r8 r9 r10 r11 r12 r13 false _ HT.out).mono ?_; rintro e w1 ⟨rfl, hb1⟩; replace HB := b_trans (below_alloc (below_alloc HB _) _) (Nat.le_refl _) hb1; clear hb1) | go_in)
    go_ret
    exact ⟨rfl, below_alloc HB _⟩

def bound_Mount.f (k : Nat) (a0_0 a0_1 a0_2 a0_3 a0_4 a0_5 a0_6 a0_7 a0_8 a0_9 a0_10 a0_11 : Int) : Option Int := (bound_of.f a0_0 a0_1 a0_2 a0_3 a0_4 a0_5 a0_6 a0_7 a0_8 a0_9 a0_10 a0_11).bind fun t => if t.2.2.2.2.2.2.2.2.2.2.2.2.2 = true then bound_Mount_1.f k t.1 t.2.1 t.2.2.1 t.2.2.2.1 t.2.2.2.2.1 t.2.2.2.2.2.1 t.2.2.2.2.2.2.1 t.2.2.2.2.2.2.2.1 t.2.2.2.2.2.2.2.2.1 t.2.2.2.2.2.2.2.2.2.1 t.2.2.2.2.2.2.2.2.2.2.1 t.2.2.2.2.2.2.2.2.2.2.2.1 t.2.2.2.2.2.2.2.2.2.2.2.2.1 else some 0
set_option maxHeartbeats 4000000 in
set_option maxRecDepth 100000 in
theorem bound_Mount.calls (k : Nat) (a0_0 a0_1 a0_2 a0_3 a0_4 a0_5 a0_6 a0_7 a0_8 a0_9 a0_10 a0_11 : Int) (r : Int) (w : World) (h : bound_Mount.f k a0_0 a0_1 a0_2 a0_3 a0_4 a0_5 a0_6 a0_7 a0_8 a0_9 a0_10 a0_11 = some r) :
    Calls Try.prog 70 #[.agg #[.int .i64 a0_0, .int .i64 a0_1, .int .i64 a0_2, .int .i64 a0_3, .int .i64 a0_4, .int .i64 a0_5, .int .i64 a0_6, .int .i64 a0_7, .int .i64 a0_8, .int .i64 a0_9, .int .i64 a0_10, .int .i64 a0_11]] w fun e w' => e = .returned (.int .i64 r) ∧ Below w.heap.size w w' := by
  unfold bound_Mount.f at h
  obtain ⟨⟨r1, r2, r3, r4, r5, r6, r7, r8, r9, r10, r11, r12, r13, r14⟩, ht, h⟩ := Option.bind_eq_some_iff.1 h
  have HT := Lib.hid ht
  clear ht
  have HB := Below.refl w.heap.size w
  cases r14 with
  | true =>
    rw [if_pos rfl] at h
    have H := Lib.hid h
    clear h
    go_enter Try.func70, Try.ntmps70
    go_wp2_with (first | (go_at_call 123; refine (bound_of.calls a0_0 a0_1 a0_2 a0_3 a0_4 a0_5 a0_6 a0_7 a0_8 a0_9 a0_10 a0_11 r1 r2 r3 r4 r5 r6 r7 r8 r9 r10 r11 r12 r13 true _ HT.out).mono ?_; rintro e w1 ⟨rfl, hb1⟩; replace HB := b_trans (below_alloc (below_alloc HB _) _) (Nat.le_refl _) hb1; clear hb1) | (go_at_call 106; refine (bound_Mount_1.calls k r1 r2 r3 r4 r5 r6 r7 r8 r9 r10 r11 r12 r13 r _ H.out).mono ?_; rintro e w2 ⟨rfl, hb1⟩; replace HB := b_trans (below_alloc HB _) (Nat.le_refl _) hb1; clear hb1) | go_in)
    go_ret
    exact ⟨rfl, HB⟩
  | false =>
    rw [if_neg Bool.false_ne_true] at h
    obtain rfl := Option.some.inj h
    clear h
    go_enter Try.func70, Try.ntmps70
    go_wp2_with (first | (go_at_call 123; refine (bound_of.calls a0_0 a0_1 a0_2 a0_3 a0_4 a0_5 a0_6 a0_7 a0_8 a0_9 a0_10 a0_11 r1 r2 r3 r4 r5 r6 r7 r8 r9 r10 r11 r12 r13 false _ HT.out).mono ?_; rintro e w1 ⟨rfl, hb1⟩; replace HB := b_trans (below_alloc (below_alloc HB _) _) (Nat.le_refl _) hb1; clear hb1) | go_in)
    go_ret
    exact ⟨rfl, below_alloc HB _⟩

def bound_Order.f (k : Nat) (a0_0 a0_1 a0_2 a0_3 a0_4 a0_5 a0_6 a0_7 a0_8 a0_9 a0_10 a0_11 : Int) (a1 : Int) : Option Int := if a1 < 0 then some 0 else if a1 > 16777216 then some 0 else (bound_of.f a0_0 a0_1 a0_2 a0_3 a0_4 a0_5 a0_6 a0_7 a0_8 a0_9 a0_10 a0_11).bind fun t => if t.2.2.2.2.2.2.2.2.2.2.2.2.2 = true then bound_sizes_order.f k t.1 t.2.1 t.2.2.1 t.2.2.2.1 t.2.2.2.2.1 t.2.2.2.2.2.1 t.2.2.2.2.2.2.1 t.2.2.2.2.2.2.2.1 t.2.2.2.2.2.2.2.2.1 t.2.2.2.2.2.2.2.2.2.1 t.2.2.2.2.2.2.2.2.2.2.1 t.2.2.2.2.2.2.2.2.2.2.2.1 t.2.2.2.2.2.2.2.2.2.2.2.2.1 a1 else some 0
set_option maxHeartbeats 4000000 in
set_option maxRecDepth 100000 in
theorem bound_Order.calls (k : Nat) (a0_0 a0_1 a0_2 a0_3 a0_4 a0_5 a0_6 a0_7 a0_8 a0_9 a0_10 a0_11 : Int) (a1 : Int) (r : Int) (w : World) (h : bound_Order.f k a0_0 a0_1 a0_2 a0_3 a0_4 a0_5 a0_6 a0_7 a0_8 a0_9 a0_10 a0_11 a1 = some r) :
    Calls Try.prog 72 #[.agg #[.int .i64 a0_0, .int .i64 a0_1, .int .i64 a0_2, .int .i64 a0_3, .int .i64 a0_4, .int .i64 a0_5, .int .i64 a0_6, .int .i64 a0_7, .int .i64 a0_8, .int .i64 a0_9, .int .i64 a0_10, .int .i64 a0_11], .int .i64 a1] w fun e w' => e = .returned (.int .i64 r) ∧ Below w.heap.size w w' := by
  unfold bound_Order.f at h
  by_cases c1 : a1 < 0
  · rw [if_pos c1] at h
    obtain rfl := Option.some.inj h
    clear h
    go_enter Try.func72, Try.ntmps72
    go_wp2
    go_ret
    exact ⟨rfl, below_alloc (below_alloc (Below.refl _ _) _) _⟩
  · rw [if_neg c1] at h
    by_cases c2 : a1 > 16777216
    · rw [if_pos c2] at h
      obtain rfl := Option.some.inj h
      clear h
      go_enter Try.func72, Try.ntmps72
      go_wp2
      go_ret
      exact ⟨rfl, below_alloc (below_alloc (Below.refl _ _) _) _⟩
    · rw [if_neg c2] at h
      obtain ⟨⟨r1, r2, r3, r4, r5, r6, r7, r8, r9, r10, r11, r12, r13, r14⟩, ht, h⟩ := Option.bind_eq_some_iff.1 h
      have HT := Lib.hid ht
      clear ht
      have HB := Below.refl (w.heap.size + 2) ((w.alloc (.cells #[.int .i64 a0_0, .int .i64 a0_1, .int .i64 a0_2, .int .i64 a0_3, .int .i64 a0_4, .int .i64 a0_5, .int .i64 a0_6, .int .i64 a0_7, .int .i64 a0_8, .int .i64 a0_9, .int .i64 a0_10, .int .i64 a0_11] 106)).alloc (.cells #[.int .i64 a1] 3))
      cases r14 with
      | true =>
        rw [if_pos rfl] at h
        have H := Lib.hid h
        clear h
        go_enter Try.func72, Try.ntmps72
        go_wp2_with (first | (go_at_call 123; refine (bound_of.calls a0_0 a0_1 a0_2 a0_3 a0_4 a0_5 a0_6 a0_7 a0_8 a0_9 a0_10 a0_11 r1 r2 r3 r4 r5 r6 r7 r8 r9 r10 r11 r12 r13 true _ HT.out).mono ?_; rintro e w1 ⟨rfl, hb1⟩; replace HB := b_trans (HB.alloc (by simp) _) (by simp) hb1; clear hb1; have hlt : w.heap.size + 1 < w1.heap.size := (by have := HB.size; simp at this; omega); have hlt2 : w.heap.size < w1.heap.size := (by omega); have hcN : w1.cell? ⟨w.heap.size + 1, 0, none⟩ = some (.int .i64 a1) := (HB.cell (p := ⟨w.heap.size + 1, 0, none⟩) (by show w.heap.size + 1 < w.heap.size + 2; omega)).trans (by rw [World.cell?_alloc_at _ _ _ _ (by simp)]; rfl)) | (go_at_call 112; refine (bound_sizes_order.calls k r1 r2 r3 r4 r5 r6 r7 r8 r9 r10 r11 r12 r13 a1 r _ H.out).mono ?_; rintro e w2 ⟨rfl, hb1⟩; replace HB := b_trans ((HB.alloc (by omega) _).alloc (by simp; omega) _) (by simp) hb1; clear hb1) | go_in)
        go_ret
        exact ⟨rfl, (((Below.refl _ _).alloc (Nat.le_refl _) _).alloc (by simp) _).trans (HB.mono (by omega))⟩
      | false =>
        rw [if_neg Bool.false_ne_true] at h
        obtain rfl := Option.some.inj h
        clear h
        go_enter Try.func72, Try.ntmps72
        go_wp2_with (first | (go_at_call 123; refine (bound_of.calls a0_0 a0_1 a0_2 a0_3 a0_4 a0_5 a0_6 a0_7 a0_8 a0_9 a0_10 a0_11 r1 r2 r3 r4 r5 r6 r7 r8 r9 r10 r11 r12 r13 false _ HT.out).mono ?_; rintro e w1 ⟨rfl, hb1⟩; replace HB := b_trans (HB.alloc (by simp) _) (by simp) hb1; clear hb1) | go_in)
        go_ret
        exact ⟨rfl, below_alloc ((((Below.refl _ _).alloc (Nat.le_refl _) _).alloc (by simp) _).trans (HB.mono (by omega))) _⟩

end Go.Proofs.Ytkcpohplgdndkaa
