import Derived.Test.YtnkgbnipcjgjeaaFO1
namespace Go.Proofs.Ytnkgbnipcjgjeaa
open Go.RowKit Go.Shelf Go.Sort Go.Lib Go.Proofs.YtnkgbnipcjgjeaaW.PrintWords Go.Proofs.YtnkgbnipcjgjeaaW.PrintLast Go.Proofs.YtnkgbnipcjgjeaaW.PrintMore
set_option linter.unusedVariables false
/-! Plain facts for FreeSame. -/
theorem mdel_filter {l : List (Int × Int)} (x : Int) (hn : (l.map (·.1)).Nodup) : mdel l x = l.filter (fun p => p.1 != x) := by
  induction l with
  | nil => rfl
  | cons p r ih =>
    have hn' := List.nodup_cons.1 hn
    unfold mdel
    by_cases e : p.1 = x
    · rw [if_pos e, List.filter_cons, if_neg (by simp [e])]
      refine (List.filter_eq_self.2 fun q hq => ?_).symm
      have : q.1 ≠ x := fun e2 => hn'.1 (List.mem_map.2 ⟨q, hq, e2.trans e.symm⟩)
      simpa using this
    · rw [if_neg e, List.filter_cons, if_pos (by simpa using e), ih hn'.2]
theorem listP_del {l : List (Int × Int)} (x : Int) (hn : (l.map (·.1)).Nodup) : listP (mdel l x) = (listP l).filter (fun y => y != x) := by
  have h : sortP (mdel l x) = (sortP l).filter (fun p => p.1 != x) := by
    refine sorted_eq (sortP_sorted _) ((sortP_sorted l).filter _) ?_
    refine (sortP_perm _).trans ?_
    rw [mdel_filter x hn]
    exact ((sortP_perm l).filter _).symm
  unfold listP
  rw [h, List.filter_map]
  rfl
theorem listP_congr {l m : List (Int × Int)} (hp : l.Perm m) : listP l = listP m := by unfold listP; rw [sortP_congr hp]
/-- Place i of the other order. -/
def ixR (n k i : Nat) : Nat := (n - 1 - i + k) % n
theorem ixR_lt {n k i : Nat} (h : i < n) : ixR n k i < n := Nat.mod_lt _ (by omega)
theorem mod_apart {a c n : Nat} (h1 : 0 < c) (h2 : c < n) : (a + c) % n ≠ a % n := by
  intro e
  have e1 := Nat.div_add_mod a n
  have e2 := Nat.div_add_mod (a + c) n
  rw [e] at e2
  generalize (a + c) / n = q2 at e2
  generalize a / n = q1 at e1
  rcases Nat.lt_or_ge q1 q2 with h | h
  · have := Nat.mul_le_mul_left n (show q1 + 1 ≤ q2 from h)
    rw [Nat.mul_add, Nat.mul_one] at this
    omega
  · have := Nat.mul_le_mul_left n h
    omega
theorem ixR_ne {n k t i : Nat} (h1 : t < i) (h2 : i < n) : ixR n k t ≠ ixR n k i := by
  unfold ixR
  rw [show n - 1 - t + k = (n - 1 - i + k) + (i - t) by omega]
  exact mod_apart (by omega) (by omega)
theorem ixR_split {n k i : Nat} (h : i < n) : ixR n k i = if i < k % n then k % n - 1 - i else n - 1 - i + k % n := by
  have hr : k % n < n := Nat.mod_lt _ (by omega)
  have e : ixR n k i = (n - 1 - i + k % n) % n := by
    unfold ixR
    rw [Nat.add_mod, Nat.add_mod (n - 1 - i) (k % n), Nat.mod_mod]
  rw [e]
  generalize k % n = r at hr
  split
  · rw [show n - 1 - i + r = (r - 1 - i) + n by omega, Nat.add_mod_right, Nat.mod_eq_of_lt (by omega)]
  · rw [Nat.mod_eq_of_lt (by omega)]
def otherL {α : Type} (d : α) (l : List α) (k i : Nat) : List α := (List.range i).map fun t => l.getD (ixR l.length k t) d
theorem otherL_succ {α : Type} (d : α) (l : List α) (k i : Nat) : otherL d l k (i + 1) = otherL d l k i ++ [l.getD (ixR l.length k i) d] := by
  unfold otherL
  rw [List.range_succ, List.map_append]; rfl
theorem otherL_perm {α : Type} (d : α) (l : List α) (k : Nat) : (otherL d l k l.length).Perm l := by
  by_cases hl : l.length = 0
  · rw [List.eq_nil_of_length_eq_zero hl]; exact List.Perm.refl _
  · have hr : k % l.length < l.length := Nat.mod_lt _ (by omega)
    have e : otherL d l k l.length = (l.take (k % l.length)).reverse ++ (l.drop (k % l.length)).reverse := by
      apply List.ext_getElem?
      intro i
      unfold otherL
      rw [List.getElem?_map]
      by_cases hi : i < l.length
      · rw [List.getElem?_range hi, Option.map_some, ixR_split hi]
        generalize k % l.length = r at hr
        by_cases h : i < r
        · rw [if_pos h, List.getElem?_append_left (by rw [List.length_reverse, List.length_take]; omega), List.getElem?_reverse (by rw [List.length_take]; omega), List.length_take, List.getElem?_take, if_pos (by omega), List.getD_eq_getElem?_getD, Nat.min_eq_left (by omega), List.getElem?_eq_getElem (by omega)]; rfl
        · rw [if_neg h, List.getElem?_append_right (by rw [List.length_reverse, List.length_take]; omega), List.length_reverse, List.length_take, List.getElem?_reverse (by rw [List.length_drop]; omega), List.length_drop, List.getElem?_drop, Nat.min_eq_left (by omega), List.getD_eq_getElem?_getD, List.getElem?_eq_getElem (by omega), show r + (l.length - r - 1 - (i - r)) = l.length - 1 - i + r by omega, List.getElem?_eq_getElem (by omega)]; rfl
      · rw [List.getElem?_eq_none (by simpa using hi), List.getElem?_eq_none (by simp; omega)]; rfl
    rw [e]
    refine ((List.reverse_perm _).append (List.reverse_perm _)).trans ?_
    rw [List.take_append_drop]
theorem other_new (l : List (Int × Int)) (k : Nat) {i : Nat} (hn : (l.map (·.1)).Nodup) (hi : i < l.length) : mget (otherL (0, 0) l k i) (gP l (ixR l.length k i)).1 = none := by
  refine mget_none fun p hp e => ?_
  obtain ⟨t, ht, rfl⟩ := List.mem_map.1 hp
  have hti := List.mem_range.1 ht
  have h1 : ixR l.length k t < l.length := ixR_lt (by omega)
  have h2 : ixR l.length k i < l.length := ixR_lt hi
  have hne := ixR_ne (n := l.length) (k := k) hti hi
  have key : ∀ j, j < l.length → (l.map (·.1))[j]? = some (l.getD j (0, 0)).1 := fun j hj => by
    rw [List.getElem?_map, List.getElem?_eq_getElem hj, List.getD_eq_getElem?_getD, List.getElem?_eq_getElem hj]; rfl
  have e2 : (l.map (·.1))[ixR l.length k t]? = (l.map (·.1))[ixR l.length k i]? := by rw [key _ h1, key _ h2]; exact congrArg some e
  have l1 : ixR l.length k t < (l.map (·.1)).length := by rw [List.length_map]; exact h1
  have l2 : ixR l.length k i < (l.map (·.1)).length := by rw [List.length_map]; exact h2
  rw [List.getElem?_eq_getElem l1, List.getElem?_eq_getElem l2] at e2
  have hpw := List.pairwise_iff_getElem.1 hn
  rcases Nat.lt_or_ge (ixR l.length k t) (ixR l.length k i) with h | h
  · exact hpw _ _ l1 l2 h (Option.some.inj e2)
  · exact hpw _ _ l2 l1 (by omega) (Option.some.inj e2).symm
theorem ints_ev (xs : List Int) (hl : xs.length ≤ 100000) : ∀ (d i : Nat), i + d = xs.length → EvL (fun k => QI.incunableref01_Ints.l0 k xs xs (i : Int)) true := by
  intro d
  induction d with
  | zero =>
    intro i hd
    refine EvL.step (h := fun _ => some true) (fun k => ?_) EvL.const
    simp only [QI.incunableref01_Ints.l0]
    rw [if_neg (by omega)]
  | succ d ih =>
    intro i hd
    refine EvL.step (h := fun k => QI.incunableref01_Ints.l0 k xs xs ((i + 1 : Nat) : Int)) (fun k => ?_) (ih (i + 1) (by omega))
    simp only [QI.incunableref01_Ints.l0]
    rw [if_pos (by omega), if_pos (by omega), if_pos (by omega), if_pos trivial, w_succ i (by omega)]
theorem ints_same (xs : List Int) (hl : xs.length ≤ 100000) : ∃ k, QI.incunableref01_Ints.f k xs xs = some true := by
  obtain ⟨k0, h0⟩ := ints_ev xs hl xs.length 0 (by omega)
  refine ⟨k0, ?_⟩
  unfold QI.incunableref01_Ints.f
  rw [if_pos rfl]
  exact h0 k0 (Nat.le_refl _)
theorem ints_call {A0 A1 : Option Addr} {c0 c1 : Nat} {xs : List Int} (w : World) (h0 : Kd.C (Kd.int .i64) w A0 xs.length xs) (hc0 : xs.length ≤ c0) (h1 : Kd.C (Kd.int .i64) w A1 xs.length xs) (hc1 : xs.length ≤ c1) (hl : xs.length ≤ 100000) :
    Calls Try.prog 18 #[.slice A0 xs.length c0, .slice A1 xs.length c1] w fun e w' => e = .returned (.bool true) ∧ ∃ q, w' = w.drewN q := by
  obtain ⟨k, hk⟩ := ints_same xs hl
  refine (QI.incunableref01_Ints.calls k A0 c0 xs A1 c1 xs true w h0 hc0 h1 hc1 hk).mono ?_
  rintro e w' ⟨rfl, ⟨q, rfl⟩⟩
  exact ⟨rfl, q, rfl⟩
end Go.Proofs.Ytnkgbnipcjgjeaa
