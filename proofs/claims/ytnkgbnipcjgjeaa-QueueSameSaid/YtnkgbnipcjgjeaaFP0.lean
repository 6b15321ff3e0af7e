import Derived.Test.YtnkgbnipcjgjeaaBs
import Derived.Test.YtnkgbnipcjgjeaaMp
import Derived.Shelf.SlSortCmp.NoneTotal
import Derived.Shelf.SlicesG.Cmp
namespace Go.Proofs.Ytnkgbnipcjgjeaa
open Go.RowKit Go.Shelf Go.Sort Go.Lib Go.Proofs.YtnkgbnipcjgjeaaW.PrintWords Go.Proofs.YtnkgbnipcjgjeaaW.PrintLast Go.Proofs.YtnkgbnipcjgjeaaW.PrintMore
set_option linter.unusedVariables false
def orI (a b : Int) : Int := if a = 0 then b else a
/-- Entries (block, erases) in the order in which they are taken. -/
def leQ (p q : Int × Int) : Bool := decide (p.2 < q.2 ∨ p.2 = q.2 ∧ p.1 ≤ q.1)
theorem leQ_trans (a b c : Int × Int) (h1 : leQ a b = true) (h2 : leQ b c = true) : leQ a c = true := by
  unfold leQ at *
  simp only [decide_eq_true_eq] at *
  omega
theorem leQ_total (a b : Int × Int) : (leQ a b || leQ b a) = true := by
  unfold leQ
  rw [Bool.or_eq_true]
  simp only [decide_eq_true_eq]
  omega
theorem leQ_anti {a b : Int × Int} (h1 : leQ a b = true) (h2 : leQ b a = true) : a = b := by
  unfold leQ at *
  simp only [decide_eq_true_eq] at *
  exact Prod.ext (by omega) (by omega)
def sortP (l : List (Int × Int)) : List (Int × Int) := l.mergeSort leQ
/-- A pool's list. -/
def listP (l : List (Int × Int)) : List Int := (sortP l).map (·.1)
theorem sortP_perm (l : List (Int × Int)) : (sortP l).Perm l := List.mergeSort_perm _ _
theorem sortP_sorted (l : List (Int × Int)) : (sortP l).Pairwise (fun a b => leQ a b = true) := List.pairwise_mergeSort leQ_trans leQ_total _
theorem sorted_eq {l m : List (Int × Int)} (hl : l.Pairwise (fun a b => leQ a b = true)) (hm : m.Pairwise (fun a b => leQ a b = true)) (hp : l.Perm m) : l = m :=
  List.Perm.eq_of_pairwise (fun a b _ _ h h' => leQ_anti h h') hl hm hp
theorem sortP_congr {l m : List (Int × Int)} (hp : l.Perm m) : sortP l = sortP m := sorted_eq (sortP_sorted l) (sortP_sorted m) ((sortP_perm l).trans (hp.trans (sortP_perm m).symm))
theorem orI_iff (x y a b : Int) : orI (Lib.compareInt x y) (Lib.compareInt a b) < 0 ↔ (x < y ∨ (x = y ∧ a < b)) := by
  unfold orI Lib.compareInt
  by_cases h1 : x < y
  · simp [h1]
  · by_cases h2 : y < x
    · have : x ≠ y := by omega
      simp [h1, h2, this]
    · have e : x = y := by omega
      subst e
      by_cases h3 : a < b
      · simp [h3]
      · by_cases h4 : b < a
        · simp [h3, h4]
        · simp [h3, h4]
section
variable (l : List (Int × Int)) (m : Nat)
def atL (i : Fin (m + 1)) : Int × Int := l.getD i.val (0, 0)
def cfQ (x y : Fin (m + 1)) : Int := orI (Lib.compareInt (atL l m x).2 (atL l m y).2) (Lib.compareInt (atL l m x).1 (atL l m y).1)
def encQ (x : Fin (m + 1)) : Value := .int .i64 (atL l m x).1
theorem ltQ (x y : Fin (m + 1)) : ltOf (cfQ l m) x y = decide ((atL l m x).2 < (atL l m y).2 ∨ ((atL l m x).2 = (atL l m y).2 ∧ (atL l m x).1 < (atL l m y).1)) := decide_eq_decide.2 (orI_iff _ _ _ _)
theorem swoQ : SWO (ltOf (cfQ l m)) where
  irrefl x := by rw [ltQ]; simp
  trans x y z h1 h2 := by
    rw [ltQ] at h1 h2 ⊢
    have a1 := of_decide_eq_true h1
    have a2 := of_decide_eq_true h2
    exact decide_eq_true (by omega)
  ntrans x y z h1 h2 := by
    rw [ltQ] at h1 h2 ⊢
    have a1 := of_decide_eq_false h1
    have a2 := of_decide_eq_false h2
    exact decide_eq_false (by omega)
variable {l m}
theorem atL_inj (hl : l.length = m + 1) (hn : (l.map (·.1)).Nodup) {x y : Fin (m + 1)} (h : (atL l m x).1 = (atL l m y).1) : x = y := by
  have hx : x.val < (l.map (·.1)).length := by rw [List.length_map]; omega
  have hy : y.val < (l.map (·.1)).length := by rw [List.length_map]; omega
  have e : ∀ z : Fin (m + 1), (l.map (·.1))[z.val]? = some (atL l m z).1 := fun z => by
    have hz : z.val < l.length := by omega
    unfold atL
    rw [List.getElem?_map, List.getElem?_eq_getElem hz, List.getD_eq_getElem?_getD, List.getElem?_eq_getElem hz]
    rfl
  have e2 : (l.map (·.1))[x.val]? = (l.map (·.1))[y.val]? := by rw [e x, e y, h]
  rw [List.getElem?_eq_getElem hx, List.getElem?_eq_getElem hy] at e2
  have e3 := Option.some.inj e2
  have hpw := List.pairwise_iff_getElem.1 hn
  rcases Nat.lt_trichotomy x.val y.val with h | h | h
  · exact absurd e3 (hpw x.val y.val hx hy h)
  · exact Fin.ext h
  · exact absurd e3.symm (hpw y.val x.val hy hx h)
theorem totQ (hl : l.length = m + 1) (hn : (l.map (·.1)).Nodup) (x y : Fin (m + 1)) (h1 : ltOf (cfQ l m) x y = false) (h2 : ltOf (cfQ l m) y x = false) : x = y := by
  rw [ltQ] at h1 h2
  have a1 := of_decide_eq_false h1
  have a2 := of_decide_eq_false h2
  exact atL_inj hl hn (by omega)
theorem finRange_map (hl : l.length = m + 1) : (List.finRange (m + 1)).map (atL l m) = l := by
  apply List.ext_getElem?
  intro i
  rw [List.getElem?_map]
  by_cases hi : i < m + 1
  · rw [List.getElem?_eq_getElem (by simpa using hi), List.getElem?_eq_getElem (by omega)]
    simp only [Option.map_some, Option.some.injEq, List.getElem_finRange]
    unfold atL
    rw [List.getD_eq_getElem?_getD]
    simp only [Fin.cast_mk]
    rw [List.getElem?_eq_getElem (by omega)]; rfl
  · rw [List.getElem?_eq_none (by simpa using hi), List.getElem?_eq_none (by omega)]; rfl
/-- What the keys that came are, as places. -/
theorem places (hl : l.length = m + 1) {ss : List Int} (hp : ss.Perm (l.map (·.1))) : ∃ d : List (Fin (m + 1)), d.map (fun i => (atL l m i).1) = ss ∧ (d.map (atL l m)).Perm l := by
  have h1 : ss.Perm ((List.finRange (m + 1)).map (fun i => (atL l m i).1)) := by
    have := finRange_map (l := l) (m := m) hl
    rw [show (fun i => (atL l m i).1) = (fun p : Int × Int => p.1) ∘ atL l m from rfl, ← List.map_map, this]
    exact hp
  have key : ∀ (xs : List (Fin (m + 1))) (ys : List Int), ys.Perm (xs.map (fun i => (atL l m i).1)) → ∃ d : List (Fin (m + 1)), d.map (fun i => (atL l m i).1) = ys ∧ d.Perm xs := by
    intro xs ys h
    generalize hz : xs.map (fun i => (atL l m i).1) = zs at h
    induction h generalizing xs with
    | nil => exact ⟨[], rfl, by rw [List.map_eq_nil_iff.1 hz]⟩
    | cons x _ ih =>
      obtain ⟨y, r, rfl, hy, hr⟩ := List.map_eq_cons_iff.1 hz
      obtain ⟨d, h1, h2⟩ := ih r hr
      exact ⟨y :: d, by rw [List.map_cons, h1, hy], h2.cons y⟩
    | swap x y t =>
      obtain ⟨u, r, rfl, hu, hr⟩ := List.map_eq_cons_iff.1 hz
      obtain ⟨v, r2, rfl, hv, hr2⟩ := List.map_eq_cons_iff.1 hr
      exact ⟨v :: u :: r2, by rw [List.map_cons, List.map_cons, hu, hv, hr2], List.Perm.swap u v r2⟩
    | trans _ _ ih1 ih2 =>
      obtain ⟨d, h1, h2⟩ := ih2 xs hz
      obtain ⟨d2, h3, h4⟩ := ih1 d h1
      exact ⟨d2, h3, h4.trans h2⟩
  obtain ⟨d, h2, h3⟩ := key _ _ h1
  refine ⟨d, h2, ?_⟩
  have := h3.map (atL l m)
  rwa [finRange_map hl] at this
theorem sort_places {d : List (Fin (m + 1))} (hd : (d.map (atL l m)).Perm l) : (d.mergeSort fun x y => !(ltOf (cfQ l m) y x)).map (fun i => (atL l m i).1) = listP l := by
  have h : (d.mergeSort fun x y => !(ltOf (cfQ l m) y x)).map (atL l m) = (d.map (atL l m)).mergeSort leQ := List.map_mergeSort fun a _ b _ => by
    rw [ltQ]
    unfold leQ
    rw [Bool.eq_iff_iff]
    simp only [Bool.not_eq_true', decide_eq_false_iff_not, decide_eq_true_eq]
    omega
  unfold listP
  rw [show (fun i => (atL l m i).1) = (fun p : Int × Int => p.1) ∘ atL l m from rfl, ← List.map_map, h]
  exact congrArg (List.map (·.1)) (sortP_congr hd)
end
end Go.Proofs.Ytnkgbnipcjgjeaa
