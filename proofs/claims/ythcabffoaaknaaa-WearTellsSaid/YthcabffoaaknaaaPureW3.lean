import Derived.Test.YthcabffoaaknaaaQWx3
import Derived.Test.YthcabffoaaknaaaPureW2
import Derived.Test.YthcabffoaaknaaaOfB
namespace Go.Proofs.Ythcabffoaaknaaa
open Go.RowKit Go.Proofs.Ythcabffoaaknaaa.QW Go.Proofs.YthcabffoaaknaaaW.PrintWords Go.Proofs.YthcabffoaaknaaaW.PrintLast Go.Proofs.YthcabffoaaknaaaW.PrintMore
set_option linter.unusedVariables false
/-! median -/
theorem rank_at' (l : List Int) (m i : Nat) (hm : l.length = m + 1) (hi : i < m + 1) : ∃ a : Nat, (rankN l (m + 1)).getD i 0 = (a : Int) ∧ a < m + 1 ∧ l.getD a 0 = (sortL l).getD i 0 := by
  have hlen := rank_len l m
  refine ⟨((rankF l m)[i]).val, ?_, ((rankF l m)[i]).isLt, ?_⟩
  · show ((rankF l m).map fun x => (x.val : Int)).getD i 0 = _
    rw [List.getD_eq_getElem?_getD, List.getElem?_map, List.getElem?_eq_getElem (by omega)]
    rfl
  · rw [← rank_sorted l m hm, List.getD_eq_getElem?_getD (l := List.map _ _), List.getElem?_map, List.getElem?_eq_getElem (by omega)]
    rfl
theorem median_f (l : List Int) (m : Nat) (hm : l.length = m + 1) (hl : l.length ≤ 1000) (hmv : mayV l = 0) : wear_Median.f l = some ((sortL l).getD (m / 2) 0, 0) := by
  have hr : wear_Rank.f l = some (rankN l (m + 1), 0) := by unfold wear_Rank.f rankL; rw [if_pos hl, if_pos hmv, hm]
  have hlen : (rankN l (m + 1)).length = m + 1 := by show ((rankF l m).map _).length = _; rw [List.length_map, rank_len]
  obtain ⟨a, ha, ha1, ha2⟩ := rank_at' l m (m / 2) hm (by omega)
  have hw : wrap64 ((l.length : Int) - 1) = (m : Int) := by rw [IntWalk.wrap64_in _ (by omega)]; omega
  have hw2 : wrap64 (Int.tdiv (m : Int) 2) = ((m / 2 : Nat) : Int) := by
    have e : Int.tdiv (m : Int) 2 = ((m / 2 : Nat) : Int) := by
      rw [Int.tdiv_eq_ediv_of_nonneg (by omega)]; omega
    rw [e, IntWalk.wrap64_in _ (by omega)]
  unfold wear_Median.f
  rw [hr, Option.bind_some, if_pos rfl, hw, hw2, hlen, if_pos (by omega), if_pos (by omega), rd_nat, ha, if_pos (by omega), if_pos (by omega), rd_nat, ha2]
def cntLt (m : Int) : List Int → Int
  | [] => 0
  | x :: xs => (if x < m then 1 else 0) + cntLt m xs
def cntGt (m : Int) : List Int → Int
  | [] => 0
  | x :: xs => (if x > m then 1 else 0) + cntGt m xs
theorem cntLt_perm (m : Int) {l l' : List Int} (h : l.Perm l') : cntLt m l = cntLt m l' := by
  induction h with
  | nil => rfl
  | cons x _ ih => simp only [cntLt, ih]
  | swap x y l => simp only [cntLt]; omega
  | trans _ _ h1 h2 => exact h1.trans h2
theorem cntGt_perm (m : Int) {l l' : List Int} (h : l.Perm l') : cntGt m l = cntGt m l' := by
  induction h with
  | nil => rfl
  | cons x _ ih => simp only [cntGt, ih]
  | swap x y l => simp only [cntGt]; omega
  | trans _ _ h1 h2 => exact h1.trans h2
theorem cntLt_bd (m : Int) : ∀ l, 0 ≤ cntLt m l ∧ cntLt m l ≤ l.length
  | [] => by simp [cntLt]
  | x :: xs => by
    have := cntLt_bd m xs
    simp only [cntLt, List.length_cons]
    split <;> omega
theorem cntGt_bd (m : Int) : ∀ l, 0 ≤ cntGt m l ∧ cntGt m l ≤ l.length
  | [] => by simp [cntGt]
  | x :: xs => by
    have := cntGt_bd m xs
    simp only [cntGt, List.length_cons]
    split <;> omega
theorem cntLt_app (m : Int) : ∀ a b, cntLt m (a ++ b) = cntLt m a + cntLt m b
  | [], b => by simp [cntLt]
  | x :: xs, b => by simp only [List.cons_append, cntLt, cntLt_app m xs b]; omega
theorem cntGt_app (m : Int) : ∀ a b, cntGt m (a ++ b) = cntGt m a + cntGt m b
  | [], b => by simp [cntGt]
  | x :: xs, b => by simp only [List.cons_append, cntGt, cntGt_app m xs b]; omega
theorem cntLt_none (m : Int) : ∀ l : List Int, (∀ x ∈ l, m ≤ x) → cntLt m l = 0
  | [], _ => rfl
  | x :: xs, h => by
    have h1 := h x (List.mem_cons_self ..)
    simp only [cntLt, cntLt_none m xs (fun y hy => h y (List.mem_cons_of_mem _ hy))]
    rw [if_neg (by omega)]; rfl
theorem cntGt_none (m : Int) : ∀ l : List Int, (∀ x ∈ l, x ≤ m) → cntGt m l = 0
  | [], _ => rfl
  | x :: xs, h => by
    have h1 := h x (List.mem_cons_self ..)
    simp only [cntGt, cntGt_none m xs (fun y hy => h y (List.mem_cons_of_mem _ hy))]
    rw [if_neg (by omega)]; rfl
theorem rises_le {s : List Int} (h : s.Pairwise (· ≤ ·)) {i j : Nat} (hij : i ≤ j) (hj : j < s.length) : s.getD i 0 ≤ s.getD j 0 := by
  rw [List.getD_eq_getElem?_getD, List.getD_eq_getElem?_getD, List.getElem?_eq_getElem (by omega), List.getElem?_eq_getElem hj]
  show s[i] ≤ s[j]
  rcases Nat.lt_or_ge i j with c | c
  · exact (List.pairwise_iff_getElem.1 h) i j (by omega) hj c
  · have : i = j := by omega
    subst this
    exact Int.le_refl _
theorem mem_drop_getD {s : List Int} {h : Nat} {x : Int} (hx : x ∈ s.drop h) : ∃ j, h ≤ j ∧ j < s.length ∧ x = s.getD j 0 := by
  obtain ⟨i, hi, rfl⟩ := List.mem_iff_getElem.1 hx
  have hi' : h + i < s.length := by rw [List.length_drop] at hi; omega
  refine ⟨h + i, by omega, hi', ?_⟩
  rw [List.getD_eq_getElem?_getD, List.getElem?_eq_getElem hi', List.getElem_drop]; rfl
theorem mem_take_getD {s : List Int} {h : Nat} {x : Int} (hx : x ∈ s.take h) : ∃ j, j < h ∧ j < s.length ∧ x = s.getD j 0 := by
  obtain ⟨i, hi, rfl⟩ := List.mem_iff_getElem.1 hx
  rw [List.length_take] at hi
  refine ⟨i, by omega, by omega, ?_⟩
  rw [List.getD_eq_getElem?_getD, List.getElem?_eq_getElem (by omega), List.getElem_take]; rfl
theorem below_half (l : List Int) (m : Nat) (hm : l.length = m + 1) : 2 * cntLt ((sortL l).getD (m / 2) 0) l ≤ l.length ∧ 2 * cntGt ((sortL l).getD (m / 2) 0) l ≤ l.length := by
  have hs := sortL_rises l
  have hlen := sort_len l
  rw [cntLt_perm _ (sortL_perm l).symm, cntGt_perm _ (sortL_perm l).symm]
  generalize sortL l = s at hs hlen ⊢
  constructor
  · have e := cntLt_app (s.getD (m / 2) 0) (s.take (m / 2)) (s.drop (m / 2))
    rw [List.take_append_drop] at e
    have e2 := cntLt_none (s.getD (m / 2) 0) (s.drop (m / 2)) (fun x hx => by
      obtain ⟨j, h1, h2, rfl⟩ := mem_drop_getD hx
      exact rises_le hs h1 h2)
    have e3 := (cntLt_bd (s.getD (m / 2) 0) (s.take (m / 2))).2
    rw [List.length_take] at e3
    omega
  · have e := cntGt_app (s.getD (m / 2) 0) (s.take (m / 2 + 1)) (s.drop (m / 2 + 1))
    rw [List.take_append_drop] at e
    have e2 := cntGt_none (s.getD (m / 2) 0) (s.take (m / 2 + 1)) (fun x hx => by
      obtain ⟨j, h1, h2, rfl⟩ := mem_take_getD hx
      exact rises_le hs (by omega) (by omega))
    have e3 := (cntGt_bd (s.getD (m / 2) 0) (s.drop (m / 2 + 1))).2
    rw [List.length_drop] at e3
    omega
/-! bars -/
theorem sumI_add (f g : Nat → Int) : ∀ L : List Nat, sumI (L.map fun j => f j + g j) = sumI (L.map f) + sumI (L.map g)
  | [] => rfl
  | x :: xs => by simp only [List.map_cons, sumI, sumI_add f g xs]; omega
theorem sumI_app : ∀ a b : List Int, sumI (a ++ b) = sumI a + sumI b
  | [], b => by simp [sumI]
  | x :: xs, b => by simp only [List.cons_append, sumI, sumI_app xs b]; omega
theorem sumI_zero : ∀ L : List Nat, sumI (L.map fun _ => (0 : Int)) = 0
  | [] => rfl
  | x :: xs => by simp only [List.map_cons, sumI, sumI_zero xs]; rfl
theorem sumI_one (t : Int) : ∀ N : Nat, sumI ((List.range N).map fun (j : Nat) => if t = (j : Int) then (1 : Int) else 0) = if 0 ≤ t ∧ t < N then 1 else 0
  | 0 => by rw [if_neg (by omega)]; rfl
  | N + 1 => by
    rw [List.range_succ, List.map_append, sumI_app, sumI_one t N]
    simp only [List.map_cons, List.map_nil, sumI]
    split <;> split <;> split <;> omega
theorem cntL_cons (lo x : Int) (xs : List Int) (j : Nat) : cntL lo (x :: xs) j = (if x - lo = (j : Int) then (1 : Int) else 0) + cntL lo xs j := by
  unfold cntL
  rw [List.countP_cons]
  by_cases c : x - lo = (j : Int)
  · rw [if_pos c, if_pos (decide_eq_true c)]; omega
  · rw [if_neg c, if_neg (by simp [c])]; omega
theorem bars_sum (lo : Int) (N : Nat) : ∀ l : List Int, (∀ x ∈ l, 0 ≤ x - lo ∧ x - lo < N) → sumI ((List.range N).map (cntL lo l)) = l.length
  | [], _ => by
    rw [show cntL lo [] = fun _ => (0 : Int) from funext fun j => cnt_nil lo j, sumI_zero]; rfl
  | x :: xs, h => by
    have h1 := h x (List.mem_cons_self ..)
    rw [show cntL lo (x :: xs) = fun (j : Nat) => (if x - lo = (j : Int) then (1 : Int) else 0) + cntL lo xs j from funext fun j => cntL_cons lo x xs j, sumI_add, sumI_one, if_pos h1, bars_sum lo N xs (fun y hy => h y (List.mem_cons_of_mem _ hy)), List.length_cons]
    omega
/-! spread and squares, shifted -/
theorem spread_f (l : List Int) (hl : l.length ≤ 1000) (hmv : mayV l = 0) : wear_Spread.f l = some (maxL l - minL l, 0) := by
  obtain ⟨hok, hp⟩ := mayV_okN hmv
  have h1 := hok _ (minL_spec hp).1
  have h2 := hok _ (maxL_spec hp).1
  have e1 : slices_Max_int_int.f l = some (maxL l) := by unfold slices_Max_int_int.f; rw [if_pos ⟨hp, hl⟩]
  have e2 : slices_Min_int_int.f l = some (minL l) := by unfold slices_Min_int_int.f; rw [if_pos ⟨hp, hl⟩]
  unfold wear_Spread.f
  rw [may_some hl, hmv, Option.bind_some, if_pos rfl, e1, Option.bind_some, e2, Option.bind_some, IntWalk.wrap64_in _ (by omega)]
theorem mayV_of {l : List Int} (h : okN l) (hp : 0 < l.length) : mayV l = 0 := by
  unfold mayV
  rw [if_neg, if_neg]
  · intro e; subst e; simp at hp
  · intro ha
    obtain ⟨x, hx, hb⟩ := List.any_eq_true.1 ha
    have := h x hx
    unfold badN at hb
    simp only [Bool.or_eq_true, decide_eq_true_eq] at hb
    omega
theorem max_shift {l : List Int} (hp : 0 < l.length) (a : Int) : maxL (l.map (· + a)) = maxL l + a := by
  have hp' : 0 < (l.map (· + a)).length := by simpa using hp
  have h1 := maxL_spec hp
  have h2 := maxL_spec hp'
  have h3 := h2.2 (maxL l + a) (List.mem_map.2 ⟨_, h1.1, rfl⟩)
  obtain ⟨y, hy, e⟩ := List.mem_map.1 h2.1
  have h4 := h1.2 y hy
  omega
theorem min_shift {l : List Int} (hp : 0 < l.length) (a : Int) : minL (l.map (· + a)) = minL l + a := by
  have hp' : 0 < (l.map (· + a)).length := by simpa using hp
  have h1 := minL_spec hp
  have h2 := minL_spec hp'
  have h3 := h2.2 (minL l + a) (List.mem_map.2 ⟨_, h1.1, rfl⟩)
  obtain ⟨y, hy, e⟩ := List.mem_map.1 h2.1
  have h4 := h1.2 y hy
  omega
theorem sum_shift (a : Int) : ∀ l : List Int, sumI (l.map (· + a)) = sumI l + l.length * a
  | [] => by simp [sumI]
  | x :: xs => by
    simp only [List.map_cons, sumI, sum_shift a xs, List.length_cons]
    have : ((xs.length + 1 : Nat) : Int) * a = xs.length * a + a := by rw [Int.natCast_add, Int.add_mul]; simp
    omega
theorem sq_shift (n S a : Int) : ∀ (l : List Int) (out : Int), sqL n (S + n * a) out (l.map (· + a)) = sqL n S out l
  | [], out => rfl
  | x :: xs, out => by
    have e : n * (x + a) - (S + n * a) = n * x - S := by rw [Int.mul_add]; omega
    simp only [List.map_cons, sqL, e, sq_shift n S a xs]
theorem sum_rep (a : Int) : ∀ n : Nat, sumI (List.replicate n a) = n * a
  | 0 => by simp [sumI]
  | n + 1 => by
    rw [List.replicate_succ, sumI, sum_rep a n, Int.natCast_add, Int.add_mul]
    simp; omega
theorem sq_rep (n a : Int) : ∀ (k : Nat), sqL n (n * a) 0 (List.replicate k a) = (0, 0)
  | 0 => rfl
  | k + 1 => by
    rw [List.replicate_succ, sqL]
    have e : n * a - n * a = 0 := Int.sub_self _
    rw [e]
    have := sq_rep n a k
    simp only [absI]
    simpa using this
end Go.Proofs.Ythcabffoaaknaaa
