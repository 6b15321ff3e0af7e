import Derived.Test.YtlhfefchdhbdpaaPureQ1
namespace Go.Proofs.Ytlhfefchdhbdpaa
open Go.RowKit Go.Proofs.Ytlhfefchdhbdpaa.QW Go.Proofs.YtlhfefchdhbdpaaW.PrintWords Go.Proofs.YtlhfefchdhbdpaaW.PrintLast Go.Proofs.YtlhfefchdhbdpaaW.PrintMore
set_option linter.unusedVariables false
def toI (ks : List Nat) : List Int := ks.map fun j : Nat => (j : Int)
theorem toI_len (ks : List Nat) : (toI ks).length = ks.length := List.length_map ..
theorem toI_app (a b : List Nat) : toI (a ++ b) = toI a ++ toI b := List.map_append ..
theorem rd_toI (ks : List Nat) (j : Nat) (h : j < ks.length) : rd (toI ks) (j : Int) = ((ks[j]'h : Nat) : Int) := by
  show (toI ks).getD (j : Int).toNat 0 = _
  unfold toI
  rw [Int.toNat_natCast, List.getD_eq_getElem?_getD, List.getElem?_map, List.getElem?_eq_getElem h]; rfl
/-- What the inner loop leaves of the places from j on. -/
def restB (l : List S36) (i : Nat) (done : Bool) (xs : List Nat) : List Nat := if done then xs else insB l i xs
theorem insB_len (l : List S36) (i : Nat) (xs : List Nat) : (insB l i xs).length = xs.length + 1 := by
  have := (insB_perm l i xs).length_eq
  simpa using this
theorem ins_ev (l : List S36) (hl : l.length ≤ 1000) (i : Nat) (hi : i < l.length) (ks : List Nat) (hk : ∀ x ∈ ks, x < l.length) (hkl : ks.length ≤ 1000) {r : List Int × Int} (H : EvL (fun k => incunableref47_Better.l1 k l (toI (insB l i ks)) ((i + 1 : Nat) : Int)) r) :
    ∀ (d j : Nat) (pre : List Nat) (done : Bool), j + d = ks.length → pre ++ restB l i done (ks.drop j) = insB l i ks → EvL (fun k => incunableref47_Better.l2 k l (toI ks) (i : Int) (toI pre) done (j : Int)) r := by
  intro d
  have hbig : ∀ (pre rest : List Nat), pre ++ rest = insB l i ks → (toI pre).length < 17592186044416 := fun pre rest h => by
    have := congrArg List.length h
    rw [List.length_append, insB_len] at this
    rw [toI_len]; omega
  induction d with
  | zero =>
    intro j pre done hj hp
    obtain rfl : j = ks.length := by omega
    rw [List.drop_length] at hp
    have hb := hbig _ _ hp
    cases done with
    | true =>
      have hp' : pre = insB l i ks := by simpa [restB] using hp
      refine EvL.step (h := fun k => incunableref47_Better.l1 k l (toI pre) ((i + 1 : Nat) : Int)) (fun k => ?_) (by rw [hp']; exact H)
      simp only [incunableref47_Better.l2]
      rw [if_neg (by rw [toI_len]; omega), if_pos trivial, w_succ i (by omega)]
    | false =>
      have hp' : pre ++ [i] = insB l i ks := by simpa [restB, insB] using hp
      refine EvL.step (h := fun k => incunableref47_Better.l1 k l (toI (pre ++ [i])) ((i + 1 : Nat) : Int)) (fun k => ?_) (by rw [hp']; exact H)
      simp only [incunableref47_Better.l2]
      rw [if_neg (by rw [toI_len]; omega), if_neg (by decide), if_pos hb, w_succ i (by omega), toI_app]
      rfl
  | succ d ih =>
    intro j pre done hj hp
    have hjk : j < ks.length := by omega
    have hb := hbig _ _ hp
    have hdr : ks.drop j = ks[j] :: ks.drop (j + 1) := List.drop_eq_getElem_cons hjk
    cases done with
    | true =>
      have hp2 : (pre ++ [ks[j]]) ++ restB l i true (ks.drop (j + 1)) = insB l i ks := by
        rw [← hp, hdr]; simp [restB]
      refine EvL.step (h := fun k => incunableref47_Better.l2 k l (toI ks) (i : Int) (toI (pre ++ [ks[j]])) true ((j + 1 : Nat) : Int)) (fun k => ?_) (ih (j + 1) _ true (by omega) hp2)
      simp only [incunableref47_Better.l2]
      rw [if_pos (by rw [toI_len]; omega), if_pos trivial, if_pos (by omega), if_pos hb, w_succ j (by omega), toI_app, rd_toI ks j hjk]
      rfl
    | false =>
      have hkj : ks[j] < l.length := hk _ (List.getElem_mem hjk)
      obtain ⟨k1, h1⟩ := rbef_f l hl i ks[j] hi hkj
      have hne : (false = true) = False := by simp
      by_cases hbf : bef l i ks[j]
      · have hp2 : (pre ++ [i] ++ [ks[j]]) ++ restB l i true (ks.drop (j + 1)) = insB l i ks := by
          rw [← hp, hdr]
          simp [restB, insB, hbf]
        have hb2 := hbig (pre ++ [i]) _ (by rw [List.append_assoc] at hp2; exact hp2)
        obtain ⟨k2, h2⟩ := ih (j + 1) _ true (by omega) hp2
        refine ⟨max k1 k2 + 1, fun k hk' => ?_⟩
        obtain ⟨m, rfl⟩ : ∃ m, k = m + 1 := ⟨k - 1, by omega⟩
        show incunableref47_Better.l2 (m + 1) l (toI ks) (i : Int) (toI pre) false (j : Int) = _
        simp only [incunableref47_Better.l2]
        rw [if_pos (by rw [toI_len]; omega), if_neg (by decide), if_pos (by omega), rd_toI ks j hjk, show incunableref47_Before.f m l (i : Int) (ks[j] : Int) = _ from h1 m (by omega), Option.bind_some, if_pos (decide_eq_true hbf), if_pos hb, Option.bind_some,
          if_pos (by rw [toI_app] at hb2; exact hb2), w_succ j (by omega)]
        have := h2 m (by omega)
        rw [toI_app, toI_app] at this
        exact this
      · have hp2 : (pre ++ [ks[j]]) ++ restB l i false (ks.drop (j + 1)) = insB l i ks := by
          rw [← hp, hdr]
          simp [restB, insB, hbf]
        obtain ⟨k2, h2⟩ := ih (j + 1) _ false (by omega) hp2
        refine ⟨max k1 k2 + 1, fun k hk' => ?_⟩
        obtain ⟨m, rfl⟩ : ∃ m, k = m + 1 := ⟨k - 1, by omega⟩
        show incunableref47_Better.l2 (m + 1) l (toI ks) (i : Int) (toI pre) false (j : Int) = _
        simp only [incunableref47_Better.l2]
        rw [if_pos (by rw [toI_len]; omega), if_neg (by decide), if_pos (by omega), rd_toI ks j hjk, show incunableref47_Before.f m l (i : Int) (ks[j] : Int) = _ from h1 m (by omega), Option.bind_some, if_neg (by simpa using hbf), if_pos hb, w_succ j (by omega)]
        have := h2 m (by omega)
        rw [toI_app] at this
        exact this
theorem all_ev (l : List S36) (hl : l.length ≤ 1000) : ∀ (d i : Nat) (ks : List Nat), i + d = l.length → (∀ x ∈ ks, x < l.length) → ks.length ≤ i → EvL (fun k => incunableref47_Better.l1 k l (toI ks) (i : Int)) (toI (insAll l d i ks), 0) := by
  intro d
  induction d with
  | zero =>
    intro i ks hd hk hkl
    refine EvL.step (h := fun _ => some (toI ks, 0)) (fun k => ?_) EvL.const
    simp only [incunableref47_Better.l1]
    rw [if_neg (by omega)]
  | succ d ih =>
    intro i ks hd hk hkl
    have hi : i < l.length := by omega
    obtain ⟨k1, h1⟩ := rcov_f l hl i hi
    cases hc : covA l i with
    | true =>
      rw [hc] at h1
      obtain ⟨k2, h2⟩ := ih (i + 1) ks (by omega) hk (by omega)
      have e : insAll l (d + 1) i ks = insAll l d (i + 1) ks := by show (if covA l i then _ else _) = _; rw [hc]; rfl
      rw [e]
      refine ⟨max k1 k2 + 1, fun k hk' => ?_⟩
      obtain ⟨m, rfl⟩ : ∃ m, k = m + 1 := ⟨k - 1, by omega⟩
      show incunableref47_Better.l1 (m + 1) l (toI ks) (i : Int) = _
      simp only [incunableref47_Better.l1]
      rw [if_pos (by omega), show incunableref47_Covered.f m l (i : Int) = _ from h1 m (by omega), Option.bind_some, if_pos rfl, w_succ i (by omega)]
      exact h2 m (by omega)
    | false =>
      rw [hc] at h1
      have e : insAll l (d + 1) i ks = insAll l d (i + 1) (insB l i ks) := by show (if covA l i then _ else _) = _; rw [hc]; rfl
      have hI := ih (i + 1) (insB l i ks) (by omega) (fun x hx => by
        rcases List.mem_cons.1 ((insB_perm l i ks).mem_iff.1 hx) with rfl | hx
        · exact hi
        · exact hk x hx) (by rw [insB_len]; omega)
      obtain ⟨k2, h2⟩ := ins_ev l hl i hi ks hk (by omega) hI ks.length 0 [] false (by omega) (by simp [restB])
      rw [e]
      refine ⟨max k1 k2 + 1, fun k hk' => ?_⟩
      obtain ⟨m, rfl⟩ : ∃ m, k = m + 1 := ⟨k - 1, by omega⟩
      show incunableref47_Better.l1 (m + 1) l (toI ks) (i : Int) = _
      simp only [incunableref47_Better.l1]
      rw [if_pos (by omega), show incunableref47_Covered.f m l (i : Int) = _ from h1 m (by omega), Option.bind_some, if_neg (by decide)]
      exact h2 m (by omega)
def betR (l : List S36) : List Int × Int := if anyWrong l = true then ([], 2) else (toI (insAll l l.length 0 []), 0)
theorem wrong_from (l : List S36) (i : Nat) (hi : i < l.length) (h : rightV (l.getD i z36).f0 (l.getD i z36).f1 (l.getD i z36).f2.length = false) : anyWrong l = true := by
  unfold anyWrong
  have := wrongAt_ge l l.length 0 (by omega)
  refine decide_eq_true ?_
  by_cases hlt : wrongAt l l.length 0 < 0
  · have := this.2.1 hlt i (by omega) (by omega)
    rw [h] at this; cases this
  · omega
theorem right_all (l : List S36) (h : ∀ j, j < l.length → rightV (l.getD j z36).f0 (l.getD j z36).f1 (l.getD j z36).f2.length = true) : anyWrong l = false := by
  unfold anyWrong
  have := wrongAt_ge l l.length 0 (by omega)
  refine decide_eq_false ?_
  have h2 := this.2.2 (fun j h1 h2 => h j (by omega))
  omega
theorem rbet_ev (l : List S36) (hl : l.length ≤ 1000) : ∀ (d i : Nat), i + d = l.length → (∀ j, j < i → rightV (l.getD j z36).f0 (l.getD j z36).f1 (l.getD j z36).f2.length = true) → EvL (fun k => incunableref47_Better.l0 k l (i : Int)) (betR l) := by
  intro d
  induction d with
  | zero =>
    intro i hd hr
    have hok : anyWrong l = false := right_all l (fun j hj => hr j (by omega))
    unfold betR
    rw [hok, if_neg (by decide)]
    refine EvL.step (h := fun k => incunableref47_Better.l1 k l (toI []) ((0 : Nat) : Int)) (fun k => ?_) (all_ev l hl l.length 0 [] (by omega) (fun x hx => by simp at hx) (Nat.le_refl _))
    simp only [incunableref47_Better.l0]
    rw [if_neg (by omega)]
    rfl
  | succ d ih =>
    intro i hd hr
    have hi : i < l.length := by omega
    obtain ⟨k1, h1⟩ := rright_f (l.getD i z36).f0 (l.getD i z36).f1 (l.getD i z36).f2
    cases hv : rightV (l.getD i z36).f0 (l.getD i z36).f1 (l.getD i z36).f2.length with
    | true =>
      rw [hv] at h1
      obtain ⟨k2, h2⟩ := ih (i + 1) (by omega) (fun j hj => by
        by_cases e : j = i
        · rw [e]; exact hv
        · exact hr j (by omega))
      refine ⟨max k1 k2 + 1, fun k hk' => ?_⟩
      obtain ⟨m, rfl⟩ : ∃ m, k = m + 1 := ⟨k - 1, by omega⟩
      show incunableref47_Better.l0 (m + 1) l (i : Int) = _
      simp only [incunableref47_Better.l0]
      rw [if_pos (by omega), if_pos (by omega), rd36, show incunableref34_Right.f m _ _ _ = _ from h1 m (by omega), Option.bind_some, if_pos rfl, w_succ i (by omega)]
      exact h2 m (by omega)
    | false =>
      rw [hv] at h1
      have hw := wrong_from l i hi hv
      refine ⟨k1 + 1, fun k hk' => ?_⟩
      obtain ⟨m, rfl⟩ : ∃ m, k = m + 1 := ⟨k - 1, by omega⟩
      show incunableref47_Better.l0 (m + 1) l (i : Int) = _
      simp only [incunableref47_Better.l0]
      rw [if_pos (by omega), if_pos (by omega), rd36, show incunableref34_Right.f m _ _ _ = _ from h1 m (by omega), Option.bind_some, if_neg (by decide)]
      unfold betR
      rw [hw, if_pos rfl]
theorem rbet_f (l : List S36) (hl : l.length ≤ 1000) : EvL (fun k => incunableref47_Better.f k l) (betR l) := rbet_ev l hl l.length 0 (by omega) (fun j hj => by omega)
theorem bet_f (l : List S36) (hl : l.length ≤ 1000) : queue_Better.f l = some (betR l) := by
  unfold queue_Better.f betR
  rw [if_pos hl]
  have h := betL_cast l l.length 0 0 []
  rw [bet_ins] at h
  by_cases hw : anyWrong l = true
  · rw [if_pos hw, if_pos hw]
  · rw [if_neg hw, if_neg hw]
    show some (betL l l.length 0 0 [], (0 : Int)) = _
    rw [show betL l l.length 0 0 [] = _ from h]
    rfl
/-- The places that are covered. -/
def covL (l : List S36) : Nat → Nat → List Int
  | 0, _ => []
  | d + 1, i => (if covA l i then [(i : Int)] else []) ++ covL l d (i + 1)
theorem covL_len (l : List S36) : ∀ d i, (covL l d i).length ≤ d
  | 0, _ => Nat.le_refl _
  | d + 1, i => by
    have := covL_len l d (i + 1)
    unfold covL
    rw [List.length_append]
    split <;> simp <;> omega
theorem qcov_ev (l : List S36) (hl : l.length ≤ 1000) : ∀ (d i : Nat) (acc : List Int), i + d = l.length → acc.length ≤ i → EvL (fun k => queue_Covered.l0 k l acc l (l.length : Int) (i : Int)) (acc ++ covL l d i) := by
  intro d
  induction d with
  | zero =>
    intro i acc hd ha
    refine EvL.step (h := fun _ => some (acc ++ covL l 0 i)) (fun k => ?_) EvL.const
    simp only [queue_Covered.l0, covL, List.append_nil]
    rw [if_neg (by omega)]
  | succ d ih =>
    intro i acc hd ha
    have hi : i < l.length := by omega
    have hc : queue_covered.f (l.getD i z36).f0 (l.getD i z36).f1 (l.getD i z36).f2 (l.drop (i + 1)) = some (covA l i) := by
      unfold queue_covered.f covA
      rw [if_pos (by rw [List.length_drop]; omega)]
    have hstep : ∀ k, queue_Covered.l0 (k + 1) l acc l (l.length : Int) (i : Int) = if covA l i = true then queue_Covered.l0 k l (acc ++ [(i : Int)]) l (l.length : Int) ((i + 1 : Nat) : Int) else queue_Covered.l0 k l acc l (l.length : Int) ((i + 1 : Nat) : Int) := fun k => by
      simp only [queue_Covered.l0]
      rw [if_pos (by omega), if_pos (by omega), if_pos (by omega), w_succ i (by omega), if_pos (by omega), if_pos (by omega), rd36, Int.toNat_natCast, hc, Option.bind_some]
      cases covA l i
      · rfl
      · rw [if_pos rfl, if_pos (by omega), if_pos rfl]
    unfold covL
    cases hv : covA l i with
    | true =>
      refine EvL.step (h := fun k => queue_Covered.l0 k l (acc ++ [(i : Int)]) l (l.length : Int) ((i + 1 : Nat) : Int)) (fun k => by rw [hstep, hv, if_pos rfl]) ?_
      have := ih (i + 1) (acc ++ [(i : Int)]) (by omega) (by simp; omega)
      rw [List.append_assoc] at this
      exact this
    | false =>
      refine EvL.step (h := fun k => queue_Covered.l0 k l acc l (l.length : Int) ((i + 1 : Nat) : Int)) (fun k => by rw [hstep, hv, if_neg (by decide)]) ?_
      exact ih (i + 1) acc (by omega) (by omega)
theorem qcov_f (l : List S36) (hl : l.length ≤ 1000) : EvL (fun k => queue_Covered.f k l) (covL l l.length 0) := qcov_ev l hl l.length 0 [] (by omega) (Nat.le_refl _)
theorem ints_ev (xs : List Int) (hl : xs.length ≤ 100000) : ∀ (d i : Nat), i + d = xs.length → EvL (fun k => incunableref01_Ints.l0 k xs xs (i : Int)) true := by
  intro d
  induction d with
  | zero =>
    intro i hd
    refine EvL.step (h := fun _ => some true) (fun k => ?_) EvL.const
    simp only [incunableref01_Ints.l0]
    rw [if_neg (by omega)]
  | succ d ih =>
    intro i hd
    refine EvL.step (h := fun k => incunableref01_Ints.l0 k xs xs ((i + 1 : Nat) : Int)) (fun k => ?_) (ih (i + 1) (by omega))
    simp only [incunableref01_Ints.l0]
    rw [if_pos (by omega), if_pos (by omega), if_pos (by omega), if_pos trivial, w_succ i (by omega)]
theorem ints_same (xs : List Int) (hl : xs.length ≤ 100000) : EvL (fun k => incunableref01_Ints.f k xs xs) true := by
  obtain ⟨k0, h0⟩ := ints_ev xs hl xs.length 0 (by omega)
  refine ⟨k0, fun k hk => ?_⟩
  show incunableref01_Ints.f k xs xs = _
  unfold incunableref01_Ints.f
  rw [if_pos rfl]
  exact h0 k hk
theorem law_ev (l : List S36) (hl : l.length ≤ 1000) (bs : List Int) (hb : bs.length ≤ 100000) (c : Int) : ∀ (d i : Nat) (acc : List Int), i + d = l.length → acc.length ≤ i → acc ++ covL l d i = covL l l.length 0 →
    EvL (fun k => incunablelaw47_QueueOrders.l0 k l bs c bs c acc (l.length : Int) (i : Int)) true := by
  intro d
  induction d with
  | zero =>
    intro i acc hd ha hacc
    have hacc' : acc = covL l l.length 0 := by rw [← hacc]; simp [covL]
    subst hacc'
    obtain ⟨k1, h1⟩ := ints_same bs hb
    obtain ⟨k2, h2⟩ := qcov_f l hl
    obtain ⟨k3, h3⟩ := ints_same (covL l l.length 0) (by have := covL_len l l.length 0; omega)
    refine ⟨max k1 (max k2 k3) + 1, fun k hk' => ?_⟩
    obtain ⟨m, rfl⟩ : ∃ m, k = m + 1 := ⟨k - 1, by omega⟩
    show incunablelaw47_QueueOrders.l0 (m + 1) l bs c bs c _ (l.length : Int) (i : Int) = _
    simp only [incunablelaw47_QueueOrders.l0]
    rw [if_neg (by omega), if_pos trivial, show incunableref01_Ints.f m bs bs = _ from h1 m (by omega), Option.bind_some, if_pos rfl, show queue_Covered.f m l = _ from h2 m (by omega), Option.bind_some, show incunableref01_Ints.f m _ _ = _ from h3 m (by omega)]
    rfl
  | succ d ih =>
    intro i acc hd ha hacc
    have hi : i < l.length := by omega
    obtain ⟨k1, h1⟩ := rcov_f l hl i hi
    rw [show covL l (d + 1) i = (if covA l i = true then [(i : Int)] else []) ++ covL l d (i + 1) from rfl] at hacc
    cases hv : covA l i with
    | true =>
      rw [hv, if_pos rfl, ← List.append_assoc] at hacc
      rw [hv] at h1
      obtain ⟨k2, h2⟩ := ih (i + 1) (acc ++ [(i : Int)]) (by omega) (by simp; omega) (by rw [hacc])
      refine ⟨max k1 k2 + 1, fun k hk' => ?_⟩
      obtain ⟨m, rfl⟩ : ∃ m, k = m + 1 := ⟨k - 1, by omega⟩
      show incunablelaw47_QueueOrders.l0 (m + 1) l bs c bs c _ (l.length : Int) (i : Int) = _
      simp only [incunablelaw47_QueueOrders.l0]
      rw [if_pos (by omega), show incunableref47_Covered.f m l (i : Int) = _ from h1 m (by omega), Option.bind_some, if_pos rfl, if_pos (by omega), w_succ i (by omega)]
      exact h2 m (by omega)
    | false =>
      rw [hv, if_neg (by decide), List.nil_append] at hacc
      rw [hv] at h1
      obtain ⟨k2, h2⟩ := ih (i + 1) acc (by omega) (by omega) hacc
      refine ⟨max k1 k2 + 1, fun k hk' => ?_⟩
      obtain ⟨m, rfl⟩ : ∃ m, k = m + 1 := ⟨k - 1, by omega⟩
      show incunablelaw47_QueueOrders.l0 (m + 1) l bs c bs c _ (l.length : Int) (i : Int) = _
      simp only [incunablelaw47_QueueOrders.l0]
      rw [if_pos (by omega), show incunableref47_Covered.f m l (i : Int) = _ from h1 m (by omega), Option.bind_some, if_neg (by decide), w_succ i (by omega)]
      exact h2 m (by omega)
theorem insAll_len (l : List S36) : (insAll l l.length 0 []).length ≤ l.length := by
  have h := (insAll_ok l l.length 0 [] List.Pairwise.nil (fun y hy => by simp at hy)).2.length_eq
  have h2 : ∀ d i, (keptL l d i).length ≤ d := fun d => by
    induction d with
    | zero => intro i; exact Nat.le_refl _
    | succ d ih =>
      intro i
      have := ih (i + 1)
      unfold keptL
      rw [List.length_append]
      split <;> simp <;> omega
  have := h2 l.length 0
  rw [h]; simpa using this
theorem queueOrders_pure (l : List S36) (hl : l.length ≤ 9223372036854775807) : ∃ k, incunablelaw47_QueueOrders.f k l = some true := by
  obtain ⟨k1, h1⟩ := few_f l hl
  cases hv : fewV l l with
  | false =>
    refine ⟨k1, ?_⟩
    unfold incunablelaw47_QueueOrders.f
    rw [show incunablelaw47_few.f k1 l = _ from h1 k1 (Nat.le_refl _), hv]
    rfl
  | true =>
    have hl40 : l.length ≤ 40 := by
      unfold fewV at hv
      split at hv
      · cases hv
      · exact of_decide_eq_true hv
    obtain ⟨k2, h2⟩ := rbet_f l (by omega)
    have hb := bet_f l (by omega)
    have hlen : (betR l).1.length ≤ 100000 := by
      unfold betR
      split
      · simp
      · show (toI _).length ≤ _
        rw [toI_len]; have := insAll_len l; omega
    obtain ⟨k3, h3⟩ := law_ev l (by omega) (betR l).1 hlen (betR l).2 l.length 0 [] (by omega) (Nat.le_refl _) (List.nil_append _)
    refine ⟨max k1 (max k2 k3), ?_⟩
    unfold incunablelaw47_QueueOrders.f
    rw [show incunablelaw47_few.f _ l = _ from h1 _ (by omega), hv, hb, show incunableref47_Better.f _ l = _ from h2 _ (by omega)]
    show incunablelaw47_QueueOrders.l0 _ l (betR l).1 (betR l).2 (betR l).1 (betR l).2 [] (l.length : Int) ((0 : Nat) : Int) = _
    exact h3 _ (by omega)
end Go.Proofs.Ytlhfefchdhbdpaa
