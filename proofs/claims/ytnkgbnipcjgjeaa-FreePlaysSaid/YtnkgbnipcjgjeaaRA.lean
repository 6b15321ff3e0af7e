import Derived.Test.YtnkgbnipcjgjeaaFS0
namespace Go.Proofs.Ytnkgbnipcjgjeaa
open Go.RowKit Go.Shelf Go.Sort Go.Lib Go.Proofs.YtnkgbnipcjgjeaaW.PrintWords Go.Proofs.YtnkgbnipcjgjeaaW.PrintLast Go.Proofs.YtnkgbnipcjgjeaaW.PrintMore
set_option linter.unusedVariables false
def fs (l : List (Int × Int)) : List Int := l.map (·.1)
def sn (l : List (Int × Int)) : List Int := l.map (·.2)
theorem fs_len (l : List (Int × Int)) : (fs l).length = l.length := List.length_map ..
theorem sn_len (l : List (Int × Int)) : (sn l).length = l.length := List.length_map ..
theorem fs_getD (l : List (Int × Int)) (i : Nat) : (fs l).getD i 0 = (gP l i).1 := by
  unfold fs gP
  rw [List.getD_eq_getElem?_getD, List.getElem?_map, List.getD_eq_getElem?_getD]
  cases l[i]? <;> rfl
theorem sn_getD (l : List (Int × Int)) (i : Nat) : (sn l).getD i 0 = (gP l i).2 := by
  unfold sn gP
  rw [List.getD_eq_getElem?_getD, List.getElem?_map, List.getD_eq_getElem?_getD]
  cases l[i]? <;> rfl
/-- The document's pool at block g, as it is read. -/
def RR (w : World) (g : Nat) (l : List (Int × Int)) : Prop := ∃ A1 c1 A2 c2, w.heap[g]? = some (.cells #[.slice A1 l.length c1, .slice A2 l.length c2] 39 (0, 0)) ∧ (Kd.int .i64).C w A1 l.length (fs l) ∧ (Kd.int .i64).C w A2 l.length (sn l) ∧ l.length ≤ c1 ∧ l.length ≤ c2
theorem RR.below {w w' : World} {g : Nat} {l : List (Int × Int)} (h : RR w g l) (hb : Below w.heap.size w w') : RR w' g l := by
  obtain ⟨A1, c1, A2, c2, h0, h1, h2, h3, h4⟩ := h
  exact ⟨A1, c1, A2, c2, blk_below h0 hb, Kd.C_below h1 hb, Kd.C_below h2 hb, h3, h4⟩
/-- .. the cells. -/
theorem RR.cells {w : World} {g : Nat} {l : List (Int × Int)} (h : RR w g l) : ∃ A1 c1 A2 c2, w.heap[g]? = some (.cells #[.slice A1 l.length c1, .slice A2 l.length c2] 39 (0, 0)) ∧ l.length ≤ c1 ∧ l.length ≤ c2 ∧ (0 < l.length → ∃ b1 o1 b2 o2, A1 = some ⟨b1, o1, none⟩ ∧ A2 = some ⟨b2, o2, none⟩ ∧ b1 < w.heap.size ∧ b2 < w.heap.size ∧ ∀ j, j < l.length → w.cell? ⟨b1, o1 + j, none⟩ = some (.int .i64 (gP l j).1) ∧ w.cell? ⟨b2, o2 + j, none⟩ = some (.int .i64 (gP l j).2)) := by
  obtain ⟨A1, c1, A2, c2, h0, h1, h2, h3, h4⟩ := h
  refine ⟨A1, c1, A2, c2, h0, h3, h4, fun hp => ?_⟩
  rw [← fs_len l] at h1
  rw [← sn_len l] at h2
  obtain ⟨b1, o1, e1, hb1, hc1⟩ := row_of_C h1 (by rw [fs_len]; exact hp)
  obtain ⟨b2, o2, e2, hb2, hc2⟩ := row_of_C h2 (by rw [sn_len]; exact hp)
  refine ⟨b1, o1, b2, o2, e1, e2, hb1, hb2, fun j hj => ⟨?_, ?_⟩⟩
  · rw [hc1 j (by rw [fs_len]; exact hj), fs_getD]
  · rw [hc2 j (by rw [sn_len]; exact hj), sn_getD]
/-- Where a block is, from i on; -1: nowhere. -/
def posGo (l : List (Int × Int)) (x : Int) : Nat → Nat → Int
  | 0, _ => -1
  | d + 1, i => if (gP l i).1 = x then i else posGo l x d (i + 1)
def posI (l : List (Int × Int)) (x : Int) : Int := posGo l x l.length 0
set_option maxHeartbeats 4000000 in
set_option maxRecDepth 100000 in
theorem find_ok (g : Nat) (l : List (Int × Int)) (x : Int) (w : World) (h : RR w g l) (hl : l.length ≤ 1000) : Calls Try.prog 27 #[.pointer (some ⟨g, 0, none⟩), .int .i64 x] w fun e w' => e = .returned (.int .i64 (posI l x)) ∧ w' = w := by
  obtain ⟨A1, c1, A2, c2, h0, h3, h4, hc⟩ := h.cells
  obtain ⟨T, hT⟩ : ∃ T, T = posI l x := ⟨_, rfl⟩
  rw [← hT]
  have HT := Lib.hid hT
  have HC := Lib.hid hc
  have HL := Lib.hid hl
  obtain ⟨n, hn⟩ : ∃ n, n = l.length := ⟨_, rfl⟩
  rw [← hn] at h0
  have HN := Lib.hid hn
  have hg0 : w.cell? ⟨g, 0, none⟩ = some (.slice A1 n c1) := blk_cell h0 0
  have hn2 : (n : Int) ≤ 1000 := by omega
  clear h hc hl h3 h4 h0 hn hT
  go_enter Try.func27, Try.ntmps27
  go_wp2_with fail
  go_loop [5] (fun i => ∃ k : Nat, k ≤ n ∧ i = .int .i64 k ∧ Hid (posGo l x (n - k) k = T)) (fun i => n - (intOf i).toNat)
  case atStart => exact ⟨0, by omega, rfl, Lib.hid (by rw [HT.out, HN.out]; rfl)⟩
  case round =>
    obtain ⟨k, hk, rfl, HG⟩ := hrel
    by_cases hkn : k < n
    · obtain ⟨b1, o1, b2, o2, rfl, _, _, _, hcell⟩ := HC.out (by have := HN.out; omega)
      have e0 := (hcell k (by have := HN.out; omega)).1
      have hg := HG.out
      rw [show n - k = (n - (k + 1)) + 1 by omega] at hg
      have hg' : (if (gP l k).1 = x then (k : Int) else posGo l x (n - (k + 1)) (k + 1)) = T := hg
      generalize (gP l k).1 = y at e0 hg'
      have hk0 : (k : Int) < (n : Int) := by omega
      clear hcell hg
      by_cases hy : y = x
      · rw [if_pos hy] at hg'
        subst hg'
        have hb : (y == x) = true := beq_iff_eq.2 hy
        clear hy
        go_wp2_with fail
        go_ret
        exact ⟨rfl, rfl⟩
      · rw [if_neg hy] at hg'
        have HG2 := Lib.hid hg'
        have hb : (y == x) = false := beq_eq_false_iff_ne.2 hy
        clear hy hg'
        go_wp2_with fail
        go_round
        case rel => exact ⟨k + 1, hkn, by go_num, HG2⟩
        case measure => exact step_measure hkn
    · have hk2 : k = n := by omega
      subst hk2
      have hg := HG.out
      rw [Nat.sub_self] at hg
      have : T = -1 := hg.symm
      subst this
      clear hg hkn
      go_wp2_with fail
      go_ret
      exact ⟨rfl, rfl⟩
theorem posI_none {l : List (Int × Int)} {x : Int} (h : mget l x = none) : posI l x = -1 := by
  have key : ∀ d i, i + d = l.length → posGo l x d i = -1 := by
    intro d
    induction d with
    | zero => intro i _; rfl
    | succ d ih =>
      intro i hi
      unfold posGo
      have hne : (gP l i).1 ≠ x := fun e => by
        have hil : i < l.length := by omega
        have hm : gP l i ∈ l := by unfold gP; rw [List.getD_eq_getElem?_getD, List.getElem?_eq_getElem hil]; exact List.getElem_mem hil
        have hp : ∀ q ∈ l, q.1 ≠ x := by
          clear ih hil hm e hi
          induction l with
          | nil => intro q hq; cases hq
          | cons p r ih =>
            have h2 : (if p.1 = x then some p.2 else mget r x) = none := h
            by_cases e : p.1 = x
            · rw [if_pos e] at h2; cases h2
            · rw [if_neg e] at h2
              intro q hq
              rcases List.mem_cons.1 hq with rfl | hq
              · exact e
              · exact ih h2 q hq
        exact hp _ hm e
      rw [if_neg hne]
      exact ih (i + 1) (by omega)
  exact key _ 0 (by omega)
theorem posI_some {l : List (Int × Int)} {x y : Int} (hn : (l.map (·.1)).Nodup) (h : mget l x = some y) : ∃ j : Nat, posI l x = j ∧ j < l.length ∧ gP l j = (x, y) ∧ mdel l x = l.eraseIdx j := by
  have hmem : (x, y) ∈ l := by
    clear hn
    induction l with
    | nil => cases h
    | cons p r ih =>
      have h2 : (if p.1 = x then some p.2 else mget r x) = some y := h
      by_cases e : p.1 = x
      · rw [if_pos e] at h2
        injection h2 with h2
        exact List.mem_cons.2 (.inl (Prod.ext e.symm h2.symm))
      · rw [if_neg e] at h2
        exact List.mem_cons_of_mem _ (ih h2)
  obtain ⟨j, hj⟩ := List.getElem?_of_mem hmem
  have hjl := (List.getElem?_eq_some_iff.1 hj).1
  have hgj : gP l j = (x, y) := by unfold gP; rw [List.getD_eq_getElem?_getD, hj]; rfl
  refine ⟨j, ?_, hjl, hgj, (m_some (k := x) (b := y) hn hj).2.2⟩
  have key : ∀ d i, i + d = l.length → i ≤ j → posGo l x d i = j := by
    intro d
    induction d with
    | zero => intro i h1 h2; omega
    | succ d ih =>
      intro i h1 h2
      unfold posGo
      by_cases e : i = j
      · rw [e, hgj, if_pos rfl]
      · have hne : (gP l i).1 ≠ x := fun e2 => by
          have hil : i < l.length := by omega
          have hpw := List.pairwise_iff_getElem.1 hn
          have l1 : i < (l.map (·.1)).length := by rw [List.length_map]; omega
          have l2 : j < (l.map (·.1)).length := by rw [List.length_map]; omega
          refine hpw i j l1 l2 (by omega) ?_
          rw [List.getElem_map, List.getElem_map]
          have h3 : l[i] = gP l i := by unfold gP; rw [List.getD_eq_getElem?_getD, List.getElem?_eq_getElem hil]; rfl
          have h4 : l[j] = gP l j := by unfold gP; rw [List.getD_eq_getElem?_getD, List.getElem?_eq_getElem hjl]; rfl
          rw [h3, h4, e2, hgj]
        rw [if_neg hne]
        exact ih (i + 1) (by omega) (by omega)
  exact key _ 0 (by omega) (by omega)
end Go.Proofs.Ytnkgbnipcjgjeaa
