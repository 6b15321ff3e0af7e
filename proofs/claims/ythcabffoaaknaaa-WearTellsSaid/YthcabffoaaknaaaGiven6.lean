import Derived.Test.YthcabffoaaknaaaGiven5
namespace Go.Proofs.Ythcabffoaaknaaa
open Go.RowKit Go.Shelf Go.Sort Go.Lib Go.Proofs.YthcabffoaaknaaaW.PrintWords Go.Proofs.YthcabffoaaknaaaW.PrintLast Go.Proofs.YthcabffoaaknaaaW.PrintMore
set_option linter.unusedVariables false
/-- Place a comes ahead of place b. -/
def ltP (l0 : List Int) (a b : Nat) : Prop := l0.getD a 0 < l0.getD b 0 ∨ (l0.getD a 0 = l0.getD b 0 ∧ a < b)
instance (l0 : List Int) (a b : Nat) : Decidable (ltP l0 a b) := by unfold ltP; infer_instance
theorem cfL_iff (x y : Int) (a b : Nat) : orI (Lib.compareInt x y) (Lib.compareInt a b) < 0 ↔ (x < y ∨ (x = y ∧ a < b)) := by
  unfold orI Lib.compareInt
  by_cases h1 : x < y
  · simp [h1]
  · by_cases h2 : y < x
    · have : x ≠ y := by omega
      simp [h1, h2, this]
    · have e : x = y := by omega
      subst e
      by_cases h3 : a < b
      · simp [h3]
      · by_cases h4 : b < a
        · simp [h3, h4]
        · simp [h3, h4]
theorem cfL_lt (l0 : List Int) (a b : Nat) : decide (cfL l0 a b < 0) = decide (ltP l0 a b) := decide_eq_decide.2 (cfL_iff _ _ a b)
def encF {m : Nat} (i : Fin (m + 1)) : Value := .int .i64 (i.val : Int)
def cfF (l0 : List Int) (m : Nat) (x y : Fin (m + 1)) : Int := cfL l0 x.val y.val
theorem ltF (l0 : List Int) (m : Nat) (x y : Fin (m + 1)) : ltOf (cfF l0 m) x y = decide (ltP l0 x.val y.val) := cfL_lt l0 x.val y.val
theorem swoF (l0 : List Int) (m : Nat) : SWO (ltOf (cfF l0 m)) where
  irrefl x := by rw [ltF]; simp [ltP]
  trans x y z h1 h2 := by
    rw [ltF] at h1 h2 ⊢
    have a1 := of_decide_eq_true h1
    have a2 := of_decide_eq_true h2
    exact decide_eq_true (by unfold ltP at *; omega)
  ntrans x y z h1 h2 := by
    rw [ltF] at h1 h2 ⊢
    have a1 := of_decide_eq_false h1
    have a2 := of_decide_eq_false h2
    exact decide_eq_false (by unfold ltP at *; omega)
theorem totF (l0 : List Int) (m : Nat) (x y : Fin (m + 1)) (h1 : ltOf (cfF l0 m) x y = false) (h2 : ltOf (cfF l0 m) y x = false) : x = y := by
  rw [ltF] at h1 h2
  have a1 := of_decide_eq_false h1
  have a2 := of_decide_eq_false h2
  unfold ltP at a1 a2
  exact Fin.ext (by omega)
def rankF (l0 : List Int) (m : Nat) : List (Fin (m + 1)) := (List.finRange (m + 1)).mergeSort fun x y => !(ltOf (cfF l0 m) y x)
def rankN (l0 : List Int) : Nat → List Int
  | 0 => []
  | m + 1 => (rankF l0 m).map fun i => (i.val : Int)
def rankL (l0 : List Int) : List Int := rankN l0 l0.length
def wear_Rank.f (l0 : List Int) : Option (List Int × Int) := if l0.length ≤ 1000 then (if mayV l0 = 0 then some (rankL l0, 0) else some ([], mayV l0)) else none
set_option maxHeartbeats 4000000 in
set_option maxRecDepth 100000 in
theorem rank_err (A0 : Option Addr) (c0 : Nat) (l0 : List Int) (w : World) (hr0 : Kd.C (Kd.int .i64) w A0 l0.length l0) (hc0 : l0.length ≤ c0) (hl : l0.length ≤ 1000) {e0 : Int} (he : mayV l0 = e0) (hne : e0 ≠ 0) :
    Calls Try.prog 14 #[.slice A0 l0.length c0] w fun e w' => e = .returned (.tuple #[.slice none 0 0, .int .i64 e0]) ∧ Below w.heap.size w w' := by
  have hm := fun W h => wear_may.calls A0 c0 l0 e0 W h hc0 (by unfold wear_may.f; rw [if_pos hl, he])
  have HB := (Below.refl w.heap.size w).alloc (Nat.le_refl _) (.cells #[.slice A0 l0.length c0] 22)
  have hR := blk_new w (.cells #[.slice A0 l0.length c0] 22)
  have hr1 := Kd.C_alloc hr0 (.cells #[.slice A0 l0.length c0] 22)
  clear he hc0 hl hr0
  have hE : (e0 == 0) = false := beq_eq_false_iff_ne.2 hne
  generalize l0.length = n at *
  go_enter Try.func14, Try.ntmps14
  go_upto_region 1 with fail
  generalize (w.alloc (.cells #[.slice A0 n c0] 22)) = w1 at HB hR hr1 ⊢
  have hcR : w1.cell? ⟨w.heap.size, 0, none⟩ = some (.slice A0 n c0) := blk_cell hR 0
  go_wp2_with (go_at_call 17; refine (hm _ hr1).mono ?_; rintro e w' ⟨rfl, ⟨q, rfl⟩⟩)
  go_ret2
  exact ⟨rfl, b_drewN HB q⟩
theorem sw_cell {α : Type} [Inhabited α] (enc : α → Value) {W : World} {blk off q : Nat} {d : Array α} {os : Array Obj} {a : Addr} {v : Value} (h : W.cell? a = some v) (hne : a.block ≠ blk) : (sortWorld enc W blk off q d os).cell? a = some v := by
  have hlt : a.block < W.heap.size := World.block_lt_of_cell? W a h
  show (grow (putRow enc (Sort.ahead W q) blk off d) os).cell? a = some v
  rw [cell?_grow _ _ _ (by rw [size_putRow]; exact hlt), cell?_putRow_other _ _ _ _ _ _ (.inl hne)]
  exact h
theorem sw_blk {α : Type} [Inhabited α] (enc : α → Value) {W : World} {blk off q : Nat} {d : Array α} {os : Array Obj} {c : Array Value} {e : TypeId} {fr : Nat × Nat} (h : W.heap[blk]? = some (.cells c e fr)) : (sortWorld enc W blk off q d os).heap[blk]? = some (.cells (putCells enc off d c) e fr) := by
  have hlt : blk < W.heap.size := (Array.getElem?_eq_some_iff.1 h).1
  show (grow (putRow enc (Sort.ahead W q) blk off d) os).heap[blk]? = _
  rw [heap_grow_old _ _ (by rw [size_putRow]; exact hlt)]
  exact heap_putRow enc h
theorem holds_fin {W : World} {g m cap : Nat} {cu : Array Value} (hg : W.heap[g]? = some (.cells cu 3 (0, 0))) (hc : ∀ j, j < m + 1 → cu[j]? = some (.int .i64 (j : Int))) : Holds (encF (m := m)) W g 0 (List.finRange (m + 1)).toArray := by
  intro j hj
  have hj' : j < m + 1 := by simpa using hj
  refine ⟨?_, blk_frozen hg _⟩
  rw [Nat.zero_add, blk_cell hg j, hc j hj', getElem!_pos _ j hj]
  simp [encF]
theorem sorted_R {W : World} {base g m cap q : Nat} {cu : Array Value} {os : Array Obj} {l0 : List Int} (hg : W.heap[g]? = some (.cells cu 3 (0, 0))) (hb : base ≤ g) (hcap : m + 1 ≤ cap) (hm : cap ≤ maxLen) (hs : cu.size = cap) :
    (Kd.int .i64).R 3 (sortWorld (encF (m := m)) W g 0 q (rankF l0 m).toArray os) base (fun _ => True) (.slice (some ⟨g, 0, none⟩) (m + 1) cap) (rankN l0 (m + 1)) := by
  have hlen : (rankF l0 m).length = m + 1 := by unfold rankF; rw [List.length_mergeSort, List.length_finRange]
  have hlen2 : (rankN l0 (m + 1)).length = m + 1 := by show ((rankF l0 m).map _).length = _; rw [List.length_map, hlen]
  have h := R_mk (w := sortWorld (encF (m := m)) W g 0 q (rankF l0 m).toArray os) (base := base) (g := g) (cap := cap) (xs := rankN l0 (m + 1)) hb (sw_blk _ hg) (by omega) hm (by unfold putCells; rw [Array.size_mapIdx]; exact hs) (fun j hj => ?_)
  · rw [hlen2] at h
    exact h
  · have hj' : j < m + 1 := by omega
    have hjc : j < cu.size := by omega
    unfold putCells
    rw [Array.getElem?_mapIdx, Array.getElem?_eq_getElem hjc]
    have hsz : j < (rankF l0 m).toArray.size := by simpa [hlen] using hj'
    simp only [Option.map_some, Nat.zero_le, true_and, Nat.zero_add, Nat.sub_zero]
    rw [if_pos hsz, getElem!_pos _ j hsz]
    show some (encF ((rankF l0 m).toArray[j])) = some (.int .i64 (((rankF l0 m).map fun i => (i.val : Int)).getD j 0))
    rw [List.getD_eq_getElem?_getD, List.getElem?_map, List.getElem?_eq_getElem (by omega)]
    rfl
set_option maxHeartbeats 8000000 in
set_option maxRecDepth 100000 in
theorem rank_ok (A0 : Option Addr) (c0 m : Nat) (l0 : List Int) (w : World) (hr0 : Kd.C (Kd.int .i64) w A0 l0.length l0) (hc0 : l0.length ≤ c0) (hl : l0.length ≤ 1000) (he : mayV l0 = 0) (hm1 : l0.length = m + 1) :
    Calls Try.prog 14 #[.slice A0 l0.length c0] w fun e w' => ∃ v, e = .returned (.tuple #[v, .int .i64 0]) ∧ (Kd.int .i64).R 3 w' w.heap.size (fun _ => True) v (rankN l0 (m + 1)) ∧ Below w.heap.size w w' := by
  have hm := fun W h => wear_may.calls A0 c0 l0 0 W h hc0 (by unfold wear_may.f; rw [if_pos hl, he])
  have HB := (Below.refl w.heap.size w).alloc (Nat.le_refl _) (.cells #[.slice A0 l0.length c0] 22)
  have hR := blk_new w (.cells #[.slice A0 l0.length c0] 22)
  have hr1 := Kd.C_alloc hr0 (.cells #[.slice A0 l0.length c0] 22)
  have HR0 := Lib.hid hr0
  clear he hc0 hr0
  obtain ⟨n, hn⟩ : ∃ n, n = l0.length := ⟨_, rfl⟩
  rw [← hn] at hm hR HB hr1 hl hm1 ⊢
  have HN := Lib.hid hn
  have hn0 : (0 : Int) ≤ (n : Int) := by omega
  have hn1 : (n : Int).toNat * 8 ≤ 281474976710656 := by omega
  have HN0 := Lib.hid hn0
  have HN1 := Lib.hid hn1
  have HM := Lib.hid hm1
  have HL := Lib.hid hl
  clear hn hn0 hn1 hm1 hl
  go_enter Try.func14, Try.ntmps14
  go_upto_region 1 with fail
  generalize (w.alloc (.cells #[.slice A0 n c0] 22)) = w1 at HB hR hr1 ⊢
  have hcR : w1.cell? ⟨w.heap.size, 0, none⟩ = some (.slice A0 n c0) := blk_cell hR 0
  go_upto_region 5 with (first | (go_at_call 17; refine (hm _ hr1).mono ?_; rintro e w' ⟨rfl, ⟨q, rfl⟩⟩; replace hr1 := Kd.C_drewN hr1 q; replace HB := b_drewN HB q; replace hR := blk_drewN hR q) | (at_make; refine Kd.R_make (Kd.int .i64) (w0 := w) w.heap.size 3 rfl rfl 22 _ _ rfl (n : Int) rfl rfl Try.underlying22 (.int .i64 0) 8 (by kernel_rfl) rfl (by decide) (by decide) 0 (ok := fun _ => True) (okp := fun _ => True) rfl (fun _ h => h) trivial HN0.out HN1.out HB HB.size ?_; intro v1 w4 hown HB4 hg4 hnew; obtain ⟨gb, cap, cur, rfl, hgb, hcur, hcap, hcapm, hcurs⟩ := own_ints2 hown (by have := HM.out; simp; omega)))
  have hR4 := blk_grown hR hg4 (by simp)
  have hb5 : w.heap.size < gb := by
    obtain ⟨b, e1, e2⟩ := hnew
    simp only [Value.ownBlock, Option.some.injEq] at e1
    have := blk_lt hR
    have e3 : (w1.drewN q).heap.size = w1.heap.size := rfl
    omega
  have hcap' : n ≤ cap := by simpa using hcap
  have HCS := Lib.hid hcurs
  have HCM := Lib.hid hcapm
  have HCP := Lib.hid hcap'
  have HB5 := Lib.hid hb5
  clear hm hcR hr1 hR hown hg4 hnew hcap hcapm hcurs hcap' hb5
  have HBW := Lib.hid HB
  clear HB
  go_wp2_with fail
  go_loopw [17] (fun i wr => ∃ (k : Nat) (cu : Array Value), k ≤ n ∧ i = .int .i64 k ∧ wr.heap[gb]? = some (.cells cu 3 (0, 0)) ∧ cu.size = cap ∧ Hid (∀ j, j < k → cu[j]? = some (.int .i64 (j : Int))) ∧ wr.heap[w.heap.size]? = some (.cells #[.slice A0 n c0] 22 (0, 0)) ∧ Hid (Below w.heap.size w wr)) (fun i _ => n - (intOf i).toNat)
  case atStart => exact ⟨0, cur, by omega, rfl, hcur, HCS.out, Lib.hid (fun j hj => absurd hj (Nat.not_lt_zero j)), hR4, Lib.hid HB4⟩
  case round =>
    clear hR4 HB4 hcur HCS cur
    obtain ⟨k, cu, hk, rfl, hcu, hcs, HCU, hR, HB⟩ := hrel
    have hl := HL.out
    by_cases hkn : k < n
    · have hks : k < cu.size := by have := HCP.out; omega
      have hck : wr.cell? ⟨gb, k, none⟩ = some cu[k] := by rw [blk_cell hcu k, Array.getElem?_eq_getElem hks]
      have hfk : wr.frozen? ⟨gb, k, none⟩ = false := blk_frozen hcu k
      obtain ⟨u, hu⟩ : ∃ u, u = cu[k] := ⟨_, rfl⟩
      rw [← hu] at hck
      have HKS := Lib.hid hks
      have HCS := Lib.hid hcs
      clear hu hks hcs
      go_wp2
      go_roundw
      case rel =>
        refine ⟨k + 1, cu.setIfInBounds k (.int .i64 (k : Int)), by omega, by go_num, blk_set hcu k _, by rw [Array.size_setIfInBounds]; exact HCS.out, Lib.hid (fun j hj => ?_), blk_far hR (p := ⟨gb, k, none⟩) (by have := HB5.out; show w.heap.size ≠ gb; omega) _, Lib.hid (Below.setCell HB.out hgb _)⟩
        rw [Array.getElem?_setIfInBounds]
        by_cases e : k = j
        · subst e; rw [if_pos rfl, if_pos HKS.out]
        · rw [if_neg e]; exact HCU.out j (by omega)
      case measure => simp [intOf]; omega
    · have hk2 : k = m + 1 := by have := HM.out; omega
      have hnm : n = m + 1 := HM.out
      subst hk2
      obtain ⟨b, off, hA, hbb, hc⟩ := row_of_C HR0.out (by rw [← HN.out]; omega)
      have hgw := HB5.out
      have eg : ∀ args w, (callFunc 22 args).run Try.prog w = .ok (.enter 22 args) w := enters_of Try.func22 (by kernel_rfl) rfl
      have hcmp : CmpLays1 Try.prog 22 #[.pointer (some ⟨w.heap.size, 0, none⟩)] (encF (m := m)) (cfF l0 m) gb 0 (List.finRange (m + 1)).toArray.size wr := by
        intro m' os dk hdk x y
        have hx : wr.cell? ⟨w.heap.size, 0, none⟩ = some (.slice (some ⟨b, off, none⟩) n c0) := by rw [blk_cell hR 0, hA]; rfl
        have hl1 : ∀ j, j < m + 1 → wr.cell? ⟨b, off + j, none⟩ = some (.int .i64 (l0.getD j 0)) := fun j hj => by
          rw [HB.out.cell (p := ⟨b, off + j, none⟩) hbb]
          exact hc j (by rw [← HN.out]; omega)
        exact clos22 (sortWorld (encF (m := m)) wr gb 0 m' dk os) (sw_cell _ hx (by show w.heap.size ≠ gb; omega)) (by have := x.isLt; omega) (by have := y.isLt; omega) (sw_cell _ (hl1 x.val x.isLt) (by show b ≠ gb; omega)) (sw_cell _ (hl1 y.val y.isLt) (by show b ≠ gb; omega))
      have hS := Any.slices_SortFunc_total lay21 (encF (m := m)) (fun _ => rfl) (cfF l0 m) (swoF l0 m) 22 #[.pointer (some ⟨w.heap.size, 0, none⟩)] gb 0 cap (List.finRange (m + 1)).toArray wr eg hcmp (holds_fin (cap := cap) hcu HCU.out) (blk_lt hcu) (by simp; omega) (totF l0 m)
      have hd1 : (List.finRange (m + 1)).toArray.size = n := by rw [hnm]; simp
      rw [hd1] at hS
      change Calls Try.prog 21 _ _ _ at hS
      have HSS := Lib.hid hS
      have HCS := Lib.hid hcs
      have HCU2 := Lib.hid hcu
      clear hS hcmp hc eg hd1 hcs hcu hl hgw hbb HCU hA
      have hcR : wr.cell? ⟨w.heap.size, 0, none⟩ = some (.slice A0 n c0) := blk_cell hR 0
      subst hnm
      clear hk hkn
      go_wp2_with (go_at_call 21; refine (HSS.out).mono ?_; rintro e w' ⟨rfl, q, os, rfl⟩)
      go_ret2
      exact ⟨_, rfl, sorted_R HCU2.out hgb HCP.out HCM.out HCS.out, below_sortWorld _ HB.out hgb (Nat.le_refl _)⟩
theorem wear_Rank.calls (A0 : Option Addr) (c0 : Nat) (l0 : List Int) (r1 : List Int) (r2 : Int) (w : World) (hr0 : Kd.C (Kd.int .i64) w A0 l0.length l0) (hc0 : l0.length ≤ c0) (h : wear_Rank.f l0 = some (r1, r2)) :
    Calls Try.prog 14 #[.slice A0 l0.length c0] w fun e w' => ∃ v0_ : Value, e = .returned (.tuple #[v0_, .int .i64 r2]) ∧ Kd.R (Kd.int .i64) 3 w' w.heap.size (fun _ => True) v0_ r1 ∧ Below w.heap.size w w' := by
  unfold wear_Rank.f at h
  split at h
  · rename_i hl
    split at h
    · rename_i he
      simp only [Option.some.injEq, Prod.mk.injEq] at h
      obtain ⟨rfl, rfl⟩ := h
      have hp : l0.length ≠ 0 := by
        intro h0
        have : l0 = [] := List.eq_nil_of_length_eq_zero h0
        subst this
        simp [mayV] at he
      obtain ⟨m, hm⟩ : ∃ m, l0.length = m + 1 := ⟨l0.length - 1, by omega⟩
      have := rank_ok A0 c0 m l0 w hr0 hc0 hl he hm
      unfold rankL
      rw [hm] at this ⊢
      exact this
    · rename_i he
      simp only [Option.some.injEq, Prod.mk.injEq] at h
      obtain ⟨rfl, rfl⟩ := h
      refine (rank_err A0 c0 l0 w hr0 hc0 hl rfl he).mono ?_
      rintro e w' ⟨rfl, hb⟩
      exact ⟨_, rfl, Kd.R_nil _ _ _ _ _, hb⟩
  · simp at h
end Go.Proofs.Ythcabffoaaknaaa
