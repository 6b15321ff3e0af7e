import Derived.Test.YtnkgbnipcjgjeaaSeg0
namespace Go.Proofs.Ytnkgbnipcjgjeaa.Qu
open Go.RowKit Go.Shelf Go.Sort Go.Lib Go.Proofs.Ytnkgbnipcjgjeaa.QW Go.Proofs.YtnkgbnipcjgjeaaW.PrintWords Go.Proofs.YtnkgbnipcjgjeaaW.PrintLast Go.Proofs.YtnkgbnipcjgjeaaW.PrintMore
set_option linter.unusedVariables false
/-- A row of ints that is read, of one element or more: its block, its place, its cells. -/
theorem row_of_C {A0 : Option Addr} {l0 : List Int} {w : World} (hr0 : Kd.C (Kd.int .i64) w A0 l0.length l0) (hp : 0 < l0.length) :
    ∃ b off, A0 = some ⟨b, off, none⟩ ∧ b < w.heap.size ∧ ∀ j, j < l0.length → w.cell? ⟨b, off + j, none⟩ = some (.int .i64 (l0.getD j 0)) := by
  have hC := Kd.reads_of_C (d := (0 : Int)) (h1 := fun _ => rfl) hr0
  obtain ⟨ad, rfl, hc⟩ := hC.2.2 hp
  have h0 := hc 0 hp
  have e := spotless (show w.cell? ad = some _ from h0)
  refine ⟨ad.block, ad.off, by rw [← e], World.block_lt_of_cell? w ad h0, fun j hj => ?_⟩
  rw [← add_plain, ← e]
  exact hc j hj
theorem R_mk {w : World} {base g cap : Nat} {cur : Array Value} {xs : List Int} (hb : base ≤ g) (hg : w.heap[g]? = some (.cells cur 3 (0, 0))) (hl : xs.length ≤ cap) (hm : cap ≤ maxLen) (hs : cur.size = cap) (hc : ∀ j, j < xs.length → cur[j]? = some (.int .i64 (xs.getD j 0))) :
    (Kd.int .i64).R 3 w base (fun _ => True) (.slice (some ⟨g, 0, none⟩) xs.length cap) xs := by
  refine ⟨fun _ _ => trivial, xs.map (Value.int .i64), ⟨by show _ = xs.length * 1; simp, .inr ⟨g, cap, cur, rfl, hb, hg, hl, hm, by rw [hs]; show cap = cap * 1; omega, ?_⟩⟩, ?_⟩
  · apply List.ext_getElem?
    intro i
    show (cur.toList.take (xs.length * 1))[i]? = _
    rw [Nat.mul_one, List.getElem?_take, List.getElem?_map]
    split
    · rename_i hi
      rw [Array.getElem?_toList, hc i hi, List.getD_eq_getElem?_getD, List.getElem?_eq_getElem hi]
      rfl
    · rename_i hi
      rw [List.getElem?_eq_none (by omega)]
      rfl
  · refine ⟨by show _ = xs.length * 1; simp, fun j p hp => ?_⟩
    have hj : j < xs.length := (List.getElem?_eq_some_iff.1 hp).1
    show ((xs.map (Value.int .i64)).drop (j * 1)).take 1 = [Value.int .i64 p]
    rw [Nat.mul_one, List.drop_eq_getElem_cons (by simpa using hj), List.take_succ_cons, List.take_zero, List.getElem_map]
    have : xs[j] = p := by rw [List.getElem?_eq_getElem hj] at hp; exact Option.some.inj hp
    rw [this]
theorem own_ints2 {w : World} {base : Nat} {ok : Nat → Prop} {v : Value} {xs : List Int} (h : (Kd.int .i64).R 3 w base ok v xs) (hp : 0 < xs.length) :
    ∃ g cap cur, v = .slice (some ⟨g, 0, none⟩) xs.length cap ∧ base ≤ g ∧ w.heap[g]? = some (.cells cur 3 (0, 0)) ∧ xs.length ≤ cap ∧ cap ≤ maxLen ∧ cur.size = cap := by
  obtain ⟨A, c, rfl, hc, hC⟩ := Kd.R_reads h
  obtain ⟨inner, ho⟩ := Kd.R_own h
  rcases ho.2 with ⟨h1, h2⟩ | ⟨g, cap, cur, h1, h2, h3, h4, h5, h6, h7⟩
  · omega
  · injection h1 with hA hn hcap
    subst hA
    subst hcap
    exact ⟨g, c, cur, rfl, h2, h3, hc, h5, by rw [h6]; show c * 1 = c; omega⟩
section
variable {α : Type} [Inhabited α]
theorem heap_putRow (enc : α → Value) {w : World} {blk off : Nat} {d : Array α} {c : Array Value} {e : TypeId} {fr : Nat × Nat} (h : w.heap[blk]? = some (.cells c e fr)) : (putRow enc w blk off d).heap[blk]? = some (.cells (putCells enc off d c) e fr) := by
  simp [putRow, mapBlock, Array.getElem?_modify, h, onCells]
theorem heap_putRow_far (enc : α → Value) {w : World} {blk off i : Nat} {d : Array α} (h : i ≠ blk) : (putRow enc w blk off d).heap[i]? = w.heap[i]? := by
  simp [putRow, mapBlock, Array.getElem?_modify, Ne.symm h]
theorem below_sortWorld (enc : α → Value) {w W : World} {B blk off q : Nat} {d : Array α} {os : Array Obj} (h : Below B w W) (hb : B ≤ blk) (hB : B ≤ w.heap.size) : Below B w (sortWorld enc W blk off q d os) := by
  refine ⟨h.os, h.tape, h.output, ?_, fun i hi => ?_⟩
  · refine Nat.le_trans h.size ?_
    show W.heap.size ≤ (grow (putRow enc (Sort.ahead W q) blk off d) os).heap.size
    simp [grow]
  · have hs := h.size
    show (grow (putRow enc (Sort.ahead W q) blk off d) os).heap[i]? = _
    rw [heap_grow_old _ _ (by rw [size_putRow]; show i < W.heap.size; omega), heap_putRow_far enc (by omega)]
    exact h.block i hi
end

theorem cfL_iff (x y : Int) (a b : Nat) : orI (Lib.compareInt x y) (Lib.compareInt a b) < 0 ↔ (x < y ∨ (x = y ∧ a < b)) := by
  unfold orI Lib.compareInt
  by_cases h1 : x < y
  · simp [h1]
  · by_cases h2 : y < x
    · have : x ≠ y := by omega
      simp [h1, h2, this]
    · have e : x = y := by omega
      subst e
      by_cases h3 : a < b
      · simp [h3]
      · by_cases h4 : b < a
        · simp [h3, h4]
        · simp [h3, h4]

theorem cfS_lt (l0 : List S116) (a b : Nat) : decide (cfS l0 a b < 0) = decide (ltP l0 a b) := decide_eq_decide.2 (cfL_iff _ _ a b)
def encF {m : Nat} (i : Fin (m + 1)) : Value := .int .i64 (i.val : Int)
def cfF (l0 : List S116) (m : Nat) (x y : Fin (m + 1)) : Int := cfS l0 x.val y.val
theorem ltF (l0 : List S116) (m : Nat) (x y : Fin (m + 1)) : ltOf (cfF l0 m) x y = decide (ltP l0 x.val y.val) := cfS_lt l0 x.val y.val
theorem swoF (l0 : List S116) (m : Nat) : SWO (ltOf (cfF l0 m)) where
  irrefl x := by rw [ltF]; simp [ltP]
  trans x y z h1 h2 := by
    rw [ltF] at h1 h2 ⊢
    have a1 := of_decide_eq_true h1
    have a2 := of_decide_eq_true h2
    exact decide_eq_true (by unfold ltP at *; omega)
  ntrans x y z h1 h2 := by
    rw [ltF] at h1 h2 ⊢
    have a1 := of_decide_eq_false h1
    have a2 := of_decide_eq_false h2
    exact decide_eq_false (by unfold ltP at *; omega)
theorem totF (l0 : List S116) (m : Nat) (x y : Fin (m + 1)) (h1 : ltOf (cfF l0 m) x y = false) (h2 : ltOf (cfF l0 m) y x = false) : x = y := by
  rw [ltF] at h1 h2
  have a1 := of_decide_eq_false h1
  have a2 := of_decide_eq_false h2
  unfold ltP at a1 a2
  exact Fin.ext (by omega)
theorem sw_cell {α : Type} [Inhabited α] (enc : α → Value) {W : World} {blk off q : Nat} {d : Array α} {os : Array Obj} {a : Addr} {v : Value} (h : W.cell? a = some v) (hne : a.block ≠ blk) : (sortWorld enc W blk off q d os).cell? a = some v := by
  have hlt : a.block < W.heap.size := World.block_lt_of_cell? W a h
  show (grow (putRow enc (Sort.ahead W q) blk off d) os).cell? a = some v
  rw [cell?_grow _ _ _ (by rw [size_putRow]; exact hlt), cell?_putRow_other _ _ _ _ _ _ (.inl hne)]
  exact h
theorem sw_blk {α : Type} [Inhabited α] (enc : α → Value) {W : World} {blk off q : Nat} {d : Array α} {os : Array Obj} {c : Array Value} {e : TypeId} {fr : Nat × Nat} (h : W.heap[blk]? = some (.cells c e fr)) : (sortWorld enc W blk off q d os).heap[blk]? = some (.cells (putCells enc off d c) e fr) := by
  have hlt : blk < W.heap.size := (Array.getElem?_eq_some_iff.1 h).1
  show (grow (putRow enc (Sort.ahead W q) blk off d) os).heap[blk]? = _
  rw [heap_grow_old _ _ (by rw [size_putRow]; exact hlt)]
  exact heap_putRow enc h

end Go.Proofs.Ytnkgbnipcjgjeaa.Qu
