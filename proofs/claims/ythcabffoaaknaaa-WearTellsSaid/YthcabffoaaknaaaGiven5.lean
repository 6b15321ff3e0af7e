import Derived.Test.YthcabffoaaknaaaGiven4
namespace Go.Proofs.Ythcabffoaaknaaa
open Go.RowKit Go.Shelf Go.Sort Go.Lib Go.Proofs.YthcabffoaaknaaaW.PrintWords Go.Proofs.YthcabffoaaknaaaW.PrintLast Go.Proofs.YthcabffoaaknaaaW.PrintMore
set_option linter.unusedVariables false
theorem R_mk {w : World} {base g cap : Nat} {cur : Array Value} {xs : List Int} (hb : base ≤ g) (hg : w.heap[g]? = some (.cells cur 3 (0, 0))) (hl : xs.length ≤ cap) (hm : cap ≤ maxLen) (hs : cur.size = cap) (hc : ∀ j, j < xs.length → cur[j]? = some (.int .i64 (xs.getD j 0))) :
    (Kd.int .i64).R 3 w base (fun _ => True) (.slice (some ⟨g, 0, none⟩) xs.length cap) xs := by
  refine ⟨fun _ _ => trivial, xs.map (Value.int .i64), ⟨by show _ = xs.length * 1; simp, .inr ⟨g, cap, cur, rfl, hb, hg, hl, hm, by rw [hs]; show cap = cap * 1; omega, ?_⟩⟩, ?_⟩
  · apply List.ext_getElem?
    intro i
    show (cur.toList.take (xs.length * 1))[i]? = _
    rw [Nat.mul_one, List.getElem?_take, List.getElem?_map]
    split
    · rename_i hi
      rw [Array.getElem?_toList, hc i hi, List.getD_eq_getElem?_getD, List.getElem?_eq_getElem hi]
      rfl
    · rename_i hi
      rw [List.getElem?_eq_none (by omega)]
      rfl
  · refine ⟨by show _ = xs.length * 1; simp, fun j p hp => ?_⟩
    have hj : j < xs.length := (List.getElem?_eq_some_iff.1 hp).1
    show ((xs.map (Value.int .i64)).drop (j * 1)).take 1 = [Value.int .i64 p]
    rw [Nat.mul_one, List.drop_eq_getElem_cons (by simpa using hj), List.take_succ_cons, List.take_zero, List.getElem_map]
    have : xs[j] = p := by rw [List.getElem?_eq_getElem hj] at hp; exact Option.some.inj hp
    rw [this]
theorem own_ints2 {w : World} {base : Nat} {ok : Nat → Prop} {v : Value} {xs : List Int} (h : (Kd.int .i64).R 3 w base ok v xs) (hp : 0 < xs.length) :
    ∃ g cap cur, v = .slice (some ⟨g, 0, none⟩) xs.length cap ∧ base ≤ g ∧ w.heap[g]? = some (.cells cur 3 (0, 0)) ∧ xs.length ≤ cap ∧ cap ≤ maxLen ∧ cur.size = cap := by
  obtain ⟨A, c, rfl, hc, hC⟩ := Kd.R_reads h
  obtain ⟨inner, ho⟩ := Kd.R_own h
  rcases ho.2 with ⟨h1, h2⟩ | ⟨g, cap, cur, h1, h2, h3, h4, h5, h6, h7⟩
  · omega
  · injection h1 with hA hn hcap
    subst hA
    subst hcap
    exact ⟨g, c, cur, rfl, h2, h3, hc, h5, by rw [h6]; show c * 1 = c; omega⟩
section
variable {α : Type} [Inhabited α]
theorem heap_putRow (enc : α → Value) {w : World} {blk off : Nat} {d : Array α} {c : Array Value} {e : TypeId} {fr : Nat × Nat} (h : w.heap[blk]? = some (.cells c e fr)) : (putRow enc w blk off d).heap[blk]? = some (.cells (putCells enc off d c) e fr) := by
  simp [putRow, mapBlock, Array.getElem?_modify, h, onCells]
theorem heap_putRow_far (enc : α → Value) {w : World} {blk off i : Nat} {d : Array α} (h : i ≠ blk) : (putRow enc w blk off d).heap[i]? = w.heap[i]? := by
  simp [putRow, mapBlock, Array.getElem?_modify, Ne.symm h]
theorem below_sortWorld (enc : α → Value) {w W : World} {B blk off q : Nat} {d : Array α} {os : Array Obj} (h : Below B w W) (hb : B ≤ blk) (hB : B ≤ w.heap.size) : Below B w (sortWorld enc W blk off q d os) := by
  refine ⟨h.os, h.tape, h.output, ?_, fun i hi => ?_⟩
  · refine Nat.le_trans h.size ?_
    show W.heap.size ≤ (grow (putRow enc (Sort.ahead W q) blk off d) os).heap.size
    simp [grow]
  · have hs := h.size
    show (grow (putRow enc (Sort.ahead W q) blk off d) os).heap[i]? = _
    rw [heap_grow_old _ _ (by rw [size_putRow]; show i < W.heap.size; omega), heap_putRow_far enc (by omega)]
    exact h.block i hi
end
end Go.Proofs.Ythcabffoaaknaaa
