import Derived.Test.YtnkgbnipcjgjeaaMp
import Derived.Maps.RangeWalk
namespace Go.Proofs.Ytnkgbnipcjgjeaa
open Go.RowKit Go.Maps Go.MapKept Go.ChangeMaps
set_option linter.unusedVariables false
section
variable {κ : Type} {P : Program} {k : TypeId} {kv : κ → Value} {ok : κ → Prop} {w w' : World} {b r : Nat} {l : List (κ × Value)} {S : Nat → Bool}
/-- 'for k, v := range m' under way: block b is the map l, block r the iterator, S tells which places have been met. -/
def RngIs (kv : κ → Value) (ok : κ → Prop) (w : World) (b r : Nat) (l : List (κ × Value)) (S : Nat → Bool) : Prop :=
  ∃ es clock since seen c0, w.heap[b]? = some (.map es clock) ∧ Stamped es clock ∧ es.toList.map (fun e => (e.key, e.val)) = l.map (fun p => (kv p.1, p.2)) ∧ (∀ p ∈ l, ok p.1) ∧
    w.heap[r]? = some (.mapIter (some b) since seen c0) ∧ (∀ x ∈ es.toList, x.born < since) ∧ since ≤ c0 ∧ since ≤ clock ∧ ∀ i e, es[i]? = some e → seen.contains e.born = S i
theorem RngIs.map (h : RngIs kv ok w b r l S) : MapIs kv ok w b l := by
  obtain ⟨es, c, since, seen, c0, h1, h2, h3, h4, _⟩ := h
  exact ⟨es, c, h1, h2, h3, h4⟩
theorem RngIs.ltr (h : RngIs kv ok w b r l S) : r < w.heap.size := by
  obtain ⟨es, c, since, seen, c0, h1, h2, h3, h4, h5, _⟩ := h
  exact (Array.getElem?_eq_some_iff.1 h5).1
theorem RngIs.ne (h : RngIs kv ok w b r l S) : r ≠ b := by
  obtain ⟨es, c, since, seen, c0, h1, h2, h3, h4, h5, _⟩ := h
  intro e
  rw [e, h1] at h5
  cases h5
theorem RngIs.at_ (h : RngIs kv ok w b r l S) (h1 : w'.heap[b]? = w.heap[b]?) (h2 : w'.heap[r]? = w.heap[r]?) : RngIs kv ok w' b r l S := by
  obtain ⟨es, c, since, seen, c0, a1, a2, a3, a4, a5, a6⟩ := h
  exact ⟨es, c, since, seen, c0, h1.trans a1, a2, a3, a4, h2.trans a5, a6⟩
theorem RngIs.left_at {w w' : World} (h1 : w'.heap[b]? = w.heap[b]?) (h2 : w'.heap[r]? = w.heap[r]?) : w'.rangeLeft b r = w.rangeLeft b r := by
  unfold World.rangeLeft
  rw [h1, h2]
theorem MapIs.range {t e : TypeId} (h : MapIs kv ok w b l) (ht : P.underlying t = some (.map k e)) :
    ∃ w', (Instr.range t (.map (some b))).run P w = .ok (.pointer (some ⟨w.heap.size, 0, none⟩)) w' ∧ RngIs kv ok w' b w.heap.size l (fun _ => false) ∧ Below w.heap.size w w' ∧ w'.heap.size = w.heap.size + 1 := by
  have hlt := h.lt
  obtain ⟨es, clock, hb, hs, he, hok⟩ := h
  refine ⟨_, run_range_map w t k e b es clock ht hb, ⟨es, clock, clock, #[], clock, ((MapKept.heap_alloc w _).2 b hlt).trans hb, hs, he, hok, (MapKept.heap_alloc w _).1, hs.1, Nat.le_refl _, Nat.le_refl _, fun i e _ => by simp⟩, (Below.refl _ _).alloc (Nat.le_refl _) _, by simp⟩
theorem RngIs.next (h : RngIs kv ok w b r l S) (ty : TypeId) :
    ((∀ i, i < l.length → S i = true) ∧ (Instr.next (.pointer (some ⟨r, 0, none⟩)) false ty).run P w = .ok (.tuple #[.bool false]) w) ∨
    ∃ j x v w', l[j]? = some (x, v) ∧ S j = false ∧ (Instr.next (.pointer (some ⟨r, 0, none⟩)) false ty).run P w = .ok (.tuple #[.bool true, kv x, v]) w' ∧
      RngIs kv ok w' b r l (fun i => S i || i == j) ∧ w'.rangeLeft b r < w.rangeLeft b r ∧ w.grownBy w' (some r) ∧ w'.heap.size = w.heap.size ∧ (Instr.entry (.pointer (some ⟨r, 0, none⟩))).run P w' = .ok (.tuple #[kv x, v]) w' := by
  have hne := h.ne
  obtain ⟨es, clock, since, seen, c0, hb, hs, he, hok, hr, hold, hsc, hsk, hS⟩ := h
  have hlen : l.length = es.size := by have := congrArg List.length he; simpa using this.symm
  have hst := (stamped_iff es clock).1 hs
  rcases run_next_at (P := P) w ty r b since c0 seen es clock hr hb hold hsc with ⟨h0, hrun⟩ | ⟨e, hel, w1, hal, hrun⟩
  · refine Or.inl ⟨fun i hi => ?_, hrun⟩
    have hie : i < es.size := by omega
    rw [← hS i es[i] (Array.getElem?_eq_getElem hie)]
    exact all_seen es seen h0 _ (by simp)
  · obtain ⟨hem, hes⟩ := mem_left hel
    obtain ⟨j, hj⟩ := List.getElem?_of_mem hem
    have hje : es[j]? = some e := by simpa using hj
    have hlj : (l.map (fun p => (kv p.1, p.2)))[j]? = some (e.key, e.val) := by rw [← he, List.getElem?_map, hj]; rfl
    rw [List.getElem?_map] at hlj
    obtain ⟨p, hp, hpe⟩ := Option.map_eq_some_iff.1 hlj
    injection hpe with hk hv
    have hr1 : w1.heap[r]? = some (.mapIter (some b) since seen c0) := by rcases hal with rfl | rfl <;> exact hr
    have hb1 : w1.heap[b]? = some (.map es clock) := by rcases hal with rfl | rfl <;> exact hb
    have hset := heap_set (o' := .mapIter (some b) since (seen.push e.born) clock) hr1
    have hb' : (setBlock w1 r (.mapIter (some b) since (seen.push e.born) clock)).heap[b]? = some (.map es clock) := (hset.2 b (fun e1 => hne e1.symm)).trans hb1
    refine Or.inr ⟨j, p.1, p.2, _, hp, by rw [← hS j e hje]; exact hes, by rw [hk, hv]; exact hrun, ⟨es, clock, since, seen.push e.born, clock, hb', hs, he, hok, hset.1, hold, hsk, hsk, fun i x hx => ?_⟩, ?_, ?_, ?_, ?_⟩
    · rw [contains_push, hS i x hx]
      congr 1
      rw [Bool.eq_iff_iff, beq_iff_eq, beq_iff_eq]
      constructor
      · intro hbb
        have hx' : es.toList[i]? = some x := by simpa using hx
        have hil := (List.getElem?_eq_some_iff.1 hx').1
        have hjl := (List.getElem?_eq_some_iff.1 hj).1
        have hxe := born_inj hst.2.1 (List.mem_of_getElem? hx') hem hbb
        subst hxe
        have hnd := List.pairwise_iff_getElem.1 hst.2.1
        rcases Nat.lt_trichotomy i j with h | h | h
        · have := hnd i j (by simpa using hil) (by simpa using hjl) h
          rw [List.getElem_map, List.getElem_map, (List.getElem?_eq_some_iff.1 hx').2, (List.getElem?_eq_some_iff.1 hj).2] at this
          exact absurd rfl this
        · exact h
        · have := hnd j i (by simpa using hjl) (by simpa using hil) h
          rw [List.getElem_map, List.getElem_map, (List.getElem?_eq_some_iff.1 hx').2, (List.getElem?_eq_some_iff.1 hj).2] at this
          exact absurd rfl this
      · rintro rfl
        rw [hje] at hx
        rw [Option.some.inj hx]
    · unfold World.rangeLeft
      rw [hb', show (setBlock w1 r (.mapIter (some b) since (seen.push e.born) clock)).heap[r]? = some (.mapIter (some b) since (seen.push e.born) clock) from hset.1, hb, hr]
      exact left_shrinks es seen e hel
    · rcases hal with rfl | rfl <;> exact ⟨rfl, rfl, rfl, by simp [setBlock], fun i _ hi => hset.2 i (fun e1 => hi (by rw [e1]))⟩
    · rcases hal with rfl | rfl <;> simp [setBlock]
    · rw [hk, hv]
      exact run_entry_at _ r b since seen es clock e hset.1 hb' hem hst.2.1
theorem left_modify (es : Array MapEntry) (seen : Array Nat) (j : Nat) (f : MapEntry → MapEntry) (hf : ∀ e, (f e).born = e.born) : (leftOf (es.modify j f) seen).size = (leftOf es seen).size := by
  have e1 : ∀ a : Array MapEntry, (leftOf a seen).size = ((a.toList.map (·.born)).filter fun n => !seen.contains n).length := fun a => by
    unfold leftOf
    rw [← Array.length_toList, Array.toList_filter, List.filter_map, List.length_map]
    rfl
  rw [e1, e1]
  congr 2
  apply List.ext_getElem?
  intro i
  simp only [List.getElem?_map, Array.getElem?_toList, Array.getElem?_modify]
  split
  · cases es[i]? with
    | none => rfl
    | some x => simp [hf]
  · rfl
/-- A store at a key that is there, in the round. -/
theorem RngIs.put [DecidableEq κ] {t e : TypeId} (h : RngIs kv ok w b r l S) (K : KEnc P k kv ok) (ht : P.underlying t = some (.map k e)) {j : Nat} {x : κ} {v0 : Value} (hj : l[j]? = some (x, v0)) (v : Value) :
    ∃ w', (Instr.mapUpdate t (.map (some b)) (kv x) v).run P w = .ok () w' ∧ RngIs kv ok w' b r (l.set j (x, v)) S ∧ w.grownBy w' (some b) ∧ w'.heap.size = w.heap.size ∧ w'.rangeLeft b r = w.rangeLeft b r := by
  have hne := h.ne
  have hn := h.map.nodup
  obtain ⟨es, clock, since, seen, c0, hb, hs, he, hok, hr, hold, hsc, hsk, hS⟩ := h
  have hx : ok x := hok _ (List.mem_of_getElem? hj)
  obtain ⟨lx, hlx⟩ := K.lit x hx
  have hg : ∀ o, w.grownBy (setBlock w b o) (some b) := fun o => ⟨rfl, rfl, rfl, by simp [setBlock], fun i _ hi => heap_setBlock_other hb _ (fun e => hi (by rw [e]))⟩
  rcases find_l K w he hok hx with ⟨h1, h2, h3⟩ | ⟨i, v1, h1, h2, e0, h3, h4, h5⟩
  · exact absurd rfl (h2 _ (List.mem_of_getElem? hj))
  · have hij : i = j := by
      have hnd := List.pairwise_iff_getElem.1 hn
      have hil := (List.getElem?_eq_some_iff.1 h2).1
      have hjl := (List.getElem?_eq_some_iff.1 hj).1
      rcases Nat.lt_trichotomy i j with h | h | h
      · have := hnd i j (by simpa using hil) (by simpa using hjl) h
        rw [List.getElem_map, List.getElem_map, (List.getElem?_eq_some_iff.1 h2).2, (List.getElem?_eq_some_iff.1 hj).2] at this
        exact absurd rfl this
      · exact h
      · have := hnd j i (by simpa using hjl) (by simpa using hil) h
        rw [List.getElem_map, List.getElem_map, (List.getElem?_eq_some_iff.1 h2).2, (List.getElem?_eq_some_iff.1 hj).2] at this
        exact absurd rfl this
    subst hij
    have hrb : (setBlock w b (.map (es.modify i fun e => { e with key := kv x, val := v }) clock)).heap[r]? = w.heap[r]? := heap_setBlock_other hb _ hne
    refine ⟨setBlock w b (.map (es.modify i fun e => { e with key := kv x, val := v }) clock), ?_, ⟨_, _, since, seen, c0, heap_setBlock_same hb _, stamped_modify hs i _ (fun _ _ => rfl) (fun e' _ he' => by
      rw [h3] at he'
      obtain rfl := Option.some.inj he'
      exact h4.symm), ?_, ?_, hrb.trans hr, ?_, hsc, hsk, ?_⟩, hg _, by simp [setBlock], ?_⟩
    · have hst : ((es[i]?).map (·.key)).getD (kv x) = kv x := by rw [h3]; exact h4
      simp [Instr.mapUpdate, run_underlying ht, MapKept.run_getObj_map hb, K.keyed.check w false hlx, h1, MapKept.run_setObj_map _ hb, Result.andThen, setBlock, hst, K.keyed.stays w hlx]
    · apply List.ext_getElem?
      intro q
      have hi := congrArg (fun l => l[q]?) he
      simp only [List.getElem?_map, Array.getElem?_toList] at hi
      simp only [List.getElem?_map, Array.getElem?_toList, Array.getElem?_modify, List.getElem?_set]
      by_cases hij : i = q
      · subst hij
        have hl : i < l.length := (List.getElem?_eq_some_iff.1 h2).1
        rw [if_pos rfl, if_pos rfl, if_pos hl, h3]
        rfl
      · rw [if_neg hij, if_neg hij]
        exact hi
    · intro p hp
      rcases List.mem_or_eq_of_mem_set hp with hp | rfl
      · exact hok p hp
      · exact hx
    · intro y hy
      obtain ⟨q, hq⟩ := List.getElem?_of_mem hy
      rw [Array.getElem?_toList, Array.getElem?_modify] at hq
      split at hq
      · obtain ⟨z, hz, rfl⟩ := Option.map_eq_some_iff.1 hq
        exact hold z (List.mem_of_getElem? (i := q) (by simpa using hz))
      · exact hold y (List.mem_of_getElem? (i := q) (by simpa using hq))
    · intro q y hy
      rw [Array.getElem?_modify] at hy
      split at hy
      · obtain ⟨z, hz, rfl⟩ := Option.map_eq_some_iff.1 hy
        exact hS q z hz
      · exact hS q y hy
    · unfold World.rangeLeft
      rw [heap_setBlock_same hb _, hrb, hb, hr]
      exact left_modify es seen i _ (fun _ => rfl)
/-! at the operation -/
variable {ops : Array Oper} {rest : List Oper} {o : Oper} {a : Act} {Q : Exit → Act → World → Prop}
theorem wp_range {t e : TypeId} (hg : o.guard = none) (m : Operand) (hop : o.op = Op.range t m) (ht : P.underlying t = some (.map k e)) (hm : a.eval m = .map (some b)) (h : MapIs kv ok w b l)
    (hK : ∀ w', RngIs kv ok w' b w.heap.size l (fun _ => false) → Below w.heap.size w w' → w'.heap.size = w.heap.size + 1 → wpList P ops Q rest (a.put o.dst (.pointer (some ⟨w.heap.size, 0, none⟩))) w') :
    wpList P ops Q (o :: rest) a w := by
  refine wpList_plain hg fun K' hK' => ?_
  obtain ⟨w', hrun, r1, r2, r3⟩ := h.range (P := P) ht
  unfold Oper.wp
  simp [execOp, hop, hm, hrun, Result.andThen]
  exact hK' _ _ (hK w' r1 r2 r3)
theorem wp_next (hg : o.guard = none) (it : Operand) (hop : o.op = Op.next it false) (hit : a.eval it = .pointer (some ⟨r, 0, none⟩)) (h : RngIs kv ok w b r l S)
    (hDone : (∀ i, i < l.length → S i = true) → wpList P ops Q rest (a.put o.dst (.tuple #[.bool false])) w)
    (hMore : ∀ (j : Nat) (x : κ) (v : Value) (w' : World), l[j]? = some (x, v) → S j = false → RngIs kv ok w' b r l (fun i => S i || i == j) → w'.rangeLeft b r < w.rangeLeft b r → w.grownBy w' (some r) → w'.heap.size = w.heap.size → (Instr.entry (.pointer (some ⟨r, 0, none⟩))).run P w' = .ok (.tuple #[kv x, v]) w' → wpList P ops Q rest (a.put o.dst (.tuple #[.bool true, kv x, v])) w') :
    wpList P ops Q (o :: rest) a w := by
  refine wpList_plain hg fun K' hK' => ?_
  unfold Oper.wp
  rcases h.next (P := P) o.type with ⟨h0, hrun⟩ | ⟨j, x, v, w', h1, h2, hrun, h3, h4, h5, h6, h7⟩
  · simp [execOp, hop, hit, hrun, Result.andThen]
    exact hK' _ _ (hDone h0)
  · simp [execOp, hop, hit, hrun, Result.andThen]
    exact hK' _ _ (hMore j x v w' h1 h2 h3 h4 h5 h6 h7)
theorem wp_rput [DecidableEq κ] {t e : TypeId} (hg : o.guard = none) (m y u : Operand) (hop : o.op = Op.mapUpdate t m y u) (K : KEnc P k kv ok) (ht : P.underlying t = some (.map k e))
    (hm : a.eval m = .map (some b)) (h : RngIs kv ok w b r l S) (j : Nat) (x : κ) (v0 : Value) (hj : l[j]? = some (x, v0)) (hy : a.eval y = kv x) (v : Value) (hv : a.eval u = v)
    (hK : ∀ w', RngIs kv ok w' b r (l.set j (x, v)) S → w.grownBy w' (some b) → w'.heap.size = w.heap.size → w'.rangeLeft b r = w.rangeLeft b r → wpList P ops Q rest (a.put o.dst undef) w') : wpList P ops Q (o :: rest) a w := by
  refine wpList_plain hg fun K' hK' => ?_
  obtain ⟨w', hrun, r1, r2, r3, r4⟩ := h.put K ht hj v
  unfold Oper.wp
  simp [execOp, hop, hm, hy, hv, hrun, Result.andThen]
  exact hK' _ _ (hK w' r1 r2 r3 r4)
/-- In a region that draws its order. -/
theorem wp_put_step {K' : Act → World → Prop} [DecidableEq κ] {t e : TypeId} (hw : Region.wanted o (yielded ops a.tmps) = true) (m y u : Operand) (hop : o.op = Op.mapUpdate t m y u) (K : KEnc P k kv ok) (ht : P.underlying t = some (.map k e))
    (hm : a.eval m = .map (some b)) (h : MapIs kv ok w b l) (x : κ) (hx : ok x) (hy : a.eval y = kv x) (v : Value) (hv : a.eval u = v)
    (hK : ∀ w', MapIs kv ok w' b (mput l x v) → w.grownBy w' (some b) → w'.heap.size = w.heap.size → K' (a.put o.dst undef) w') :
    if Region.wanted o (yielded ops a.tmps) = true then Oper.wp P o a w K' Q else K' (a.put o.dst undef) w := by
  rw [if_pos hw]
  obtain ⟨w', hrun, r1, r2, r3⟩ := h.put K ht hx v
  unfold Oper.wp
  simp [execOp, hop, hm, hy, hv, hrun, Result.andThen]
  exact hK w' r1 r2 r3
theorem wp_rput_step {K' : Act → World → Prop} [DecidableEq κ] {t e : TypeId} (hw : Region.wanted o (yielded ops a.tmps) = true) (m y u : Operand) (hop : o.op = Op.mapUpdate t m y u) (K : KEnc P k kv ok) (ht : P.underlying t = some (.map k e))
    (hm : a.eval m = .map (some b)) (h : RngIs kv ok w b r l S) (j : Nat) (x : κ) (v0 : Value) (hj : l[j]? = some (x, v0)) (hy : a.eval y = kv x) (v : Value) (hv : a.eval u = v)
    (hK : ∀ w', RngIs kv ok w' b r (l.set j (x, v)) S → w.grownBy w' (some b) → w'.heap.size = w.heap.size → w'.rangeLeft b r = w.rangeLeft b r → K' (a.put o.dst undef) w') :
    if Region.wanted o (yielded ops a.tmps) = true then Oper.wp P o a w K' Q else K' (a.put o.dst undef) w := by
  rw [if_pos hw]
  obtain ⟨w', hrun, r1, r2, r3, r4⟩ := h.put K ht hj v
  unfold Oper.wp
  simp [execOp, hop, hm, hy, hv, hrun, Result.andThen]
  exact hK w' r1 r2 r3 r4
end
end Go.Proofs.Ytnkgbnipcjgjeaa
