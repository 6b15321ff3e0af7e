import Derived.Maps.OwnOps
import Derived.Maps.OwnSet
import Derived.WalkKit
import Derived.Deep.Draws
import Derived.Below
namespace Go.Proofs.Ytnkgbnipcjgjeaa
open Go.RowKit Go.Maps Go.MapKept Go.ChangeMaps
set_option linter.unusedVariables false
section
variable {κ β : Type} [DecidableEq κ]
/-! Maps as lists of pairs. -/
def mget (l : List (κ × β)) (k : κ) : Option β :=
  match l with
  | [] => none
  | p :: r => if p.1 = k then some p.2 else mget r k
def mput (l : List (κ × β)) (k : κ) (v : β) : List (κ × β) :=
  match l with
  | [] => [(k, v)]
  | p :: r => if p.1 = k then (p.1, v) :: r else p :: mput r k v
def mdel (l : List (κ × β)) (k : κ) : List (κ × β) :=
  match l with
  | [] => []
  | p :: r => if p.1 = k then r else p :: mdel r k
theorem mget_map {γ : Type} (f : β → γ) (k : κ) : ∀ l : List (κ × β), mget (l.map fun p => (p.1, f p.2)) k = (mget l k).map f
  | [] => rfl
  | p :: r => by
    simp only [List.map_cons, mget]
    split
    · rfl
    · exact mget_map f k r
theorem mput_map {γ : Type} (f : β → γ) (k : κ) (v : β) : ∀ l : List (κ × β), mput (l.map fun p => (p.1, f p.2)) k (f v) = (mput l k v).map fun p => (p.1, f p.2)
  | [] => rfl
  | p :: r => by
    simp only [List.map_cons, mput]
    split
    · rfl
    · rw [mput_map f k v r]; rfl
theorem mdel_map {γ : Type} (f : β → γ) (k : κ) : ∀ l : List (κ × β), mdel (l.map fun p => (p.1, f p.2)) k = (mdel l k).map fun p => (p.1, f p.2)
  | [] => rfl
  | p :: r => by
    simp only [List.map_cons, mdel]
    split
    · rfl
    · rw [mdel_map f k r]; rfl
theorem mget_none {l : List (κ × β)} {k : κ} (h : ∀ p ∈ l, p.1 ≠ k) : mget l k = none := by
  induction l with
  | nil => rfl
  | cons p r ih =>
    unfold mget
    rw [if_neg (h p List.mem_cons_self)]
    exact ih (fun q hq => h q (List.mem_cons_of_mem _ hq))
theorem mput_none {l : List (κ × β)} {k : κ} (v : β) (h : ∀ p ∈ l, p.1 ≠ k) : mput l k v = l ++ [(k, v)] := by
  induction l with
  | nil => rfl
  | cons p r ih =>
    unfold mput
    rw [if_neg (h p List.mem_cons_self), ih (fun q hq => h q (List.mem_cons_of_mem _ hq))]; rfl
theorem mdel_none {l : List (κ × β)} {k : κ} (h : ∀ p ∈ l, p.1 ≠ k) : mdel l k = l := by
  induction l with
  | nil => rfl
  | cons p r ih =>
    unfold mdel
    rw [if_neg (h p List.mem_cons_self), ih (fun q hq => h q (List.mem_cons_of_mem _ hq))]
/-- The one place that bears the key. -/
theorem m_some {l : List (κ × β)} {k : κ} {j : Nat} {b : β} (hn : (l.map (·.1)).Nodup) (hj : l[j]? = some (k, b)) : mget l k = some b ∧ (∀ v, mput l k v = l.set j (k, v)) ∧ mdel l k = l.eraseIdx j := by
  induction l generalizing j with
  | nil => simp at hj
  | cons p r ih =>
    have hn' := List.nodup_cons.1 hn
    cases j with
    | zero =>
      obtain rfl : p = (k, b) := by simpa using hj
      unfold mget mput mdel
      simp
    | succ j =>
      have hj' : r[j]? = some (k, b) := by simpa using hj
      have hne : p.1 ≠ k := fun e => hn'.1 (List.mem_map.2 ⟨_, List.mem_of_getElem? hj', e.symm⟩)
      obtain ⟨h1, h2, h3⟩ := ih hn'.2 hj'
      refine ⟨?_, fun v => ?_, ?_⟩
      · unfold mget; rw [if_neg hne]; exact h1
      · unfold mput; rw [if_neg hne, h2 v]; rfl
      · unfold mdel; rw [if_neg hne, h3]; rfl
end
section
variable {κ : Type}
/-- How keys are told: injective. -/
structure KEnc (P : Program) (k : TypeId) (kv : κ → Value) (ok : κ → Prop) : Prop where
  keyed : Keyed P k
  lit : ∀ x, ok x → ∃ l, keyOf P k (kv x) = some l
  inj : ∀ x y, kv x = kv y → x = y
variable {P : Program} {k : TypeId} {kv : κ → Value} {ok : κ → Prop}
/-- Block b is a map whose entries are l, in the order in which they came. -/
def MapIs (kv : κ → Value) (ok : κ → Prop) (w : World) (b : Nat) (l : List (κ × Value)) : Prop :=
  ∃ es clock, w.heap[b]? = some (.map es clock) ∧ Stamped es clock ∧ es.toList.map (fun e => (e.key, e.val)) = l.map (fun p => (kv p.1, p.2)) ∧ ∀ p ∈ l, ok p.1
variable {w w' : World} {b : Nat} {l : List (κ × Value)}
theorem MapIs.lt (h : MapIs kv ok w b l) : b < w.heap.size := by
  obtain ⟨es, c, hb, _⟩ := h
  exact (Array.getElem?_eq_some_iff.1 hb).1
theorem MapIs.at_ (h : MapIs kv ok w b l) (hh : w'.heap[b]? = w.heap[b]?) : MapIs kv ok w' b l := by
  obtain ⟨es, c, hb, hs⟩ := h
  exact ⟨es, c, hh.trans hb, hs⟩
theorem MapIs.below (h : MapIs kv ok w b l) (hb : Below w.heap.size w w') : MapIs kv ok w' b l := h.at_ (hb.block b h.lt)
theorem MapIs.grown {row : Option Nat} (h : MapIs kv ok w b l) (hg : w.grownBy w' row) (hne : some b ≠ row) : MapIs kv ok w' b l := h.at_ (hg.block b h.lt hne)
theorem MapIs.alloc (h : MapIs kv ok w b l) (o : Obj) : MapIs kv ok (w.alloc o) b l := h.at_ (Below.heap_alloc w o b h.lt)
theorem MapIs.drewN (h : MapIs kv ok w b l) (n : Nat) : MapIs kv ok (w.drewN n) b l := h
theorem MapIs.setCell (h : MapIs kv ok w b l) {a : Addr} (ha : b ≠ a.block) (u : Value) : MapIs kv ok (w.setCell a u) b l := h.at_ (Below.heap_setCell w a u b ha)
theorem MapIs.new (kv : κ → Value) (ok : κ → Prop) (w : World) : MapIs kv ok (w.alloc (.map #[] 0)) w.heap.size [] := ⟨#[], 0, (MapKept.heap_alloc w _).1, stamped_empty 0, rfl, by simp⟩
theorem MapIs.nodup (h : MapIs kv ok w b l) : (l.map (·.1)).Nodup := by
  obtain ⟨es, c, _, hs, he, _⟩ := h
  have h1 := hs.2.2
  have h2 : es.toList.map (·.key) = l.map (fun p => kv p.1) := by
    have := congrArg (List.map (fun p : Value × Value => p.1)) he
    rw [List.map_map, List.map_map] at this
    exact this
  rw [h2] at h1
  unfold List.Nodup at h1 ⊢
  rw [List.pairwise_map] at h1 ⊢
  exact h1.imp (fun h e => h (by rw [e]))
theorem MapIs.oks (h : MapIs kv ok w b l) : ∀ p ∈ l, ok p.1 := by
  obtain ⟨_, _, _, _, _, h⟩ := h
  exact h
/-- What a search comes to. -/
theorem find_l (K : KEnc P k kv ok) (w : World) {es : Array MapEntry} (he : es.toList.map (fun e => (e.key, e.val)) = l.map (fun p => (kv p.1, p.2))) (hok : ∀ p ∈ l, ok p.1) {x : κ} (hx : ok x) :
    ((Instr.findKey k (kv x) es.toList).run P w = .ok none w ∧ (∀ p ∈ l, p.1 ≠ x) ∧ ∀ e ∈ es.toList, e.key ≠ kv x) ∨ ∃ j v, (Instr.findKey k (kv x) es.toList).run P w = .ok (some (j, v)) w ∧ l[j]? = some (x, v) ∧ ∃ e, es[j]? = some e ∧ e.key = kv x ∧ e.val = v := by
  obtain ⟨lx, hlx⟩ := K.lit x hx
  have hmem : ∀ e ∈ es.toList, ∃ p ∈ l, (e.key, e.val) = (kv p.1, p.2) := fun e hm => by
    have : (e.key, e.val) ∈ l.map (fun p => (kv p.1, p.2)) := by rw [← he]; exact List.mem_map.2 ⟨e, hm, rfl⟩
    obtain ⟨p, hp, h⟩ := List.mem_map.1 this
    exact ⟨p, hp, h.symm⟩
  rcases K.keyed.find w hlx es.toList (fun e hm => by
    obtain ⟨p, hp, h⟩ := hmem e hm
    obtain ⟨lp, hlp⟩ := K.lit p.1 (hok p hp)
    injection h with h1 _
    exact ⟨lp, by rw [h1]; exact hlp⟩) with ⟨h1, h2⟩ | ⟨j, e, h1, h2, h3⟩
  · refine .inl ⟨h1, fun p hp hpx => ?_, h2⟩
    have : (kv p.1, p.2) ∈ es.toList.map (fun e => (e.key, e.val)) := by rw [he]; exact List.mem_map.2 ⟨p, hp, rfl⟩
    obtain ⟨e, hm, h⟩ := List.mem_map.1 this
    injection h with h4 _
    exact h2 e hm (by rw [h4, hpx])
  · refine .inr ⟨j, e.val, h1, ?_, e, by simpa using h2, h3, rfl⟩
    have h4 : (es.toList.map (fun e => (e.key, e.val)))[j]? = some (e.key, e.val) := by rw [List.getElem?_map, h2]; rfl
    rw [he, List.getElem?_map] at h4
    obtain ⟨p, hp, h5⟩ := Option.map_eq_some_iff.1 h4
    injection h5 with h6 h7
    rw [h3] at h6
    rw [hp, ← K.inj _ _ h6, ← h7]
variable {t e : TypeId}
theorem MapIs.look [DecidableEq κ] (h : MapIs kv ok w b l) (K : KEnc P k kv ok) (ht : P.underlying t = some (.map k e)) {z : Value} (hz : (zeroValue e).run P w = .ok z w) {x : κ} (hx : ok x) (c : Bool) :
    (Instr.lookup t (.map (some b)) (kv x) c).run P w = .ok (if c then .tuple #[(mget l x).getD z, .bool (mget l x).isSome] else (mget l x).getD z) w := by
  have hn := h.nodup
  obtain ⟨es, clock, hb, hs, he, hok⟩ := h
  obtain ⟨lx, hlx⟩ := K.lit x hx
  rcases find_l K w he hok hx with ⟨h1, h2, _⟩ | ⟨j, v, h1, h2, _⟩
  · rw [mget_none h2]
    simp [Instr.lookup, run_underlying ht, MapKept.run_getObj_map hb, K.keyed.check w _ hlx, h1, hz, Result.andThen]
  · rw [(m_some hn h2).1]
    simp [Instr.lookup, run_underlying ht, MapKept.run_getObj_map hb, K.keyed.check w _ hlx, h1, Result.andThen]
theorem MapIs.put [DecidableEq κ] (h : MapIs kv ok w b l) (K : KEnc P k kv ok) (ht : P.underlying t = some (.map k e)) {x : κ} (hx : ok x) (v : Value) :
    ∃ w', (Instr.mapUpdate t (.map (some b)) (kv x) v).run P w = .ok () w' ∧ MapIs kv ok w' b (mput l x v) ∧ w.grownBy w' (some b) ∧ w'.heap.size = w.heap.size := by
  have hn := h.nodup
  obtain ⟨es, clock, hb, hs, he, hok⟩ := h
  obtain ⟨lx, hlx⟩ := K.lit x hx
  have hg : ∀ o, w.grownBy (setBlock w b o) (some b) := fun o => ⟨rfl, rfl, rfl, by simp [setBlock], fun i _ hi => heap_setBlock_other hb _ (fun e => hi (by rw [e]))⟩
  rcases find_l K w he hok hx with ⟨h1, h2, h3⟩ | ⟨j, v0, h1, h2, e0, h3, h4, h5⟩
  · refine ⟨setBlock w b (.map (es.push ⟨kv x, v, clock⟩) (clock + 1)), ?_, ⟨_, _, heap_setBlock_same hb _, stamped_push hs h3, ?_, ?_⟩, hg _, by simp [setBlock]⟩
    · simp [Instr.mapUpdate, run_underlying ht, MapKept.run_getObj_map hb, K.keyed.check w false hlx, h1, MapKept.run_setObj_map _ hb, Result.andThen, setBlock]
    · rw [mput_none v h2, Array.toList_push, List.map_append, he, List.map_append]; rfl
    · rw [mput_none v h2]
      intro p hp
      rcases List.mem_append.1 hp with hp | hp
      · exact hok p hp
      · obtain rfl : p = (x, v) := by simpa using hp
        exact hx
  · have hjs : j < es.size := (Array.getElem?_eq_some_iff.1 h3).1
    refine ⟨setBlock w b (.map (es.modify j fun e => { e with key := kv x, val := v }) clock), ?_, ⟨_, _, heap_setBlock_same hb _, stamped_modify hs j _ (fun _ _ => rfl) (fun e' _ he' => by
      rw [h3] at he'
      obtain rfl := Option.some.inj he'
      exact h4.symm), ?_, ?_⟩, hg _, by simp [setBlock]⟩
    · have hst : ((es[j]?).map (·.key)).getD (kv x) = kv x := by rw [h3]; exact h4
      simp [Instr.mapUpdate, run_underlying ht, MapKept.run_getObj_map hb, K.keyed.check w false hlx, h1, MapKept.run_setObj_map _ hb, Result.andThen, setBlock, hst, K.keyed.stays w hlx]
    · rw [(m_some hn h2).2.1 v]
      apply List.ext_getElem?
      intro i
      have hi := congrArg (fun l => l[i]?) he
      simp only [List.getElem?_map, Array.getElem?_toList] at hi
      simp only [List.getElem?_map, Array.getElem?_toList, Array.getElem?_modify, List.getElem?_set]
      by_cases hij : j = i
      · subst hij
        have hl : j < l.length := (List.getElem?_eq_some_iff.1 h2).1
        rw [if_pos rfl, if_pos rfl, if_pos hl, h3]
        rfl
      · rw [if_neg hij, if_neg hij]
        exact hi
    · rw [(m_some hn h2).2.1 v]
      intro p hp
      rcases List.mem_or_eq_of_mem_set hp with hp | rfl
      · exact hok p hp
      · exact hx
theorem MapIs.del [DecidableEq κ] (h : MapIs kv ok w b l) (K : KEnc P k kv ok) (ht : P.underlying t = some (.map k e)) {x : κ} (hx : ok x) (ty : TypeId) :
    ∃ w', (Builtin.delete_ #[t, k] ty #[.map (some b), kv x]).run P w = .ok (.tuple #[]) w' ∧ MapIs kv ok w' b (mdel l x) ∧ w.grownBy w' (some b) ∧ w'.heap.size = w.heap.size := by
  have hn := h.nodup
  obtain ⟨es, clock, hb, hs, he, hok⟩ := h
  obtain ⟨lx, hlx⟩ := K.lit x hx
  have hg : ∀ o, w.grownBy (setBlock w b o) (some b) := fun o => ⟨rfl, rfl, rfl, by simp [setBlock], fun i _ hi => heap_setBlock_other hb _ (fun e => hi (by rw [e]))⟩
  rcases find_l K w he hok hx with ⟨h1, h2, h3⟩ | ⟨j, v0, h1, h2, e0, h3, h4, h5⟩
  · refine ⟨setBlock w b (.map es clock), ?_, ⟨_, _, heap_setBlock_same hb _, hs, by rw [mdel_none h2]; exact he, by rw [mdel_none h2]; exact hok⟩, hg _, by simp [setBlock]⟩
    simp [Builtin.delete_, run_underlying ht, MapKept.run_getObj_map hb, K.keyed.check w _ hlx, h1, MapKept.run_setObj_map _ hb, Result.andThen, setBlock]
  · have hjs : j < es.size := (Array.getElem?_eq_some_iff.1 h3).1
    have hsub : (es.eraseIdxIfInBounds j).toList = es.toList.eraseIdx j := by
      unfold Array.eraseIdxIfInBounds
      rw [dif_pos hjs]
      simp
    refine ⟨setBlock w b (.map (es.eraseIdxIfInBounds j) clock), ?_, ⟨_, _, heap_setBlock_same hb _, stamped_erase hs j, ?_, ?_⟩, hg _, by simp [setBlock]⟩
    · simp [Builtin.delete_, run_underlying ht, MapKept.run_getObj_map hb, K.keyed.check w _ hlx, h1, MapKept.run_setObj_map _ hb, Result.andThen, setBlock]
    · rw [(m_some hn h2).2.2, hsub, map_eraseIdx, he, map_eraseIdx]
    · rw [(m_some hn h2).2.2]
      exact fun p hp => hok p ((List.eraseIdx_sublist _ _).subset hp)
theorem MapIs.len (h : MapIs kv ok w b l) (ht : P.underlying t = some (.map k e)) (ty : TypeId) : (Builtin.len_ #[t] ty #[.map (some b)]).run P w = .ok (.int .i64 l.length) w := by
  obtain ⟨es, clock, hb, hs, he, hok⟩ := h
  have e1 : l.length = es.size := by have := congrArg List.length he; simpa using this.symm
  rw [e1]
  simp [Builtin.len_, run_underlying ht, MapKept.run_getObj_map hb, goInt, Result.andThen]
/-! at the operation, for the walk -/
variable {ops : Array Oper} {rest : List Oper} {o : Oper} {a : Act} {Q : Exit → Act → World → Prop}
theorem wp_look [DecidableEq κ] (hg : o.guard = none) (m y : Operand) (t : TypeId) (c : Bool) (hop : o.op = Op.lookup t m y c) (K : KEnc P k kv ok) (ht : P.underlying t = some (.map k e)) {z : Value} (hz : (zeroValue e).run P w = .ok z w)
    (hm : a.eval m = .map (some b)) (h : MapIs kv ok w b l) (x : κ) (hx : ok x) (hy : a.eval y = kv x)
    (hK : wpList P ops Q rest (a.put o.dst (if c then .tuple #[(mget l x).getD z, .bool (mget l x).isSome] else (mget l x).getD z)) w) : wpList P ops Q (o :: rest) a w := by
  refine wpList_plain hg fun K' hK' => ?_
  unfold Oper.wp
  simp [execOp, hop, hm, hy, h.look K ht hz hx c, Result.andThen]
  exact hK' _ _ (by simpa using hK)
theorem wp_put [DecidableEq κ] (hg : o.guard = none) (m y u : Operand) (t : TypeId) (hop : o.op = Op.mapUpdate t m y u) (K : KEnc P k kv ok) (ht : P.underlying t = some (.map k e))
    (hm : a.eval m = .map (some b)) (h : MapIs kv ok w b l) (x : κ) (hx : ok x) (hy : a.eval y = kv x) (v : Value) (hv : a.eval u = v)
    (hK : ∀ w', MapIs kv ok w' b (mput l x v) → w.grownBy w' (some b) → w'.heap.size = w.heap.size → wpList P ops Q rest (a.put o.dst undef) w') : wpList P ops Q (o :: rest) a w := by
  refine wpList_plain hg fun K' hK' => ?_
  obtain ⟨w', hrun, r1, r2, r3⟩ := h.put K ht hx v
  unfold Oper.wp
  simp [execOp, hop, hm, hy, hv, hrun, Result.andThen]
  exact hK' _ _ (hK w' r1 r2 r3)
theorem wp_del [DecidableEq κ] (hg : o.guard = none) (m y : Operand) (t : TypeId) (hop : o.op = Op.call { callee := Callee.builtin Builtin.delete, args := #[m, y], argTypes := #[t, k] }) (K : KEnc P k kv ok) (ht : P.underlying t = some (.map k e))
    (hm : a.eval m = .map (some b)) (h : MapIs kv ok w b l) (x : κ) (hx : ok x) (hy : a.eval y = kv x)
    (hK : ∀ w', MapIs kv ok w' b (mdel l x) → w.grownBy w' (some b) → w'.heap.size = w.heap.size → wpList P ops Q rest (a.put o.dst (.tuple #[])) w') : wpList P ops Q (o :: rest) a w := by
  refine wpList_plain hg fun K' hK' => ?_
  obtain ⟨w', hrun, r1, r2, r3⟩ := h.del K ht hx o.type
  unfold Oper.wp
  simp [execOp, hop, resolve, invoke, builtin, hm, hy, hrun, Result.andThen]
  exact hK' _ _ (hK w' r1 r2 r3)
theorem wp_mlen (hg : o.guard = none) (m : Operand) (t : TypeId) (hop : o.op = Op.call { callee := Callee.builtin Builtin.len, args := #[m], argTypes := #[t] }) (ht : P.underlying t = some (.map k e))
    (hm : a.eval m = .map (some b)) (h : MapIs kv ok w b l) (hK : wpList P ops Q rest (a.put o.dst (.int .i64 l.length)) w) : wpList P ops Q (o :: rest) a w := by
  refine wpList_plain hg fun K' hK' => ?_
  unfold Oper.wp
  simp [execOp, hop, resolve, invoke, builtin, hm, h.len ht o.type, Result.andThen]
  exact hK' _ _ hK
end
/-! int keys -/
def kI (x : Int) : Value := .int .i64 x
def okI (x : Int) : Prop := (Lit.int .i64 x).wf = true
theorem kencI {P : Program} {k : TypeId} (hk : P.underlying k = some (.int .i64)) : KEnc P k kI okI where
  keyed := int_keyed hk
  lit := fun x hx => ⟨_, keyOf_int_mk hk hx⟩
  inj := fun x y h => by injection h
end Go.Proofs.Ytnkgbnipcjgjeaa
