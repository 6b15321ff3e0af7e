import Derived.Test.YtnkgbnipcjgjeaaDJ
namespace Go.Proofs.Ytnkgbnipcjgjeaa
open Go.RowKit Go.Shelf Go.Sort Go.Lib Go.Proofs.YtnkgbnipcjgjeaaW.PrintWords Go.Proofs.YtnkgbnipcjgjeaaW.PrintLast Go.Proofs.YtnkgbnipcjgjeaaW.PrintMore
set_option linter.unusedVariables false
set_option maxRecDepth 100000 in
theorem z94 : Try.zeroCells94 = Array.replicate 1024 (Value.bool false) := by kernel_rfl
/-- A table of 4 times 256 bools. -/
def MayIs (w : World) (m : Nat) (P : Nat → Nat → Bool) : Prop := ∃ cs, w.heap[m]? = some (.cells cs 94 (0, 0)) ∧ cs.size = 1024 ∧ ∀ s v, s < 4 → v < 256 → cs[s * 256 + v]? = some (.bool (P s v))
section
variable {w w' : World} {m : Nat} {P : Nat → Nat → Bool}
theorem MayIs.lt (h : MayIs w m P) : m < w.heap.size := by obtain ⟨cs, h1, _⟩ := h; exact blk_lt h1
theorem MayIs.at_ (h : MayIs w m P) (he : w'.heap[m]? = w.heap[m]?) : MayIs w' m P := by obtain ⟨cs, h1, h2⟩ := h; exact ⟨cs, he.trans h1, h2⟩
theorem MayIs.below (h : MayIs w m P) (hb : Below w.heap.size w w') : MayIs w' m P := h.at_ (hb.block m h.lt)
theorem MayIs.drewN (h : MayIs w m P) (q : Nat) : MayIs (w.drewN q) m P := h
theorem MayIs.cell (h : MayIs w m P) {s v : Nat} (hs : s < 4) (hv : v < 256) : w.cell? ⟨m, s * 256 + v, none⟩ = some (.bool (P s v)) := by
  obtain ⟨cs, h1, h2, h3⟩ := h
  rw [blk_cell h1]
  exact h3 s v hs hv
theorem MayIs.frozen (h : MayIs w m P) (o : Nat) : w.frozen? ⟨m, o, none⟩ = false := by
  obtain ⟨cs, h1, h2, h3⟩ := h
  exact blk_frozen h1 o
theorem MayIs.set (h : MayIs w m P) {s v : Nat} (hs : s < 4) (hv : v < 256) : MayIs (w.setCell ⟨m, s * 256 + v, none⟩ (.bool true)) m (fun s' v' => P s' v' || (s' == s && v' == v)) := by
  obtain ⟨cs, h1, h2, h3⟩ := h
  refine ⟨_, blk_put h1 (s * 256 + v) _ rfl, by simpa using h2, fun s' v' hs' hv' => ?_⟩
  rw [Array.getElem?_setIfInBounds]
  by_cases e : s * 256 + v = s' * 256 + v'
  · have e1 : s' = s := by omega
    have e2 : v' = v := by omega
    subst e1 e2
    rw [if_pos rfl, if_pos (by omega)]
    simp
  · rw [if_neg e, h3 s' v' hs' hv']
    have : (s' == s && v' == v) = false := by
      rw [Bool.and_eq_false_iff, beq_eq_false_iff_ne, beq_eq_false_iff_ne]
      by_cases e1 : s' = s
      · right; intro e2; subst e1 e2; exact e rfl
      · exact .inl e1
    show _ = some (Value.bool (P s' v' || (s' == s && v' == v)))
    rw [this, Bool.or_false]
theorem MayIs.congr {P' : Nat → Nat → Bool} (h : MayIs w m P) (hP : ∀ s v, s < 4 → v < 256 → P s v = P' s v) : MayIs w m P' := by
  obtain ⟨cs, h1, h2, h3⟩ := h
  exact ⟨cs, h1, h2, fun s v hs hv => by rw [h3 s v hs hv, hP s v hs hv]⟩
theorem MayIs.new (w : World) : MayIs (w.alloc (.cells Try.zeroCells94 94)) w.heap.size (fun _ _ => false) := by
  refine ⟨_, blk_new w _, by rw [z94]; simp, fun s v hs hv => ?_⟩
  rw [z94, Array.getElem?_replicate, if_pos (by omega)]
end
theorem mget_nil (x : Int) : mget ([] : Rec) x = none := rfl
theorem mget_cons (p : Int × List (List Int)) (r : Rec) (x : Int) : mget (p :: r) x = if p.1 = x then some p.2 else mget r x := rfl
theorem mput_cons (p : Int × List (List Int)) (r : Rec) (x : Int) (v : List (List Int)) : mput (p :: r) x v = if p.1 = x then (p.1, v) :: r else p :: mput r x v := rfl
theorem mget_mput (l : Rec) (s : Int) (rows : List (List Int)) (s' : Int) : mget (mput l s rows) s' = if s' = s then some rows else mget l s' := by
  induction l with
  | nil =>
    rw [show mput ([] : Rec) s rows = [(s, rows)] from rfl, mget_cons, mget_nil]
    by_cases e : s' = s
    · rw [if_pos e, if_pos e.symm]
    · rw [if_neg e, if_neg (fun h => e h.symm)]
  | cons p r ih =>
    rw [mput_cons, mget_cons]
    by_cases e : p.1 = s
    · rw [if_pos e, mget_cons]
      by_cases e' : s' = s
      · rw [if_pos e', if_pos (e.trans e'.symm)]
      · rw [if_neg e', if_neg (fun h => e' (h.symm.trans e)), if_neg (fun h => e' (h.symm.trans e))]
    · rw [if_neg e, mget_cons]
      by_cases e' : p.1 = s'
      · rw [if_pos e', if_pos e', if_neg (fun h => e (e'.trans h))]
      · rw [if_neg e', if_neg e', ih]
theorem ofV_put (l : Rec) (sz : Nat) (s : Int) (rows : List (List Int)) (s' : Int) : ofV (mput l s rows) sz s' = if s' = s then rows else ofV l sz s' := by
  unfold ofV
  rw [mget_mput]
  split <;> rfl
theorem ofV_len {l : Rec} {sz c : Nat} (h : ∀ p ∈ l, p.2.length ≤ c) (h1 : 1 ≤ c) (s : Int) : (ofV l sz s).length ≤ c := by
  unfold ofV
  cases hm : mget l s with
  | none => exact h1
  | some rows => exact h _ (mget_in hm)
/-- May sector s have the byte v? -/
def mayB (l : Rec) (s v : Nat) : Bool := decide ([(v : Int)] ∈ ofV l 1 (s : Int))
theorem mayB_put (l : Rec) (s0 v0 s v : Nat) : mayB (mput l (s0 : Int) (ofV l 1 (s0 : Int) ++ [[(v0 : Int)]])) s v = (mayB l s v || (s == s0 && v == v0)) := by
  unfold mayB
  rw [ofV_put]
  by_cases e : (s : Int) = (s0 : Int)
  · have e' : s = s0 := by omega
    rw [if_pos e, ← e', Bool.eq_iff_iff]
    have : ((v : Int) = (v0 : Int)) ↔ v = v0 := by omega
    simp [this]
  · have e' : s ≠ s0 := by omega
    rw [if_neg e, show (s == s0) = false from by rw [beq_eq_false_iff_ne]; exact e', Bool.false_and, Bool.or_false]
end Go.Proofs.Ytnkgbnipcjgjeaa
