import Derived.Test.YtnkgbnipcjgjeaaTD
namespace Go.Proofs.Ytnkgbnipcjgjeaa
open Go.RowKit Go.Shelf Go.Sort Go.Lib Go.Proofs.YtnkgbnipcjgjeaaW.PrintWords Go.Proofs.YtnkgbnipcjgjeaaW.PrintLast Go.Proofs.YtnkgbnipcjgjeaaW.PrintMore
set_option linter.unusedVariables false
abbrev kN : Kd Int := Kd.int .i64
theorem mget_put {κ β : Type} [DecidableEq κ] (l : List (κ × β)) (k : κ) (v : β) (k' : κ) : mget (mput l k v) k' = if k' = k then some v else mget l k' := by
  induction l with
  | nil =>
    show (if k = k' then some v else none) = _
    by_cases h : k' = k
    · rw [if_pos h, if_pos h.symm]
    · rw [if_neg h, if_neg (fun e => h e.symm)]; rfl
  | cons p r ih =>
    unfold mput
    by_cases h : p.1 = k
    · rw [if_pos h]
      show (if p.1 = k' then some v else mget r k') = _
      by_cases h2 : k' = k
      · rw [if_pos h2, if_pos (by rw [h, h2])]
      · rw [if_neg h2, if_neg (by rw [h]; exact fun e => h2 e.symm)]
        show _ = (if p.1 = k' then some p.2 else mget r k')
        rw [if_neg (by rw [h]; exact fun e => h2 e.symm)]
    · rw [if_neg h]
      show (if p.1 = k' then some p.2 else mget (mput r k v) k') = _
      rw [ih]
      by_cases h2 : k' = k
      · rw [if_pos h2, if_pos h2, if_neg (by rw [h2]; exact h)]
      · rw [if_neg h2, if_neg h2]; rfl
abbrev Wv := List ((Int × Int) × Value)
def okR (Nl : Nat) (vs : Wv) (key : Int × Int) (k : Nat) : Prop := Nl ≤ k ∧ ∀ q v, mget vs q = some v → q ≠ key → v.ownBlock ≠ some k
/-- The rows of a map under way, each its own: key q reads as bs q. -/
structure Rows (w : World) (N0 Nl : Nat) (vs : Wv) (bs : Int × Int → List Int) : Prop where
  no : ∀ q, mget vs q = none → bs q = []
  yes : ∀ q v, mget vs q = some v → kN.R 3 w N0 (okR Nl vs q) v (bs q)
section
variable {w w' w1 : World} {N0 Nl : Nat} {vs : Wv} {bs : Int × Int → List Int}
theorem Rows.own (h : Rows w N0 Nl vs bs) {q : Int × Int} {v : Value} (hq : mget vs q = some v) {k : Nat} (hk : v.ownBlock = some k) : k < w.heap.size ∧ Nl ≤ k ∧ ∃ cs, w.heap[k]? = some (.cells cs 3 (0, 0)) := by
  obtain ⟨h1, _, h3, e, he, cs, hc⟩ := (Kd.R_bound (h.yes q v hq)).1 k hk
  have : e ∈ [3] := he
  rw [List.mem_singleton.1 this] at hc
  exact ⟨h3, h1.1, cs, hc⟩
theorem Rows.move (h : Rows w N0 Nl vs bs) (hm : ∀ q v k, mget vs q = some v → v.ownBlock = some k → w'.heap[k]? = w.heap[k]?) : Rows w' N0 Nl vs bs :=
  ⟨h.no, fun q v hq => Kd.R_reok rfl (Kd.R_move (Kd.R_tight rfl (h.yes q v hq)) (fun k hk => hm q v k hq hk.symm)) (h.yes q v hq).1⟩
theorem Rows.get (h : Rows w N0 Nl vs bs) (q : Int × Int) : kN.R 3 w N0 (okR Nl vs q) ((mget vs q).getD (.slice none 0 0)) (bs q) := by
  cases hq : mget vs q with
  | none => rw [h.no q hq]; exact Kd.R_nil _ _ _ _ _
  | some v => exact h.yes q v hq
theorem Rows.nil (w : World) (N0 Nl : Nat) : Rows w N0 Nl [] (fun _ => []) := ⟨fun _ _ => rfl, fun q v h => by cases h⟩
theorem Rows.put (h : Rows w N0 Nl vs bs) (q : Int × Int) {v1 : Value} {xs : List Int} (hR : kN.R 3 w1 N0 (okR Nl vs q) v1 xs)
    (hm : ∀ k, k < w.heap.size → (∃ cs, w.heap[k]? = some (.cells cs 3 (0, 0))) → ((mget vs q).getD (.slice none 0 0)).ownBlock ≠ some k → w1.heap[k]? = w.heap[k]?) :
    Rows w1 N0 Nl (mput vs q v1) (fun q' => if q' = q then xs else bs q') := by
  have hov : ∀ q' v' k, mget vs q' = some v' → q' ≠ q → v'.ownBlock = some k → ((mget vs q).getD (.slice none 0 0)).ownBlock ≠ some k := fun q' v' k hq' hne hk e => by
    cases hq : mget vs q with
    | none => rw [hq] at e; cases e
    | some v =>
      rw [hq] at e
      exact ((h.yes q' v' hq').1 k hk).2 q v hq (fun e2 => hne e2.symm) e
  refine ⟨fun q' hq' => ?_, fun q' v' hq' => ?_⟩
  · rw [mget_put] at hq'
    by_cases e : q' = q
    · rw [if_pos e] at hq'; cases hq'
    · rw [if_neg e] at hq' ⊢; exact h.no q' hq'
  · rw [mget_put] at hq'
    by_cases e : q' = q
    · subst e
      rw [if_pos rfl] at hq' ⊢
      obtain rfl := Option.some.inj hq'
      refine Kd.R_reok rfl hR (fun k hk => ⟨(hR.1 k hk).1, fun q2 v2 h2 hne => ?_⟩)
      rw [mget_put, if_neg hne] at h2
      exact (hR.1 k hk).2 q2 v2 h2 hne
    · rw [if_neg e] at hq' ⊢
      refine Kd.R_reok rfl (Kd.R_move (Kd.R_tight rfl (h.yes q' v' hq')) (fun k hk => ?_)) (fun k hk => ⟨((h.yes q' v' hq').1 k hk).1, fun q2 v2 h2 hne => ?_⟩)
      · obtain ⟨h1, _, h3⟩ := h.own hq' hk.symm
        exact hm k h1 h3 (hov q' v' k hq' e hk.symm)
      · rw [mget_put] at h2
        by_cases e2 : q2 = q
        · rw [if_pos e2] at h2
          obtain rfl := Option.some.inj h2
          exact fun e3 => (hR.1 k e3).2 q' v' hq' e hk
        · rw [if_neg e2] at h2
          exact ((h.yes q' v' hq').1 k hk).2 q2 v2 h2 hne
end
/-- The bits that are turned at a row and a rung. -/
def bitsOf (l : List Tu) (q : Int × Int) : List Int := (l.filter fun t => decide ((t.1, t.2.1) = q)).map (·.2.2)
theorem bitsOf_snoc (l : List Tu) (t : Tu) (q : Int × Int) : bitsOf (l ++ [t]) q = if q = (t.1, t.2.1) then bitsOf l q ++ [t.2.2] else bitsOf l q := by
  unfold bitsOf
  rw [List.filter_append, List.map_append]
  by_cases h : q = (t.1, t.2.1)
  · rw [if_pos h, List.filter_cons, if_pos (by rw [h]; simp)]; rfl
  · rw [if_neg h, List.filter_cons, if_neg (by simp only [decide_eq_true_eq]; exact fun e => h e.symm)]; simp
theorem bitsOf_len (l : List Tu) (q : Int × Int) : (bitsOf l q).length ≤ l.length := by
  unfold bitsOf; rw [List.length_map]; exact List.length_filter_le _ _
/-- Rows of numbers, and of bytes. -/
def okT3 (w : World) (k : Nat) : Prop := ∃ cs t fr, w.heap[k]? = some (.cells cs t fr) ∧ (t = 3 ∨ t = 5)
theorem okT3.keep {w w' : World} (hk : ∀ k, okT3 w k → w'.heap[k]? = w.heap[k]?) : ∀ k, okT3 w k → okT3 w' k := fun k h => by
  obtain ⟨cs, t, fr, h1, h2⟩ := id h
  exact ⟨cs, t, fr, (hk k h).trans h1, h2⟩
theorem F_keep3 {d : Kd Int} {w w' : World} {A : Option Addr} {n : Nat} {xs : List Int} (h : Kd.F d w (okT3 w) A n xs) (hk : ∀ k, okT3 w k → w'.heap[k]? = w.heap[k]?) : Kd.F d w' (okT3 w') A n xs := Kd.F_mono (Kd.F_step h (fun k h1 _ => hk k h1)) (okT3.keep hk)
theorem okT3.lt {w : World} {k : Nat} (h : okT3 w k) : k < w.heap.size := by obtain ⟨_, _, _, h1, _⟩ := h; exact blk_lt h1
/-- A teller at block p. -/
structure TelIs (w : World) (N0 p mb : Nat) (asked work : Int) (s : Sc) : Prop where
  blk : ∃ A1 c1 A2 c2 A4 c4, w.heap[p]? = some (.cells #[.slice A1 s.busy.length c1, .slice A2 s.fails.length c2, .map (some mb), .slice A4 s.torn.length c4, .int .i64 asked, .int .i64 work] 151 (0, 0)) ∧
    s.busy.length ≤ c1 ∧ s.fails.length ≤ c2 ∧ s.torn.length ≤ c4 ∧ Kd.F kN w (okT3 w) A1 s.busy.length s.busy ∧ Kd.F kN w (okT3 w) A2 s.fails.length s.fails ∧ Kd.F kB w (okT3 w) A4 s.torn.length s.torn
  lo : N0 ≤ p
  map : ∃ vs, MapIs kW okW w mb vs ∧ ∀ q, (mget vs q = none ∧ bitsOf s.turns q = []) ∨ ∃ A c, mget vs q = some (.slice A (bitsOf s.turns q).length c) ∧ (bitsOf s.turns q).length ≤ c ∧ Kd.F kN w (okT3 w) A (bitsOf s.turns q).length (bitsOf s.turns q)
section
variable {w w' : World} {N0 p mb : Nat} {asked work : Int} {s : Sc}
theorem TelIs.ltp (h : TelIs w N0 p mb asked work s) : p < w.heap.size := by obtain ⟨_, _, _, _, _, _, h1, _⟩ := h.blk; exact blk_lt h1
theorem TelIs.ne (h : TelIs w N0 p mb asked work s) : mb ≠ p := fun e => by
  obtain ⟨_, _, _, _, _, _, h1, _⟩ := h.blk
  obtain ⟨vs, ⟨es, c, h2, _⟩, _⟩ := h.map
  rw [e, h1] at h2; cases h2
theorem TelIs.not3 (h : TelIs w N0 p mb asked work s) : ∀ k, okT3 w k → k ≠ p := fun k hk e => by
  obtain ⟨_, _, _, _, _, _, h1, _⟩ := h.blk
  obtain ⟨cs, t, fr, h2, h3⟩ := hk
  rw [e, h1] at h2
  injection h2 with h2
  injection h2 with _ h2 _
  rcases h3 with h3 | h3 <;> (rw [h3] at h2; exact absurd h2 (by decide))
/-- What keeps the rows, the map and the block but for the counts. -/
theorem TelIs.at_ (h : TelIs w N0 p mb asked work s) {asked' work' : Int} (hk : ∀ k, okT3 w k → w'.heap[k]? = w.heap[k]?) (hmb : w'.heap[mb]? = w.heap[mb]?) (hp : ∀ cs : Array Value, w.heap[p]? = some (.cells cs 151 (0, 0)) → w'.heap[p]? = some (.cells ((cs.setIfInBounds 4 (.int .i64 asked')).setIfInBounds 5 (.int .i64 work')) 151 (0, 0))) : TelIs w' N0 p mb asked' work' s := by
  obtain ⟨A1, c1, A2, c2, A4, c4, h1, h2, h3, h4, h5, h6, h7⟩ := h.blk
  obtain ⟨vs, hv, hq⟩ := h.map
  exact ⟨⟨A1, c1, A2, c2, A4, c4, hp _ h1, h2, h3, h4, F_keep3 h5 hk, F_keep3 h6 hk, F_keep3 h7 hk⟩, h.lo, ⟨vs, hv.at_ hmb, fun q => (hq q).imp id (fun ⟨A, c, e1, e2, e3⟩ => ⟨A, c, e1, e2, F_keep3 e3 hk⟩)⟩⟩
/-- Nothing but the teller's own counts was written. -/
theorem TelIs.turn (h : TelIs w N0 p mb asked work s) {asked' work' : Int} (hm : Mods w w' (fun k => k = p)) (hp : ∀ cs : Array Value, w.heap[p]? = some (.cells cs 151 (0, 0)) → w'.heap[p]? = some (.cells ((cs.setIfInBounds 4 (.int .i64 asked')).setIfInBounds 5 (.int .i64 work')) 151 (0, 0))) : TelIs w' N0 p mb asked' work' s := by
  obtain ⟨vs, hv, hq⟩ := h.map
  exact h.at_ (fun k hk => hm.block k hk.lt (h.not3 k hk)) (hm.block mb hv.lt h.ne) hp
theorem TelIs.other {S : Nat → Prop} (h : TelIs w N0 p mb asked work s) (hm : Mods w w' S) (h1 : ¬ S p) (h2 : ¬ S mb) (h3 : ∀ k, okT3 w k → ¬ S k) : TelIs w' N0 p mb asked work s := by
  obtain ⟨A1, c1, A2, c2, A4, c4, g1, _⟩ := h.blk
  obtain ⟨vs, hv, hq⟩ := h.map
  refine h.at_ (fun k hk => hm.block k hk.lt (h3 k hk)) (hm.block mb hv.lt h2) (fun cs hcs => ?_)
  have e := (hm.block p (blk_lt g1) h1).trans g1
  rw [g1] at hcs
  injection hcs with hcs
  injection hcs with hcs _ _
  rw [← hcs]
  exact e
theorem TelIs.below (h : TelIs w N0 p mb asked work s) (hb : Below w.heap.size w w') : TelIs w' N0 p mb asked work s := h.other (Mods.of_below hb (fun _ => False)) (fun h => h) (fun h => h) (fun _ _ h => h)
theorem TelIs.drewN (h : TelIs w N0 p mb asked work s) (q : Nat) : TelIs (w.drewN q) N0 p mb asked work s := h.below (pw_below_drewN (Below.refl _ _) q)
/-- What is done to one teller leaves another. -/
theorem TelIs.beside {p2 mb2 : Nat} {N2 : Nat} {asked2 work2 : Int} {s2 : Sc} (h : TelIs w N0 p mb asked work s) (h2 : TelIs w N2 p2 mb2 asked2 work2 s2) (hne : p ≠ p2) (hm : Mods w w' (fun k => k = p)) : TelIs w' N2 p2 mb2 asked2 work2 s2 := by
  refine h2.other hm (fun e => hne e.symm) (fun e => ?_) (fun k hk e => h.not3 k hk e)
  have e : mb2 = p := e
  obtain ⟨_, _, _, _, _, _, g1, _⟩ := h.blk
  obtain ⟨vs, ⟨es, c, g2, _⟩, _⟩ := h2.map
  rw [e, g1] at g2; cases g2
end
end Go.Proofs.Ytnkgbnipcjgjeaa
