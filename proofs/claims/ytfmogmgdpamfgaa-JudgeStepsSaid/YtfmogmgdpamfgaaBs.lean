import Derived.Test.YtfmogmgdpamfgaaWWords
import Derived.Test.YtfmogmgdpamfgaaWLast
import Derived.Test.YtfmogmgdpamfgaaWMore
import Derived.Test.YtfmogmgdpamfgaaWKept
import Derived.Lib.Hide
import Derived.WalkKit
import Derived.WalkMore
import Derived.IntWalk
namespace Go.Proofs.Ytfmogmgdpamfgaa
open Go.RowKit Go.Proofs.YtfmogmgdpamfgaaW.PrintWords Go.Proofs.YtfmogmgdpamfgaaW.PrintLast Go.Proofs.YtfmogmgdpamfgaaW.PrintMore
set_option linter.unusedVariables false
theorem spotless {w : World} {ad : Addr} {v : Value} (h : w.cell? ad = some v) : ad = ⟨ad.block, ad.off, none⟩ := by
  obtain ⟨b, o, sp⟩ := ad
  cases sp with
  | none => rfl
  | some s =>
    exfalso
    unfold World.cell? at h
    simp only [Option.isSome_some, if_true] at h
    split at h <;> simp at h
theorem add_plain (b o j : Nat) : (⟨b, o, none⟩ : Addr).add j = ⟨b, o + j, none⟩ := by
  unfold Addr.add
  split
  · subst_vars; rfl
  · rfl
theorem chainC {B : Nat} {a w w1 : World} (hB : B ≤ a.heap.size) (h : Below B a w) (k : Below w.heap.size w w1) : Below B a w1 := h.trans (k.mono (Nat.le_trans hB h.size))
theorem step_measure {n k : Nat} (h : k < n) : n - (intOf (.int .i64 ((k : Int) + 1))).toNat < n - (intOf (.int .i64 (k : Int))).toNat := by
  simp [intOf]; omega
/-- A row of ints that is read, of one element or more: its block, its place, its cells. -/
theorem row_of_C {A0 : Option Addr} {l0 : List Int} {w : World} (hr0 : Kd.C (Kd.int .i64) w A0 l0.length l0) (hp : 0 < l0.length) :
    ∃ b off, A0 = some ⟨b, off, none⟩ ∧ b < w.heap.size ∧ ∀ j, j < l0.length → w.cell? ⟨b, off + j, none⟩ = some (.int .i64 (l0.getD j 0)) := by
  have hC := Kd.reads_of_C (d := (0 : Int)) (h1 := fun _ => rfl) hr0
  obtain ⟨ad, rfl, hc⟩ := hC.2.2 hp
  have h0 := hc 0 hp
  have e := spotless (show w.cell? ad = some _ from h0)
  refine ⟨ad.block, ad.off, by rw [← e], World.block_lt_of_cell? w ad h0, fun j hj => ?_⟩
  rw [← add_plain, ← e]
  exact hc j hj
theorem R_mk {w : World} {base g cap : Nat} {cur : Array Value} {xs : List Int} (hb : base ≤ g) (hg : w.heap[g]? = some (.cells cur 3 (0, 0))) (hl : xs.length ≤ cap) (hm : cap ≤ maxLen) (hs : cur.size = cap) (hc : ∀ j, j < xs.length → cur[j]? = some (.int .i64 (xs.getD j 0))) :
    (Kd.int .i64).R 3 w base (fun _ => True) (.slice (some ⟨g, 0, none⟩) xs.length cap) xs := by
  refine ⟨fun _ _ => trivial, xs.map (Value.int .i64), ⟨by show _ = xs.length * 1; simp, .inr ⟨g, cap, cur, rfl, hb, hg, hl, hm, by rw [hs]; show cap = cap * 1; omega, ?_⟩⟩, ?_⟩
  · apply List.ext_getElem?
    intro i
    show (cur.toList.take (xs.length * 1))[i]? = _
    rw [Nat.mul_one, List.getElem?_take, List.getElem?_map]
    split
    · rename_i hi
      rw [Array.getElem?_toList, hc i hi, List.getD_eq_getElem?_getD, List.getElem?_eq_getElem hi]
      rfl
    · rename_i hi
      rw [List.getElem?_eq_none (by omega)]
      rfl
  · refine ⟨by show _ = xs.length * 1; simp, fun j p hp => ?_⟩
    have hj : j < xs.length := (List.getElem?_eq_some_iff.1 hp).1
    show ((xs.map (Value.int .i64)).drop (j * 1)).take 1 = [Value.int .i64 p]
    rw [Nat.mul_one, List.drop_eq_getElem_cons (by simpa using hj), List.take_succ_cons, List.take_zero, List.getElem_map]
    have : xs[j] = p := by rw [List.getElem?_eq_getElem hj] at hp; exact Option.some.inj hp
    rw [this]
theorem own_ints2 {w : World} {base : Nat} {ok : Nat → Prop} {v : Value} {xs : List Int} (h : (Kd.int .i64).R 3 w base ok v xs) (hp : 0 < xs.length) :
    ∃ g cap cur, v = .slice (some ⟨g, 0, none⟩) xs.length cap ∧ base ≤ g ∧ w.heap[g]? = some (.cells cur 3 (0, 0)) ∧ xs.length ≤ cap ∧ cap ≤ maxLen ∧ cur.size = cap := by
  obtain ⟨A, c, rfl, hc, hC⟩ := Kd.R_reads h
  obtain ⟨inner, ho⟩ := Kd.R_own h
  rcases ho.2 with ⟨h1, h2⟩ | ⟨g, cap, cur, h1, h2, h3, h4, h5, h6, h7⟩
  · omega
  · injection h1 with hA hn hcap
    subst hA
    subst hcap
    exact ⟨g, c, cur, rfl, h2, h3, hc, h5, by rw [h6]; show c * 1 = c; omega⟩
theorem c_one (w : World) (x : Int) : (Kd.int .i64).C (w.alloc (.cells #[.int .i64 x] 3)) (some ⟨w.heap.size, 0, none⟩) 1 [x] := by
  refine ⟨rfl, by decide, fun _ => ⟨⟨w.heap.size, 0, none⟩, rfl, fun j p hp => ?_⟩⟩
  match j, hp with
  | 0, hp =>
    obtain rfl := Option.some.inj hp
    refine ⟨[.int .i64 x], rfl, rfl, fun i u hu => ?_⟩
    match i, hu with
    | 0, hu =>
      obtain rfl := Option.some.inj hu
      exact blk_cell (blk_new w _) 0
    | i + 1, hu => simp at hu
  | j + 1, hp => simp at hp
/-- With enough rounds. -/
def EvL {α : Type} (g : Nat → Option α) (r : α) : Prop := ∃ k0, ∀ k, k0 ≤ k → g k = some r
theorem EvL.step {α : Type} {g h : Nat → Option α} {r : α} (e : ∀ k, g (k + 1) = h k) (H : EvL h r) : EvL g r := by
  obtain ⟨k0, h0⟩ := H
  refine ⟨k0 + 1, fun k hk => ?_⟩
  obtain ⟨m, rfl⟩ : ∃ m, k = m + 1 := ⟨k - 1, by omega⟩
  rw [e]; exact h0 m (by omega)
theorem EvL.const {α : Type} {r : α} : EvL (fun _ => some r) r := ⟨0, fun _ _ => rfl⟩
theorem EvL.bind {α β : Type} {g : Nat → Option α} {h : Nat → α → Option β} {a : α} {r : β} (G : EvL g a) (H : EvL (fun k => h k a) r) : EvL (fun k => (g k).bind (h k)) r := by
  obtain ⟨k1, h1⟩ := G
  obtain ⟨k2, h2⟩ := H
  refine ⟨max k1 k2, fun k hk => ?_⟩
  show (g k).bind (h k) = some r
  rw [h1 k (by omega), Option.bind_some]
  exact h2 k (by omega)
theorem w_succ (i : Nat) (h : i ≤ 9223372036854775806) : wrap64 ((i : Int) + 1) = ((i + 1 : Nat) : Int) := by rw [IntWalk.wrap64_in _ (by omega)]; omega
/-- w' is w with new blocks, and writes to blocks of S alone. -/
structure Mods (w w' : World) (S : Nat → Prop) : Prop where
  os : w'.os = w.os
  tape : w'.tape = w.tape
  output : w'.output = w.output
  size : w.heap.size ≤ w'.heap.size
  block : ∀ k, k < w.heap.size → ¬ S k → w'.heap[k]? = w.heap[k]?
theorem Mods.refl (w : World) (S : Nat → Prop) : Mods w w S := ⟨rfl, rfl, rfl, Nat.le_refl _, fun _ _ _ => rfl⟩
theorem Mods.of_below {w w' : World} (h : Below w.heap.size w w') (S : Nat → Prop) : Mods w w' S := ⟨h.os, h.tape, h.output, h.size, fun k hk _ => h.block k hk⟩
theorem Mods.of_grown {w w' : World} {row : Option Nat} (h : w.grownBy w' row) {S : Nat → Prop} (hr : ∀ k, row = some k → S k) : Mods w w' S := ⟨h.os, h.tape, h.output, h.size, fun k hk hn => h.block k hk (fun e => hn (hr k e.symm))⟩
theorem Mods.mono {w w' : World} {S S' : Nat → Prop} (h : Mods w w' S) (hs : ∀ k, S k → S' k) : Mods w w' S' := ⟨h.os, h.tape, h.output, h.size, fun k hk hn => h.block k hk (fun e => hn (hs k e))⟩
/-- What is written second was written first, or is new. -/
theorem Mods.trans {a b c : World} {S S2 : Nat → Prop} (h : Mods a b S) (k : Mods b c S2) (hs : ∀ i, S2 i → S i ∨ a.heap.size ≤ i) : Mods a c S :=
  ⟨k.os.trans h.os, k.tape.trans h.tape, k.output.trans h.output, Nat.le_trans h.size k.size, fun i hi hn => (k.block i (Nat.lt_of_lt_of_le hi h.size) (fun e => (hs i e).elim hn (fun h => absurd hi (Nat.not_lt.2 h)))).trans (h.block i hi hn)⟩
theorem Mods.alloc {a w : World} {S : Nat → Prop} (h : Mods a w S) (o : Obj) : Mods a (w.alloc o) S := h.trans (Mods.of_below ((Below.refl _ _).alloc (Nat.le_refl _) o) (fun _ => False)) (fun _ h => h.elim)
theorem Mods.drewN {a w : World} {S : Nat → Prop} (h : Mods a w S) (n : Nat) : Mods a (w.drewN n) S := ⟨h.os, h.tape, h.output, h.size, h.block⟩
theorem Mods.drew {a w : World} {S : Nat → Prop} (h : Mods a w S) : Mods a w.drew S := ⟨h.os, h.tape, h.output, h.size, h.block⟩
theorem Mods.below {a w w' : World} {S : Nat → Prop} (h : Mods a w S) (hb : Below w.heap.size w w') : Mods a w' S := h.trans (Mods.of_below hb (fun _ => False)) (fun _ h => h.elim)
theorem Mods.grown {a w w' : World} {row : Option Nat} {S : Nat → Prop} (h : Mods a w S) (hg : w.grownBy w' row) (hr : ∀ k, row = some k → S k ∨ a.heap.size ≤ k) : Mods a w' S :=
  h.trans (Mods.of_grown (S := fun k => row = some k) hg (fun k e => e)) hr
theorem Mods.setCell {a w : World} {S : Nat → Prop} (h : Mods a w S) {p : Addr} (hp : S p.block ∨ a.heap.size ≤ p.block) (u : Value) : Mods a (w.setCell p u) S := by
  have hb := (Below.refl p.block w).setCell (p := p) (Nat.le_refl _) u
  exact h.trans (S2 := fun k => k = p.block) ⟨hb.os, hb.tape, hb.output, hb.size, fun k hk hn => Below.heap_setCell w p u k hn⟩ (fun i hi => hi ▸ hp)
theorem Mods.toBelow {a w w' : World} {B : Nat} {S : Nat → Prop} (h : Below B a w) (k : Mods w w' S) (hB : B ≤ w.heap.size) (hS : ∀ i, S i → B ≤ i) : Below B a w' :=
  ⟨k.os.trans h.os, k.tape.trans h.tape, k.output.trans h.output, Nat.le_trans h.size k.size, fun i hi => (k.block i (Nat.lt_of_lt_of_le hi hB) (fun e => absurd hi (Nat.not_lt.2 (hS i e)))).trans (h.block i hi)⟩
theorem Mods.cell {w w' : World} {S : Nat → Prop} (h : Mods w w' S) {p : Addr} {v : Value} (hc : w.cell? p = some v) (hn : ¬ S p.block) : w'.cell? p = some v :=
  (World.cell?_of_block (w := w) (h.block p.block (World.block_lt_of_cell? w p hc) hn)).trans hc
theorem Mods.blk {w w' : World} {S : Nat → Prop} (h : Mods w w' S) {g : Nat} {o : Obj} (hg : w.heap[g]? = some o) (hn : ¬ S g) : w'.heap[g]? = some o := (h.block g (blk_lt hg) hn).trans hg
theorem Mods.R {α : Type} {d : Kd α} {e : Nat} {w w' : World} {base : Nat} {ok : Nat → Prop} {v : Value} {xs : List α} {S : Nat → Prop} (h : Mods w w' S) (hr : d.R e w base ok v xs) (hn : ∀ k, ok k → ¬ S k) : d.R e w' base ok v xs := Kd.R_step hr (fun k ho hlt => h.block k hlt (hn k ho))
theorem Mods.own {w w' : World} {S : Nat → Prop} {base e size n : Nat} {v : Value} {xs : List Value} (h : Mods w w' S) (ho : w.ownsRow base e size v n xs) (hn : ∀ k, v.ownBlock = some k → ¬ S k) : w'.ownsRow base e size v n xs := own_move ho (fun k hk => h.block k (own_lt ho k hk) (hn k hk))
end Go.Proofs.Ytfmogmgdpamfgaa

namespace Go.Proofs.Ytfmogmgdpamfgaa
open Go.RowKit Go.Proofs.YtfmogmgdpamfgaaW.PrintWords Go.Proofs.YtfmogmgdpamfgaaW.PrintLast Go.Proofs.YtfmogmgdpamfgaaW.PrintMore
set_option linter.unusedVariables false
/-! Objects: a block of cells, and rows of its own. t tells of each block whose it is: 0 none of the object's, 1 the block itself, c + 2 (mod 16) row c's, with a number u of the row's own. -/
structure Row where
  P : World → (Nat → Prop) → (Nat → Nat) → Prop
  st : ∀ {w w' : World} {ok ok' : Nat → Prop} {u u' : Nat → Nat}, P w ok u → (∀ k, ok k → k < w.heap.size → w'.heap[k]? = w.heap[k]? ∧ ok' k ∧ u' k = u k) → P w' ok' u'
def okC (t : Nat → Nat) (c : Nat) : Nat → Prop := fun k => t k % 16 = c + 2
def subC (t : Nat → Nat) : Nat → Nat := fun k => t k / 16
structure Ob (w : World) (p ty : Nat) (t : Nat → Nat) (cs : Array Value) (rs : List Row) : Prop where
  blk : w.heap[p]? = some (.cells cs ty (0, 0))
  tp : t p = 1
  lt : ∀ k, t k ≠ 0 → k < w.heap.size
  row : ∀ (c : Nat) (r : Row), rs[c]? = some r → r.P w (okC t c) (subC t)
  few : rs.length ≤ 13
/-- What changes is the object's, or new. -/
structure Nxt (w w' : World) (t t' : Nat → Nat) : Prop where
  m : Mods w w' (fun k => t k ≠ 0)
  n : ∀ k, t' k ≠ 0 → t k ≠ 0 ∨ w.heap.size ≤ k
section
variable {w w' w2 : World} {p ty : Nat} {t t' t2 : Nat → Nat} {cs : Array Value} {rs : List Row}
theorem Nxt.refl (w : World) (t : Nat → Nat) : Nxt w w t t := ⟨Mods.refl _ _, fun _ h => .inl h⟩
theorem Nxt.trans (h : Nxt w w' t t') (k : Nxt w' w2 t' t2) : Nxt w w2 t t2 :=
  ⟨h.m.trans k.m (fun i hi => h.n i hi), fun i hi => (k.n i hi).elim (fun h2 => h.n i h2) (fun h2 => .inr (Nat.le_trans h.m.size h2))⟩
theorem Nxt.drewN (h : Nxt w w' t t') (q : Nat) : Nxt w (w'.drewN q) t t' := ⟨h.m.drewN q, h.n⟩
theorem Nxt.drew (h : Nxt w w' t t') : Nxt w w'.drew t t' := ⟨h.m.drew, h.n⟩
theorem Nxt.below (h : Nxt w w' t t') (hb : Below w'.heap.size w' w2) : Nxt w w2 t t' := ⟨h.m.below hb, h.n⟩
theorem Nxt.alloc (h : Nxt w w' t t') (o : Obj) : Nxt w (w'.alloc o) t t' := ⟨h.m.alloc o, h.n⟩
theorem Nxt.of_below (hb : Below w.heap.size w w') : Nxt w w' t t := ⟨Mods.of_below hb _, fun _ h => .inl h⟩
theorem Nxt.set (h : Nxt w w' t t') {q i : Nat} (hq : t q ≠ 0 ∨ w.heap.size ≤ q) (u : Value) : Nxt w (w'.setCell ⟨q, i, none⟩ u) t t' := ⟨h.m.setCell hq u, h.n⟩
/-- Outside. -/
theorem Nxt.far (h : Nxt w w' t t') {k : Nat} (hk : k < w.heap.size) (h0 : t k = 0) : w'.heap[k]? = w.heap[k]? := h.m.block k hk (fun e => e h0)
theorem Nxt.apart {u : Nat → Nat} (h : Nxt w w' t t') (hd : ∀ k, t k = 0 ∨ u k = 0) (hl : ∀ k, u k ≠ 0 → k < w.heap.size) : ∀ k, t' k = 0 ∨ u k = 0 := fun k => by
  by_cases h1 : t' k = 0
  · exact .inl h1
  · refine .inr ?_
    rcases h.n k h1 with h2 | h2
    · exact (hd k).resolve_left h2
    · by_cases h3 : u k = 0
      · exact h3
      · exact absurd (hl k h3) (Nat.not_lt.2 h2)
theorem okC_ne {t : Nat → Nat} {c k : Nat} (hc : c ≤ 12) (h : okC t c k) : t k ≠ 0 ∧ t k ≠ 1 := by
  unfold okC at h
  constructor <;> intro e <;> rw [e] at h <;> omega
theorem Ob.rlt (h : Ob w p ty t cs rs) {c : Nat} {r : Row} (hr : rs[c]? = some r) : c ≤ 12 := by
  have := (List.getElem?_eq_some_iff.1 hr).1
  have := h.few
  omega
theorem Ob.frame (h : Ob w p ty t cs rs) (hm : ∀ k, t k ≠ 0 → w'.heap[k]? = w.heap[k]?) (hs : w.heap.size ≤ w'.heap.size) : Ob w' p ty t cs rs :=
  ⟨(hm p (by rw [h.tp]; decide)).trans h.blk, h.tp, fun k hk => Nat.lt_of_lt_of_le (h.lt k hk) hs, fun c r hr => r.st (h.row c r hr) (fun k hk _ => ⟨hm k (okC_ne (h.rlt hr) hk).1, hk, rfl⟩), h.few⟩
theorem Ob.below (h : Ob w p ty t cs rs) (hb : Below w.heap.size w w') : Ob w' p ty t cs rs := h.frame (fun k hk => hb.block k (h.lt k hk)) hb.size
theorem Ob.drewN (h : Ob w p ty t cs rs) (q : Nat) : Ob (w.drewN q) p ty t cs rs := h.frame (fun _ _ => rfl) (Nat.le_refl _)
theorem Ob.drew (h : Ob w p ty t cs rs) : Ob w.drew p ty t cs rs := h.frame (fun _ _ => rfl) (Nat.le_refl _)
theorem Ob.alloc (h : Ob w p ty t cs rs) (o : Obj) : Ob (w.alloc o) p ty t cs rs := h.below ((Below.refl _ _).alloc (Nat.le_refl _) o)
theorem Ob.mods {S : Nat → Prop} (h : Ob w p ty t cs rs) (hm : Mods w w' S) (hS : ∀ k, t k ≠ 0 → ¬ S k) : Ob w' p ty t cs rs := h.frame (fun k hk => hm.block k (h.lt k hk) (hS k hk)) hm.size
theorem Ob.nxt {u u' : Nat → Nat} (h : Ob w p ty t cs rs) (hn : Nxt w w' u u') (hd : ∀ k, u k = 0 ∨ t k = 0) : Ob w' p ty t cs rs := h.mods hn.m (fun k hk e => ((hd k).resolve_right hk) |> e)
theorem Ob.cell (h : Ob w p ty t cs rs) (i : Nat) : w.cell? ⟨p, i, none⟩ = cs[i]? := blk_cell h.blk i
theorem Ob.froz (h : Ob w p ty t cs rs) (i : Nat) : w.frozen? ⟨p, i, none⟩ = false := blk_frozen h.blk i
theorem Ob.plt (h : Ob w p ty t cs rs) : p < w.heap.size := blk_lt h.blk
/-- A store into the block itself. -/
theorem Ob.set (h : Ob w p ty t cs rs) (i : Nat) (u : Value) : Ob (w.setCell ⟨p, i, none⟩ u) p ty t (cs.setIfInBounds i u) rs :=
  ⟨blk_set h.blk i u, h.tp, fun k hk => by have := h.lt k hk; simpa using this, fun c r hr => r.st (h.row c r hr) (fun k hk _ => ⟨Below.heap_setCell w ⟨p, i, none⟩ u k (fun e => (okC_ne (h.rlt hr) hk).2 (by rw [show k = p from e]; exact h.tp)), hk, rfl⟩), h.few⟩
theorem Ob.set' {cs2 : Array Value} (h : Ob w p ty t cs rs) (i : Nat) (u : Value) (e : cs.setIfInBounds i u = cs2) : Ob (w.setCell ⟨p, i, none⟩ u) p ty t cs2 rs := e ▸ h.set i u
theorem Nxt.setp (h : Ob w p ty t cs rs) (i : Nat) (u : Value) : Nxt w (w.setCell ⟨p, i, none⟩ u) t t := (Nxt.refl w t).set (.inl (by rw [h.tp]; decide)) u
/-- Several stores into the block. -/
def sets (w : World) (p : Nat) : List (Nat × Value) → World
  | [] => w
  | x :: l => sets (w.setCell ⟨p, x.1, none⟩ x.2) p l
theorem Ob.setsA : ∀ (l : List (Nat × Value)) {w : World} {cs : Array Value}, Ob w p ty t cs rs → Ob (Go.Proofs.Ytfmogmgdpamfgaa.sets w p l) p ty t (l.foldl (fun cs x => cs.setIfInBounds x.1 x.2) cs) rs
  | [], _, _, h => h
  | x :: l, _, _, h => Ob.setsA l (h.set x.1 x.2)
theorem Ob.sets (h : Ob w p ty t cs rs) (l : List (Nat × Value)) : Ob (Go.Proofs.Ytfmogmgdpamfgaa.sets w p l) p ty t (l.foldl (fun cs x => cs.setIfInBounds x.1 x.2) cs) rs := Ob.setsA l h
theorem Nxt.sets {q : Nat} (hq : t' q ≠ 0 ∧ (t q ≠ 0 ∨ w.heap.size ≤ q)) : ∀ (l : List (Nat × Value)) {w' : World}, Nxt w w' t t' → Nxt w (Go.Proofs.Ytfmogmgdpamfgaa.sets w' q l) t t'
  | [], _, h => h
  | x :: l, _, h => Nxt.sets hq l (h.set hq.2 x.2)
/-- As above, from the object's own world on. -/
theorem Ob.setsN (h : Ob w p ty t cs rs) (l : List (Nat × Value)) : Nxt w (Go.Proofs.Ytfmogmgdpamfgaa.sets w p l) t t := Nxt.sets (by rw [h.tp]; exact ⟨by decide, .inl (by decide)⟩) l (Nxt.refl w t)
/-- Row c is another one: what changed is row c's, or new. -/
theorem Ob.upd (h : Ob w p ty t cs rs) {c : Nat} {r' : Row} (hc : c < rs.length) (hm : ∀ k, k < w.heap.size → t k % 16 ≠ c + 2 → w'.heap[k]? = w.heap[k]?) (ht : ∀ k, t k % 16 ≠ c + 2 → t k ≠ 0 → t' k = t k)
    (hlt : ∀ k, t' k ≠ 0 → k < w'.heap.size) (hr : r'.P w' (okC t' c) (subC t')) : Ob w' p ty t' cs (rs.set c r') := by
  have hc12 : c ≤ 12 := by have := h.few; omega
  have hp1 : t p % 16 ≠ c + 2 := by rw [h.tp]; omega
  refine ⟨(hm p h.plt hp1).trans h.blk, (ht p hp1 (by rw [h.tp]; decide)).trans h.tp, hlt, fun c2 r2 hr2 => ?_, by rw [List.length_set]; exact h.few⟩
  rw [List.getElem?_set] at hr2
  by_cases e : c = c2
  · subst e
    rw [if_pos rfl, if_pos hc] at hr2
    obtain rfl := Option.some.inj hr2
    exact hr
  · rw [if_neg e] at hr2
    refine r2.st (h.row c2 r2 hr2) (fun k hk hk2 => ?_)
    have h1 : t k % 16 ≠ c + 2 := fun h3 => by unfold okC at hk; omega
    have h2 := (okC_ne (h.rlt hr2) hk).1
    have h3 := ht k h1 h2
    exact ⟨hm k hk2 h1, by unfold okC; rw [h3]; exact hk, by unfold subC; rw [h3]⟩
end
/-- A row of one-cell elements. -/
theorem scalar_re {α : Type} {enc : α → Value} {h1 : ∀ x : α, (enc x).oneCell' = true} {e : Nat} {w : World} {base : Nat} {ok ok' : Nat → Prop} {v : Value} {xs : List α} (h : (Kd.scalar enc h1).R e w base ok v xs) (hk : ∀ k, v.ownBlock = some k → ok' k) : (Kd.scalar enc h1).R e w base ok' v xs :=
  ⟨hk, h.2.imp_ (fun _ _ hp => hp)⟩
def rowR {α : Type} (enc : α → Value) (h1 : ∀ x : α, (enc x).oneCell' = true) (e : Nat) (v : Value) (xs : List α) : Row where
  P w ok _ := (Kd.scalar enc h1).R e w 0 ok v xs
  st h hm := scalar_re (Kd.R_step (Kd.R_bound h) (fun k hk hlt => (hm k hk.1 hlt).1)) (fun k hk => by
    have h2 := (Kd.R_bound h).1 k hk
    exact (hm k h2.1 h2.2.2.1).2.1)
/-- No row. -/
def rowN : Row := ⟨fun _ _ _ => True, fun _ _ => trivial⟩
section
variable {w w' w2 : World} {p ty : Nat} {t t' t2 : Nat → Nat} {cs : Array Value} {rs : List Row} {α : Type} {enc : α → Value} {h1 : ∀ x : α, (enc x).oneCell' = true} {e c : Nat} {v v1 : Value} {xs ys : List α}
def retag (t : Nat → Nat) (c : Nat) (v : Value) : Nat → Nat := fun k => if v.ownBlock = some k then c + 2 else t k
/-- Row c's own block was written, or a new one made. -/
theorem Ob.own (h : Ob w p ty t cs rs) (hc : rs[c]? = some (rowR enc h1 e v xs)) (hR : (Kd.scalar enc h1).R e w' 0 (fun _ => True) v1 ys) (hg : w.grownBy w' v.ownBlock) (hat : v1.ownBlock = v.ownBlock ∨ ∃ b, v1.ownBlock = some b ∧ w.heap.size ≤ b) :
    Ob w' p ty (retag t c v1) cs (rs.set c (rowR enc h1 e v1 ys)) ∧ Nxt w w' t (retag t c v1) := by
  have hrow : (Kd.scalar enc h1).R e w 0 (okC t c) v xs := h.row c _ hc
  have hcl := (List.getElem?_eq_some_iff.1 hc).1
  have hown : ∀ k, v.ownBlock = some k → t k % 16 = c + 2 := fun k hk => hrow.1 k hk
  have hnew : ∀ k, v1.ownBlock = some k → t k % 16 = c + 2 ∨ w.heap.size ≤ k := fun k hk => by
    rcases hat with h2 | ⟨b, h2, h3⟩
    · exact .inl (hown k (h2 ▸ hk))
    · rw [hk] at h2
      injection h2 with h2
      exact .inr (h2 ▸ h3)
  have hc12 := h.rlt hc
  refine ⟨h.upd hcl (fun k hk h2 => hg.block k hk (fun e2 => h2 (hown k e2.symm))) (fun k h2 h3 => ?_) (fun k hk => ?_) ?_, ⟨⟨hg.os, hg.tape, hg.output, hg.size, fun k hk h2 => hg.block k hk (fun e2 => h2 (by have := hown k e2.symm; intro e3; rw [e3] at this; omega))⟩, fun k hk => ?_⟩⟩
  · unfold retag
    rw [if_neg]
    intro e2
    rcases hnew k e2 with h4 | h4
    · exact h2 h4
    · exact absurd (h.lt k h3) (Nat.not_lt.2 h4)
  · unfold retag at hk
    split at hk
    · rename_i e2
      exact ((Kd.R_bound hR).1 k e2).2.2.1
    · exact Nat.lt_of_lt_of_le (h.lt k hk) hg.size
  · refine scalar_re hR (fun k hk => ?_)
    show retag t c v1 k % 16 = c + 2
    unfold retag
    rw [if_pos hk]
    omega
  · unfold retag at hk
    split at hk
    · rename_i e2
      exact (hnew k e2).imp (fun h4 h5 => by rw [h5] at h4; omega) id
    · exact .inl hk
/-- Row c is no more, or is nil. -/
theorem Ob.nilr (h : Ob w p ty t cs rs) (c : Nat) (hc : c < rs.length) (enc : α → Value) (h1 : ∀ x : α, (enc x).oneCell' = true) (e : Nat) : Ob w p ty t cs (rs.set c (rowR enc h1 e (.slice none 0 0) [])) :=
  h.upd hc (fun _ _ _ => rfl) (fun _ _ _ => rfl) h.lt (Kd.R_nil _ _ _ _ _)
theorem Ob.rowAt (h : Ob w p ty t cs rs) (c : Nat) (hc : rs[c]? = some (rowR enc h1 e v xs)) : (Kd.scalar enc h1).R e w 0 (okC t c) v xs := h.row c _ hc
end
end Go.Proofs.Ytfmogmgdpamfgaa

