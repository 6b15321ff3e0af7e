import Derived.Test.YtnkgbnipcjgjeaaWWords
import Derived.Test.YtnkgbnipcjgjeaaWLast
import Derived.Test.YtnkgbnipcjgjeaaWMore
import Derived.Test.YtnkgbnipcjgjeaaWKept
import Derived.Lib.Hide
import Derived.WalkKit
import Derived.WalkMore
import Derived.IntWalk
namespace Go.Proofs.Ytnkgbnipcjgjeaa
open Go.RowKit Go.Proofs.YtnkgbnipcjgjeaaW.PrintWords Go.Proofs.YtnkgbnipcjgjeaaW.PrintLast Go.Proofs.YtnkgbnipcjgjeaaW.PrintMore
set_option linter.unusedVariables false
theorem spotless {w : World} {ad : Addr} {v : Value} (h : w.cell? ad = some v) : ad = ⟨ad.block, ad.off, none⟩ := by
  obtain ⟨b, o, sp⟩ := ad
  cases sp with
  | none => rfl
  | some s =>
    exfalso
    unfold World.cell? at h
    simp only [Option.isSome_some, if_true] at h
    split at h <;> simp at h
theorem add_plain (b o j : Nat) : (⟨b, o, none⟩ : Addr).add j = ⟨b, o + j, none⟩ := by
  unfold Addr.add
  split
  · subst_vars; rfl
  · rfl
theorem chainC {B : Nat} {a w w1 : World} (hB : B ≤ a.heap.size) (h : Below B a w) (k : Below w.heap.size w w1) : Below B a w1 := h.trans (k.mono (Nat.le_trans hB h.size))
theorem step_measure {n k : Nat} (h : k < n) : n - (intOf (.int .i64 ((k : Int) + 1))).toNat < n - (intOf (.int .i64 (k : Int))).toNat := by
  simp [intOf]; omega
/-- A row of ints that is read, of one element or more: its block, its place, its cells. -/
theorem row_of_C {A0 : Option Addr} {l0 : List Int} {w : World} (hr0 : Kd.C (Kd.int .i64) w A0 l0.length l0) (hp : 0 < l0.length) :
    ∃ b off, A0 = some ⟨b, off, none⟩ ∧ b < w.heap.size ∧ ∀ j, j < l0.length → w.cell? ⟨b, off + j, none⟩ = some (.int .i64 (l0.getD j 0)) := by
  have hC := Kd.reads_of_C (d := (0 : Int)) (h1 := fun _ => rfl) hr0
  obtain ⟨ad, rfl, hc⟩ := hC.2.2 hp
  have h0 := hc 0 hp
  have e := spotless (show w.cell? ad = some _ from h0)
  refine ⟨ad.block, ad.off, by rw [← e], World.block_lt_of_cell? w ad h0, fun j hj => ?_⟩
  rw [← add_plain, ← e]
  exact hc j hj
theorem R_mk {w : World} {base g cap : Nat} {cur : Array Value} {xs : List Int} (hb : base ≤ g) (hg : w.heap[g]? = some (.cells cur 3 (0, 0))) (hl : xs.length ≤ cap) (hm : cap ≤ maxLen) (hs : cur.size = cap) (hc : ∀ j, j < xs.length → cur[j]? = some (.int .i64 (xs.getD j 0))) :
    (Kd.int .i64).R 3 w base (fun _ => True) (.slice (some ⟨g, 0, none⟩) xs.length cap) xs := by
  refine ⟨fun _ _ => trivial, xs.map (Value.int .i64), ⟨by show _ = xs.length * 1; simp, .inr ⟨g, cap, cur, rfl, hb, hg, hl, hm, by rw [hs]; show cap = cap * 1; omega, ?_⟩⟩, ?_⟩
  · apply List.ext_getElem?
    intro i
    show (cur.toList.take (xs.length * 1))[i]? = _
    rw [Nat.mul_one, List.getElem?_take, List.getElem?_map]
    split
    · rename_i hi
      rw [Array.getElem?_toList, hc i hi, List.getD_eq_getElem?_getD, List.getElem?_eq_getElem hi]
      rfl
    · rename_i hi
      rw [List.getElem?_eq_none (by omega)]
      rfl
  · refine ⟨by show _ = xs.length * 1; simp, fun j p hp => ?_⟩
    have hj : j < xs.length := (List.getElem?_eq_some_iff.1 hp).1
    show ((xs.map (Value.int .i64)).drop (j * 1)).take 1 = [Value.int .i64 p]
    rw [Nat.mul_one, List.drop_eq_getElem_cons (by simpa using hj), List.take_succ_cons, List.take_zero, List.getElem_map]
    have : xs[j] = p := by rw [List.getElem?_eq_getElem hj] at hp; exact Option.some.inj hp
    rw [this]
theorem own_ints2 {w : World} {base : Nat} {ok : Nat → Prop} {v : Value} {xs : List Int} (h : (Kd.int .i64).R 3 w base ok v xs) (hp : 0 < xs.length) :
    ∃ g cap cur, v = .slice (some ⟨g, 0, none⟩) xs.length cap ∧ base ≤ g ∧ w.heap[g]? = some (.cells cur 3 (0, 0)) ∧ xs.length ≤ cap ∧ cap ≤ maxLen ∧ cur.size = cap := by
  obtain ⟨A, c, rfl, hc, hC⟩ := Kd.R_reads h
  obtain ⟨inner, ho⟩ := Kd.R_own h
  rcases ho.2 with ⟨h1, h2⟩ | ⟨g, cap, cur, h1, h2, h3, h4, h5, h6, h7⟩
  · omega
  · injection h1 with hA hn hcap
    subst hA
    subst hcap
    exact ⟨g, c, cur, rfl, h2, h3, hc, h5, by rw [h6]; show c * 1 = c; omega⟩
theorem c_one (w : World) (x : Int) : (Kd.int .i64).C (w.alloc (.cells #[.int .i64 x] 3)) (some ⟨w.heap.size, 0, none⟩) 1 [x] := by
  refine ⟨rfl, by decide, fun _ => ⟨⟨w.heap.size, 0, none⟩, rfl, fun j p hp => ?_⟩⟩
  match j, hp with
  | 0, hp =>
    obtain rfl := Option.some.inj hp
    refine ⟨[.int .i64 x], rfl, rfl, fun i u hu => ?_⟩
    match i, hu with
    | 0, hu =>
      obtain rfl := Option.some.inj hu
      exact blk_cell (blk_new w _) 0
    | i + 1, hu => simp at hu
  | j + 1, hp => simp at hp
/-- With enough rounds. -/
def EvL {α : Type} (g : Nat → Option α) (r : α) : Prop := ∃ k0, ∀ k, k0 ≤ k → g k = some r
theorem EvL.step {α : Type} {g h : Nat → Option α} {r : α} (e : ∀ k, g (k + 1) = h k) (H : EvL h r) : EvL g r := by
  obtain ⟨k0, h0⟩ := H
  refine ⟨k0 + 1, fun k hk => ?_⟩
  obtain ⟨m, rfl⟩ : ∃ m, k = m + 1 := ⟨k - 1, by omega⟩
  rw [e]; exact h0 m (by omega)
theorem EvL.const {α : Type} {r : α} : EvL (fun _ => some r) r := ⟨0, fun _ _ => rfl⟩
theorem EvL.bind {α β : Type} {g : Nat → Option α} {h : Nat → α → Option β} {a : α} {r : β} (G : EvL g a) (H : EvL (fun k => h k a) r) : EvL (fun k => (g k).bind (h k)) r := by
  obtain ⟨k1, h1⟩ := G
  obtain ⟨k2, h2⟩ := H
  refine ⟨max k1 k2, fun k hk => ?_⟩
  show (g k).bind (h k) = some r
  rw [h1 k (by omega), Option.bind_some]
  exact h2 k (by omega)
theorem w_succ (i : Nat) (h : i ≤ 9223372036854775806) : wrap64 ((i : Int) + 1) = ((i + 1 : Nat) : Int) := by rw [IntWalk.wrap64_in _ (by omega)]; omega
/-- w' is w with new blocks, and writes to blocks of S alone. -/
structure Mods (w w' : World) (S : Nat → Prop) : Prop where
  os : w'.os = w.os
  tape : w'.tape = w.tape
  output : w'.output = w.output
  size : w.heap.size ≤ w'.heap.size
  block : ∀ k, k < w.heap.size → ¬ S k → w'.heap[k]? = w.heap[k]?
theorem Mods.refl (w : World) (S : Nat → Prop) : Mods w w S := ⟨rfl, rfl, rfl, Nat.le_refl _, fun _ _ _ => rfl⟩
theorem Mods.of_below {w w' : World} (h : Below w.heap.size w w') (S : Nat → Prop) : Mods w w' S := ⟨h.os, h.tape, h.output, h.size, fun k hk _ => h.block k hk⟩
theorem Mods.of_grown {w w' : World} {row : Option Nat} (h : w.grownBy w' row) {S : Nat → Prop} (hr : ∀ k, row = some k → S k) : Mods w w' S := ⟨h.os, h.tape, h.output, h.size, fun k hk hn => h.block k hk (fun e => hn (hr k e.symm))⟩
theorem Mods.mono {w w' : World} {S S' : Nat → Prop} (h : Mods w w' S) (hs : ∀ k, S k → S' k) : Mods w w' S' := ⟨h.os, h.tape, h.output, h.size, fun k hk hn => h.block k hk (fun e => hn (hs k e))⟩
/-- What is written second was written first, or is new. -/
theorem Mods.trans {a b c : World} {S S2 : Nat → Prop} (h : Mods a b S) (k : Mods b c S2) (hs : ∀ i, S2 i → S i ∨ a.heap.size ≤ i) : Mods a c S :=
  ⟨k.os.trans h.os, k.tape.trans h.tape, k.output.trans h.output, Nat.le_trans h.size k.size, fun i hi hn => (k.block i (Nat.lt_of_lt_of_le hi h.size) (fun e => (hs i e).elim hn (fun h => absurd hi (Nat.not_lt.2 h)))).trans (h.block i hi hn)⟩
theorem Mods.alloc {a w : World} {S : Nat → Prop} (h : Mods a w S) (o : Obj) : Mods a (w.alloc o) S := h.trans (Mods.of_below ((Below.refl _ _).alloc (Nat.le_refl _) o) (fun _ => False)) (fun _ h => h.elim)
theorem Mods.drewN {a w : World} {S : Nat → Prop} (h : Mods a w S) (n : Nat) : Mods a (w.drewN n) S := ⟨h.os, h.tape, h.output, h.size, h.block⟩
theorem Mods.drew {a w : World} {S : Nat → Prop} (h : Mods a w S) : Mods a w.drew S := ⟨h.os, h.tape, h.output, h.size, h.block⟩
theorem Mods.below {a w w' : World} {S : Nat → Prop} (h : Mods a w S) (hb : Below w.heap.size w w') : Mods a w' S := h.trans (Mods.of_below hb (fun _ => False)) (fun _ h => h.elim)
theorem Mods.grown {a w w' : World} {row : Option Nat} {S : Nat → Prop} (h : Mods a w S) (hg : w.grownBy w' row) (hr : ∀ k, row = some k → S k ∨ a.heap.size ≤ k) : Mods a w' S :=
  h.trans (Mods.of_grown (S := fun k => row = some k) hg (fun k e => e)) hr
theorem Mods.setCell {a w : World} {S : Nat → Prop} (h : Mods a w S) {p : Addr} (hp : S p.block ∨ a.heap.size ≤ p.block) (u : Value) : Mods a (w.setCell p u) S := by
  have hb := (Below.refl p.block w).setCell (p := p) (Nat.le_refl _) u
  exact h.trans (S2 := fun k => k = p.block) ⟨hb.os, hb.tape, hb.output, hb.size, fun k hk hn => Below.heap_setCell w p u k hn⟩ (fun i hi => hi ▸ hp)
theorem Mods.toBelow {a w w' : World} {B : Nat} {S : Nat → Prop} (h : Below B a w) (k : Mods w w' S) (hB : B ≤ w.heap.size) (hS : ∀ i, S i → B ≤ i) : Below B a w' :=
  ⟨k.os.trans h.os, k.tape.trans h.tape, k.output.trans h.output, Nat.le_trans h.size k.size, fun i hi => (k.block i (Nat.lt_of_lt_of_le hi hB) (fun e => absurd hi (Nat.not_lt.2 (hS i e)))).trans (h.block i hi)⟩
theorem Mods.cell {w w' : World} {S : Nat → Prop} (h : Mods w w' S) {p : Addr} {v : Value} (hc : w.cell? p = some v) (hn : ¬ S p.block) : w'.cell? p = some v :=
  (World.cell?_of_block (w := w) (h.block p.block (World.block_lt_of_cell? w p hc) hn)).trans hc
theorem Mods.blk {w w' : World} {S : Nat → Prop} (h : Mods w w' S) {g : Nat} {o : Obj} (hg : w.heap[g]? = some o) (hn : ¬ S g) : w'.heap[g]? = some o := (h.block g (blk_lt hg) hn).trans hg
theorem Mods.R {α : Type} {d : Kd α} {e : Nat} {w w' : World} {base : Nat} {ok : Nat → Prop} {v : Value} {xs : List α} {S : Nat → Prop} (h : Mods w w' S) (hr : d.R e w base ok v xs) (hn : ∀ k, ok k → ¬ S k) : d.R e w' base ok v xs := Kd.R_step hr (fun k ho hlt => h.block k hlt (hn k ho))
theorem Mods.own {w w' : World} {S : Nat → Prop} {base e size n : Nat} {v : Value} {xs : List Value} (h : Mods w w' S) (ho : w.ownsRow base e size v n xs) (hn : ∀ k, v.ownBlock = some k → ¬ S k) : w'.ownsRow base e size v n xs := own_move ho (fun k hk => h.block k (own_lt ho k hk) (hn k hk))
end Go.Proofs.Ytnkgbnipcjgjeaa
