import Derived.Test.YtnkgbnipcjgjeaaBT
import Derived.Deep.CutBlock
import Derived.Deep.RegionLaw
namespace Go.Proofs.Ytnkgbnipcjgjeaa
open Go.RowKit Go.Lib Go.Proofs.YtnkgbnipcjgjeaaW.PrintWords Go.Proofs.YtnkgbnipcjgjeaaW.PrintLast Go.Proofs.YtnkgbnipcjgjeaaW.PrintMore
set_option linter.unusedVariables false
theorem good_len {size : Nat} {es : List Ent} (h : Good size es) (hs : size ≤ 8192) : ∀ e ∈ es, e.2.2.length ≤ 100000 := fun e he => by
  have := (h.2 e he).2.2
  omega
theorem F_came {w0 w : World} {A : Option Addr} {xs : List Int} (h : Kd.C (Kd.int .i64) w0 A xs.length xs) (hb : Below w0.heap.size w0 w) : Kd.F (Kd.int .i64) w (fun k => k < w0.heap.size) A xs.length xs := fun W' hW => by
  refine ⟨h.1, h.2.1, fun hp => ?_⟩
  obtain ⟨ad, e, hc⟩ := h.2.2 hp
  refine ⟨ad, e, fun j p hj => ?_⟩
  obtain ⟨c, hs, hr, hcell⟩ := hc j p hj
  refine ⟨c, hs, hr, fun i u hu => ?_⟩
  have h1 := hcell i u hu
  have hlt := World.block_lt_of_cell? w0 _ h1
  refine (World.cell?_of_block (w := w0) ?_).trans h1
  exact (hW _ hlt (Nat.lt_of_lt_of_le hlt hb.size)).trans (hb.block _ hlt)
theorem sl_pre (A : Option Addr) (n c i : Nat) (h : i ≤ c) (hA : A = none → c = 0) (W : World) : (Instr.slice 48 (Value.slice A n c) none (some (Value.int .i64 (i : Int))) none).run Try.prog W = .ok (.slice A i c) W := by
  cases A with
  | none =>
    obtain rfl := hA rfl
    obtain rfl : i = 0 := by omega
    have hu := Try.underlying48
    go_simp
  | some ad =>
    have hu := Try.underlying48
    have q1 : (0 : Int) ≤ (i : Int) := by omega
    have q2 : (i : Int) ≤ (c : Int) := by omega
    go_simp
theorem RBufIs.nil0 {w : World} {N0 g t cr : Nat} {es : List Ent} {most size : Nat} (h : RBufIs w N0 g (.slice none t cr) es most size) : t = 0 ∧ cr = 0 ∧ es.length = 0 := by
  obtain ⟨hs, hR, hE⟩ := h.row
  have hl := All2.len hE
  obtain ⟨inner, ho⟩ := Kd.R_own hR
  rcases ho.2 with ⟨h1, h2⟩ | ⟨g', cap, cur, h1, _⟩
  · injection h1 with _ h3 h4
    exact ⟨h3, h4, by omega⟩
  · injection h1 with h1; cases h1
theorem RBufIs.adr {w : World} {N0 g t cr : Nat} {es : List Ent} {most size : Nat} {ad : Addr} (h : RBufIs w N0 g (.slice (some ad) t cr) es most size) : ∃ b, ad = ⟨b, 0, none⟩ := by
  obtain ⟨hs, hR, hE⟩ := h.row
  obtain ⟨inner, ho⟩ := Kd.R_own hR
  rcases ho.2 with ⟨h1, h2⟩ | ⟨g', cap, cur, h1, _⟩
  · injection h1 with h1; cases h1
  · injection h1 with h1; injection h1 with h1; exact ⟨g', h1⟩
/-- The first of the entries are the same in both. -/
theorem bsame_take {W' : World} {N0 gr n sz : Nat} {Ar : Option Addr} {t cr : Nat} {es : List Ent} (K : Nat) (hK : K ≤ es.length) (A5 : Option Addr) (c5 : Nat) (hs5 : List Eh) (hC5 : Kd.C kEh W' A5 hs5.length hs5) (hE5 : EAll W' N0 hs5 (es.take K)) (h : RBufIs W' N0 gr (.slice Ar t cr) es n sz) (hg : ∀ e ∈ es, e.2.2.length ≤ 100000) :
    Calls Try.prog 40 #[.slice A5 K c5, .slice Ar K cr] W' fun e w' => e = .returned (.bool true) ∧ ∃ q, w' = W'.drewN q := by
  obtain ⟨A', c', hs', he', hl', _, hC', hE'⟩ := h.form
  injection he' with he1 he4 he5
  clear he4 he5
  subst he1
  have hlt : (es.take K).length = K := by rw [List.length_take]; omega
  have hC2 : Kd.C kEh W' Ar (hs'.take K).length (hs'.take K) := Kd.C_take hC' (by omega)
  have := rsame_ok W' N0 N0 A5 c5 hs5 (es.take K) Ar cr (hs'.take K) (es.take K) hC5 hE5 hC2 (All2.take K hE') (by have := h.fit; have := h.small; omega) (fun e he => hg e (List.mem_of_mem_take he))
  rw [decide_eq_true rfl, hlt] at this
  exact this
/-- A block of another type is none of either's. -/
theorem Both.far {w : World} {N0 g gr : Nat} {v vr : Value} {es1 es2 : List Ent} {most size : Nat} (h : Both w N0 g v gr vr es1 es2 most size) {x : Nat} {cs : Array Value} {t : Nat} (hx : w.heap[x]? = some (.cells cs t (0, 0))) (h1 : t ≠ 142) (h2 : t ≠ 54) (h3 : t ≠ 62) : ¬ BufS g v x ∧ ¬ x = gr := by
  refine ⟨fun hs => ?_, fun e => ?_⟩
  · rcases hs with rfl | hs
    · rw [h.b.blk] at hx; injection hx with hx; injection hx with _ h4 _; exact h1 h4.symm
    · obtain ⟨_, _, _, cs', hc⟩ := h.b.own hs
      rw [hc] at hx; injection hx with hx; injection hx with _ h4 _; exact h2 h4.symm
  · subst e
    rw [h.r.blk] at hx; injection hx with hx; injection hx with _ h4 _; exact h3 h4.symm
theorem bsame_ok {W' : World} {N0 gr n sz : Nat} {Ar : Option Addr} {cr : Nat} {es : List Ent} (A5 : Option Addr) (c5 : Nat) (hs5 : List Eh) (hC5 : Kd.C kEh W' A5 hs5.length hs5) (hE5 : EAll W' N0 hs5 es) (h : RBufIs W' N0 gr (.slice Ar es.length cr) es n sz) (hg : ∀ e ∈ es, e.2.2.length ≤ 100000) :
    Calls Try.prog 40 #[.slice A5 es.length c5, .slice Ar es.length cr] W' fun e w' => e = .returned (.bool true) ∧ ∃ q, w' = W'.drewN q := by
  obtain ⟨A', c', hs', he', _, _, hC', hE'⟩ := h.form
  injection he' with he1 he4 he5
  clear he4 he5
  subst he1
  have := rsame_ok W' N0 N0 A5 c5 hs5 es Ar cr hs' es hC5 hE5 hC' hE' (by have := h.fit; have := h.small; omega) hg
  rw [decide_eq_true rfl] at this
  exact this
theorem c_oneE {W : World} {b : Nat} {h : Eh} (hb : W.heap[b]? = some (.cells #[.int .i64 h.1, .int .i64 h.2.1, .slice h.2.2.1 h.2.2.2.1 h.2.2.2.2] 54 (0, 0))) : Kd.C kEh W (some ⟨b, 0, none⟩) [h].length [h] := by
  refine ⟨rfl, by show 1 ≤ 9223372036854775807; omega, fun _ => ⟨⟨b, 0, none⟩, rfl, fun j p hp => ?_⟩⟩
  match j, hp with
  | 0, hp =>
    obtain rfl := Option.some.inj hp
    refine ⟨ehC h, rfl, kEh_mk _ _, fun i u hu => ?_⟩
    rw [Nat.zero_mul, Nat.zero_add, add_plain, Nat.zero_add, blk_cell hb]
    match i, hu with
    | 0, hu => exact hu
    | 1, hu => exact hu
    | 2, hu => exact hu
    | i + 3, hu => exact absurd hu (by simp [ehC])
  | j + 1, hp => simp at hp
/-- Two entries, one each: the same one. -/
theorem same_one {W : World} {N0 b1 b2 : Nat} {s k : Int} {h1 h2 : Hdr} {xs : List Int} (hb1 : W.heap[b1]? = some (.cells #[.int .i64 s, .int .i64 k, .slice h1.1 h1.2.1 h1.2.2] 54 (0, 0))) (hb2 : W.heap[b2]? = some (.cells #[.int .i64 s, .int .i64 k, .slice h2.1 h2.2.1 h2.2.2] 54 (0, 0))) (hd1 : DatF W N0 h1 xs) (hd2 : DatF W N0 h2 xs) (hl : xs.length ≤ 100000) (c1 c2 : Nat) :
    Calls Try.prog 40 #[.slice (some ⟨b1, 0, none⟩) 1 c1, .slice (some ⟨b2, 0, none⟩) 1 c2] W fun e w' => e = .returned (.bool true) ∧ ∃ q, w' = W.drewN q := by
  have := rsame_ok W N0 N0 (some ⟨b1, 0, none⟩) c1 [(s, k, h1)] [(s, k, xs)] (some ⟨b2, 0, none⟩) c2 [(s, k, h2)] [(s, k, xs)] (c_oneE hb1) ⟨⟨rfl, rfl, hd1⟩, trivial⟩ (c_oneE hb2) ⟨⟨rfl, rfl, hd2⟩, trivial⟩ (by simp) (by intro e he; rw [List.mem_singleton.1 he]; exact hl)
  rw [decide_eq_true rfl] at this
  exact this
theorem two_new (w : World) (A B : Array Value) (TA TB : TypeId) : ((w.alloc (.cells A TA)).alloc (.cells B TB)).heap[w.heap.size]? = some (.cells A TA (0, 0)) ∧ ((w.alloc (.cells A TA)).alloc (.cells B TB)).heap[w.heap.size + 1]? = some (.cells B TB (0, 0)) := box2 (Below.refl _ _)
theorem wf_first {L : List Int} (h : ∀ z ∈ L, (Lit.int .i64 z).wf = true) : (Lit.int .i64 (L.getD 0 0)).wf = true := by
  cases L with
  | nil => decide
  | cons x r => exact h x List.mem_cons_self
theorem sl_mid2 (b c m P : Nat) (h : P + 1 ≤ c) (W : World) : (Instr.slice 48 (Value.slice (some ⟨b, 0, none⟩) m c) (some (Value.int .i64 (P : Int))) (some (Value.int .i64 ((P : Int) + 1))) none).run Try.prog W = .ok (.slice (some ⟨b, P * 3, none⟩) 1 (c - P)) W := by
  have h1 := sl_mid b 0 m c P (by omega) h W
  rw [show ((P + 1 : Nat) : Int) = (P : Int) + 1 by omega, Nat.zero_add] at h1
  exact h1
/-- The entry that was got, and the row's own at its place. -/
theorem same_mid {W' : World} {N0 gr n sz b1 bb t cr P : Nat} {s k : Int} {h1 : Hdr} {xs : List Int} {es : List Ent} (hen : es[P]? = some (s, k, xs)) (hb1 : W'.heap[b1]? = some (.cells #[.int .i64 s, .int .i64 k, .slice h1.1 h1.2.1 h1.2.2] 54 (0, 0))) (hd1 : DatF W' N0 h1 xs) (h : RBufIs W' N0 gr (.slice (some ⟨bb, 0, none⟩) t cr) es n sz) (hl : xs.length ≤ 100000) (c1 c2 : Nat) :
    Calls Try.prog 40 #[.slice (some ⟨b1, 0, none⟩) 1 c1, .slice (some ⟨bb, P * 3, none⟩) 1 c2] W' fun e w' => e = .returned (.bool true) ∧ ∃ q, w' = W'.drewN q := by
  obtain ⟨hP, hen⟩ := List.getElem?_eq_some_iff.1 hen
  obtain ⟨A', c', hs', he', hl', hc', hC', hE'⟩ := h.form
  injection he' with he1 he4 he5
  subst he1 he4 he5
  have hm := Kd.C_mid (lo := P) (hi := P + 1) hC' (by omega) (by omega) (Nat.le_trans (Nat.le_of_eq hl') hc')
  rw [if_neg (by omega), Option.map_some] at hm
  have ha : (⟨bb, 0, none⟩ : Addr).add (P * kEh.sz) = ⟨bb, P * 3, none⟩ := by
    rw [show P * kEh.sz = P * 3 from rfl]; exact (Go.Proofs.Ytnkgbnipcjgjeaa.add_plain bb 0 (P * 3)).trans (by rw [Nat.zero_add])
  rw [ha] at hm
  have hE2 : EAll W' N0 ((hs'.take (P + 1)).drop P) ((es.take (P + 1)).drop P) := All2.drop P (All2.take (P + 1) hE')
  have e1 : (es.take (P + 1)).drop P = [(s, k, xs)] := by
    rw [List.drop_take, List.drop_eq_getElem_cons hP, hen, show P + 1 - P = 1 by omega]; rfl
  rw [e1] at hE2
  have := rsame_ok W' N0 N0 (some ⟨b1, 0, none⟩) c1 [(s, k, h1)] [(s, k, xs)] (some ⟨bb, P * 3, none⟩) c2 _ [(s, k, xs)] (c_oneE hb1) ⟨⟨rfl, rfl, hd1⟩, trivial⟩ hm hE2 (by simp) (by intro e he; rw [List.mem_singleton.1 he]; exact hl)
  rw [decide_eq_true rfl] at this
  exact this
end Go.Proofs.Ytnkgbnipcjgjeaa
