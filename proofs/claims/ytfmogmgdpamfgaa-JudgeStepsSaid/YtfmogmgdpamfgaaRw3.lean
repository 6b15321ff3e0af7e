import Derived.Test.YtfmogmgdpamfgaaBs
import Derived.Test.YtfmogmgdpamfgaaJw5
namespace Go.Proofs.Ytfmogmgdpamfgaa
open Go.RowKit Go.Proofs.YtfmogmgdpamfgaaW.PrintWords Go.Proofs.YtfmogmgdpamfgaaW.PrintLast Go.Proofs.YtfmogmgdpamfgaaW.PrintMore
set_option linter.unusedVariables false
/-! Objects: an element of a row; a row that becomes another one. -/
section
variable {w w' w2 : World} {p ty : Nat} {t t' t2 : Nat → Nat} {cs : Array Value} {rs : List Row} {α : Type} {enc : α → Value} {h1 : ∀ x : α, (enc x).oneCell' = true} {e c : Nat} {v v1 : Value} {xs ys : List α}
theorem Ob.elem (h : Ob w p ty t cs rs) (hc : rs[c]? = some (rowR enc h1 e v xs)) (j : Nat) (hj : j < xs.length) (d : α) : ∃ g cap, v = .slice (some ⟨g, 0, none⟩) xs.length cap ∧ w.cell? ⟨g, j, none⟩ = some (enc (xs.getD j d)) ∧ w.frozen? ⟨g, j, none⟩ = false ∧
    ∀ x, Ob (w.setCell ⟨g, j, none⟩ (enc x)) p ty t cs (rs.set c (rowR enc h1 e v (xs.set j x))) ∧ Nxt w (w.setCell ⟨g, j, none⟩ (enc x)) t t := by
  have hrow : (Kd.scalar enc h1).R e w 0 (okC t c) v xs := h.row c _ hc
  obtain ⟨A, cap, rfl, hcap, hC⟩ := Kd.R_reads hrow
  obtain ⟨inner, ho⟩ := Kd.R_own hrow
  have hA : ∃ g, A = some ⟨g, 0, none⟩ := by
    rcases ho.2 with ⟨h2, h3⟩ | ⟨g, cap2, cur, h2, _⟩
    · omega
    · injection h2 with hA _ _
      exact ⟨g, hA⟩
  obtain ⟨g, rfl⟩ := hA
  have hok : t g % 16 = c + 2 := hrow.1 g rfl
  have hcell := Kd.R_cell d hrow (j : Int) (by omega) (by omega)
  simp only [Int.toNat_natCast] at hcell
  refine ⟨g, cap, rfl, hcell.1, hcell.2, fun x => ⟨?_, (Nxt.refl w t).set (.inl (fun e => by rw [e] at hok; omega)) _⟩⟩
  have hput := (Kd.R_put hrow (j : Int) x).1
  simp only [Int.toNat_natCast] at hput
  exact h.upd (List.getElem?_eq_some_iff.1 hc).1 (fun k _ h2 => Below.heap_setCell w ⟨g, j, none⟩ _ k (fun e => h2 (by rw [show k = g from e]; exact hok))) (fun _ _ _ => rfl) (fun k hk => by simpa using h.lt k hk) hput
def moveT (t : Nat → Nat) (c c1 : Nat) : Nat → Nat := fun k => if t k % 16 = c + 2 then t k - c + c1 else if t k % 16 = c1 + 2 then 15 else t k
/-- Row c1 becomes row c, row c none. -/
theorem Ob.move (h : Ob w p ty t cs rs) {c1 : Nat} (hne : c ≠ c1) (hc : rs[c]? = some (rowR enc h1 e v xs)) (hc1 : c1 < rs.length) :
    Ob w p ty (moveT t c c1) cs ((rs.set c1 (rowR enc h1 e v xs)).set c (rowR enc h1 e (.slice none 0 0) [])) ∧ Nxt w w t (moveT t c c1) := by
  have hrow : (Kd.scalar enc h1).R e w 0 (okC t c) v xs := h.row c _ hc
  have hcl := (List.getElem?_eq_some_iff.1 hc).1
  have hc12 := h.rlt hc
  have hc112 : c1 ≤ 12 := by have := h.few; omega
  have hz : ∀ k, moveT t c c1 k ≠ 0 → t k ≠ 0 := fun k hk e => hk (by unfold moveT; rw [e, if_neg (by omega), if_neg (by omega)])
  refine ⟨⟨h.blk, ?_, fun k hk => h.lt k (hz k hk), fun c2 r2 hr2 => ?_, by rw [List.length_set, List.length_set]; exact h.few⟩, ⟨Mods.refl _ _, fun k hk => .inl (hz k hk)⟩⟩
  · unfold moveT; rw [h.tp, if_neg (by omega), if_neg (by omega)]
  · rw [List.getElem?_set] at hr2
    by_cases e2 : c = c2
    · subst e2
      rw [if_pos rfl, if_pos (by rw [List.length_set]; exact hcl)] at hr2
      obtain rfl := Option.some.inj hr2
      exact Kd.R_nil _ _ _ _ _
    · rw [if_neg e2, List.getElem?_set] at hr2
      by_cases e3 : c1 = c2
      · subst e3
        rw [if_pos rfl, if_pos hc1] at hr2
        obtain rfl := Option.some.inj hr2
        refine scalar_re hrow (fun k hk => ?_)
        have h3 : t k % 16 = c + 2 := hrow.1 k hk
        show moveT t c c1 k % 16 = c1 + 2
        unfold moveT
        rw [if_pos h3]
        omega
      · rw [if_neg e3] at hr2
        refine r2.st (h.row c2 r2 hr2) (fun k hk _ => ?_)
        have hk2 : t k % 16 = c2 + 2 := hk
        have e : moveT t c c1 k = t k := by unfold moveT; rw [if_neg (by omega), if_neg (by omega)]
        exact ⟨rfl, by show moveT t c c1 k % 16 = c2 + 2; rw [e]; exact hk2, by show moveT t c c1 k / 16 = t k / 16; rw [e]⟩
end
end Go.Proofs.Ytfmogmgdpamfgaa

namespace Go.Proofs.Ytfmogmgdpamfgaa.Jd
open Go.RowKit Go.Proofs.YtfmogmgdpamfgaaW.PrintWords Go.Proofs.YtfmogmgdpamfgaaW.PrintLast Go.Proofs.YtfmogmgdpamfgaaW.PrintMore
set_option linter.unusedVariables false
/-! The document's judge in memory (obgen.py, specR.json). -/
structure HR where
  e : Value
  l : Value
  p : Value
  a : Value
  r : Value
  b : Value
  d : Value
def cellsR (g : Ge) (s : RS) (H : HR) : Array Value := #[.int .i64 g.pl, .int .i64 g.bl, .int .i64 g.pg, .int .i64 g.ch, .int .i64 g.ck, .int .i64 g.ru, .int .i64 g.pa, H.e, H.l, H.p, .int .i64 s.op, H.a, .int .i64 s.cnt, .bool s.polls, .bool s.busy, .bool s.behind, .int .i64 s.chain, .bool s.data, .int .i64 s.col, H.r, H.b, H.d, .bool s.no]
def rowsR (s : RS) (H : HR) : List Row := [rowR Value.bool (fun _ => rfl) 4 H.e s.er, rowR (Value.int .i64) (fun _ => rfl) 3 H.l s.la, rowR (Value.int .i64) (fun _ => rfl) 3 H.p s.pr, rowR (Value.int .i64) (fun _ => rfl) 3 H.a s.listed, rowR (Value.int .i64) (fun _ => rfl) 3 H.r s.rows, rowR (Value.int .i64) (fun _ => rfl) 3 H.b s.blks, rowR (Value.int .i64) (fun _ => rfl) 3 H.d s.ers]
def RAt (w : World) (p : Nat) (g : Ge) (t : Nat → Nat) (s : RS) (H : HR) : Prop := Ob w p 46 t (cellsR g s H) (rowsR s H)
section
variable {w w' : World} {p : Nat} {g : Ge} {t t' : Nat → Nat} {s s' : RS} {H H' : HR}
theorem RAt.below (h : RAt w p g t s H) (hb : Below w.heap.size w w') : RAt w' p g t s H := Ob.below h hb
theorem RAt.drew (h : RAt w p g t s H) : RAt w.drew p g t s H := Ob.drew h
theorem RAt.drewN (h : RAt w p g t s H) (q : Nat) : RAt (w.drewN q) p g t s H := Ob.drewN h q
theorem RAt.nxt {u u' : Nat → Nat} (h : RAt w p g t s H) (hn : Nxt w w' u u') (hd2 : ∀ k, u k = 0 ∨ t k = 0) : RAt w' p g t s H := Ob.nxt h hn hd2
theorem RAt.z (h : RAt w p g t s H) : ∀ i, w.frozen? ⟨p, i, none⟩ = false := Ob.froz h
theorem RAt.n (h : RAt w p g t s H) (l : List (Nat × Value)) : Nxt w (sets w p l) t t := Ob.setsN h l
theorem RAt.re {cs : Array Value} {rs : List Row} (h : Ob w p 46 t cs rs) (e : cs = cellsR g s H) (e2 : rs = rowsR s H) : RAt w p g t s H := by
  subst e e2; exact h
theorem RAt.c0 (h : RAt w p g t s H) : w.cell? ⟨p, 0, none⟩ = some (.int .i64 g.pl) := Ob.cell h 0
theorem RAt.c1 (h : RAt w p g t s H) : w.cell? ⟨p, 1, none⟩ = some (.int .i64 g.bl) := Ob.cell h 1
theorem RAt.c2 (h : RAt w p g t s H) : w.cell? ⟨p, 2, none⟩ = some (.int .i64 g.pg) := Ob.cell h 2
theorem RAt.c3 (h : RAt w p g t s H) : w.cell? ⟨p, 3, none⟩ = some (.int .i64 g.ch) := Ob.cell h 3
theorem RAt.c4 (h : RAt w p g t s H) : w.cell? ⟨p, 4, none⟩ = some (.int .i64 g.ck) := Ob.cell h 4
theorem RAt.c5 (h : RAt w p g t s H) : w.cell? ⟨p, 5, none⟩ = some (.int .i64 g.ru) := Ob.cell h 5
theorem RAt.c6 (h : RAt w p g t s H) : w.cell? ⟨p, 6, none⟩ = some (.int .i64 g.pa) := Ob.cell h 6
theorem RAt.c7 (h : RAt w p g t s H) : w.cell? ⟨p, 7, none⟩ = some (H.e) := Ob.cell h 7
theorem RAt.c8 (h : RAt w p g t s H) : w.cell? ⟨p, 8, none⟩ = some (H.l) := Ob.cell h 8
theorem RAt.c9 (h : RAt w p g t s H) : w.cell? ⟨p, 9, none⟩ = some (H.p) := Ob.cell h 9
theorem RAt.c10 (h : RAt w p g t s H) : w.cell? ⟨p, 10, none⟩ = some (.int .i64 s.op) := Ob.cell h 10
theorem RAt.c11 (h : RAt w p g t s H) : w.cell? ⟨p, 11, none⟩ = some (H.a) := Ob.cell h 11
theorem RAt.c12 (h : RAt w p g t s H) : w.cell? ⟨p, 12, none⟩ = some (.int .i64 s.cnt) := Ob.cell h 12
theorem RAt.c13 (h : RAt w p g t s H) : w.cell? ⟨p, 13, none⟩ = some (.bool s.polls) := Ob.cell h 13
theorem RAt.c14 (h : RAt w p g t s H) : w.cell? ⟨p, 14, none⟩ = some (.bool s.busy) := Ob.cell h 14
theorem RAt.c15 (h : RAt w p g t s H) : w.cell? ⟨p, 15, none⟩ = some (.bool s.behind) := Ob.cell h 15
theorem RAt.c16 (h : RAt w p g t s H) : w.cell? ⟨p, 16, none⟩ = some (.int .i64 s.chain) := Ob.cell h 16
theorem RAt.c17 (h : RAt w p g t s H) : w.cell? ⟨p, 17, none⟩ = some (.bool s.data) := Ob.cell h 17
theorem RAt.c18 (h : RAt w p g t s H) : w.cell? ⟨p, 18, none⟩ = some (.int .i64 s.col) := Ob.cell h 18
theorem RAt.c19 (h : RAt w p g t s H) : w.cell? ⟨p, 19, none⟩ = some (H.r) := Ob.cell h 19
theorem RAt.c20 (h : RAt w p g t s H) : w.cell? ⟨p, 20, none⟩ = some (H.b) := Ob.cell h 20
theorem RAt.c21 (h : RAt w p g t s H) : w.cell? ⟨p, 21, none⟩ = some (H.d) := Ob.cell h 21
theorem RAt.c22 (h : RAt w p g t s H) : w.cell? ⟨p, 22, none⟩ = some (.bool s.no) := Ob.cell h 22
theorem RAt.s7 (h : RAt w p g t s H) : RAt (w.setCell ⟨p, 7, none⟩ (.slice none 0 0)) p g t { s with er := [] } { H with e := .slice none 0 0 } := Ob.set' (Ob.nilr h 0 (by show 0 < 7; decide) Value.bool (fun _ => rfl) 4) 7 _ rfl
theorem RAt.r7 (h : RAt w p g t s H) : (Kd.scalar Value.bool (fun _ => rfl)).R 4 w 0 (fun _ => True) H.e s.er := Kd.R_mono (Ob.rowAt h 0 rfl) (fun _ _ => trivial)
theorem RAt.l7 (h : RAt w p g t s H) : ∃ A c, H.e = .slice A s.er.length c := Kd.R_slice (Ob.rowAt h 0 rfl)
theorem RAt.app7 {v1 : Value} {ys : List Bool} (h : RAt w p g t s H) (hR : (Kd.scalar Value.bool (fun _ => rfl)).R 4 w' 0 (fun _ => True) v1 ys) (hg : w.grownBy w' H.e.ownBlock) (hat : v1.ownBlock = H.e.ownBlock ∨ ∃ b, v1.ownBlock = some b ∧ w.heap.size ≤ b) :
    w'.cell? ⟨p, 7, none⟩ = some H.e ∧ (∀ i, w'.frozen? ⟨p, i, none⟩ = false) ∧ RAt (w'.setCell ⟨p, 7, none⟩ v1) p g (retag t 0 v1) { s with er := ys } { H with e := v1 } ∧ Nxt w (w'.setCell ⟨p, 7, none⟩ v1) t (retag t 0 v1) := by
  obtain ⟨h2, h3⟩ := Ob.own h (c := 0) rfl hR hg hat
  exact ⟨Ob.cell h2 7, Ob.froz h2, Ob.set' h2 7 v1 rfl, h3.trans (Nxt.setp h2 7 v1)⟩
theorem RAt.e7 (h : RAt w p g t s H) (j : Nat) (hj : j < s.er.length) : ∃ g1 cap, H.e = .slice (some ⟨g1, 0, none⟩) s.er.length cap ∧ w.cell? ⟨g1, j, none⟩ = some (Value.bool (s.er.getD j false)) ∧ w.frozen? ⟨g1, j, none⟩ = false ∧ ∀ x : Bool, RAt (w.setCell ⟨g1, j, none⟩ (Value.bool x)) p g t { s with er := s.er.set j x } H ∧ Nxt w (w.setCell ⟨g1, j, none⟩ (Value.bool x)) t t := by
  obtain ⟨g1, cap, h1, h2, h3, h4⟩ := Ob.elem h (c := 0) rfl j hj false
  exact ⟨g1, cap, h1, h2, h3, fun x => ⟨(h4 x).1, (h4 x).2⟩⟩
theorem RAt.q7 (h : RAt w p g t s H) (j : Nat) (hj : j < s.er.length) {g1 n cap : Nat} (e : H.e = .slice (some ⟨g1, 0, none⟩) n cap) : w.cell? ⟨g1, j, none⟩ = some (Value.bool (s.er.getD j false)) ∧ w.frozen? ⟨g1, j, none⟩ = false := by
  obtain ⟨g2, cap2, h1, h2, h3, _⟩ := h.e7 j hj
  rw [e] at h1
  injection h1 with h1 _ _
  injection h1 with h1
  injection h1 with h1 _ _
  subst h1
  exact ⟨h2, h3⟩
theorem RAt.s8 (h : RAt w p g t s H) : RAt (w.setCell ⟨p, 8, none⟩ (.slice none 0 0)) p g t { s with la := [] } { H with l := .slice none 0 0 } := Ob.set' (Ob.nilr h 1 (by show 1 < 7; decide) (Value.int .i64) (fun _ => rfl) 3) 8 _ rfl
theorem RAt.r8 (h : RAt w p g t s H) : (Kd.scalar (Value.int .i64) (fun _ => rfl)).R 3 w 0 (fun _ => True) H.l s.la := Kd.R_mono (Ob.rowAt h 1 rfl) (fun _ _ => trivial)
theorem RAt.l8 (h : RAt w p g t s H) : ∃ A c, H.l = .slice A s.la.length c := Kd.R_slice (Ob.rowAt h 1 rfl)
theorem RAt.app8 {v1 : Value} {ys : List Int} (h : RAt w p g t s H) (hR : (Kd.scalar (Value.int .i64) (fun _ => rfl)).R 3 w' 0 (fun _ => True) v1 ys) (hg : w.grownBy w' H.l.ownBlock) (hat : v1.ownBlock = H.l.ownBlock ∨ ∃ b, v1.ownBlock = some b ∧ w.heap.size ≤ b) :
    w'.cell? ⟨p, 8, none⟩ = some H.l ∧ (∀ i, w'.frozen? ⟨p, i, none⟩ = false) ∧ RAt (w'.setCell ⟨p, 8, none⟩ v1) p g (retag t 1 v1) { s with la := ys } { H with l := v1 } ∧ Nxt w (w'.setCell ⟨p, 8, none⟩ v1) t (retag t 1 v1) := by
  obtain ⟨h2, h3⟩ := Ob.own h (c := 1) rfl hR hg hat
  exact ⟨Ob.cell h2 8, Ob.froz h2, Ob.set' h2 8 v1 rfl, h3.trans (Nxt.setp h2 8 v1)⟩
theorem RAt.e8 (h : RAt w p g t s H) (j : Nat) (hj : j < s.la.length) : ∃ g1 cap, H.l = .slice (some ⟨g1, 0, none⟩) s.la.length cap ∧ w.cell? ⟨g1, j, none⟩ = some ((Value.int .i64) (s.la.getD j 0)) ∧ w.frozen? ⟨g1, j, none⟩ = false ∧ ∀ x : Int, RAt (w.setCell ⟨g1, j, none⟩ ((Value.int .i64) x)) p g t { s with la := s.la.set j x } H ∧ Nxt w (w.setCell ⟨g1, j, none⟩ ((Value.int .i64) x)) t t := by
  obtain ⟨g1, cap, h1, h2, h3, h4⟩ := Ob.elem h (c := 1) rfl j hj 0
  exact ⟨g1, cap, h1, h2, h3, fun x => ⟨(h4 x).1, (h4 x).2⟩⟩
theorem RAt.q8 (h : RAt w p g t s H) (j : Nat) (hj : j < s.la.length) {g1 n cap : Nat} (e : H.l = .slice (some ⟨g1, 0, none⟩) n cap) : w.cell? ⟨g1, j, none⟩ = some ((Value.int .i64) (s.la.getD j 0)) ∧ w.frozen? ⟨g1, j, none⟩ = false := by
  obtain ⟨g2, cap2, h1, h2, h3, _⟩ := h.e8 j hj
  rw [e] at h1
  injection h1 with h1 _ _
  injection h1 with h1
  injection h1 with h1 _ _
  subst h1
  exact ⟨h2, h3⟩
theorem RAt.s9 (h : RAt w p g t s H) : RAt (w.setCell ⟨p, 9, none⟩ (.slice none 0 0)) p g t { s with pr := [] } { H with p := .slice none 0 0 } := Ob.set' (Ob.nilr h 2 (by show 2 < 7; decide) (Value.int .i64) (fun _ => rfl) 3) 9 _ rfl
theorem RAt.r9 (h : RAt w p g t s H) : (Kd.scalar (Value.int .i64) (fun _ => rfl)).R 3 w 0 (fun _ => True) H.p s.pr := Kd.R_mono (Ob.rowAt h 2 rfl) (fun _ _ => trivial)
theorem RAt.l9 (h : RAt w p g t s H) : ∃ A c, H.p = .slice A s.pr.length c := Kd.R_slice (Ob.rowAt h 2 rfl)
theorem RAt.app9 {v1 : Value} {ys : List Int} (h : RAt w p g t s H) (hR : (Kd.scalar (Value.int .i64) (fun _ => rfl)).R 3 w' 0 (fun _ => True) v1 ys) (hg : w.grownBy w' H.p.ownBlock) (hat : v1.ownBlock = H.p.ownBlock ∨ ∃ b, v1.ownBlock = some b ∧ w.heap.size ≤ b) :
    w'.cell? ⟨p, 9, none⟩ = some H.p ∧ (∀ i, w'.frozen? ⟨p, i, none⟩ = false) ∧ RAt (w'.setCell ⟨p, 9, none⟩ v1) p g (retag t 2 v1) { s with pr := ys } { H with p := v1 } ∧ Nxt w (w'.setCell ⟨p, 9, none⟩ v1) t (retag t 2 v1) := by
  obtain ⟨h2, h3⟩ := Ob.own h (c := 2) rfl hR hg hat
  exact ⟨Ob.cell h2 9, Ob.froz h2, Ob.set' h2 9 v1 rfl, h3.trans (Nxt.setp h2 9 v1)⟩
theorem RAt.e9 (h : RAt w p g t s H) (j : Nat) (hj : j < s.pr.length) : ∃ g1 cap, H.p = .slice (some ⟨g1, 0, none⟩) s.pr.length cap ∧ w.cell? ⟨g1, j, none⟩ = some ((Value.int .i64) (s.pr.getD j 0)) ∧ w.frozen? ⟨g1, j, none⟩ = false ∧ ∀ x : Int, RAt (w.setCell ⟨g1, j, none⟩ ((Value.int .i64) x)) p g t { s with pr := s.pr.set j x } H ∧ Nxt w (w.setCell ⟨g1, j, none⟩ ((Value.int .i64) x)) t t := by
  obtain ⟨g1, cap, h1, h2, h3, h4⟩ := Ob.elem h (c := 2) rfl j hj 0
  exact ⟨g1, cap, h1, h2, h3, fun x => ⟨(h4 x).1, (h4 x).2⟩⟩
theorem RAt.q9 (h : RAt w p g t s H) (j : Nat) (hj : j < s.pr.length) {g1 n cap : Nat} (e : H.p = .slice (some ⟨g1, 0, none⟩) n cap) : w.cell? ⟨g1, j, none⟩ = some ((Value.int .i64) (s.pr.getD j 0)) ∧ w.frozen? ⟨g1, j, none⟩ = false := by
  obtain ⟨g2, cap2, h1, h2, h3, _⟩ := h.e9 j hj
  rw [e] at h1
  injection h1 with h1 _ _
  injection h1 with h1
  injection h1 with h1 _ _
  subst h1
  exact ⟨h2, h3⟩
theorem RAt.s10 (h : RAt w p g t s H) (x : Int) : RAt (w.setCell ⟨p, 10, none⟩ (.int .i64 x)) p g t { s with op := x } H := Ob.set' h 10 _ rfl
theorem RAt.s11 (h : RAt w p g t s H) : RAt (w.setCell ⟨p, 11, none⟩ (.slice none 0 0)) p g t { s with listed := [] } { H with a := .slice none 0 0 } := Ob.set' (Ob.nilr h 3 (by show 3 < 7; decide) (Value.int .i64) (fun _ => rfl) 3) 11 _ rfl
theorem RAt.r11 (h : RAt w p g t s H) : (Kd.scalar (Value.int .i64) (fun _ => rfl)).R 3 w 0 (fun _ => True) H.a s.listed := Kd.R_mono (Ob.rowAt h 3 rfl) (fun _ _ => trivial)
theorem RAt.l11 (h : RAt w p g t s H) : ∃ A c, H.a = .slice A s.listed.length c := Kd.R_slice (Ob.rowAt h 3 rfl)
theorem RAt.app11 {v1 : Value} {ys : List Int} (h : RAt w p g t s H) (hR : (Kd.scalar (Value.int .i64) (fun _ => rfl)).R 3 w' 0 (fun _ => True) v1 ys) (hg : w.grownBy w' H.a.ownBlock) (hat : v1.ownBlock = H.a.ownBlock ∨ ∃ b, v1.ownBlock = some b ∧ w.heap.size ≤ b) :
    w'.cell? ⟨p, 11, none⟩ = some H.a ∧ (∀ i, w'.frozen? ⟨p, i, none⟩ = false) ∧ RAt (w'.setCell ⟨p, 11, none⟩ v1) p g (retag t 3 v1) { s with listed := ys } { H with a := v1 } ∧ Nxt w (w'.setCell ⟨p, 11, none⟩ v1) t (retag t 3 v1) := by
  obtain ⟨h2, h3⟩ := Ob.own h (c := 3) rfl hR hg hat
  exact ⟨Ob.cell h2 11, Ob.froz h2, Ob.set' h2 11 v1 rfl, h3.trans (Nxt.setp h2 11 v1)⟩
theorem RAt.e11 (h : RAt w p g t s H) (j : Nat) (hj : j < s.listed.length) : ∃ g1 cap, H.a = .slice (some ⟨g1, 0, none⟩) s.listed.length cap ∧ w.cell? ⟨g1, j, none⟩ = some ((Value.int .i64) (s.listed.getD j 0)) ∧ w.frozen? ⟨g1, j, none⟩ = false ∧ ∀ x : Int, RAt (w.setCell ⟨g1, j, none⟩ ((Value.int .i64) x)) p g t { s with listed := s.listed.set j x } H ∧ Nxt w (w.setCell ⟨g1, j, none⟩ ((Value.int .i64) x)) t t := by
  obtain ⟨g1, cap, h1, h2, h3, h4⟩ := Ob.elem h (c := 3) rfl j hj 0
  exact ⟨g1, cap, h1, h2, h3, fun x => ⟨(h4 x).1, (h4 x).2⟩⟩
theorem RAt.q11 (h : RAt w p g t s H) (j : Nat) (hj : j < s.listed.length) {g1 n cap : Nat} (e : H.a = .slice (some ⟨g1, 0, none⟩) n cap) : w.cell? ⟨g1, j, none⟩ = some ((Value.int .i64) (s.listed.getD j 0)) ∧ w.frozen? ⟨g1, j, none⟩ = false := by
  obtain ⟨g2, cap2, h1, h2, h3, _⟩ := h.e11 j hj
  rw [e] at h1
  injection h1 with h1 _ _
  injection h1 with h1
  injection h1 with h1 _ _
  subst h1
  exact ⟨h2, h3⟩
theorem RAt.s12 (h : RAt w p g t s H) (x : Int) : RAt (w.setCell ⟨p, 12, none⟩ (.int .i64 x)) p g t { s with cnt := x } H := Ob.set' h 12 _ rfl
theorem RAt.s13 (h : RAt w p g t s H) (x : Bool) : RAt (w.setCell ⟨p, 13, none⟩ (.bool x)) p g t { s with polls := x } H := Ob.set' h 13 _ rfl
theorem RAt.s14 (h : RAt w p g t s H) (x : Bool) : RAt (w.setCell ⟨p, 14, none⟩ (.bool x)) p g t { s with busy := x } H := Ob.set' h 14 _ rfl
theorem RAt.s15 (h : RAt w p g t s H) (x : Bool) : RAt (w.setCell ⟨p, 15, none⟩ (.bool x)) p g t { s with behind := x } H := Ob.set' h 15 _ rfl
theorem RAt.s16 (h : RAt w p g t s H) (x : Int) : RAt (w.setCell ⟨p, 16, none⟩ (.int .i64 x)) p g t { s with chain := x } H := Ob.set' h 16 _ rfl
theorem RAt.s17 (h : RAt w p g t s H) (x : Bool) : RAt (w.setCell ⟨p, 17, none⟩ (.bool x)) p g t { s with data := x } H := Ob.set' h 17 _ rfl
theorem RAt.s18 (h : RAt w p g t s H) (x : Int) : RAt (w.setCell ⟨p, 18, none⟩ (.int .i64 x)) p g t { s with col := x } H := Ob.set' h 18 _ rfl
theorem RAt.s19 (h : RAt w p g t s H) : RAt (w.setCell ⟨p, 19, none⟩ (.slice none 0 0)) p g t { s with rows := [] } { H with r := .slice none 0 0 } := Ob.set' (Ob.nilr h 4 (by show 4 < 7; decide) (Value.int .i64) (fun _ => rfl) 3) 19 _ rfl
theorem RAt.r19 (h : RAt w p g t s H) : (Kd.scalar (Value.int .i64) (fun _ => rfl)).R 3 w 0 (fun _ => True) H.r s.rows := Kd.R_mono (Ob.rowAt h 4 rfl) (fun _ _ => trivial)
theorem RAt.l19 (h : RAt w p g t s H) : ∃ A c, H.r = .slice A s.rows.length c := Kd.R_slice (Ob.rowAt h 4 rfl)
theorem RAt.app19 {v1 : Value} {ys : List Int} (h : RAt w p g t s H) (hR : (Kd.scalar (Value.int .i64) (fun _ => rfl)).R 3 w' 0 (fun _ => True) v1 ys) (hg : w.grownBy w' H.r.ownBlock) (hat : v1.ownBlock = H.r.ownBlock ∨ ∃ b, v1.ownBlock = some b ∧ w.heap.size ≤ b) :
    w'.cell? ⟨p, 19, none⟩ = some H.r ∧ (∀ i, w'.frozen? ⟨p, i, none⟩ = false) ∧ RAt (w'.setCell ⟨p, 19, none⟩ v1) p g (retag t 4 v1) { s with rows := ys } { H with r := v1 } ∧ Nxt w (w'.setCell ⟨p, 19, none⟩ v1) t (retag t 4 v1) := by
  obtain ⟨h2, h3⟩ := Ob.own h (c := 4) rfl hR hg hat
  exact ⟨Ob.cell h2 19, Ob.froz h2, Ob.set' h2 19 v1 rfl, h3.trans (Nxt.setp h2 19 v1)⟩
theorem RAt.e19 (h : RAt w p g t s H) (j : Nat) (hj : j < s.rows.length) : ∃ g1 cap, H.r = .slice (some ⟨g1, 0, none⟩) s.rows.length cap ∧ w.cell? ⟨g1, j, none⟩ = some ((Value.int .i64) (s.rows.getD j 0)) ∧ w.frozen? ⟨g1, j, none⟩ = false ∧ ∀ x : Int, RAt (w.setCell ⟨g1, j, none⟩ ((Value.int .i64) x)) p g t { s with rows := s.rows.set j x } H ∧ Nxt w (w.setCell ⟨g1, j, none⟩ ((Value.int .i64) x)) t t := by
  obtain ⟨g1, cap, h1, h2, h3, h4⟩ := Ob.elem h (c := 4) rfl j hj 0
  exact ⟨g1, cap, h1, h2, h3, fun x => ⟨(h4 x).1, (h4 x).2⟩⟩
theorem RAt.q19 (h : RAt w p g t s H) (j : Nat) (hj : j < s.rows.length) {g1 n cap : Nat} (e : H.r = .slice (some ⟨g1, 0, none⟩) n cap) : w.cell? ⟨g1, j, none⟩ = some ((Value.int .i64) (s.rows.getD j 0)) ∧ w.frozen? ⟨g1, j, none⟩ = false := by
  obtain ⟨g2, cap2, h1, h2, h3, _⟩ := h.e19 j hj
  rw [e] at h1
  injection h1 with h1 _ _
  injection h1 with h1
  injection h1 with h1 _ _
  subst h1
  exact ⟨h2, h3⟩
theorem RAt.s20 (h : RAt w p g t s H) : RAt (w.setCell ⟨p, 20, none⟩ (.slice none 0 0)) p g t { s with blks := [] } { H with b := .slice none 0 0 } := Ob.set' (Ob.nilr h 5 (by show 5 < 7; decide) (Value.int .i64) (fun _ => rfl) 3) 20 _ rfl
theorem RAt.r20 (h : RAt w p g t s H) : (Kd.scalar (Value.int .i64) (fun _ => rfl)).R 3 w 0 (fun _ => True) H.b s.blks := Kd.R_mono (Ob.rowAt h 5 rfl) (fun _ _ => trivial)
theorem RAt.l20 (h : RAt w p g t s H) : ∃ A c, H.b = .slice A s.blks.length c := Kd.R_slice (Ob.rowAt h 5 rfl)
theorem RAt.app20 {v1 : Value} {ys : List Int} (h : RAt w p g t s H) (hR : (Kd.scalar (Value.int .i64) (fun _ => rfl)).R 3 w' 0 (fun _ => True) v1 ys) (hg : w.grownBy w' H.b.ownBlock) (hat : v1.ownBlock = H.b.ownBlock ∨ ∃ b, v1.ownBlock = some b ∧ w.heap.size ≤ b) :
    w'.cell? ⟨p, 20, none⟩ = some H.b ∧ (∀ i, w'.frozen? ⟨p, i, none⟩ = false) ∧ RAt (w'.setCell ⟨p, 20, none⟩ v1) p g (retag t 5 v1) { s with blks := ys } { H with b := v1 } ∧ Nxt w (w'.setCell ⟨p, 20, none⟩ v1) t (retag t 5 v1) := by
  obtain ⟨h2, h3⟩ := Ob.own h (c := 5) rfl hR hg hat
  exact ⟨Ob.cell h2 20, Ob.froz h2, Ob.set' h2 20 v1 rfl, h3.trans (Nxt.setp h2 20 v1)⟩
theorem RAt.e20 (h : RAt w p g t s H) (j : Nat) (hj : j < s.blks.length) : ∃ g1 cap, H.b = .slice (some ⟨g1, 0, none⟩) s.blks.length cap ∧ w.cell? ⟨g1, j, none⟩ = some ((Value.int .i64) (s.blks.getD j 0)) ∧ w.frozen? ⟨g1, j, none⟩ = false ∧ ∀ x : Int, RAt (w.setCell ⟨g1, j, none⟩ ((Value.int .i64) x)) p g t { s with blks := s.blks.set j x } H ∧ Nxt w (w.setCell ⟨g1, j, none⟩ ((Value.int .i64) x)) t t := by
  obtain ⟨g1, cap, h1, h2, h3, h4⟩ := Ob.elem h (c := 5) rfl j hj 0
  exact ⟨g1, cap, h1, h2, h3, fun x => ⟨(h4 x).1, (h4 x).2⟩⟩
theorem RAt.q20 (h : RAt w p g t s H) (j : Nat) (hj : j < s.blks.length) {g1 n cap : Nat} (e : H.b = .slice (some ⟨g1, 0, none⟩) n cap) : w.cell? ⟨g1, j, none⟩ = some ((Value.int .i64) (s.blks.getD j 0)) ∧ w.frozen? ⟨g1, j, none⟩ = false := by
  obtain ⟨g2, cap2, h1, h2, h3, _⟩ := h.e20 j hj
  rw [e] at h1
  injection h1 with h1 _ _
  injection h1 with h1
  injection h1 with h1 _ _
  subst h1
  exact ⟨h2, h3⟩
theorem RAt.s21 (h : RAt w p g t s H) : RAt (w.setCell ⟨p, 21, none⟩ (.slice none 0 0)) p g t { s with ers := [] } { H with d := .slice none 0 0 } := Ob.set' (Ob.nilr h 6 (by show 6 < 7; decide) (Value.int .i64) (fun _ => rfl) 3) 21 _ rfl
theorem RAt.r21 (h : RAt w p g t s H) : (Kd.scalar (Value.int .i64) (fun _ => rfl)).R 3 w 0 (fun _ => True) H.d s.ers := Kd.R_mono (Ob.rowAt h 6 rfl) (fun _ _ => trivial)
theorem RAt.l21 (h : RAt w p g t s H) : ∃ A c, H.d = .slice A s.ers.length c := Kd.R_slice (Ob.rowAt h 6 rfl)
theorem RAt.app21 {v1 : Value} {ys : List Int} (h : RAt w p g t s H) (hR : (Kd.scalar (Value.int .i64) (fun _ => rfl)).R 3 w' 0 (fun _ => True) v1 ys) (hg : w.grownBy w' H.d.ownBlock) (hat : v1.ownBlock = H.d.ownBlock ∨ ∃ b, v1.ownBlock = some b ∧ w.heap.size ≤ b) :
    w'.cell? ⟨p, 21, none⟩ = some H.d ∧ (∀ i, w'.frozen? ⟨p, i, none⟩ = false) ∧ RAt (w'.setCell ⟨p, 21, none⟩ v1) p g (retag t 6 v1) { s with ers := ys } { H with d := v1 } ∧ Nxt w (w'.setCell ⟨p, 21, none⟩ v1) t (retag t 6 v1) := by
  obtain ⟨h2, h3⟩ := Ob.own h (c := 6) rfl hR hg hat
  exact ⟨Ob.cell h2 21, Ob.froz h2, Ob.set' h2 21 v1 rfl, h3.trans (Nxt.setp h2 21 v1)⟩
theorem RAt.e21 (h : RAt w p g t s H) (j : Nat) (hj : j < s.ers.length) : ∃ g1 cap, H.d = .slice (some ⟨g1, 0, none⟩) s.ers.length cap ∧ w.cell? ⟨g1, j, none⟩ = some ((Value.int .i64) (s.ers.getD j 0)) ∧ w.frozen? ⟨g1, j, none⟩ = false ∧ ∀ x : Int, RAt (w.setCell ⟨g1, j, none⟩ ((Value.int .i64) x)) p g t { s with ers := s.ers.set j x } H ∧ Nxt w (w.setCell ⟨g1, j, none⟩ ((Value.int .i64) x)) t t := by
  obtain ⟨g1, cap, h1, h2, h3, h4⟩ := Ob.elem h (c := 6) rfl j hj 0
  exact ⟨g1, cap, h1, h2, h3, fun x => ⟨(h4 x).1, (h4 x).2⟩⟩
theorem RAt.q21 (h : RAt w p g t s H) (j : Nat) (hj : j < s.ers.length) {g1 n cap : Nat} (e : H.d = .slice (some ⟨g1, 0, none⟩) n cap) : w.cell? ⟨g1, j, none⟩ = some ((Value.int .i64) (s.ers.getD j 0)) ∧ w.frozen? ⟨g1, j, none⟩ = false := by
  obtain ⟨g2, cap2, h1, h2, h3, _⟩ := h.e21 j hj
  rw [e] at h1
  injection h1 with h1 _ _
  injection h1 with h1
  injection h1 with h1 _ _
  subst h1
  exact ⟨h2, h3⟩
theorem RAt.s22 (h : RAt w p g t s H) (x : Bool) : RAt (w.setCell ⟨p, 22, none⟩ (.bool x)) p g t { s with no := x } H := Ob.set' h 22 _ rfl
end
end Go.Proofs.Ytfmogmgdpamfgaa.Jd

namespace Go.Proofs.Ytfmogmgdpamfgaa.Jd
open Go.RowKit Go.Proofs.YtfmogmgdpamfgaaW.PrintWords Go.Proofs.YtfmogmgdpamfgaaW.PrintLast Go.Proofs.YtfmogmgdpamfgaaW.PrintMore
set_option linter.unusedVariables false
section
variable {w w' : World} {p : Nat} {g : Ge} {t t' : Nat → Nat} {s : RS} {H : HR}
set_option maxHeartbeats 2000000 in
set_option maxRecDepth 100000 in
theorem rfree_ok (h : RAt w p g t s H) : Calls Try.prog 95 #[.pointer (some ⟨p, 0, none⟩)] w fun e w' => e = .returned (.tuple #[]) ∧ RAt w' p g t (freeR s) { H with a := .slice none 0 0 } ∧ Nxt w w' t t := by
  have HF := Lib.hid (((h.s10 1).s11).s12 0)
  have HN := Lib.hid (h.n [(10, .int .i64 1), (11, .slice none 0 0), (12, .int .i64 0)])
  have hz := h.z
  have c10 := h.c10
  have c11 := h.c11
  have c12 := h.c12
  obtain ⟨A, m, hA⟩ := h.l11
  rw [hA] at c11
  clear h hA
  go_enter Try.func95, Try.ntmps95
  go_wp2_with fail
  go_end0
  exact ⟨rfl, HF.out, HN.out⟩
set_option maxHeartbeats 2000000 in
set_option maxRecDepth 100000 in
theorem rstart_ok (h : RAt w p g t s H) : Calls Try.prog 94 #[.pointer (some ⟨p, 0, none⟩)] w fun e w' => e = .returned (.tuple #[]) ∧ RAt w' p g t (startR s) { H with a := .slice none 0 0 } ∧ Nxt w w' t t := by
  have HL := Lib.hid (rfree_ok h)
  clear h
  go_enter Try.func94, Try.ntmps94
  go_wp2_with fail
  refine (HL.out).mono ?_
  rintro e w1 ⟨rfl, h1, hn1⟩
  have HF := Lib.hid (h1.s14 true)
  have HN := Lib.hid (hn1.trans (h1.n [(14, .bool true)]))
  have hz := h1.z
  have c14 := h1.c14
  clear h1 hn1 HL
  go_wp2_with fail
  go_end0
  exact ⟨rfl, HF.out, HN.out⟩
theorem lostE_snoc (bs : List Bool) (d : List Int) (x : Int) : lostE bs (d ++ [x]) = (lostE bs d).set x.toNat false := by
  unfold lostE; rw [List.foldl_append]; rfl
theorem lostE_len (d : List Int) : ∀ (bs : List Bool), (lostE bs d).length = bs.length := by
  induction d with
  | nil => intro bs; rfl
  | cons x d ih => intro bs; show (lostE (bs.set _ _) d).length = _; rw [ih, List.length_set]
theorem take_snoc {l : List Int} {k : Nat} (h : k < l.length) : l.take (k + 1) = l.take k ++ [l.getD k 0] := by
  rw [List.take_succ_eq_append_getElem h, List.getD_eq_getElem?_getD, List.getElem?_eq_getElem h]; rfl
theorem getD_mem {l : List Int} {k : Nat} (h : k < l.length) : l.getD k 0 ∈ l := by
  rw [List.getD_eq_getElem?_getD, List.getElem?_eq_getElem h]; exact List.getElem_mem h
def InE (s : RS) : Prop := (∀ x ∈ s.ers, 0 ≤ x ∧ x < (s.er.length : Int)) ∧ s.ers.length ≤ 1000000
set_option maxHeartbeats 4000000 in
set_option maxRecDepth 100000 in
theorem rlost_ok (h : RAt w p g t s H) (hr1 : InE s) : Calls Try.prog 102 #[.pointer (some ⟨p, 0, none⟩)] w fun e w' => e = .returned (.tuple #[]) ∧ RAt w' p g t (lostR s) { H with d := .slice none 0 0 } ∧ Nxt w w' t t := by
  have HJ := Lib.hid h
  have HR := Lib.hid hr1.1
  have hm := hr1.2
  obtain ⟨n, hn⟩ : ∃ n, n = s.ers.length := ⟨_, rfl⟩
  obtain ⟨nb, hnb⟩ : ∃ nb, nb = s.er.length := ⟨_, rfl⟩
  rw [← hn] at hm
  have HN := Lib.hid hn
  have HB := Lib.hid hnb
  clear h hr1 hn hnb
  go_enter Try.func102, Try.ntmps102
  go_wp2_with fail
  go_loopw [2] (fun i wr => ∃ k : Nat, k ≤ n ∧ i = .int .i64 k ∧ Hid (RAt wr p g t { s with er := lostE s.er (s.ers.take k) } H) ∧ Hid (Nxt w wr t t)) (fun i _ => n - (intOf i).toNat)
  case atStart => exact ⟨0, by omega, rfl, HJ, Lib.hid (Nxt.refl _ _)⟩
  case round =>
    obtain ⟨k, hk, rfl, HW, HX⟩ := hrel
    have c21 := HW.out.c21
    by_cases hkn : k < n
    · have hk0 : (k : Int) < (n : Int) := by omega
      have hlen : k < s.ers.length := by rw [← HN.out]; exact hkn
      obtain ⟨g1, cap1, e1, x1, _, _⟩ := HW.out.e21 k hlen
      rw [e1] at c21
      simp only at x1 c21
      rw [← HN.out] at c21
      have hx := HR.out _ (getD_mem hlen)
      have htake := take_snoc hlen
      obtain ⟨x, hxx⟩ := Int.eq_ofNat_of_zero_le hx.1
      rw [hxx] at hx
      rw [← HB.out] at hx
      have hxi : (x : Int) < (nb : Int) := hx.2
      have hbl : (lostE s.er (s.ers.take k)).length = nb := by rw [lostE_len, HB.out]
      obtain ⟨g2, cap2, e2, x2, z2, hst⟩ := HW.out.e7 x (by show x < (lostE s.er (s.ers.take k)).length; rw [hbl]; omega)
      have c7 := HW.out.c7
      have x1b := ((hst false).1.q21 k hlen e1).1
      have c7b := (hst false).1.c7
      have c21b := (hst false).1.c21
      rw [e2] at c7 c7b
      rw [e1] at c21b
      simp only at x2 c7 c7b c21b x1b
      rw [← HN.out] at c21b
      rw [hxx] at x1b
      rw [hbl] at c7 c7b
      rw [hxx] at x1 htake
      have HT := Lib.hid htake
      have HS := Lib.hid (hst false)
      clear e1 e2 hx hxx htake hbl hlen hst
      go_wp2_with fail
      go_region_held3 (fun W => W.cell? ⟨p, 7, none⟩ = some (.slice (some ⟨g2, 0, none⟩) nb cap2) ∧ W.cell? ⟨p, 21, none⟩ = some (.slice (some ⟨g1, 0, none⟩) n cap1) ∧ W.cell? ⟨g1, k, none⟩ = some (.int .i64 (x : Int))) (first | exact ⟨c7, c21, x1⟩ | exact ⟨c7b, c21b, x1b⟩) (fail)
      clear c7 c7b c21 c21b x1 x1b
      go_wp2_with fail
      go_roundw
      case rel => exact ⟨k + 1, hkn, by go_num, Lib.hid (by rw [HT.out, lostE_snoc]; exact HS.out.1.drew), Lib.hid (HX.out.trans HS.out.2.drew)⟩
      case measure => exact step_measure hkn
    · have hke : n = k := by omega
      have hta : s.ers.take k = s.ers := List.take_of_length_le (by rw [← HN.out]; omega)
      rw [hta] at HW
      subst hke
      clear hta hkn hk
      obtain ⟨A, m, hA⟩ := HW.out.l21
      rw [hA] at c21
      simp only at c21
      rw [← HN.out] at c21
      clear hA
      have HF := Lib.hid (HW.out.s21)
      have HM := Lib.hid (HW.out.n [(21, .slice none 0 0)])
      have hz := HW.out.z
      go_wp2_with fail
      go_end0
      exact ⟨rfl, HF.out, HX.out.trans HM.out⟩
set_option maxHeartbeats 4000000 in
set_option maxRecDepth 100000 in
theorem rpoll_ok (b : Int) (hb : 0 ≤ b ∧ b ≤ 255) (h : RAt w p g t s H) (hr1 : InE s) : Calls Try.prog 96 #[.pointer (some ⟨p, 0, none⟩), .int .u8 b] w fun e w' => e = .returned (.tuple #[]) ∧ (∃ H', RAt w' p g t (pollR s b) H') ∧ Nxt w w' t t := by
  have HL := Lib.hid (rlost_ok h hr1)
  have c14 := h.c14
  have HJ := Lib.hid h
  clear h hr1
  cases e6 : (b / 64 % 2 == 0) with
  | true =>
    rw [show pollR s b = s from by unfold pollR; rw [if_pos (by simpa using e6)]]
    go_enter Try.func96, Try.ntmps96
    go_wp2_with fail
    (try simp only [Exit.inBlock, Exit.then])
    refine bodyPost_ret (results_none rfl _ _ _) rfl ?_
    exact ⟨rfl, ⟨_, HJ.out⟩, Nxt.refl _ _⟩
  | false =>
    have n6 : ¬ (b / 64 % 2 = 0) := by simpa using e6
    have N6 := Lib.hid n6
    clear n6
    obtain ⟨b5, f5⟩ : ∃ x, bit5 b = x := ⟨_, rfl⟩
    obtain ⟨b0, f0⟩ : ∃ x, bit0 b = x := ⟨_, rfl⟩
    obtain ⟨bu, eb⟩ : ∃ x, s.busy = x := ⟨_, rfl⟩
    have e5 : (b / 32 % 2 == 1) = b5 := f5
    have e0 : (b % 2 == 1) = b0 := f0
    rw [eb] at c14
    have HE : Hid (pollR s b = { (if bu && b0 then lostR s else s) with busy := false, ers := [], behind := if b5 then false else (if bu && b0 then lostR s else s).behind }) := Lib.hid (by unfold pollR; rw [if_neg N6.out, eb, f0, f5])
    rw [HE.out]
    clear eb f0 f5
    by_cases hlo : bu = true ∧ b0 = true
    · obtain ⟨rfl, rfl⟩ := hlo
      cases b5
      all_goals
        go_enter Try.func96, Try.ntmps96
        go_wp2_with (go_at_call 102; refine (HL.out).mono ?_; rintro e w1 ⟨rfl, h1, hn1⟩; have HW := Lib.hid (((h1.s14 false).s21).s15 false); have HV := Lib.hid ((h1.s14 false).s21); have HN := Lib.hid (hn1.trans (h1.n [(14, .bool false), (21, .slice none 0 0), (15, .bool false)])); have HM := Lib.hid (hn1.trans (h1.n [(14, .bool false), (21, .slice none 0 0)])); have hz := h1.z; have d14 := h1.c14; have d21 := h1.c21; have d15 := h1.c15; clear h1 hn1)
        go_end0
        first | exact ⟨rfl, ⟨_, HW.out⟩, HN.out⟩ | exact ⟨rfl, ⟨_, HV.out⟩, HM.out⟩
    · have hf : (bu && b0) = false := by cases bu <;> cases b0 <;> simp_all
      rw [hf]
      have HW := Lib.hid (((HJ.out.s14 false).s21).s15 false)
      have HV := Lib.hid ((HJ.out.s14 false).s21)
      have HN := Lib.hid (HJ.out.n [(14, .bool false), (21, .slice none 0 0), (15, .bool false)])
      have HM := Lib.hid (HJ.out.n [(14, .bool false), (21, .slice none 0 0)])
      have hz := HJ.out.z
      have d15 := HJ.out.c15
      have d21 := HJ.out.c21
      obtain ⟨A, m, hA⟩ := HJ.out.l21
      rw [hA] at d21
      clear hA
      have hc : bu = false ∨ (bu = true ∧ b0 = false) := by cases bu <;> cases b0 <;> simp_all
      clear hf hlo HE
      rcases hc with rfl | ⟨rfl, rfl⟩
      all_goals
        cases b5
        all_goals
          go_enter Try.func96, Try.ntmps96
          go_wp2_with fail
          go_end0
          first | exact ⟨rfl, ⟨_, HW.out⟩, HN.out⟩ | exact ⟨rfl, ⟨_, HV.out⟩, HM.out⟩
set_option maxHeartbeats 2000000 in
set_option maxRecDepth 100000 in
theorem rreset_ok (h : RAt w p g t s H) (hr1 : InE s) : Calls Try.prog 64 #[.pointer (some ⟨p, 0, none⟩)] w fun e w' => e = .returned (.tuple #[]) ∧ (∃ H', RAt w' p g t (resetR s) H') ∧ Nxt w w' t t := by
  have HL := Lib.hid (rlost_ok h hr1)
  clear h hr1
  go_enter Try.func64, Try.ntmps64
  go_wp2_with (first
    | (go_at_call 102; refine (HL.out).mono ?_; rintro e w1 ⟨rfl, h1, hn1⟩; have HW := Lib.hid (rfree_ok ((((h1.s19).s20).s15 false).s17 false)); have HN := Lib.hid (hn1.trans (h1.n [(19, .slice none 0 0), (20, .slice none 0 0), (15, .bool false), (17, .bool false)])); have hz := h1.z; have d19 := h1.c19; have d20 := h1.c20; have d15 := h1.c15; have d17 := h1.c17; obtain ⟨A1, m1, hA1⟩ := h1.l19; obtain ⟨A2, m2, hA2⟩ := h1.l20; simp only at hA1 hA2 d19 d20; rw [hA1] at d19; rw [hA2] at d20; clear h1 hn1 HL hA1 hA2)
    | (refine (HW.out).mono ?_; rintro e w2 ⟨rfl, h2, hn2⟩))
  go_end0
  exact ⟨rfl, ⟨_, h2⟩, HN.out.trans hn2⟩
set_option maxHeartbeats 2000000 in
set_option maxRecDepth 100000 in
theorem rpower_ok (h : RAt w p g t s H) (hr1 : InE s) : Calls Try.prog 23 #[.pointer (some ⟨p, 0, none⟩)] w fun e w' => e = .returned (.tuple #[]) ∧ (∃ H', RAt w' p g t (powerR s) H') ∧ Nxt w w' t t := by
  have HL := Lib.hid (rreset_ok h hr1)
  clear h hr1
  go_enter Try.func23, Try.ntmps23
  go_wp2_with (go_at_call 64; refine (HL.out).mono ?_; rintro e w1 ⟨rfl, ⟨H1, h1⟩, hn1⟩; have HW := Lib.hid ((((h1.s10 0).s14 false).s13 false).s22 false); have HN := Lib.hid (hn1.trans (h1.n [(10, .int .i64 0), (14, .bool false), (13, .bool false), (22, .bool false)])); have hz := h1.z; have d10 := h1.c10; have d14 := h1.c14; have d13 := h1.c13; have d22 := h1.c22; clear h1 hn1 HL)
  go_end0
  exact ⟨rfl, ⟨_, HW.out⟩, HN.out⟩
end
end Go.Proofs.Ytfmogmgdpamfgaa.Jd

namespace Go.Proofs.Ytfmogmgdpamfgaa.Jd
open Go.RowKit Go.Proofs.YtfmogmgdpamfgaaW.PrintWords Go.Proofs.YtfmogmgdpamfgaaW.PrintLast Go.Proofs.YtfmogmgdpamfgaaW.PrintMore
set_option linter.unusedVariables false
/-- What a walk asks of the document's judge. -/
structure Wr (g : Ge) (s : RS) : Prop where
  hg : g.ok
  ne : s.er.length = g.bl.toNat
  nl : s.la.length = g.bl.toNat
  np : (s.pr.length : Int) = g.bl * g.pg
  lb : IsB s.listed
  l4 : s.listed.length ≤ 900
  in2 : s.op = 9 → s.listed.length = 2 → num s.listed 0 < s.pr.length
  ro : s.rows.length ≤ 1000000 ∧ ∀ x ∈ s.rows, 0 ≤ x ∧ x < g.bl * g.pg
  bl : s.blks.length ≤ 1000000 ∧ ∀ x ∈ s.blks, 0 ≤ x ∧ x < g.bl
  er : s.ers.length ≤ 1000000 ∧ ∀ x ∈ s.ers, 0 ≤ x ∧ x < g.bl
theorem Wr.ine {g : Ge} {s : RS} (h : Wr g s) : InE s := ⟨fun x hx => by
  have h1 := h.er.2 x hx
  rw [h.ne]
  have := h.hg.2.1.1
  omega, h.er.1⟩
theorem num_b {l : List Int} (h : IsB l) (i : Nat) : 0 ≤ num l i ∧ num l i ≤ 65535 := by
  have h1 := h.at_ i
  have h2 := h.at_ (i + 1)
  unfold num
  omega
section
variable {w w' : World} {p : Nat} {g : Ge} {t t' : Nat → Nat} {s : RS} {H : HR}
set_option maxHeartbeats 4000000 in
set_option maxRecDepth 100000 in
theorem rtwo_ok (at_ : Nat) (h : RAt w p g t s H) (h4 : at_ + 2 ≤ s.listed.length) (hm : s.listed.length ≤ 1000) (hb : IsB s.listed) : Calls Try.prog 133 #[.pointer (some ⟨p, 0, none⟩), .int .i64 (at_ : Int)] w fun e w' => e = .returned (.int .i64 (num s.listed at_)) ∧ Below w.heap.size w w' := by
  have b1 := hb.at_ at_
  have b2 := hb.at_ (at_ + 1)
  obtain ⟨g1, cap, e1, x1, _, _⟩ := h.e11 at_ (by omega)
  have x2 := (h.q11 (at_ + 1) (by omega) e1).1
  have c11 := h.c11
  rw [e1] at c11
  unfold num
  generalize s.listed.getD at_ 0 = x at *
  generalize s.listed.getD (at_ + 1) 0 = y at *
  generalize s.listed.length = n at *
  have e2 : wrap64 ((at_ : Int) + 1) = ((at_ + 1 : Nat) : Int) := by rw [w64i _ (by omega) (by omega)]; omega
  have i1 : (at_ : Int) < (n : Int) := by omega
  have i2 : ((at_ + 1 : Nat) : Int) < (n : Int) := by omega
  have hE := Lib.hid (show wrap64 (x + wrap64 (256 * y)) = x + 256 * y by rw [w64i (256 * y) (by omega) (by omega), w64i _ (by omega) (by omega)])
  clear h hb e1 hm h4
  generalize at_ + 1 = a1 at *
  go_enter Try.func133, Try.ntmps133
  go_wp2_with fail
  go_quiet (fail)
  go_wp2
  go_ret
  exact ⟨by first | rfl | (rw [← hE.out]; rfl), pw_below_drewN (Below.refl _ _) _⟩
set_option maxHeartbeats 4000000 in
set_option maxRecDepth 100000 in
theorem rcan_ok (row : Int) (hw : Wr g s) (h : RAt w p g t s H) : Calls Try.prog 24 #[.pointer (some ⟨p, 0, none⟩), .int .i64 row] w fun e w' => e = .returned (.bool (canR g s row)) ∧ Below w.heap.size w w' := by
  have c0 := h.c0
  have c1 := h.c1
  have c2 := h.c2
  have c6 := h.c6
  have c7 := h.c7
  have c8 := h.c8
  have c9 := h.c9
  have hg := hw.hg
  have hnp := hw.np
  by_cases hlo : row < 0
  · have e1 : decide (row < 0) = true := decide_eq_true hlo
    rw [show canR g s row = false from by unfold canR; rw [if_pos (.inl hlo)]]
    clear h hw hg hnp hlo
    go_enter Try.func24, Try.ntmps24
    go_wp2_with fail
    go_ret
    exact ⟨rfl, Below.refl _ _⟩
  have e1 : decide (row < 0) = false := decide_eq_false hlo
  obtain ⟨A, m, hA⟩ := h.l9
  by_cases hhi : (s.pr.length : Int) ≤ row
  · have e2 : decide ((s.pr.length : Int) ≤ row) = true := decide_eq_true hhi
    rw [show canR g s row = false from by unfold canR; rw [if_pos (.inr hhi)]]
    rw [hA] at c9
    clear h hw hg hnp hlo hA hhi
    generalize s.pr.length = n at *
    go_enter Try.func24, Try.ntmps24
    go_wp2_with fail
    go_ret
    exact ⟨rfl, Below.refl _ _⟩
  have e2 : decide ((s.pr.length : Int) ≤ row) = false := decide_eq_false hhi
  have ⟨b4, b5, b6⟩ : 0 ≤ row / g.pg ∧ 0 ≤ row % g.pg ∧ row / g.pg < g.bl := (row_split hg (show 0 ≤ row by omega) (show row < g.bl * g.pg by omega)).2.2.2
  have hE : Hid (canR g s row = (s.er.getD (row / g.pg).toNat false && decide (s.la.getD (row / g.pg).toNat 0 ≤ row % g.pg) && decide (s.pr.getD row.toNat 0 < g.pa))) := Lib.hid (by unfold canR; rw [if_neg (by omega)])
  rw [hE.out]
  clear hE
  obtain ⟨b, hb⟩ := Int.eq_ofNat_of_zero_le b4
  obtain ⟨r, hr⟩ := Int.eq_ofNat_of_zero_le (show 0 ≤ row by omega)
  subst hr
  rw [hb, Int.toNat_natCast, Int.toNat_natCast]
  rw [hb] at b6
  have hbn : b < s.er.length := by rw [hw.ne]; omega
  have hbl : b < s.la.length := by rw [hw.nl]; omega
  have hrn : r < s.pr.length := by omega
  obtain ⟨g1, k1, q1, x1, _, _⟩ := h.e7 b hbn
  obtain ⟨g2, k2, q2, x2, _, _⟩ := h.e8 b hbl
  obtain ⟨g3, k3, q3, x3, _, _⟩ := h.e9 r hrn
  rw [q1] at c7
  rw [q2] at c8
  rw [q3] at c9
  have i1 : (b : Int) < (s.er.length : Int) := by omega
  have i2 : (b : Int) < (s.la.length : Int) := by omega
  have i3 : (r : Int) < (s.pr.length : Int) := by omega
  have hb256 : b ≤ 256 := by have := hg.2.1.2; omega
  have hp0 : ¬ g.pg = 0 := by have := hg.2.2.1.1; omega
  have t1 : (r : Int).tdiv g.pg = (b : Int) := by rw [Int.tdiv_eq_ediv_of_nonneg (by omega)]; exact hb
  have t2 : (r : Int).tmod g.pg = (r : Int) % g.pg := Int.tmod_eq_emod_of_nonneg (by omega)
  have hr6 : r ≤ 1000000 := by
    have h1 : g.bl * g.pg ≤ 256 * 64 := Int.mul_le_mul hg.2.1.2 hg.2.2.1.2 (by have := hg.2.2.1.1; omega) (by decide)
    omega
  clear h hw hnp hhi hlo hA q1 q2 q3 b4 b6 hbn hbl hrn
  generalize s.er.getD b false = er at *
  generalize s.la.getD b 0 = la at *
  generalize s.pr.getD r 0 = pr at *
  generalize s.er.length = n1 at *
  generalize s.la.length = n2 at *
  generalize s.pr.length = n3 at *
  have hpw : IntKind.i64.wrap (b : Int) = b := by rw [IntWalk.i64_in _ (by omega)]
  clear hb hg b5
  go_enter Try.func24, Try.ntmps24
  go_upto_region 4 with fail
  cases er with
  | false =>
    go_quiet (fail)
    go_wp2
    go_ret
    exact ⟨rfl, pw_below_drewN (Below.refl _ _) _⟩
  | true =>
    by_cases hle : la ≤ (r : Int) % g.pg
    · have hle1 : decide (la ≤ (r : Int) % g.pg) = true := decide_eq_true hle
      go_quiet (fail)
      go_wp2
      go_ret
      exact ⟨by first | rfl | (rw [hle1]; rfl), pw_below_drewN (Below.refl _ _) _⟩
    · have hle2 : decide (la ≤ (r : Int) % g.pg) = false := decide_eq_false hle
      go_quiet (fail)
      go_wp2
      go_ret
      exact ⟨by first | rfl | (rw [hle2]; rfl), pw_below_drewN (Below.refl _ _) _⟩
end
end Go.Proofs.Ytfmogmgdpamfgaa.Jd

