import Derived.Test.YtfmogmgdpamfgaaBs
import Derived.Test.YtfmogmgdpamfgaaJp0
import Derived.Test.YtfmogmgdpamfgaaProg
import Derived.Deep.RegionHeld3
import Derived.Deep.QuietTactic
import Derived.BigQuiet
import Derived.WalkSpells
import Derived.StillTailTactics
namespace Go.Proofs.Ytfmogmgdpamfgaa.Jd
open Go.RowKit Go.Proofs.YtfmogmgdpamfgaaW.PrintWords Go.Proofs.YtfmogmgdpamfgaaW.PrintLast Go.Proofs.YtfmogmgdpamfgaaW.PrintMore
set_option linter.unusedVariables false
/-! The program's judge in memory. -/
abbrev rI (v : Value) (xs : List Int) : Row := rowR (Value.int .i64) (fun _ => rfl) 3 v xs
abbrev rU (v : Value) (xs : List Int) : Row := rowR (Value.int .u8) (fun _ => rfl) 5 v xs
/-- The row of blocks: three cells each, the third a row of ints of its own (number i + 1). -/
structure BAt (w : World) (ok : Nat → Prop) (u : Nat → Nat) (gb : Nat) (cur : Array Value) (bs : List Blk) : Prop where
  own : ok gb ∧ u gb = 0
  blk : w.heap[gb]? = some (.cells cur 91 (0, 0))
  at_ : ∀ (i : Nat) (b : Blk), bs[i]? = some b → ∃ v, cur[i * 3]? = some (.bool b.er) ∧ cur[i * 3 + 1]? = some (.int .i64 b.la) ∧ cur[i * 3 + 2]? = some v ∧ (Kd.int .i64).R 3 w 0 (fun k => ok k ∧ u k = i + 1) v b.pr
def bRow (gb : Nat) (bs : List Blk) : Row where
  P w ok u := ∃ cur, BAt w ok u gb cur bs
  st := by
    rintro w w' ok ok' u u' ⟨cur, h⟩ hm
    have h1 := hm gb h.own.1 (blk_lt h.blk)
    refine ⟨cur, ⟨h1.2.1, h1.2.2.trans h.own.2⟩, h1.1.trans h.blk, fun i b hb => ?_⟩
    obtain ⟨v, h2, h3, h4, h5⟩ := h.at_ i b hb
    refine ⟨v, h2, h3, h4, scalar_re (Kd.R_step (Kd.R_bound h5) (fun k hk hlt => (hm k hk.1.1 hlt).1)) (fun k hk => ?_)⟩
    have h6 := (Kd.R_bound h5).1 k hk
    have h7 := hm k h6.1.1 h6.2.2.1
    exact ⟨h7.2.1, h7.2.2.trans h6.1.2⟩
def cellsJ (g : Ge) (s : JS) (gb : Nat) (hl hr he hd : Value) : Array Value := #[.int .i64 g.pl, .int .i64 g.bl, .int .i64 g.pg, .int .i64 g.ch, .int .i64 g.ck, .int .i64 g.ru, .int .i64 g.pa, .slice (some ⟨gb, 0, none⟩) s.blocks.length s.blocks.length, .int .i64 s.op, hl, .int .i64 s.writes, .bool s.polls, .bool s.busy, .bool s.behind, .int .i64 s.chain, .int .i64 s.column, .bool s.data, hr, he, hd]
def rowsJ (s : JS) (gb : Nat) (hl hr he hd : Value) : List Row := [bRow gb s.blocks, rU hl s.listed, rI hr s.rows, rI he s.erases, rI hd s.doing]
def JAt (w : World) (p : Nat) (g : Ge) (t : Nat → Nat) (s : JS) (gb : Nat) (hl hr he hd : Value) : Prop := Ob w p 89 t (cellsJ g s gb hl hr he hd) (rowsJ s gb hl hr he hd)
def JIs (w : World) (p : Nat) (g : Ge) (t : Nat → Nat) (s : JS) : Prop := ∃ gb hl hr he hd, JAt w p g t s gb hl hr he hd
section
variable {w w' : World} {p : Nat} {g : Ge} {t t' : Nat → Nat} {s s' : JS} {gb : Nat} {hl hr he hd hl' hr' he' hd' : Value}
theorem JIs.below (h : JIs w p g t s) (hb : Below w.heap.size w w') : JIs w' p g t s := by
  obtain ⟨gb, hl, hr, he, hd, h⟩ := h
  exact ⟨gb, hl, hr, he, hd, Ob.below h hb⟩
theorem JIs.nxt {u u' : Nat → Nat} (h : JIs w p g t s) (hn : Nxt w w' u u') (hd : ∀ k, u k = 0 ∨ t k = 0) : JIs w' p g t s := by
  obtain ⟨gb, hl, hr, he, hd, h⟩ := h
  exact ⟨gb, hl, hr, he, hd, Ob.nxt h hn (by assumption)⟩
theorem JAt.below (h : JAt w p g t s gb hl hr he hd) (hb : Below w.heap.size w w') : JAt w' p g t s gb hl hr he hd := Ob.below h hb
theorem JAt.drew (h : JAt w p g t s gb hl hr he hd) : JAt w.drew p g t s gb hl hr he hd := Ob.drew h
theorem JAt.drewN (h : JAt w p g t s gb hl hr he hd) (q : Nat) : JAt (w.drewN q) p g t s gb hl hr he hd := Ob.drewN h q
theorem JAt.nxt {u u' : Nat → Nat} (h : JAt w p g t s gb hl hr he hd) (hn : Nxt w w' u u') (hd2 : ∀ k, u k = 0 ∨ t k = 0) : JAt w' p g t s gb hl hr he hd := Ob.nxt h hn hd2
theorem JAt.slices (h : JAt w p g t s gb hl hr he hd) : (∃ A c, hl = .slice A s.listed.length c) ∧ (∃ A c, hr = .slice A s.rows.length c) ∧ (∃ A c, he = .slice A s.erases.length c) ∧ (∃ A c, hd = .slice A s.doing.length c) :=
  ⟨Kd.R_slice (Ob.rowAt h 1 rfl), Kd.R_slice (Ob.rowAt h 2 rfl), Kd.R_slice (Ob.rowAt h 3 rfl), Kd.R_slice (Ob.rowAt h 4 rfl)⟩
theorem JAt.c0 (h : JAt w p g t s gb hl hr he hd) : w.cell? ⟨p, 0, none⟩ = some (.int .i64 g.pl) := Ob.cell h 0
theorem JAt.c1 (h : JAt w p g t s gb hl hr he hd) : w.cell? ⟨p, 1, none⟩ = some (.int .i64 g.bl) := Ob.cell h 1
theorem JAt.c2 (h : JAt w p g t s gb hl hr he hd) : w.cell? ⟨p, 2, none⟩ = some (.int .i64 g.pg) := Ob.cell h 2
theorem JAt.c3 (h : JAt w p g t s gb hl hr he hd) : w.cell? ⟨p, 3, none⟩ = some (.int .i64 g.ch) := Ob.cell h 3
theorem JAt.c4 (h : JAt w p g t s gb hl hr he hd) : w.cell? ⟨p, 4, none⟩ = some (.int .i64 g.ck) := Ob.cell h 4
theorem JAt.c5 (h : JAt w p g t s gb hl hr he hd) : w.cell? ⟨p, 5, none⟩ = some (.int .i64 g.ru) := Ob.cell h 5
theorem JAt.c6 (h : JAt w p g t s gb hl hr he hd) : w.cell? ⟨p, 6, none⟩ = some (.int .i64 g.pa) := Ob.cell h 6
theorem JAt.c7 (h : JAt w p g t s gb hl hr he hd) : w.cell? ⟨p, 7, none⟩ = some (.slice (some ⟨gb, 0, none⟩) s.blocks.length s.blocks.length) := Ob.cell h 7
theorem JAt.c8 (h : JAt w p g t s gb hl hr he hd) : w.cell? ⟨p, 8, none⟩ = some (.int .i64 s.op) := Ob.cell h 8
theorem JAt.c9 (h : JAt w p g t s gb hl hr he hd) : w.cell? ⟨p, 9, none⟩ = some (hl) := Ob.cell h 9
theorem JAt.c10 (h : JAt w p g t s gb hl hr he hd) : w.cell? ⟨p, 10, none⟩ = some (.int .i64 s.writes) := Ob.cell h 10
theorem JAt.c11 (h : JAt w p g t s gb hl hr he hd) : w.cell? ⟨p, 11, none⟩ = some (.bool s.polls) := Ob.cell h 11
theorem JAt.c12 (h : JAt w p g t s gb hl hr he hd) : w.cell? ⟨p, 12, none⟩ = some (.bool s.busy) := Ob.cell h 12
theorem JAt.c13 (h : JAt w p g t s gb hl hr he hd) : w.cell? ⟨p, 13, none⟩ = some (.bool s.behind) := Ob.cell h 13
theorem JAt.c14 (h : JAt w p g t s gb hl hr he hd) : w.cell? ⟨p, 14, none⟩ = some (.int .i64 s.chain) := Ob.cell h 14
theorem JAt.c15 (h : JAt w p g t s gb hl hr he hd) : w.cell? ⟨p, 15, none⟩ = some (.int .i64 s.column) := Ob.cell h 15
theorem JAt.c16 (h : JAt w p g t s gb hl hr he hd) : w.cell? ⟨p, 16, none⟩ = some (.bool s.data) := Ob.cell h 16
theorem JAt.c17 (h : JAt w p g t s gb hl hr he hd) : w.cell? ⟨p, 17, none⟩ = some (hr) := Ob.cell h 17
theorem JAt.c18 (h : JAt w p g t s gb hl hr he hd) : w.cell? ⟨p, 18, none⟩ = some (he) := Ob.cell h 18
theorem JAt.c19 (h : JAt w p g t s gb hl hr he hd) : w.cell? ⟨p, 19, none⟩ = some (hd) := Ob.cell h 19
theorem JAt.z (h : JAt w p g t s gb hl hr he hd) : ∀ i, w.frozen? ⟨p, i, none⟩ = false := Ob.froz h
/-- Stores into the block itself that leave the rows, or let them go. -/
theorem JAt.re {cs : Array Value} {rs : List Row} (h : Ob w p 89 t cs rs) (e : cs = cellsJ g s gb hl hr he hd) (e2 : rs = rowsJ s gb hl hr he hd) : JAt w p g t s gb hl hr he hd := by
  subst e e2; exact h
/-- What changed is the blocks'. -/
theorem JAt.blks {bs : List Blk} (h : JAt w p g t s gb hl hr he hd) (hm : ∀ k, k < w.heap.size → t k % 16 ≠ 2 → w'.heap[k]? = w.heap[k]?) (hs : w.heap.size ≤ w'.heap.size) (hn : bs.length = s.blocks.length) {cur : Array Value} (hB : BAt w' (okC t 0) (subC t) gb cur bs) : JAt w' p g t { s with blocks := bs } gb hl hr he hd := by
  have h2 := Ob.upd h (c := 0) (r' := bRow gb bs) (by show 0 < 5; decide) hm (fun _ _ _ => rfl) (fun k hk => Nat.lt_of_lt_of_le (Ob.lt h k hk) hs) ⟨cur, hB⟩
  refine JAt.re h2 ?_ rfl
  unfold cellsJ
  rw [hn]
theorem JAt.bat (h : JAt w p g t s gb hl hr he hd) : ∃ cur, BAt w (okC t 0) (subC t) gb cur s.blocks := Ob.row h 0 _ rfl
theorem bB_get {bs : List Blk} {i : Nat} (h : i < bs.length) : bs[i]? = some (bB bs (i : Int)) := by
  unfold bB
  rw [Int.toNat_natCast, List.getD_eq_getElem?_getD, List.getElem?_eq_getElem h]
  rfl
/-- A store into the row of blocks. -/
theorem BAt.store {ok : Nat → Prop} {u : Nat → Nat} {cur : Array Value} {bs : List Blk} (h : BAt w ok u gb cur bs) (i : Nat) (hi : i < bs.length) (j : Nat) (x : Value) (b' : Blk) (hj : j < 3) (hx : cur.size ≥ 0)
    (hb : ∀ v, cur[i * 3]? = some (.bool (bB bs i).er) → cur[i * 3 + 1]? = some (.int .i64 (bB bs i).la) → cur[i * 3 + 2]? = some v → (Kd.int .i64).R 3 w 0 (fun k => ok k ∧ u k = i + 1) v (bB bs i).pr →
      (cur.setIfInBounds (i * 3 + j) x)[i * 3]? = some (.bool b'.er) ∧ (cur.setIfInBounds (i * 3 + j) x)[i * 3 + 1]? = some (.int .i64 b'.la) ∧ ∃ v', (cur.setIfInBounds (i * 3 + j) x)[i * 3 + 2]? = some v' ∧ (Kd.int .i64).R 3 w 0 (fun k => ok k ∧ u k = i + 1) v' b'.pr) :
    BAt (w.setCell ⟨gb, i * 3 + j, none⟩ x) ok u gb (cur.setIfInBounds (i * 3 + j) x) (bs.set i b') := by
  have hfar : ∀ (q : Nat) (v : Value) (xs : List Int), (Kd.int .i64).R 3 w 0 (fun k => ok k ∧ u k = q + 1) v xs → (Kd.int .i64).R 3 (w.setCell ⟨gb, i * 3 + j, none⟩ x) 0 (fun k => ok k ∧ u k = q + 1) v xs := fun q v xs hR =>
    Kd.R_far (p := ⟨gb, i * 3 + j, none⟩) hR (fun k hk e => by
      have : k = gb := e
      rw [this, h.own.2] at hk
      omega) x
  refine ⟨h.own, blk_set h.blk _ _, fun q b hq => ?_⟩
  rw [List.getElem?_set] at hq
  by_cases e : i = q
  · subst e
    rw [if_pos rfl, if_pos hi] at hq
    obtain rfl := Option.some.inj hq
    obtain ⟨v, h1, h2, h3, h4⟩ := h.at_ i _ (bB_get hi)
    obtain ⟨h5, h6, v', h7, h8⟩ := hb v h1 h2 h3 h4
    exact ⟨v', h5, h6, h7, hfar i v' _ h8⟩
  · rw [if_neg e] at hq
    obtain ⟨v, h1, h2, h3, h4⟩ := h.at_ q b hq
    refine ⟨v, ?_, ?_, ?_, hfar q v _ h4⟩
    · rw [Array.getElem?_setIfInBounds_ne (by omega)]; exact h1
    · rw [Array.getElem?_setIfInBounds_ne (by omega)]; exact h2
    · rw [Array.getElem?_setIfInBounds_ne (by omega)]; exact h3
theorem BAt.er {ok : Nat → Prop} {u : Nat → Nat} {cur : Array Value} {bs : List Blk} (h : BAt w ok u gb cur bs) (i : Nat) (hi : i < bs.length) (x : Bool) : BAt (w.setCell ⟨gb, i * 3, none⟩ (.bool x)) ok u gb (cur.setIfInBounds (i * 3) (.bool x)) (bs.set i { bB bs i with er := x }) :=
  h.store i hi 0 (.bool x) _ (by decide) (Nat.zero_le _) (fun v h1 h2 h3 h4 => ⟨by
    rw [Array.getElem?_setIfInBounds, if_pos (show i * 3 + 0 = i * 3 from rfl), if_pos (show i * 3 + 0 < cur.size from (Array.getElem?_eq_some_iff.1 h1).1)], by rw [Array.getElem?_setIfInBounds_ne (by omega)]; exact h2, v, by rw [Array.getElem?_setIfInBounds_ne (by omega)]; exact h3, h4⟩)
theorem BAt.la {ok : Nat → Prop} {u : Nat → Nat} {cur : Array Value} {bs : List Blk} (h : BAt w ok u gb cur bs) (i : Nat) (hi : i < bs.length) (x : Int) : BAt (w.setCell ⟨gb, i * 3 + 1, none⟩ (.int .i64 x)) ok u gb (cur.setIfInBounds (i * 3 + 1) (.int .i64 x)) (bs.set i { bB bs i with la := x }) :=
  h.store i hi 1 (.int .i64 x) _ (by decide) (Nat.zero_le _) (fun v h1 h2 h3 h4 => ⟨by rw [Array.getElem?_setIfInBounds_ne (by omega)]; exact h1, by
    rw [Array.getElem?_setIfInBounds, if_pos rfl, if_pos (Array.getElem?_eq_some_iff.1 h2).1], v, by rw [Array.getElem?_setIfInBounds_ne (by omega)]; exact h3, h4⟩)
theorem JAt.s8 (h : JAt w p g t s gb hl hr he hd) (x : Int) : JAt (w.setCell ⟨p, 8, none⟩ (.int .i64 x)) p g t { s with op := x } gb hl hr he hd := Ob.set' h 8 _ rfl
theorem JAt.s10 (h : JAt w p g t s gb hl hr he hd) (x : Int) : JAt (w.setCell ⟨p, 10, none⟩ (.int .i64 x)) p g t { s with writes := x } gb hl hr he hd := Ob.set' h 10 _ rfl
theorem JAt.s11 (h : JAt w p g t s gb hl hr he hd) (x : Bool) : JAt (w.setCell ⟨p, 11, none⟩ (.bool x)) p g t { s with polls := x } gb hl hr he hd := Ob.set' h 11 _ rfl
theorem JAt.s12 (h : JAt w p g t s gb hl hr he hd) (x : Bool) : JAt (w.setCell ⟨p, 12, none⟩ (.bool x)) p g t { s with busy := x } gb hl hr he hd := Ob.set' h 12 _ rfl
theorem JAt.s13 (h : JAt w p g t s gb hl hr he hd) (x : Bool) : JAt (w.setCell ⟨p, 13, none⟩ (.bool x)) p g t { s with behind := x } gb hl hr he hd := Ob.set' h 13 _ rfl
theorem JAt.s14 (h : JAt w p g t s gb hl hr he hd) (x : Int) : JAt (w.setCell ⟨p, 14, none⟩ (.int .i64 x)) p g t { s with chain := x } gb hl hr he hd := Ob.set' h 14 _ rfl
theorem JAt.s15 (h : JAt w p g t s gb hl hr he hd) (x : Int) : JAt (w.setCell ⟨p, 15, none⟩ (.int .i64 x)) p g t { s with column := x } gb hl hr he hd := Ob.set' h 15 _ rfl
theorem JAt.s16 (h : JAt w p g t s gb hl hr he hd) (x : Bool) : JAt (w.setCell ⟨p, 16, none⟩ (.bool x)) p g t { s with data := x } gb hl hr he hd := Ob.set' h 16 _ rfl
theorem JAt.s9 (h : JAt w p g t s gb hl hr he hd) : JAt (w.setCell ⟨p, 9, none⟩ (.slice none 0 0)) p g t { s with listed := [] } gb (.slice none 0 0) hr he hd := Ob.set' (Ob.nilr h 1 (by show 1 < 5; decide) (Value.int .u8) (fun _ => rfl) 5) 9 _ rfl
theorem JAt.s17 (h : JAt w p g t s gb hl hr he hd) : JAt (w.setCell ⟨p, 17, none⟩ (.slice none 0 0)) p g t { s with rows := [] } gb hl (.slice none 0 0) he hd := Ob.set' (Ob.nilr h 2 (by show 2 < 5; decide) (Value.int .i64) (fun _ => rfl) 3) 17 _ rfl
theorem JAt.s18 (h : JAt w p g t s gb hl hr he hd) : JAt (w.setCell ⟨p, 18, none⟩ (.slice none 0 0)) p g t { s with erases := [] } gb hl hr (.slice none 0 0) hd := Ob.set' (Ob.nilr h 3 (by show 3 < 5; decide) (Value.int .i64) (fun _ => rfl) 3) 18 _ rfl
theorem JAt.s19 (h : JAt w p g t s gb hl hr he hd) : JAt (w.setCell ⟨p, 19, none⟩ (.slice none 0 0)) p g t { s with doing := [] } gb hl hr he (.slice none 0 0) := Ob.set' (Ob.nilr h 4 (by show 4 < 5; decide) (Value.int .i64) (fun _ => rfl) 3) 19 _ rfl
theorem JAt.n (h : JAt w p g t s gb hl hr he hd) (l : List (Nat × Value)) : Nxt w (sets w p l) t t := Ob.setsN h l
/-- What is read of a block. -/
theorem BAt.get {ok : Nat → Prop} {u : Nat → Nat} {cur : Array Value} {bs : List Blk} (h : BAt w ok u gb cur bs) (i : Nat) (hi : i < bs.length) : ∃ v, w.cell? ⟨gb, i * 3, none⟩ = some (.bool (bB bs i).er) ∧ w.cell? ⟨gb, i * 3 + 1, none⟩ = some (.int .i64 (bB bs i).la) ∧ w.cell? ⟨gb, i * 3 + 2, none⟩ = some v ∧ (Kd.int .i64).R 3 w 0 (fun k => ok k ∧ u k = i + 1) v (bB bs i).pr ∧ ∀ j, w.frozen? ⟨gb, j, none⟩ = false := by
  obtain ⟨v, h1, h2, h3, h4⟩ := h.at_ i _ (bB_get hi)
  exact ⟨v, (blk_cell h.blk _).trans h1, (blk_cell h.blk _).trans h2, (blk_cell h.blk _).trans h3, h4, fun j => blk_frozen h.blk j⟩
/-- A store into the row of blocks, seen from the judge. -/
theorem JAt.bset {bs : List Blk} {j : Nat} {x : Value} {cur : Array Value} (h : JAt w p g t s gb hl hr he hd) (hn : bs.length = s.blocks.length) (hB : BAt (w.setCell ⟨gb, j, none⟩ x) (okC t 0) (subC t) gb cur bs) : JAt (w.setCell ⟨gb, j, none⟩ x) p g t { s with blocks := bs } gb hl hr he hd ∧ Nxt w (w.setCell ⟨gb, j, none⟩ x) t t := by
  have hg : t gb % 16 = 2 := hB.own.1
  exact ⟨h.blks (fun k _ h2 => Below.heap_setCell w ⟨gb, j, none⟩ x k (fun e => h2 (by rw [show k = gb from e]; exact hg))) (by simp) hn hB, (Nxt.refl w t).set (.inl (fun e => by rw [e] at hg; omega)) x⟩
/-- A block's programs: the row of ints itself. -/
theorem BAt.prow {ok : Nat → Prop} {u : Nat → Nat} {cur : Array Value} {bs : List Blk} (h : BAt w ok u gb cur bs) (i : Nat) (hi : i < bs.length) (j : Nat) (hj : j < (bB bs i).pr.length) :
    ∃ gp cap, w.cell? ⟨gb, i * 3 + 2, none⟩ = some (.slice (some ⟨gp, 0, none⟩) (bB bs i).pr.length cap) ∧ w.cell? ⟨gp, j, none⟩ = some (.int .i64 ((bB bs i).pr.getD j 0)) ∧ w.frozen? ⟨gp, j, none⟩ = false ∧ ok gp ∧ gp ≠ gb ∧
      ∀ x, BAt (w.setCell ⟨gp, j, none⟩ (.int .i64 x)) ok u gb cur (bs.set i { bB bs i with pr := (bB bs i).pr.set j x }) := by
  obtain ⟨v, h1, h2, h3, h4⟩ := h.at_ i _ (bB_get hi)
  obtain ⟨gp, cap, cur2, rfl, _, hg2, _⟩ := own_ints2 (w := w) (base := 0) (ok := fun k => ok k ∧ u k = i + 1) h4 (by omega)
  have hgp := h4.1 gp rfl
  have hne : gp ≠ gb := fun e => by rw [e, h.own.2] at hgp; omega
  have hc := Kd.R_cell (0 : Int) h4 (j : Int) (by omega) (by omega)
  simp only [Int.toNat_natCast] at hc
  refine ⟨gp, cap, (blk_cell h.blk _).trans h3, hc.1, hc.2, hgp.1, hne, fun x => ⟨h.own, blk_far h.blk (fun e => hne e.symm) _, fun q b hq => ?_⟩⟩
  rw [List.getElem?_set] at hq
  by_cases e : i = q
  · subst e
    rw [if_pos rfl, if_pos hi] at hq
    obtain rfl := Option.some.inj hq
    have hput := (Kd.R_put h4 (j : Int) x).1
    simp only [Int.toNat_natCast] at hput
    exact ⟨_, h1, h2, h3, by show (Kd.int .i64).R _ _ _ _ _ _; exact hput⟩
  · rw [if_neg e] at hq
    obtain ⟨v2, k1, k2, k3, k4⟩ := h.at_ q b hq
    exact ⟨v2, k1, k2, k3, Kd.R_far (p := ⟨gp, j, none⟩) k4 (fun k hk e2 => by
      have : k = gp := e2
      rw [this] at hk
      omega) _⟩
/-- A store into a block's programs. -/
theorem JAt.pset {bs : List Blk} {gp j : Nat} {x : Value} {cur : Array Value} (h : JAt w p g t s gb hl hr he hd) (hn : bs.length = s.blocks.length) (hk : okC t 0 gp) (hB : BAt (w.setCell ⟨gp, j, none⟩ x) (okC t 0) (subC t) gb cur bs) : JAt (w.setCell ⟨gp, j, none⟩ x) p g t { s with blocks := bs } gb hl hr he hd ∧ Nxt w (w.setCell ⟨gp, j, none⟩ x) t t := by
  have hg : t gp % 16 = 2 := hk
  exact ⟨h.blks (fun k _ h2 => Below.heap_setCell w ⟨gp, j, none⟩ x k (fun e => h2 (by rw [show k = gp from e]; exact hg))) (by simp) hn hB, (Nxt.refl w t).set (.inl (fun e => by rw [e] at hg; omega)) x⟩
theorem JAt.app9 {v1 : Value} {b : Int} (h : JAt w p g t s gb hl hr he hd) (hR : (Kd.scalar (Value.int .u8) (fun _ => rfl)).R 5 w' 0 (fun _ => True) v1 (s.listed ++ [b])) (hg : w.grownBy w' hl.ownBlock) (hat : v1.ownBlock = hl.ownBlock ∨ ∃ b, v1.ownBlock = some b ∧ w.heap.size ≤ b) :
    w'.cell? ⟨p, 9, none⟩ = some hl ∧ (∀ i, w'.frozen? ⟨p, i, none⟩ = false) ∧ JAt (w'.setCell ⟨p, 9, none⟩ v1) p g (retag t 1 v1) { s with listed := s.listed ++ [b] } gb v1 hr he hd ∧ Nxt w (w'.setCell ⟨p, 9, none⟩ v1) t (retag t 1 v1) := by
  obtain ⟨h2, h3⟩ := Ob.own h (c := 1) rfl hR hg hat
  exact ⟨Ob.cell h2 9, Ob.froz h2, Ob.set' h2 9 v1 rfl, h3.trans (Nxt.setp h2 9 v1)⟩
theorem JAt.r9 (h : JAt w p g t s gb hl hr he hd) : (Kd.scalar (Value.int .u8) (fun _ => rfl)).R 5 w 0 (fun _ => True) hl s.listed := Kd.R_mono (Ob.rowAt h 1 rfl) (fun _ _ => trivial)
theorem JAt.app17 {v1 : Value} {b : Int} (h : JAt w p g t s gb hl hr he hd) (hR : (Kd.scalar (Value.int .i64) (fun _ => rfl)).R 3 w' 0 (fun _ => True) v1 (s.rows ++ [b])) (hg : w.grownBy w' hr.ownBlock) (hat : v1.ownBlock = hr.ownBlock ∨ ∃ b, v1.ownBlock = some b ∧ w.heap.size ≤ b) :
    w'.cell? ⟨p, 17, none⟩ = some hr ∧ (∀ i, w'.frozen? ⟨p, i, none⟩ = false) ∧ JAt (w'.setCell ⟨p, 17, none⟩ v1) p g (retag t 2 v1) { s with rows := s.rows ++ [b] } gb hl v1 he hd ∧ Nxt w (w'.setCell ⟨p, 17, none⟩ v1) t (retag t 2 v1) := by
  obtain ⟨h2, h3⟩ := Ob.own h (c := 2) rfl hR hg hat
  exact ⟨Ob.cell h2 17, Ob.froz h2, Ob.set' h2 17 v1 rfl, h3.trans (Nxt.setp h2 17 v1)⟩
theorem JAt.r17 (h : JAt w p g t s gb hl hr he hd) : (Kd.scalar (Value.int .i64) (fun _ => rfl)).R 3 w 0 (fun _ => True) hr s.rows := Kd.R_mono (Ob.rowAt h 2 rfl) (fun _ _ => trivial)
theorem JAt.app18 {v1 : Value} {b : Int} (h : JAt w p g t s gb hl hr he hd) (hR : (Kd.scalar (Value.int .i64) (fun _ => rfl)).R 3 w' 0 (fun _ => True) v1 (s.erases ++ [b])) (hg : w.grownBy w' he.ownBlock) (hat : v1.ownBlock = he.ownBlock ∨ ∃ b, v1.ownBlock = some b ∧ w.heap.size ≤ b) :
    w'.cell? ⟨p, 18, none⟩ = some he ∧ (∀ i, w'.frozen? ⟨p, i, none⟩ = false) ∧ JAt (w'.setCell ⟨p, 18, none⟩ v1) p g (retag t 3 v1) { s with erases := s.erases ++ [b] } gb hl hr v1 hd ∧ Nxt w (w'.setCell ⟨p, 18, none⟩ v1) t (retag t 3 v1) := by
  obtain ⟨h2, h3⟩ := Ob.own h (c := 3) rfl hR hg hat
  exact ⟨Ob.cell h2 18, Ob.froz h2, Ob.set' h2 18 v1 rfl, h3.trans (Nxt.setp h2 18 v1)⟩
theorem JAt.r18 (h : JAt w p g t s gb hl hr he hd) : (Kd.scalar (Value.int .i64) (fun _ => rfl)).R 3 w 0 (fun _ => True) he s.erases := Kd.R_mono (Ob.rowAt h 3 rfl) (fun _ _ => trivial)
end
end Go.Proofs.Ytfmogmgdpamfgaa.Jd

namespace Go.Proofs.Ytfmogmgdpamfgaa.Jd
open Go.RowKit Go.Proofs.YtfmogmgdpamfgaaW.PrintWords Go.Proofs.YtfmogmgdpamfgaaW.PrintLast Go.Proofs.YtfmogmgdpamfgaaW.PrintMore
set_option linter.unusedVariables false
section
variable {w : World} {p : Nat} {g : Ge} {t : Nat → Nat} {s : JS} {gb : Nat} {hl hr he hd : Value}
set_option maxHeartbeats 2000000 in
set_option maxRecDepth 100000 in
theorem start_ok (h : JAt w p g t s gb hl hr he hd) : Calls Try.prog 86 #[.pointer (some ⟨p, 0, none⟩)] w fun e w' => e = .returned (.tuple #[]) ∧ JAt w' p g t (startP s) gb (.slice none 0 0) hr he hd ∧ Nxt w w' t t := by
  have HF := Lib.hid ((((h.s12 true).s8 1).s9).s10 0)
  have HN := Lib.hid (h.n [(12, .bool true), (8, .int .i64 1), (9, .slice none 0 0), (10, .int .i64 0)])
  have hz := h.z
  have c12 := h.c12
  have c8 := h.c8
  have c9 := h.c9
  have c10 := h.c10
  obtain ⟨⟨A9, m9, rfl⟩, _⟩ := h.slices
  clear h
  go_enter Try.func86, Try.ntmps86
  go_wp2_with fail
  go_end0
  exact ⟨rfl, HF.out, HN.out⟩
set_option maxHeartbeats 2000000 in
set_option maxRecDepth 100000 in
theorem left_ok (h : JAt w p g t s gb hl hr he hd) : Calls Try.prog 87 #[.pointer (some ⟨p, 0, none⟩)] w fun e w' => e = .returned (.tuple #[]) ∧ JAt w' p g t (leftP s) gb (.slice none 0 0) hr he hd ∧ Nxt w w' t t := by
  have HF := Lib.hid (((h.s8 1).s9).s10 0)
  have HN := Lib.hid (h.n [(8, .int .i64 1), (9, .slice none 0 0), (10, .int .i64 0)])
  have hz := h.z
  have c8 := h.c8
  have c9 := h.c9
  have c10 := h.c10
  obtain ⟨⟨A9, m9, rfl⟩, _⟩ := h.slices
  clear h
  go_enter Try.func87, Try.ntmps87
  go_wp2_with fail
  go_end0
  exact ⟨rfl, HF.out, HN.out⟩
theorem lostB_snoc (bs : List Blk) (d : List Int) (x : Int) : lostB bs (d ++ [x]) = (lostB bs d).set x.toNat { bB (lostB bs d) x with er := false } := by
  unfold lostB; rw [List.foldl_append]; rfl
theorem lostB_len (d : List Int) : ∀ (bs : List Blk), (lostB bs d).length = bs.length := by
  induction d with
  | nil => intro bs; rfl
  | cons x d ih => intro bs; show (lostB (bs.set _ _) d).length = _; rw [ih, List.length_set]
set_option maxHeartbeats 4000000 in
set_option maxRecDepth 100000 in
theorem lost_ok (h : JAt w p g t s gb hl hr he hd) (hr1 : ∀ x ∈ s.doing, 0 ≤ x ∧ x < (s.blocks.length : Int)) (hm : s.doing.length ≤ 1000000) : Calls Try.prog 101 #[.pointer (some ⟨p, 0, none⟩)] w fun e w' => e = .returned (.tuple #[]) ∧ JAt w' p g t (lostP s) gb hl hr he (.slice none 0 0) ∧ Nxt w w' t t := by
  have c19 := h.c19
  obtain ⟨_, _, _, ⟨A9, m9, rfl⟩⟩ := h.slices
  have HJ := Lib.hid h
  have HR := Lib.hid hr1
  obtain ⟨n, hn⟩ : ∃ n, n = s.doing.length := ⟨_, rfl⟩
  obtain ⟨nb, hnb⟩ : ∃ nb, nb = s.blocks.length := ⟨_, rfl⟩
  rw [← hn] at c19 hm
  have HN := Lib.hid hn
  have HB := Lib.hid hnb
  clear h hr1 hn hnb
  go_enter Try.func101, Try.ntmps101
  go_wp2_with fail
  go_loopw [9] (fun i wr => ∃ k : Nat, k ≤ n ∧ i = .int .i64 k ∧ Hid (JAt wr p g t { s with blocks := lostB s.blocks (s.doing.take k) } gb hl hr he (.slice A9 s.doing.length m9)) ∧ Hid (Nxt w wr t t)) (fun i _ => n - (intOf i).toNat)
  case atStart => exact ⟨0, by omega, rfl, HJ, Lib.hid (Nxt.refl _ _)⟩
  case round =>
    obtain ⟨k, hk, rfl, HW, HX⟩ := hrel
    by_cases hkn : k < n
    · have hk0 : (k : Int) < (n : Int) := by omega
      have hlen : k < s.doing.length := by rw [← HN.out]; exact hkn
      have hrow := Ob.rowAt HW.out 4 rfl
      obtain ⟨_, _, e1, _, hC⟩ := Kd.R_reads hrow
      injection e1 with e1 _ _
      subst e1
      obtain ⟨b5, o5, rfl, _, hc5⟩ := row_of_C hC (by omega)
      have e5 := hc5 k hlen
      have hx := HR.out (s.doing.getD k 0) (by rw [List.getD_eq_getElem?_getD, List.getElem?_eq_getElem hlen]; exact List.getElem_mem hlen)
      have htake : s.doing.take (k + 1) = s.doing.take k ++ [s.doing.getD k 0] := by
        rw [List.take_succ_eq_append_getElem hlen, List.getD_eq_getElem?_getD, List.getElem?_eq_getElem hlen]; rfl
      obtain ⟨x, hxx⟩ := Int.eq_ofNat_of_zero_le hx.1
      rw [hxx] at e5 hx htake
      rw [← HB.out] at hx
      have hxn : x < nb := by omega
      have hxi : (x : Int) < (nb : Int) := by omega
      have HT := Lib.hid htake
      obtain ⟨cur, hbat⟩ := HW.out.bat
      have hbl : (lostB s.blocks (s.doing.take k)).length = nb := by rw [lostB_len, HB.out]
      have hxl : x < (lostB s.blocks (s.doing.take k)).length := by rw [hbl]; exact hxn
      obtain ⟨v, d0, _, _, _, z0⟩ := hbat.get x hxl
      have c7 := HW.out.c7
      rw [hbl] at c7
      have HS := Lib.hid (HW.out.bset (x := .bool false) (by show _ = _; rw [List.length_set]) (hbat.er x hxl false))
      clear hrow hC hc5 hx hxx htake hbat hbl hxl hlen
      go_wp2_with fail
      go_roundw
      case rel => exact ⟨k + 1, hkn, by go_num, Lib.hid (by rw [HT.out, lostB_snoc]; exact HS.out.1), Lib.hid (HX.out.trans HS.out.2)⟩
      case measure => exact step_measure hkn
    · have hke : n = k := by omega
      have hta : s.doing.take k = s.doing := List.take_of_length_le (by rw [← HN.out]; omega)
      rw [hta] at HW
      subst hke
      clear hta hkn hk
      have HF := Lib.hid (HW.out.s19)
      have HM := Lib.hid (HW.out.n [(19, .slice none 0 0)])
      have hz := HW.out.z
      have d19 := HW.out.c19
      go_wp2_with fail
      go_end0
      exact ⟨rfl, HF.out, HX.out.trans HM.out⟩
end
end Go.Proofs.Ytfmogmgdpamfgaa.Jd

