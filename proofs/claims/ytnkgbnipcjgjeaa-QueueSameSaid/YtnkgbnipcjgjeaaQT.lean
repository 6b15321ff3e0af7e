import Derived.Test.YtnkgbnipcjgjeaaQL
namespace Go.Proofs.Ytnkgbnipcjgjeaa.Qu
open Go.RowKit Go.Proofs.Ytnkgbnipcjgjeaa.QW Go.Proofs.Ytnkgbnipcjgjeaa.Mo Go.Proofs.YtnkgbnipcjgjeaaW.PrintWords Go.Proofs.YtnkgbnipcjgjeaaW.PrintLast Go.Proofs.YtnkgbnipcjgjeaaW.PrintMore
set_option linter.unusedVariables false
theorem info52 : (Try.prog.info? 52).map (fun i => (i.zero, i.size, i.bytes)) = some (some (.slice none 0 0), 1, 24) := by kernel_rfl
theorem info4 : (Try.prog.info? 4).map (fun i => (i.zero, i.size, i.bytes)) = some (some (.bool false), 1, 1) := by kernel_rfl
theorem alloc_below (w : World) (o : Obj) : Below w.heap.size w (w.alloc o) := (Below.refl _ _).alloc (Nat.le_refl _) o
theorem below_grown {a b : World} (h : a.grownBy b none) : Below a.heap.size a b := ⟨h.os, h.tape, h.output, h.size, fun k hk => h.block k hk (by simp)⟩
abbrev kBo : Kd Bool := Kd.scalar Value.bool (fun _ => rfl)
/-- A row of cells of the law's own: block g of type e. -/
def RowF (w : World) (N0 e : Nat) (At : Option Addr) (n : Nat) (P : Nat → Value → Prop) : Prop :=
  0 < n → ∃ g cur, At = some ⟨g, 0, none⟩ ∧ N0 ≤ g ∧ w.heap[g]? = some (.cells cur e (0, 0)) ∧ ∀ j, j < n → ∃ u, cur[j]? = some u ∧ P j u
section
variable {w w' : World} {N0 e n : Nat} {At : Option Addr} {P P' : Nat → Value → Prop}
theorem RowF.move (h : RowF w N0 e At n P) (h2 : ∀ (g : Nat) (cs : Array Value) (fr : Nat × Nat), w.heap[g]? = some (Obj.cells cs e fr) → w'.heap[g]? = w.heap[g]?) (hP : ∀ j u, j < n → P j u → P' j u) : RowF w' N0 e At n P' := fun hn => by
  obtain ⟨g, cur, h1, h3, h4, h5⟩ := h hn
  refine ⟨g, cur, h1, h3, (h2 g _ _ h4).trans h4, fun j hj => ?_⟩
  obtain ⟨u, h6, h7⟩ := h5 j hj
  exact ⟨u, h6, hP j u hj h7⟩
theorem RowF.make {α : Type} {enc : α → Value} {h1 : ∀ x, (enc x).oneCell' = true} {c m : Nat} {xs : List α} {d : α} (h : (Kd.scalar enc h1).R e w N0 (fun _ => True) (.slice At m c) xs) (hP : ∀ j, j < xs.length → P j (enc (xs.getD j d))) : RowF w N0 e At xs.length P := fun hn => by
  obtain ⟨_, ho⟩ := Kd.own_of_R h
  rcases ho with ⟨_, h0⟩ | ⟨g, cap, cur, hv, hb, hg, hnc, _, hs, ht⟩
  · omega
  · injection hv with e1 e2 e3
    refine ⟨g, cur, e1, hb, hg, fun j hj => ⟨_, ?_, hP j hj⟩⟩
    have h2 := encs_get (enc := enc) (d := d) xs j hj
    rw [← ht, Nat.mul_one, List.getElem?_take_of_lt hj] at h2
    simpa using h2
theorem RowF.set {g : Nat} (h : RowF w N0 e (some ⟨g, 0, none⟩) n P) {j : Nat} (hj : j < n) (u : Value) (hu : u.oneCell' = true) (hP : ∀ i v, i < n → i ≠ j → P i v → P' i v) (hPj : P' j u) : RowF (w.setCell ⟨g, j, none⟩ u) N0 e (some ⟨g, 0, none⟩) n P' := fun hn => by
  obtain ⟨g', cur, h1, h3, h4, h5⟩ := h hn
  injection h1 with h1
  injection h1 with h1 _ _
  subst h1
  refine ⟨g, _, rfl, h3, blk_put h4 j _ rfl, fun i hi => ?_⟩
  rw [Array.getElem?_setIfInBounds]
  obtain ⟨v, h6, h7⟩ := h5 i hi
  by_cases e : j = i
  · subst e
    rw [if_pos rfl, if_pos (by have := (Array.getElem?_eq_some_iff.1 h6).1; exact this)]
    exact ⟨u, rfl, hPj⟩
  · rw [if_neg e]
    exact ⟨v, h6, hP i v hi (fun h => e h.symm) h7⟩
end
/-- Ints that stand in blocks of type 3. -/
def B3 (w : World) : Nat → Prop := fun k => ∃ cs fr, w.heap[k]? = some (.cells cs 3 fr)
def OrdF (w : World) (A : Option Addr) (n c : Nat) (xs : List Int) : Prop := n = xs.length ∧ n ≤ c ∧ Kd.F (Kd.int .i64) w (B3 w) A xs.length xs
theorem OrdF.move {w w' : World} {A : Option Addr} {n c : Nat} {xs : List Int} (h : OrdF w A n c xs) (hk : ∀ k, B3 w k → w'.heap[k]? = w.heap[k]?) : OrdF w' A n c xs :=
  ⟨h.1, h.2.1, Kd.F_mono (Kd.F_step h.2.2 (fun k ho _ => hk k ho)) (fun k ho => by obtain ⟨cs, fr, h1⟩ := ho; exact ⟨cs, fr, (hk k ⟨cs, fr, h1⟩).trans h1⟩)⟩
theorem OrdF.own {w : World} {base : Nat} {ok : Nat → Prop} {A : Option Addr} {m c : Nat} {xs : List Int} (h : Kd.R (Kd.int .i64) 3 w base ok (.slice A m c) xs) : OrdF w A m c xs := by
  obtain ⟨A2, c2, he, hc, hC⟩ := Kd.R_reads h
  injection he with e1 e2 e3
  subst e1 e2 e3
  refine ⟨rfl, hc, fun W' hW => ?_⟩
  have hb := Kd.R_bound h
  have h2 := Kd.R_move (w1 := W') hb (fun k hk => by
    obtain ⟨_, _, hlt, q, hq, cs, hc⟩ := hk
    have : q ∈ [3] := hq
    rw [List.mem_singleton.1 this] at hc
    exact hW k ⟨cs, _, hc⟩ hlt)
  obtain ⟨A3, c3, he, hc3, hC3⟩ := Kd.R_reads h2
  injection he with e1 _ _
  rw [e1]; exact hC3
/-- The law's state: two models, the order. -/
structure St (w0 w : World) (gx bx gy by_ : Nat) (lx ly : Md) (A5 : Option Addr) (n5 c5 : Nat) (os : List Int) : Prop where
  x : ModIs w w0.heap.size gx bx 16 2 lx
  y : ModIs w w0.heap.size gy by_ 16 2 ly
  ne : bx ≠ by_
  ord : OrdF w A5 n5 c5 os
  below : Below w0.heap.size w0 w
section
variable {w0 w w' : World} {gx bx gy by_ : Nat} {lx ly : Md} {A5 : Option Addr} {n5 c5 : Nat} {os : List Int}
theorem St.more (h : St w0 w gx bx gy by_ lx ly A5 n5 c5 os) (hb : Below w.heap.size w w') : St w0 w' gx bx gy by_ lx ly A5 n5 c5 os :=
  ⟨h.x.below hb, h.y.below hb, h.ne, h.ord.move (fun k hk => by obtain ⟨cs, fr, h1⟩ := hk; exact hb.block k (blk_lt h1)), chainC (Nat.le_refl _) h.below hb⟩
theorem St.drewN (h : St w0 w gx bx gy by_ lx ly A5 n5 c5 os) (q : Nat) : St w0 (w.drewN q) gx bx gy by_ lx ly A5 n5 c5 os := h.more (pw_below_drewN (Below.refl _ _) q)
theorem St.drew (h : St w0 w gx bx gy by_ lx ly A5 n5 c5 os) : St w0 w.drew gx bx gy by_ lx ly A5 n5 c5 os := h.drewN 1
/-- Blocks of cells that are neither the models' nor bytes nor ints. -/
theorem St.set (h : St w0 w gx bx gy by_ lx ly A5 n5 c5 os) {g j e : Nat} {cs : Array Value} (hg : w.heap[g]? = some (.cells cs e (0, 0))) (hN : w0.heap.size ≤ g) (he : e = 52 ∨ e = 4) (u : Value) : St w0 (w.setCell ⟨g, j, none⟩ u) gx bx gy by_ lx ly A5 n5 c5 os := by
  have hm : Mods w (w.setCell ⟨g, j, none⟩ u) (fun k => k = g) := (Mods.refl w (fun k => k = g)).setCell (p := ⟨g, j, none⟩) (.inl rfl) u
  have nt : ∀ {k cs' e' fr}, w.heap[k]? = some (.cells cs' e' fr) → e' ≠ 52 → e' ≠ 4 → k ≠ g := fun hk h1 h2 e => by
    subst e
    rw [hg] at hk
    injection hk with hk
    injection hk with _ hk _
    subst hk
    rcases he with he | he
    · exact h1 he
    · exact h2 he
  have nm : ∀ {k es c}, w.heap[k]? = some (.map es c) → k ≠ g := fun hk e => by
    subst e
    rw [hg] at hk
    cases hk
  have nb : ∀ k, k = g → ¬ Bt w0.heap.size w k := fun k hk hb => by
    subst hk
    rcases hb with h1 | ⟨cs', fr, h1⟩
    · exact absurd h1 (Nat.not_lt.2 hN)
    · exact nt h1 (by decide) (by decide) rfl
  obtain ⟨_, _, hbx⟩ := h.x.bmap
  obtain ⟨_, _, hby⟩ := h.y.bmap
  exact ⟨h.x.mods hm (nt h.x.blk (by decide) (by decide)) (nm hbx) nb, h.y.mods hm (nt h.y.blk (by decide) (by decide)) (nm hby) nb, h.ne,
    h.ord.move (fun k hk => by obtain ⟨cs', fr, h1⟩ := hk; exact hm.block k (blk_lt h1) (nt h1 (by decide) (by decide))),
    Mods.toBelow h.below hm h.below.size (fun i hi => by rw [hi]; exact hN)⟩
theorem St.gb (h : St w0 w gx bx gy by_ lx ly A5 n5 c5 os) : gx ≠ by_ ∧ gy ≠ bx := by
  obtain ⟨_, _, hbx⟩ := h.x.bmap
  obtain ⟨_, _, hby⟩ := h.y.bmap
  constructor
  · intro e
    subst e
    rw [h.x.blk] at hby
    cases hby
  · intro e
    subst e
    rw [h.y.blk] at hbx
    cases hbx
theorem St.updX (h : St w0 w gx bx gy by_ lx ly A5 n5 c5 os) {lx' : Md} (hx : ModIs w' w0.heap.size gx bx 16 2 lx') (hm : Mods w w' (fun k => k = bx)) : St w0 w' gx bx gy by_ lx' ly A5 n5 c5 os := by
  obtain ⟨_, _, hbx⟩ := h.x.bmap
  exact ⟨hx, h.y.mods hm h.gb.2 (fun e => h.ne e.symm) (fun k e => by subst e; exact h.x.notBt), h.ne,
    h.ord.move (fun k hk => by obtain ⟨cs', fr, h1⟩ := hk; exact hm.block k (blk_lt h1) (fun e => by subst e; rw [h1] at hbx; cases hbx)),
    Mods.toBelow h.below hm h.below.size (fun i hi => by rw [hi]; exact h.x.lo.2)⟩
theorem St.updY (h : St w0 w gx bx gy by_ lx ly A5 n5 c5 os) {ly' : Md} (hy : ModIs w' w0.heap.size gy by_ 16 2 ly') (hm : Mods w w' (fun k => k = by_)) : St w0 w' gx bx gy by_ lx ly' A5 n5 c5 os := by
  obtain ⟨_, _, hby⟩ := h.y.bmap
  exact ⟨h.x.mods hm h.gb.1 h.ne (fun k e => by subst e; exact h.y.notBt), hy, h.ne,
    h.ord.move (fun k hk => by obtain ⟨cs', fr, h1⟩ := hk; exact hm.block k (blk_lt h1) (fun e => by subst e; rw [h1] at hby; cases hby)),
    Mods.toBelow h.below hm h.below.size (fun i hi => by rw [hi]; exact h.y.lo.2)⟩
end
/-- What was told, of the first k. -/
def ToldF (w : World) (N0 : Nat) (At : Option Addr) (n k : Nat) (T : Nat → List Int) : Prop := RowF w N0 52 At n (fun j u => ∃ A m c, u = .slice A m c ∧ (j < k → m = (T j).length ∧ DatF w N0 (A, m, c) (T j)))
def MetF (w : World) (N0 : Nat) (At : Option Addr) (n : Nat) (f : Nat → Bool) : Prop := RowF w N0 4 At n (fun j u => u = .bool (f j))
section
variable {w w' : World} {N0 n k : Nat} {At : Option Addr} {T : Nat → List Int} {f : Nat → Bool}
theorem ToldF.move (h : ToldF w N0 At n k T) (h2 : ∀ (g : Nat) (cs : Array Value) (e : Nat) (fr : Nat × Nat), w.heap[g]? = some (Obj.cells cs e fr) → e = 52 → w'.heap[g]? = w.heap[g]?) (h3 : Keep (Bt N0 w) w w') : ToldF w' N0 At n k T :=
  RowF.move h (fun g cs fr hg => h2 g cs 52 fr hg rfl) (fun j u _ ⟨A, m, c, h4, h5⟩ => ⟨A, m, c, h4, fun hj => ⟨(h5 hj).1, (h5 hj).2.move h3⟩⟩)
theorem ToldF.below (h : ToldF w N0 At n k T) (hN : N0 ≤ w.heap.size) (hb : Below w.heap.size w w') : ToldF w' N0 At n k T := h.move (fun g cs e fr hg _ => hb.block g (blk_lt hg)) (Bt.below hN hb)
theorem MetF.move (h : MetF w N0 At n f) (h2 : ∀ (g : Nat) (cs : Array Value) (e : Nat) (fr : Nat × Nat), w.heap[g]? = some (Obj.cells cs e fr) → e = 4 → w'.heap[g]? = w.heap[g]?) : MetF w' N0 At n f :=
  RowF.move h (fun g cs fr hg => h2 g cs 4 fr hg rfl) (fun _ _ _ h => h)
theorem MetF.below (h : MetF w N0 At n f) (hb : Below w.heap.size w w') : MetF w' N0 At n f := h.move (fun g cs e fr hg _ => hb.block g (blk_lt hg))
end
/-- What each op tells. -/
def TT (l : List S116) (j : Nat) : List Int := tellK l (runP l (List.range j)) j
theorem ToldF.make {w : World} {N0 c m n : Nat} {At : Option Addr} {T : Nat → List Int} (h : Kd.R kH 52 w N0 (fun _ => True) (.slice At m c) (List.replicate n ((none, 0, 0) : Hdr))) : ToldF w N0 At n 0 T := by
  have h2 := RowF.make (d := ((none, 0, 0) : Hdr)) (P := fun j u => ∃ A m c, u = .slice A m c ∧ (j < 0 → m = (T j).length ∧ DatF w N0 (A, m, c) (T j))) h (fun j hj => ⟨_, _, _, rfl, fun h => absurd h (Nat.not_lt_zero j)⟩)
  rw [List.length_replicate] at h2
  exact h2
theorem MetF.make {w : World} {N0 c m n : Nat} {At : Option Addr} (h : Kd.R kBo 4 w N0 (fun _ => True) (.slice At m c) (List.replicate n false)) : MetF w N0 At n (fun _ => false) := by
  have h2 := RowF.make (d := false) (P := fun j u => u = .bool false) h (fun j hj => by rw [List.length_replicate] at hj; simp [List.getD_eq_getElem?_getD, hj])
  rw [List.length_replicate] at h2
  exact h2
/-- One more is told. -/
theorem ToldF.put {w : World} {N0 n k g : Nat} {T : Nat → List Int} {A : Option Addr} {m c : Nat} (h : ToldF w N0 (some ⟨g, 0, none⟩) n k T) (hk : k < n) (hm : m = (T k).length) (hd : DatF w N0 (A, m, c) (T k)) : ToldF (w.setCell ⟨g, k, none⟩ (.slice A m c)) N0 (some ⟨g, 0, none⟩) n (k + 1) T := by
  have hn : 0 < n := by omega
  obtain ⟨g', cur, e1, h3, h4, h5⟩ := h hn
  injection e1 with e1
  injection e1 with e1 _ _
  subst e1
  have hm2 : Mods w (w.setCell ⟨g, k, none⟩ (.slice A m c)) (fun k => k = g) := (Mods.refl w (fun k => k = g)).setCell (p := ⟨g, k, none⟩) (.inl rfl) _
  have hN : N0 ≤ w.heap.size := Nat.le_of_lt (Nat.lt_of_le_of_lt h3 (blk_lt h4))
  have hk3 : Keep (Bt N0 w) w (w.setCell ⟨g, k, none⟩ (.slice A m c)) := Bt.mods hN hm2 (fun q hq hb => by
    subst hq
    rcases hb with h1 | ⟨cs', fr, h1⟩
    · exact absurd h1 (Nat.not_lt.2 h3)
    · rw [h4] at h1
      injection h1 with h1
      injection h1 with _ h1 _
      cases h1)
  refine RowF.set h hk _ rfl (fun i v hi hne ⟨A2, m2, c2, h6, h7⟩ => ⟨A2, m2, c2, h6, fun hi2 => ?_⟩) ⟨A, m, c, rfl, fun _ => ⟨hm, hd.move hk3⟩⟩
  have := h7 (by omega)
  exact ⟨this.1, this.2.move hk3⟩
theorem MetF.put {w : World} {N0 n k g : Nat} {f f' : Nat → Bool} (h : MetF w N0 (some ⟨g, 0, none⟩) n f) (hk : k < n) (hf : ∀ i, i ≠ k → f' i = f i) (hfk : f' k = true) : MetF (w.setCell ⟨g, k, none⟩ (.bool true)) N0 (some ⟨g, 0, none⟩) n f' :=
  RowF.set h hk _ rfl (fun i v _ hne hv => by rw [hf i hne]; exact hv) (by rw [hfk])
theorem ToldF.far {w : World} {N0 n k g j : Nat} {At : Option Addr} {T : Nat → List Int} {cs : Array Value} (h : ToldF w N0 At n k T) (hg : w.heap[g]? = some (.cells cs 4 (0, 0))) (hN : N0 ≤ g) (hN2 : N0 ≤ w.heap.size) (u : Value) : ToldF (w.setCell ⟨g, j, none⟩ u) N0 At n k T := by
  have hm : Mods w (w.setCell ⟨g, j, none⟩ u) (fun k => k = g) := (Mods.refl w (fun k => k = g)).setCell (p := ⟨g, j, none⟩) (.inl rfl) _
  refine h.move (fun g' cs' e fr hg' he => hm.block g' (blk_lt hg') (fun e2 => ?_)) (Bt.mods hN2 hm (fun q hq hb => ?_))
  · subst e2
    rw [hg] at hg'
    injection hg' with hg'
    injection hg' with _ hg' _
    rw [he] at hg'
    exact absurd hg' (by decide)
  · subst hq
    rcases hb with h1 | ⟨cs', fr, h1⟩
    · exact absurd h1 (Nat.not_lt.2 hN)
    · rw [hg] at h1
      injection h1 with h1
      injection h1 with _ h1 _
      cases h1
theorem take_snoc (l : List S116) {j k : Nat} (hj : (ordK l)[j]? = some k) : (ordK l).take (j + 1) = (ordK l).take j ++ [k] := by
  rw [List.take_add_one, hj]; rfl
theorem tsame_ev (xs ys : List Int) (hxy : xs.length = ys.length) (hl : xs.length ≤ 100000) : ∀ (d i : Nat), i + d = xs.length → EvL (fun k => Go.Proofs.Ytnkgbnipcjgjeaa.QI.incunableref01_Same.l0 k xs ys (i : Int)) (decide (xs.drop i = ys.drop i)) := by
  intro d
  induction d with
  | zero =>
    intro i hd
    refine EvL.step (h := fun _ => some (decide (xs.drop i = ys.drop i))) (fun k => ?_) EvL.const
    simp only [Go.Proofs.Ytnkgbnipcjgjeaa.QI.incunableref01_Same.l0]
    rw [if_neg (by omega), List.drop_of_length_le (by omega), List.drop_of_length_le (by omega)]
    rfl
  | succ d ih =>
    intro i hd
    have hx : i < xs.length := by omega
    have hy : i < ys.length := by omega
    have e1 : YtnkgbnipcjgjeaaW.PrintWords.rd xs (i : Int) = xs[i] := by unfold YtnkgbnipcjgjeaaW.PrintWords.rd; rw [Int.toNat_natCast, List.getD_eq_getElem?_getD, List.getElem?_eq_getElem hx]; rfl
    have e2 : YtnkgbnipcjgjeaaW.PrintWords.rd ys (i : Int) = ys[i] := by unfold YtnkgbnipcjgjeaaW.PrintWords.rd; rw [Int.toNat_natCast, List.getD_eq_getElem?_getD, List.getElem?_eq_getElem hy]; rfl
    rw [List.drop_eq_getElem_cons hx, List.drop_eq_getElem_cons hy]
    by_cases h : xs[i] = ys[i]
    · refine EvL.step (h := fun k => Go.Proofs.Ytnkgbnipcjgjeaa.QI.incunableref01_Same.l0 k xs ys ((i + 1 : Nat) : Int)) (fun k => ?_) ?_
      · simp only [Go.Proofs.Ytnkgbnipcjgjeaa.QI.incunableref01_Same.l0]
        rw [if_pos (by omega), if_pos (by omega), if_pos (by omega), e1, e2, if_pos h, w_succ i (by omega)]
      · rw [show decide (xs[i] :: xs.drop (i + 1) = ys[i] :: ys.drop (i + 1)) = decide (xs.drop (i + 1) = ys.drop (i + 1)) from decide_eq_decide.2 ⟨fun e => (List.cons.inj e).2, fun e => by rw [h, e]⟩]
        exact ih (i + 1) (by omega)
    · refine EvL.step (h := fun _ => some false) (fun k => ?_) ?_
      · simp only [Go.Proofs.Ytnkgbnipcjgjeaa.QI.incunableref01_Same.l0]
        rw [if_pos (by omega), if_pos (by omega), if_pos (by omega), e1, e2, if_neg h]
      · rw [decide_eq_false (fun e => h (List.cons.inj e).1)]
        exact EvL.const
theorem tsame_f (xs ys : List Int) (hl : xs.length ≤ 100000) : ∃ k, Go.Proofs.Ytnkgbnipcjgjeaa.QI.incunableref01_Same.f k xs ys = some (decide (xs = ys)) := by
  unfold Go.Proofs.Ytnkgbnipcjgjeaa.QI.incunableref01_Same.f
  by_cases h : (xs.length : Int) = (ys.length : Int)
  · obtain ⟨k0, h0⟩ := tsame_ev xs ys (by omega) hl xs.length 0 (by omega)
    refine ⟨k0, ?_⟩
    rw [if_pos h]
    exact h0 k0 (Nat.le_refl _)
  · refine ⟨0, ?_⟩
    rw [if_neg h, decide_eq_false (fun e => h (by rw [e]))]
theorem tsame_call (A0 : Option Addr) (c0 : Nat) (xs : List Int) (A1 : Option Addr) (c1 : Nat) (ys : List Int) (w : World) (h0 : kB.C w A0 xs.length xs) (hc0 : xs.length ≤ c0) (h1 : kB.C w A1 ys.length ys) (hc1 : ys.length ≤ c1) (hl : xs.length ≤ 100000) :
    Calls Try.prog 52 #[.slice A0 xs.length c0, .slice A1 ys.length c1] w fun e w' => e = .returned (.bool (decide (xs = ys))) ∧ ∃ q, w' = w.drewN q := by
  obtain ⟨k, hk⟩ := tsame_f xs ys hl
  refine (Go.Proofs.Ytnkgbnipcjgjeaa.QI.incunableref01_Same.calls k A0 c0 xs A1 c1 ys _ w h0 hc0 h1 hc1 hk).mono ?_
  rintro e w' ⟨rfl, ⟨q, rfl⟩⟩
  exact ⟨rfl, q, rfl⟩
theorem tsame_same (A0 : Option Addr) (c0 : Nat) (xs : List Int) (A1 : Option Addr) (c1 : Nat) (w : World) (h0 : kB.C w A0 xs.length xs) (hc0 : xs.length ≤ c0) (h1 : kB.C w A1 xs.length xs) (hc1 : xs.length ≤ c1) (hl : xs.length ≤ 100000) :
    Calls Try.prog 52 #[.slice A0 xs.length c0, .slice A1 xs.length c1] w fun e w' => e = .returned (.bool true) ∧ Below w.heap.size w w' := by
  refine (tsame_call A0 c0 xs A1 c1 xs w h0 hc0 h1 hc1 hl).mono ?_
  rintro e w' ⟨rfl, q, rfl⟩
  exact ⟨by rw [decide_eq_true rfl], pw_below_drewN (Below.refl _ _) q⟩
theorem ask_len {w : World} {N0 g b n sz : Nat} {l : Md} (h : ModIs w N0 g b n sz l) (k s : Int) : (askR n sz l k s).length ≤ sz := by
  unfold askR
  split
  · rw [mV_len h]; exact Nat.le_refl _
  · simp
theorem ok16 (s : Nat) (h : s < 16) : okI (s : Int) := by
  unfold okI
  simp [Lit.wf, IntKind.min, IntKind.max, IntKind.signed, IntKind.bits]; omega
/-- What was told of op k. -/
theorem ToldF.get {w : World} {N0 n k : Nat} {At : Option Addr} {T : Nat → List Int} (h : ToldF w N0 At n n T) (hk : k < n) : ∃ g A c, At = some ⟨g, 0, none⟩ ∧ w.cell? ⟨g, k, none⟩ = some (.slice A (T k).length c) ∧ DatF w N0 (A, (T k).length, c) (T k) := by
  obtain ⟨g, cur, e, _, hg, hc⟩ := h (by omega)
  obtain ⟨u, hu, A, m, c, hv, hd⟩ := hc k hk
  obtain ⟨hm, hd⟩ := hd hk
  subst hm hv
  exact ⟨g, A, c, e, (blk_cell hg k).trans hu, hd⟩
end Go.Proofs.Ytnkgbnipcjgjeaa.Qu
