import Derived.Test.YtnkgbnipcjgjeaaTE
import Derived.Deep.DeepCutAuto
import Derived.StillTailTactics
namespace Go.Proofs.Ytnkgbnipcjgjeaa
open Go.RowKit Go.Shelf Go.Sort Go.Lib Go.Proofs.YtnkgbnipcjgjeaaW.PrintWords Go.Proofs.YtnkgbnipcjgjeaaW.PrintLast Go.Proofs.YtnkgbnipcjgjeaaW.PrintMore
set_option linter.unusedVariables false
section
variable {ops : Array Oper} {Q : Exit → Act → World → Prop} {K : Act → World → Prop} {oi : Oper} {M : Option Tmp} {a : Act} {w : World}
theorem map_arm (hw : Region.wanted oi (yielded ops a.tmps) = true) (hN : oi.dst = M) (hop : oi.op = Op.makeMap 149 none) (h : ∀ (mb : Nat) (w1 : World), MapIs kW okW w1 mb [] → Below w.heap.size w w1 → w.heap.size ≤ mb → K (a.put M (.map (some mb))) w1) :
    if Region.wanted oi (yielded ops a.tmps) = true then Oper.wp Try.prog oi a w K Q else K (a.put M undef) w := by
  refine value_ (v := .map (some w.heap.size)) (w1 := w.alloc (.map #[] 0)) hw hN ?_ (h _ _ (MapIs.new kW okW w) (alloc_below w _) (Nat.le_refl _))
  have hmm := @run_makeMap Try.prog 149 w
  simp [execOp, hop, hmm, Result.andThen]
theorem entry_arm (hw : Region.wanted oi (yielded ops a.tmps) = true) (hN : oi.dst = M) (m y : Operand) (hop : oi.op = Op.mapEntry 149 m y) {mb : Nat} {vs : Wv} {q : Int × Int} (hm : a.eval m = .map (some mb)) (hy : a.eval y = kW q) (hmap : MapIs kW okW w mb vs) (hq : okW q) {vo : Value} (hvo : (mget vs q).getD (.slice none 0 0) = vo)
    (h : ∀ (sv : Value) (w1 : World), w.grownBy w1 (some mb) → w1.heap.size = w.heap.size → (∀ (w2 : World) (val : Value), w2.heap[mb]? = w1.heap[mb]? → ∃ w3, (Instr.entryStore 149 (.map (some mb)) sv val).run Try.prog w2 = .ok () w3 ∧ MapIs kW okW w3 mb (mput vs q val) ∧ w2.grownBy w3 (some mb) ∧ w3.heap.size = w2.heap.size) → (∃ es c, w1.heap[mb]? = some (.map es c)) → K (a.put M (.tuple #[vo, sv])) w1) :
    if Region.wanted oi (yielded ops a.tmps) = true then Oper.wp Try.prog oi a w K Q else K (a.put M undef) w := by
  obtain ⟨st, w1, hrun, h1, h2, h4, h3⟩ := hmap.entry keW Try.underlying149 (fun u => zero32 u) hq
  rw [hvo] at hrun
  refine value_ (v := .tuple #[vo, goInt st]) (w1 := w1) hw hN ?_ (h (goInt st) w1 h1 h2 h3 h4)
  simp [execOp, hop, hm, hy, hrun, Result.andThen]
end
def okB (w : World) (Nl mb p : Nat) (k : Nat) : Prop := (k < Nl ∧ k ≠ mb ∧ k ≠ p) ∧ okT3 w k
theorem F_stepB {d : Kd Int} {w w' : World} {Nl mb p : Nat} {A : Option Addr} {n : Nat} {xs : List Int} (h : Kd.F d w (okB w Nl mb p) A n xs) (hk : ∀ k, okB w Nl mb p k → w'.heap[k]? = w.heap[k]?) : Kd.F d w' (okB w' Nl mb p) A n xs := Kd.F_mono (Kd.F_step h (fun k h1 _ => hk k h1)) (fun k h1 => ⟨h1.1, by
  obtain ⟨cs, t, fr, h2, h3⟩ := h1.2
  exact ⟨cs, t, fr, (hk k h1).trans h2, h3⟩⟩)
/-- A teller under way: its map is not told yet. -/
structure TelB (w : World) (N0 Nl p mb : Nat) (busy fails torn : List Int) : Prop where
  blk : ∃ A1 c1 A2 c2 A4 c4, w.heap[p]? = some (.cells #[.slice A1 busy.length c1, .slice A2 fails.length c2, .map (some mb), .slice A4 torn.length c4, .int .i64 0, .int .i64 0] 151 (0, 0)) ∧
    busy.length ≤ c1 ∧ fails.length ≤ c2 ∧ torn.length ≤ c4 ∧ Kd.F kN w (okB w Nl mb p) A1 busy.length busy ∧ Kd.F kN w (okB w Nl mb p) A2 fails.length fails ∧ Kd.F kB w (okB w Nl mb p) A4 torn.length torn
  lo : N0 ≤ p ∧ p < Nl ∧ N0 ≤ mb ∧ mb < Nl ∧ p ≠ mb
theorem TelB.step {w w' : World} {N0 Nl p mb : Nat} {busy fails torn : List Int} (h : TelB w N0 Nl p mb busy fails torn) (hm : ∀ k, k < Nl → k ≠ mb → k < w.heap.size → w'.heap[k]? = w.heap[k]?) : TelB w' N0 Nl p mb busy fails torn := by
  obtain ⟨A1, c1, A2, c2, A4, c4, h1, h2, h3, h4, h5, h6, h7⟩ := h.blk
  have hk : ∀ k, okB w Nl mb p k → w'.heap[k]? = w.heap[k]? := fun k hk => hm k hk.1.1 hk.1.2.1 hk.2.lt
  exact ⟨⟨A1, c1, A2, c2, A4, c4, (hm p h.lo.2.1 h.lo.2.2.2.2 (blk_lt h1)).trans h1, h2, h3, h4, F_stepB h5 hk, F_stepB h6 hk, F_stepB h7 hk⟩, h.lo⟩
theorem TelB.below {w w' : World} {N0 Nl p mb : Nat} {busy fails torn : List Int} (h : TelB w N0 Nl p mb busy fails torn) (hb : Below w.heap.size w w') : TelB w' N0 Nl p mb busy fails torn := h.step (fun k _ _ hl => hb.block k hl)
theorem TelB.cell {w : World} {N0 Nl p mb : Nat} {busy fails torn : List Int} (h : TelB w N0 Nl p mb busy fails torn) : w.cell? ⟨p, 2, none⟩ = some (.map (some mb)) := by
  obtain ⟨A1, c1, A2, c2, A4, c4, h1, _⟩ := h.blk
  exact blk_cell h1 2
theorem R_okB {d : Kd Int} (hE : d.E = []) {e : Nat} (he : e = 3 ∨ e = 5) {W : World} {base Nl mb : Nat} {v : Value} {xs : List Int} {vs : Wv} (h : d.R e W base (fun _ => True) v xs) (hm : MapIs kW okW W mb vs) (hN : W.heap.size ≤ Nl) {p : Nat} (hp : W.heap.size ≤ p) : d.R e W base (okB W Nl mb p) v xs :=
  Kd.R_reok hE h (fun k hk => by
    obtain ⟨_, _, h3, q, hq, cs, hc⟩ := (Kd.R_bound h).1 k hk
    rw [hE] at hq
    have hq := List.mem_singleton.1 hq
    refine ⟨⟨Nat.lt_of_lt_of_le h3 hN, fun e => ?_, fun e => by omega⟩, cs, q, _, hc, by rw [hq]; exact he⟩
    obtain ⟨es, c, hb, _⟩ := hm
    rw [← e, hc] at hb; cases hb)
theorem tel_new {w W : World} {mb : Nat} {A1 A2 A4 : Option Addr} {n1 c1 n2 c2 n4 c4 : Nat} {busy fails torn : List Int} (hW : Below w.heap.size w W) (r1 : kN.R 3 W w.heap.size (fun _ => True) (.slice A1 n1 c1) busy) (r2 : kN.R 3 W w.heap.size (fun _ => True) (.slice A2 n2 c2) fails) (r4 : kB.R 5 W w.heap.size (fun _ => True) (.slice A4 n4 c4) torn) (hm : MapIs kW okW W mb [] ∧ w.heap.size ≤ mb) :
    TelB (W.alloc (.cells #[.slice A1 n1 c1, .slice A2 n2 c2, .map (some mb), .slice A4 n4 c4, .int .i64 0, .int .i64 0] 151)) w.heap.size (W.alloc (.cells #[.slice A1 n1 c1, .slice A2 n2 c2, .map (some mb), .slice A4 n4 c4, .int .i64 0, .int .i64 0] 151)).heap.size W.heap.size mb busy fails torn ∧ MapIs kW okW (W.alloc (.cells #[.slice A1 n1 c1, .slice A2 n2 c2, .map (some mb), .slice A4 n4 c4, .int .i64 0, .int .i64 0] 151)) mb [] ∧ Below w.heap.size w (W.alloc (.cells #[.slice A1 n1 c1, .slice A2 n2 c2, .map (some mb), .slice A4 n4 c4, .int .i64 0, .int .i64 0] 151)) := by
  rw [World.size_alloc]
  obtain ⟨e1, l1, _⟩ := Kd.R_reads' r1
  obtain ⟨e2, l2, _⟩ := Kd.R_reads' r2
  obtain ⟨e4, l4, _⟩ := Kd.R_reads' r4
  have f1 := F_stepB (Kd.R_F (R_okB rfl (.inl rfl) r1 hm.1 (Nat.le_succ _) (Nat.le_refl _))) (fun k h1 => (alloc_below W (.cells #[.slice A1 n1 c1, .slice A2 n2 c2, .map (some mb), .slice A4 n4 c4, .int .i64 0, .int .i64 0] 151)).block k h1.2.lt)
  have f2 := F_stepB (Kd.R_F (R_okB rfl (.inl rfl) r2 hm.1 (Nat.le_succ _) (Nat.le_refl _))) (fun k h1 => (alloc_below W (.cells #[.slice A1 n1 c1, .slice A2 n2 c2, .map (some mb), .slice A4 n4 c4, .int .i64 0, .int .i64 0] 151)).block k h1.2.lt)
  have f4 := F_stepB (Kd.R_F (R_okB rfl (.inr rfl) r4 hm.1 (Nat.le_succ _) (Nat.le_refl _))) (fun k h1 => (alloc_below W (.cells #[.slice A1 n1 c1, .slice A2 n2 c2, .map (some mb), .slice A4 n4 c4, .int .i64 0, .int .i64 0] 151)).block k h1.2.lt)
  subst e1 e2 e4
  exact ⟨⟨⟨A1, c1, A2, c2, A4, c4, blk_new W _, l1, l2, l4, f1, f2, f4⟩, hW.size, Nat.lt_succ_self _, hm.2, Nat.lt_succ_of_lt hm.1.lt, fun e => by have := hm.1.lt; omega⟩, hm.1.alloc _, chainC (Nat.le_refl _) hW (alloc_below W _)⟩
theorem tel_fin {w : World} {N0 Nl p mb : Nat} {vs : Wv} {s : Sc} (h : TelB w N0 Nl p mb s.busy s.fails s.torn) (hm : MapIs kW okW w mb vs) (hr : Rows w N0 Nl vs (bitsOf s.turns)) : TelIs w N0 p mb 0 0 s := by
  obtain ⟨A1, c1, A2, c2, A4, c4, h1, h2, h3, h4, h5, h6, h7⟩ := h.blk
  refine ⟨⟨A1, c1, A2, c2, A4, c4, h1, h2, h3, h4, Kd.F_mono h5 (fun k hk => hk.2), Kd.F_mono h6 (fun k hk => hk.2), Kd.F_mono h7 (fun k hk => hk.2)⟩, h.lo.1, ⟨vs, hm, fun q => ?_⟩⟩
  cases hq : mget vs q with
  | none => exact .inl ⟨rfl, hr.no q hq⟩
  | some v =>
    have hR := hr.yes q v hq
    obtain ⟨A, c, rfl, hl, _⟩ := Kd.R_reads hR
    exact .inr ⟨A, c, rfl, hl, Kd.R_F (Kd.R_reok rfl hR (fun k hk => by obtain ⟨_, _, cs, hc⟩ := hr.own hq hk; exact ⟨cs, 3, _, hc, .inl rfl⟩))⟩
/-- One turn under way: what stands while its bit is put. -/
structure St8 (w0 w : World) (Nl p mb kb tb : Nat) (busy fails torn : List Int) (vs : Wv) (bs : Int × Int → List Int) (t : Tu) : Prop where
  low : Below w0.heap.size w0 w
  tel : TelB w w0.heap.size Nl p mb busy fails torn
  rows : Rows w w0.heap.size Nl vs bs
  nl : Nl ≤ w.heap.size
  kblk : w.heap[kb]? = some (.cells #[.int .i64 t.1, .int .i64 t.2.1] 153 (0, 0))
  tblk : w.heap[tb]? = some (.cells #[.int .i64 t.1, .int .i64 t.2.1, .int .i64 t.2.2] 83 (0, 0))
  hm : ∃ es c, w.heap[mb]? = some (.map es c)
section
variable {w0 w w' : World} {Nl p mb kb tb : Nat} {busy fails torn : List Int} {vs : Wv} {bs : Int × Int → List Int} {t : Tu}
theorem St8.S (h : St8 w0 w Nl p mb kb tb busy fails torn vs bs t) : w.cell? ⟨p, 2, none⟩ = some (.map (some mb)) ∧ w.cell? ⟨kb, 0, none⟩ = some (.int .i64 t.1) ∧ w.cell? ⟨kb, 1, none⟩ = some (.int .i64 t.2.1) ∧ w.cell? ⟨tb, 2, none⟩ = some (.int .i64 t.2.2) := ⟨h.tel.cell, blk_cell h.kblk 0, blk_cell h.kblk 1, blk_cell h.tblk 2⟩
theorem St8.below (h : St8 w0 w Nl p mb kb tb busy fails torn vs bs t) (hb : Below w.heap.size w w') : St8 w0 w' Nl p mb kb tb busy fails torn vs bs t := by
  obtain ⟨es, c, hm⟩ := h.hm
  exact ⟨chainC (Nat.le_refl _) h.low hb, h.tel.below hb, h.rows.move (fun q v k hq hk => hb.block k (h.rows.own hq hk).1), Nat.le_trans h.nl hb.size, (hb.block kb (blk_lt h.kblk)).trans h.kblk, (hb.block tb (blk_lt h.tblk)).trans h.tblk, ⟨es, c, (hb.block mb (blk_lt hm)).trans hm⟩⟩
theorem St8.ne (h : St8 w0 w Nl p mb kb tb busy fails torn vs bs t) {k : Nat} {cs : Array Value} {ty : TypeId} {fr : Nat × Nat} (hk : w.heap[k]? = some (.cells cs ty fr)) : k ≠ mb := fun e => by
  obtain ⟨es, c, hm⟩ := h.hm
  rw [e, hm] at hk; cases hk
theorem St8.entered (h : St8 w0 w Nl p mb kb tb busy fails torn vs bs t) (hg : w.grownBy w' (some mb)) (hm' : ∃ es c, w'.heap[mb]? = some (.map es c)) : St8 w0 w' Nl p mb kb tb busy fails torn vs bs t := by
  refine ⟨h.low.grown hg h.low.size (fun k e => by injection e with e; rw [← e]; exact h.tel.lo.2.2.1), h.tel.step (fun k _ hne hl => hg.block k hl (fun e => hne (by injection e))), h.rows.move (fun q v k hq hk => ?_), Nat.le_trans h.nl hg.size, ?_, ?_, hm'⟩
  · obtain ⟨h1, h2, _⟩ := h.rows.own hq hk
    exact hg.block k h1 (fun e => by injection e with e; have := h.tel.lo.2.2.2.1; omega)
  · exact (hg.block kb (blk_lt h.kblk) (fun e => h.ne h.kblk (by injection e))).trans h.kblk
  · exact (hg.block tb (blk_lt h.tblk) (fun e => h.ne h.tblk (by injection e))).trans h.tblk
/-- Behind the append: all but the row's own block. -/
theorem St8.put (h : St8 w0 w Nl p mb kb tb busy fails torn vs bs t) {q : Int × Int} {v1 : Value} {xs : List Int} (hR : kN.R 3 w' w0.heap.size (okR Nl vs q) v1 xs) (hg : w.grownBy w' ((mget vs q).getD (.slice none 0 0)).ownBlock) :
    St8 w0 w' Nl p mb kb tb busy fails torn (mput vs q v1) (fun q' => if q' = q then xs else bs q') t := by
  have hown : ∀ k, ((mget vs q).getD (.slice none 0 0)).ownBlock = some k → Nl ≤ k ∧ ∃ cs, w.heap[k]? = some (.cells cs 3 (0, 0)) := fun k hk => by
    cases hq : mget vs q with
    | none => rw [hq] at hk; cases hk
    | some v => rw [hq] at hk; exact (h.rows.own hq hk).2
  obtain ⟨es, c, hm⟩ := h.hm
  refine ⟨h.low.grown hg h.low.size (fun k e => Nat.le_trans (Nat.le_trans h.tel.lo.1 (Nat.le_of_lt h.tel.lo.2.1)) (hown k e).1), h.tel.step (fun k hlt _ hl => hg.block k hl (fun e => by have := (hown k e.symm).1; omega)), h.rows.put q hR (fun k hl _ hne => hg.block k hl (fun e => hne e.symm)), Nat.le_trans h.nl hg.size, ?_, ?_, ⟨es, c, ?_⟩⟩
  · refine (hg.block kb (blk_lt h.kblk) (fun e => ?_)).trans h.kblk
    obtain ⟨_, cs, hc⟩ := hown kb e.symm
    exact blk_ne h.kblk hc (by decide) rfl
  · refine (hg.block tb (blk_lt h.tblk) (fun e => ?_)).trans h.tblk
    obtain ⟨_, cs, hc⟩ := hown tb e.symm
    exact blk_ne h.tblk hc (by decide) rfl
  · refine (hg.block mb (blk_lt hm) (fun e => ?_)).trans hm
    obtain ⟨_, cs, hc⟩ := hown mb e.symm
    rw [hm] at hc; cases hc
end
section
variable {ops : Array Oper} {Q : Exit → Act → World → Prop} {K : Act → World → Prop} {oi : Oper} {M : Option Tmp} {a : Act} {w : World}
theorem new_arm {x : Value} (hw : Region.wanted oi (yielded ops a.tmps) = true) (hN : oi.dst = M) (hrun : (execOp a.eval oi).run Try.prog w = .ok (.value (.slice (some ⟨w.heap.size, 0, none⟩) 1 1)) (w.alloc (.cells #[x] 3)))
    (h : ∀ (xb : Nat) (w1 : World), Below w.heap.size w w1 → w1.heap[xb]? = some (.cells #[x] 3 (0, 0)) → K (a.put M (.slice (some ⟨xb, 0, none⟩) 1 1)) w1) :
    if Region.wanted oi (yielded ops a.tmps) = true then Oper.wp Try.prog oi a w K Q else K (a.put M undef) w := value_ hw hN hrun (h _ _ (alloc_below w _) (blk_new w _))
theorem reads_one {w : World} {xb : Nat} {x : Int} (h : w.heap[xb]? = some (.cells #[.int .i64 x] 3 (0, 0))) : ReadsRow (fun (x : Int) (cs : List Value) => cs = [.int .i64 x]) 1 w (some ⟨xb, 0, none⟩) 1 [x] := by
  refine ⟨rfl, by omega, fun _ => ⟨_, rfl, fun j p hj => ?_⟩⟩
  match j, hj with
  | 0, hj =>
    obtain rfl := Option.some.inj hj
    refine ⟨_, rfl, rfl, fun i u hu => ?_⟩
    match i, hu with
    | 0, hu => exact (blk_cell h 0).trans hu
    | i + 1, hu => simp at hu
  | j + 1, hj => simp at hj
theorem app_arm {w0 : World} {Nl p mb kb tb xb : Nat} {busy fails torn : List Int} {vs : Wv} {bs : Int × Int → List Int} {t : Tu} {q : Int × Int} {vo sv : Value} (hw : Region.wanted oi (yielded ops a.tmps) = true) (hN : oi.dst = M) (s x : Operand) (hop : oi.op = .call { callee := .builtin .append, args := #[s, x], argTypes := #[32, 32] }) (hs : a.eval s = vo) (hx : a.eval x = .slice (some ⟨xb, 0, none⟩) 1 1)
    (ST : St8 w0 w Nl p mb kb tb busy fails torn vs bs t) (XB : w.heap[xb]? = some (.cells #[.int .i64 t.2.2] 3 (0, 0))) (hvo : (mget vs q).getD (.slice none 0 0) = vo)
    (EN : ∀ (w2 : World) (val : Value), w2.heap[mb]? = w.heap[mb]? → ∃ w3, (Instr.entryStore 149 (.map (some mb)) sv val).run Try.prog w2 = .ok () w3 ∧ MapIs kW okW w3 mb (mput vs q val) ∧ w2.grownBy w3 (some mb) ∧ w3.heap.size = w2.heap.size) (hl : (bs q).length ≤ 1000)
    (h : ∀ (A5 : Option Addr) (n5 c5 : Nat) (w5 w3 : World), St8 w0 w5 Nl p mb kb tb busy fails torn (mput vs q (.slice A5 n5 c5)) (fun q' => if q' = q then bs q ++ [t.2.2] else bs q') t → (Instr.entryStore 149 (.map (some mb)) sv (.slice A5 n5 c5)).run Try.prog w5 = .ok () w3 →
      St8 w0 w3 Nl p mb kb tb busy fails torn (mput vs q (.slice A5 n5 c5)) (fun q' => if q' = q then bs q ++ [t.2.2] else bs q') t → MapIs kW okW w3 mb (mput vs q (.slice A5 n5 c5)) → K (a.put M (.slice A5 n5 c5)) w5) :
    if Region.wanted oi (yielded ops a.tmps) = true then Oper.wp Try.prog oi a w K Q else K (a.put M undef) w := by
  subst hN
  have hget := ST.rows.get q
  rw [hvo] at hget
  have hfresh : ∀ k, w.heap.size ≤ k → okR Nl vs q k := fun k hk => ⟨Nat.le_trans ST.nl hk, fun q' v' hq' _ e => by have := (ST.rows.own hq' e).1; omega⟩
  refine Kd.R_append_rows_step (Rr := fun (x : Int) (cs : List Value) => cs = [.int .i64 x]) kN (w0 := w0) w0.heap.size hw s x 32 3 (.int .i64 0) 8 hop Try.underlying32 info3' rfl (by decide) (by decide) vo (bs q) [t.2.2] (some ⟨xb, 0, none⟩) 1 1 (okR Nl vs q) (fun _ => False) hs hx hget (reads_one XB) (fun _ _ h => h) (fun _ h => h.elim) hfresh ST.low ST.low.size (by omega) ?_
  intro v5 w5 hR hb hg hat
  obtain ⟨A5, c5, rfl⟩ := Kd.R_slice hR
  rw [← hvo] at hg
  have h5 := ST.put hR hg
  obtain ⟨es, c, hm⟩ := ST.hm
  have hmb : w5.heap[mb]? = w.heap[mb]? := hg.block mb (blk_lt hm) (fun e => by
    cases hq : mget vs q with
    | none => rw [hq] at e; cases e
    | some v =>
      rw [hq] at e
      have := (ST.rows.own hq e.symm).2.1
      have := ST.tel.lo.2.2.2.1
      omega)
  obtain ⟨w3, hrun, hm3, hg3, _⟩ := EN w5 _ hmb
  obtain ⟨es3, c3, hb3, _⟩ := id hm3
  exact h _ _ _ w5 w3 h5 hrun (h5.entered hg3 ⟨es3, c3, hb3⟩) hm3
end
theorem bits_step (l : List Tu) (t : Tu) : bitsOf (l ++ [t]) = fun q' => if q' = (t.1, t.2.1) then bitsOf l (t.1, t.2.1) ++ [t.2.2] else bitsOf l q' := by
  funext q'
  rw [bitsOf_snoc]
  by_cases h : q' = (t.1, t.2.1)
  · rw [if_pos h, if_pos h, h]
  · rw [if_neg h, if_neg h]
set_option maxHeartbeats 8000000 in
set_option maxRecDepth 100000 in
theorem new_no (s : Sc) (h : Sh) (w : World) (hr : ScR w s h) (hf : FewH h) (hR : rightB s = false) : Calls Try.prog 45 #[plainV, .agg (scC h)] w fun e w' => e = .returned (.tuple #[.pointer none, .int .i64 2]) ∧ Below w.heap.size w w' := by
  have hrt := fun W (hb : Below w.heap.size w W) => right_ok s h W (hr.below hb) hf
  rw [hR] at hrt
  obtain ⟨a1, n1, c1, a2, n2, c2, a3, n3, c3, cut, a4, n4, c4, a5, n5, c5⟩ := h
  have HRT := Lib.hid hrt
  clear hrt hr hf hR
  have hal := chainC (Nat.le_refl _) (alloc_below w (.cells #[.int .i64 1, .int .i64 4, .int .i64 4, .int .i64 1, .int .i64 4, .int .i64 2, .int .i64 1] 79)) (alloc_below (w.alloc (.cells #[.int .i64 1, .int .i64 4, .int .i64 4, .int .i64 1, .int .i64 4, .int .i64 2, .int .i64 1] 79)) (.cells #[.slice a1 n1 c1, .slice a2 n2 c2, .slice a3 n3 c3, .int .i64 cut, .slice a4 n4 c4, .slice a5 n5 c5] 73))
  have HAL := Lib.hid hal
  clear hal
  show Calls Try.prog 45 #[.agg #[.int .i64 1, .int .i64 4, .int .i64 4, .int .i64 1, .int .i64 4, .int .i64 2, .int .i64 1], .agg #[.slice a1 n1 c1, .slice a2 n2 c2, .slice a3 n3 c3, .int .i64 cut, .slice a4 n4 c4, .slice a5 n5 c5]] w _
  go_enter Try.func45, Try.ntmps45
  go_wp2_with fail
  refine (HRT.out _ HAL.out).mono ?_
  rintro e w2 ⟨rfl, hb2⟩
  have HB2 := Lib.hid (chainC (Nat.le_refl _) HAL.out hb2)
  clear hb2
  go_wp2_with fail
  go_ret2
  exact ⟨rfl, HB2.out⟩
set_option maxHeartbeats 8000000 in
set_option maxRecDepth 100000 in
theorem new_yes (s : Sc) (h : Sh) (w : World) (hr : ScR w s h) (hf : FewH h) (hR : rightB s = true) : Calls Try.prog 45 #[plainV, .agg (scC h)] w fun e w' => (∃ p mb, e = .returned (.tuple #[.pointer (some ⟨p, 0, none⟩), .int .i64 0]) ∧ TelIs w' w.heap.size p mb 0 0 s) ∧ Below w.heap.size w w' := by
  have hrt := fun W (hb : Below w.heap.size w W) => right_ok s h W (hr.below hb) hf
  rw [hR] at hrt
  have hok : ∀ t ∈ s.turns, okT t = true := fun t ht => by
    cases ho : okT t with
    | true => rfl
    | false =>
      have : (s.turns.any fun x => !okT x) = true := List.any_eq_true.2 ⟨t, ht, by rw [ho]; rfl⟩
      unfold rightB at hR
      rw [this] at hR
      simp at hR
  obtain ⟨e1, e2, e3, e4, e5, ec, r1, r2, r3, r4, r5, k1, k2, k4⟩ := hr
  obtain ⟨a1, n1, c1, a2, n2, c2, a3, n3, c3, cut, a4, n4, c4, a5, n5, c5⟩ := h
  obtain ⟨f1, f2, f3, f4, f5⟩ := hf
  have HRT := Lib.hid hrt
  have HFN := Lib.hid (fun (w : World) (N0 Nl p mb : Nat) (vs : Wv) => @tel_fin w N0 Nl p mb vs s)
  obtain ⟨busy, fails, turns, cut', torn, marked⟩ := s
  simp only at e1 e2 e3 e4 e5 ec r1 r2 r3 r4 r5 k1 k2 k4 f1 f2 f3 f4 f5 hok
  subst e1 e2 e3 e4 e5 ec
  have H1 := Lib.hid (fun W (hb : Below w.heap.size w W) => clone3_ok a1 c1 busy W (Kd.C_below r1 hb) k1 (by omega))
  have H2 := Lib.hid (fun W (hb : Below w.heap.size w W) => clone3_ok a2 c2 fails W (Kd.C_below r2 hb) k2 (by omega))
  have H4 := Lib.hid (fun W (hb : Below w.heap.size w W) => clone_ok a4 c4 torn W (Kd.C_below r4 hb) k4 (by omega))
  have HC3 := Lib.hid r3
  have HOK := Lib.hid hok
  have HL3 := Lib.hid f3
  clear hrt hok r1 r2 r3 r4 r5 k1 k2 k4 f1 f2 f3 f4 f5 hR
  have hal := chainC (Nat.le_refl _) (alloc_below w (.cells #[.int .i64 1, .int .i64 4, .int .i64 4, .int .i64 1, .int .i64 4, .int .i64 2, .int .i64 1] 79)) (alloc_below (w.alloc (.cells #[.int .i64 1, .int .i64 4, .int .i64 4, .int .i64 1, .int .i64 4, .int .i64 2, .int .i64 1] 79)) (.cells #[.slice a1 busy.length c1, .slice a2 fails.length c2, .slice a3 turns.length c3, .int .i64 cut, .slice a4 torn.length c4, .slice a5 marked.length c5] 73))
  obtain ⟨_, hs0⟩ := two_new2 w #[.int .i64 1, .int .i64 4, .int .i64 4, .int .i64 1, .int .i64 4, .int .i64 2, .int .i64 1] #[.slice a1 busy.length c1, .slice a2 fails.length c2, .slice a3 turns.length c3, .int .i64 cut, .slice a4 torn.length c4, .slice a5 marked.length c5] 79 73
  have HAL := Lib.hid hal
  have HS0 := Lib.hid hs0
  clear hal hs0
  show Calls Try.prog 45 #[.agg #[.int .i64 1, .int .i64 4, .int .i64 4, .int .i64 1, .int .i64 4, .int .i64 2, .int .i64 1], .agg #[.slice a1 busy.length c1, .slice a2 fails.length c2, .slice a3 turns.length c3, .int .i64 cut, .slice a4 torn.length c4, .slice a5 marked.length c5]] w _
  go_enter Try.func45, Try.ntmps45
  go_wp2_with fail
  refine (HRT.out _ HAL.out).mono ?_
  rintro e w2 ⟨rfl, hb2⟩
  have HW := Lib.hid (chainC (Nat.le_refl _) HAL.out hb2)
  have HSB := Lib.hid ((hb2.block _ (blk_lt HS0.out)).trans HS0.out)
  clear hb2 HS0 HAL HRT
  go_upto_region 3 with fail
  obtain ⟨sb, hsb⟩ : ∃ sb, sb = w.heap.size + 1 := ⟨_, rfl⟩
  rw [← hsb] at HSB ⊢
  clear hsb
  go_cut [6] (fun v6 wc => ∃ p mb, v6 = .pointer (some ⟨p, 0, none⟩) ∧ Hid (TelB wc w.heap.size wc.heap.size p mb busy fails torn) ∧ Hid (MapIs kW okW wc mb []) ∧ Hid (Below w.heap.size w wc) ∧ Hid (wc.heap[sb]? = some (.cells #[.slice a1 busy.length c1, .slice a2 fails.length c2, .slice a3 turns.length c3, .int .i64 cut, .slice a4 torn.length c4, .slice a5 marked.length c5] 73 (0, 0))))
  case first =>
    have HS0 : Hid (w2.drew.cell? ⟨sb, 0, none⟩ = some (.slice a1 busy.length c1) ∧ w2.drew.cell? ⟨sb, 1, none⟩ = some (.slice a2 fails.length c2) ∧ w2.drew.cell? ⟨sb, 4, none⟩ = some (.slice a4 torn.length c4)) := Lib.hid ⟨blk_cell HSB.out 0, blk_cell HSB.out 1, blk_cell HSB.out 4⟩
    replace HW := Lib.hid (pw_below_drewN HW.out 1)
    refine wp_region_noPanic ?_
    refine start_ (n := 13) (S := fun w' => w'.cell? ⟨sb, 0, none⟩ = some (.slice a1 busy.length c1) ∧ w'.cell? ⟨sb, 1, none⟩ = some (.slice a2 fails.length c2) ∧ w'.cell? ⟨sb, 4, none⟩ = some (.slice a4 torn.length c4)) (ds := []) #[false, false, false, false, false, false, false, false, false, false, false, false, false] (by kernel_rfl) rfl rfl HS0.out (fun hHeld => ?_)
    refine pure_ (i := 0) (N := some 14) (v := ?_) (a' := ?_) #[true, false, false, false, false, false, false, false, false, false, false, false, false] rfl rfl (by kernel_rfl) (fun _ _ _ h => h) (Or.inl ⟨by rfl, ?_⟩) ?_ ?_
    rotate_left
    · intro w'
      go_simp
      with_reducible rfl
    rotate_left
    · simp only [Act.put, List.setIfInBounds_toArray, List.set_cons_zero, List.set_cons_succ]
      rfl
    refine pure_ (i := 3) (N := some 17) (v := ?_) (a' := ?_) #[true, false, false, true, false, false, false, false, false, false, false, false, false] rfl rfl (by kernel_rfl) (fun _ _ _ h => h) (Or.inl ⟨by rfl, ?_⟩) ?_ ?_
    rotate_left
    · intro w'
      go_simp
      with_reducible rfl
    rotate_left
    · simp only [Act.put, List.setIfInBounds_toArray, List.set_cons_zero, List.set_cons_succ]
      rfl
    refine pure_ (i := 6) (N := some 20) (v := ?_) (a' := ?_) #[true, false, false, true, false, false, true, false, false, false, false, false, false] rfl rfl (by kernel_rfl) (fun _ _ _ h => h) (Or.inl ⟨by rfl, ?_⟩) ?_ ?_
    rotate_left
    · intro w'
      go_simp
      with_reducible rfl
    rotate_left
    · simp only [Act.put, List.setIfInBounds_toArray, List.set_cons_zero, List.set_cons_succ]
      rfl
    refine take_ (i := 1) (N := some 15) (v := ?_) (a' := ?_) #[true, true, false, true, false, false, true, false, false, false, false, false, false] rfl rfl (by kernel_rfl) (fun _ _ _ h => h) (Or.inl ⟨by rfl, ?_⟩) hHeld ?_ ?_
    rotate_left
    · rintro w' ⟨s0, s1, s2⟩
      go_simp
      with_reducible rfl
    rotate_left
    · simp only [Act.put, List.setIfInBounds_toArray, List.set_cons_zero, List.set_cons_succ]
      rfl
    refine take_ (i := 4) (N := some 18) (v := ?_) (a' := ?_) #[true, true, false, true, true, false, true, false, false, false, false, false, false] rfl rfl (by kernel_rfl) (fun _ _ _ h => h) (Or.inl ⟨by rfl, ?_⟩) hHeld ?_ ?_
    rotate_left
    · rintro w' ⟨s0, s1, s2⟩
      go_simp
      with_reducible rfl
    rotate_left
    · simp only [Act.put, List.setIfInBounds_toArray, List.set_cons_zero, List.set_cons_succ]
      rfl
    refine take_ (i := 7) (N := some 21) (v := ?_) (a' := ?_) #[true, true, false, true, true, false, true, true, false, false, false, false, false] rfl rfl (by kernel_rfl) (fun _ _ _ h => h) (Or.inl ⟨by rfl, ?_⟩) hHeld ?_ ?_
    rotate_left
    · rintro w' ⟨s0, s1, s2⟩
      go_simp
      with_reducible rfl
    rotate_left
    · simp only [Act.put, List.setIfInBounds_toArray, List.set_cons_zero, List.set_cons_succ]
      rfl
    refine two_ (i := 2) (j := 9) (Ni := some 16) (Nj := some 23) #[true, true, true, true, true, false, true, true, false, false, false, false, false] #[true, true, false, true, true, false, true, true, false, true, false, false, false] rfl rfl rfl rfl (by kernel_rfl) (by decide) (by decide) (fun K hK => ?_) (fun K hK => ?_)
    · refine goes_ (N := some 16) Try.func94 (by kernel_rfl) rfl #[.slice a1 busy.length c1] (by rfl) rfl rfl (by simp only [List.map_toArray, List.map_cons, List.map_nil]; rfl) ?_
      refine (H1.out _ HW.out).mono ?_
      rintro e wn ⟨⟨vn, rfl, hrn⟩, hbn⟩
      refine ⟨_, rfl, ?_⟩
      obtain ⟨An, cn, rfl⟩ := Kd.R_slice hrn
      have hS' : wn.cell? ⟨sb, 0, none⟩ = some (.slice a1 busy.length c1) ∧ wn.cell? ⟨sb, 1, none⟩ = some (.slice a2 fails.length c2) ∧ wn.cell? ⟨sb, 4, none⟩ = some (.slice a4 torn.length c4) := by obtain ⟨z0, z1, z2⟩ := hHeld; exact ⟨pw_cell_below hbn z0, pw_cell_below hbn z1, pw_cell_below hbn z2⟩
      have R1 := Lib.hid (Kd.R_lower hrn HW.out.size)
      try (replace M := Lib.hid (And.intro (M.out.1.below hbn) M.out.2))
      replace HSB := Lib.hid ((hbn.block _ (blk_lt HSB.out)).trans HSB.out)
      replace HW := Lib.hid (chainC (Nat.le_refl _) HW.out hbn)
      clear hrn hbn
      clear hHeld
      refine hK.out _ _ ?_ (fun hHeld => ?_)
      · exact hS'
      clear hK K
      refine norm_ (a' := ?_) ?_ ?_
      rotate_left
      · show Act.put _ (some 16) _ = _
        simp only [Act.put, List.setIfInBounds_toArray, List.set_cons_zero, List.set_cons_succ]
        rfl
      refine two_ (i := 5) (j := 9) (Ni := some 19) (Nj := some 23) #[true, true, true, true, true, true, true, true, false, false, false, false, false] #[true, true, true, true, true, false, true, true, false, true, false, false, false] rfl rfl rfl rfl (by kernel_rfl) (by decide) (by decide) (fun K hK => ?_) (fun K hK => ?_)
      · refine goes_ (N := some 19) Try.func94 (by kernel_rfl) rfl #[.slice a2 fails.length c2] (by rfl) rfl rfl (by simp only [List.map_toArray, List.map_cons, List.map_nil]; rfl) ?_
        refine (H2.out _ HW.out).mono ?_
        rintro e wn ⟨⟨vn, rfl, hrn⟩, hbn⟩
        refine ⟨_, rfl, ?_⟩
        obtain ⟨An, cn, rfl⟩ := Kd.R_slice hrn
        have hS' : wn.cell? ⟨sb, 0, none⟩ = some (.slice a1 busy.length c1) ∧ wn.cell? ⟨sb, 1, none⟩ = some (.slice a2 fails.length c2) ∧ wn.cell? ⟨sb, 4, none⟩ = some (.slice a4 torn.length c4) := by obtain ⟨z0, z1, z2⟩ := hHeld; exact ⟨pw_cell_below hbn z0, pw_cell_below hbn z1, pw_cell_below hbn z2⟩
        have R2 := Lib.hid (Kd.R_lower hrn HW.out.size)
        try (replace R1 := Lib.hid (Kd.R_below R1.out hbn))
        try (replace M := Lib.hid (And.intro (M.out.1.below hbn) M.out.2))
        replace HSB := Lib.hid ((hbn.block _ (blk_lt HSB.out)).trans HSB.out)
        replace HW := Lib.hid (chainC (Nat.le_refl _) HW.out hbn)
        clear hrn hbn
        clear hHeld
        refine hK.out _ _ ?_ (fun hHeld => ?_)
        · exact hS'
        clear hK K
        refine norm_ (a' := ?_) ?_ ?_
        rotate_left
        · show Act.put _ (some 19) _ = _
          simp only [Act.put, List.setIfInBounds_toArray, List.set_cons_zero, List.set_cons_succ]
          rfl
        refine two_ (i := 8) (j := 9) (Ni := some 22) (Nj := some 23) #[true, true, true, true, true, true, true, true, true, false, false, false, false] #[true, true, true, true, true, true, true, true, false, true, false, false, false] rfl rfl rfl rfl (by kernel_rfl) (by decide) (by decide) (fun K hK => ?_) (fun K hK => ?_)
        · refine goes_ (N := some 22) Try.func95 (by kernel_rfl) rfl #[.slice a4 torn.length c4] (by rfl) rfl rfl (by simp only [List.map_toArray, List.map_cons, List.map_nil]; rfl) ?_
          refine (H4.out _ HW.out).mono ?_
          rintro e wn ⟨⟨vn, rfl, hrn⟩, hbn⟩
          refine ⟨_, rfl, ?_⟩
          obtain ⟨An, cn, rfl⟩ := Kd.R_slice hrn
          have hS' : wn.cell? ⟨sb, 0, none⟩ = some (.slice a1 busy.length c1) ∧ wn.cell? ⟨sb, 1, none⟩ = some (.slice a2 fails.length c2) ∧ wn.cell? ⟨sb, 4, none⟩ = some (.slice a4 torn.length c4) := by obtain ⟨z0, z1, z2⟩ := hHeld; exact ⟨pw_cell_below hbn z0, pw_cell_below hbn z1, pw_cell_below hbn z2⟩
          have R4 := Lib.hid (Kd.R_lower hrn HW.out.size)
          try (replace R1 := Lib.hid (Kd.R_below R1.out hbn))
          try (replace R2 := Lib.hid (Kd.R_below R2.out hbn))
          try (replace M := Lib.hid (And.intro (M.out.1.below hbn) M.out.2))
          replace HSB := Lib.hid ((hbn.block _ (blk_lt HSB.out)).trans HSB.out)
          replace HW := Lib.hid (chainC (Nat.le_refl _) HW.out hbn)
          clear hrn hbn
          clear hHeld
          refine hK.out _ _ ?_ (fun hHeld => ?_)
          · exact hS'
          clear hK K
          refine norm_ (a' := ?_) ?_ ?_
          rotate_left
          · show Act.put _ (some 22) _ = _
            simp only [Act.put, List.setIfInBounds_toArray, List.set_cons_zero, List.set_cons_succ]
            rfl
          refine one_ (i := 9) (N := some 23) #[true, true, true, true, true, true, true, true, true, true, false, false, false] rfl rfl (by kernel_rfl) (by decide) (fun K hK => ?_)
          refine map_arm (by rfl) rfl rfl ?_
          intro mb wn hmn hbn hlo
          have hS' : wn.cell? ⟨sb, 0, none⟩ = some (.slice a1 busy.length c1) ∧ wn.cell? ⟨sb, 1, none⟩ = some (.slice a2 fails.length c2) ∧ wn.cell? ⟨sb, 4, none⟩ = some (.slice a4 torn.length c4) := by obtain ⟨z0, z1, z2⟩ := hHeld; exact ⟨pw_cell_below hbn z0, pw_cell_below hbn z1, pw_cell_below hbn z2⟩
          have M := Lib.hid (And.intro hmn (Nat.le_trans HW.out.size hlo))
          try (replace R1 := Lib.hid (Kd.R_below R1.out hbn))
          try (replace R2 := Lib.hid (Kd.R_below R2.out hbn))
          try (replace R4 := Lib.hid (Kd.R_below R4.out hbn))
          replace HSB := Lib.hid ((hbn.block _ (blk_lt HSB.out)).trans HSB.out)
          replace HW := Lib.hid (chainC (Nat.le_refl _) HW.out hbn)
          clear hmn hbn hlo
          clear hHeld
          refine hK.out _ _ ?_ (fun hHeld => ?_)
          · exact hS'
          clear hK K
          refine norm_ (a' := ?_) ?_ ?_
          rotate_left
          · show Act.put _ (some 23) _ = _
            simp only [Act.put, List.setIfInBounds_toArray, List.set_cons_zero, List.set_cons_succ]
            rfl
          refine pure_ (i := 10) (N := some 24) (v := ?_) (a' := ?_) #[true, true, true, true, true, true, true, true, true, true, true, false, false] rfl rfl (by kernel_rfl) (fun _ _ _ h => h) (Or.inl ⟨by rfl, ?_⟩) ?_ ?_
          rotate_left
          · intro w'
            go_simp
            with_reducible rfl
          rotate_left
          · simp only [Act.put, List.setIfInBounds_toArray, List.set_cons_zero, List.set_cons_succ]
            rfl
          refine one_ (i := 11) (N := some 25) #[true, true, true, true, true, true, true, true, true, true, true, true, false] rfl rfl (by kernel_rfl) (by decide) (fun K hK => ?_)
          refine value_ (w1 := ?_) (v := ?_) (by rfl) rfl ?_ ?_
          rotate_left 2
          · go_simp
            constructor
            · rfl
            · rfl
          clear hHeld
          refine hK.out _ _ ?_ (fun hHeld => ?_)
          · go_keep
          clear hK K
          refine norm_ (a' := ?_) ?_ ?_
          rotate_left
          · show Act.put _ (some 25) _ = _
            simp only [Act.put, List.setIfInBounds_toArray, List.set_cons_zero, List.set_cons_succ]
            rfl
          refine pure_ (i := 12) (N := some 6) (v := ?_) (a' := ?_) #[true, true, true, true, true, true, true, true, true, true, true, true, true] rfl rfl (by kernel_rfl) (fun _ _ _ h => h) (Or.inl ⟨by rfl, ?_⟩) ?_ ?_
          rotate_left
          · intro w'
            go_simp
            with_reducible rfl
          rotate_left
          · simp only [Act.put, List.setIfInBounds_toArray, List.set_cons_zero, List.set_cons_succ]
            rfl
          refine done_ (by kernel_rfl) ?_
          refine NoPanic.normal ?_
          have FIN := Lib.hid (tel_new HW.out R1.out R2.out R4.out M.out)
          go_wp2_with fail
          go_meet
          case rel => exact ⟨_, _, rfl, Lib.hid FIN.out.1, Lib.hid FIN.out.2.1, Lib.hid FIN.out.2.2, Lib.hid ((Below.heap_alloc _ _ sb (blk_lt HSB.out)).trans HSB.out)⟩
        · refine map_arm (by rfl) rfl rfl ?_
          intro mb wn hmn hbn hlo
          have hS' : wn.cell? ⟨sb, 0, none⟩ = some (.slice a1 busy.length c1) ∧ wn.cell? ⟨sb, 1, none⟩ = some (.slice a2 fails.length c2) ∧ wn.cell? ⟨sb, 4, none⟩ = some (.slice a4 torn.length c4) := by obtain ⟨z0, z1, z2⟩ := hHeld; exact ⟨pw_cell_below hbn z0, pw_cell_below hbn z1, pw_cell_below hbn z2⟩
          have M := Lib.hid (And.intro hmn (Nat.le_trans HW.out.size hlo))
          try (replace R1 := Lib.hid (Kd.R_below R1.out hbn))
          try (replace R2 := Lib.hid (Kd.R_below R2.out hbn))
          try (replace R4 := Lib.hid (Kd.R_below R4.out hbn))
          replace HSB := Lib.hid ((hbn.block _ (blk_lt HSB.out)).trans HSB.out)
          replace HW := Lib.hid (chainC (Nat.le_refl _) HW.out hbn)
          clear hmn hbn hlo
          clear hHeld
          refine hK.out _ _ ?_ (fun hHeld => ?_)
          · exact hS'
          clear hK K
          refine norm_ (a' := ?_) ?_ ?_
          rotate_left
          · show Act.put _ (some 23) _ = _
            simp only [Act.put, List.setIfInBounds_toArray, List.set_cons_zero, List.set_cons_succ]
            rfl
          refine one_ (i := 8) (N := some 22) #[true, true, true, true, true, true, true, true, true, true, false, false, false] rfl rfl (by kernel_rfl) (by decide) (fun K hK => ?_)
          refine goes_ (N := some 22) Try.func95 (by kernel_rfl) rfl #[.slice a4 torn.length c4] (by rfl) rfl rfl (by simp only [List.map_toArray, List.map_cons, List.map_nil]; rfl) ?_
          refine (H4.out _ HW.out).mono ?_
          rintro e wn ⟨⟨vn, rfl, hrn⟩, hbn⟩
          refine ⟨_, rfl, ?_⟩
          obtain ⟨An, cn, rfl⟩ := Kd.R_slice hrn
          have hS' : wn.cell? ⟨sb, 0, none⟩ = some (.slice a1 busy.length c1) ∧ wn.cell? ⟨sb, 1, none⟩ = some (.slice a2 fails.length c2) ∧ wn.cell? ⟨sb, 4, none⟩ = some (.slice a4 torn.length c4) := by obtain ⟨z0, z1, z2⟩ := hHeld; exact ⟨pw_cell_below hbn z0, pw_cell_below hbn z1, pw_cell_below hbn z2⟩
          have R4 := Lib.hid (Kd.R_lower hrn HW.out.size)
          try (replace R1 := Lib.hid (Kd.R_below R1.out hbn))
          try (replace R2 := Lib.hid (Kd.R_below R2.out hbn))
          try (replace M := Lib.hid (And.intro (M.out.1.below hbn) M.out.2))
          replace HSB := Lib.hid ((hbn.block _ (blk_lt HSB.out)).trans HSB.out)
          replace HW := Lib.hid (chainC (Nat.le_refl _) HW.out hbn)
          clear hrn hbn
          clear hHeld
          refine hK.out _ _ ?_ (fun hHeld => ?_)
          · exact hS'
          clear hK K
          refine norm_ (a' := ?_) ?_ ?_
          rotate_left
          · show Act.put _ (some 22) _ = _
            simp only [Act.put, List.setIfInBounds_toArray, List.set_cons_zero, List.set_cons_succ]
            rfl
          refine pure_ (i := 10) (N := some 24) (v := ?_) (a' := ?_) #[true, true, true, true, true, true, true, true, true, true, true, false, false] rfl rfl (by kernel_rfl) (fun _ _ _ h => h) (Or.inl ⟨by rfl, ?_⟩) ?_ ?_
          rotate_left
          · intro w'
            go_simp
            with_reducible rfl
          rotate_left
          · simp only [Act.put, List.setIfInBounds_toArray, List.set_cons_zero, List.set_cons_succ]
            rfl
          refine one_ (i := 11) (N := some 25) #[true, true, true, true, true, true, true, true, true, true, true, true, false] rfl rfl (by kernel_rfl) (by decide) (fun K hK => ?_)
          refine value_ (w1 := ?_) (v := ?_) (by rfl) rfl ?_ ?_
          rotate_left 2
          · go_simp
            constructor
            · rfl
            · rfl
          clear hHeld
          refine hK.out _ _ ?_ (fun hHeld => ?_)
          · go_keep
          clear hK K
          refine norm_ (a' := ?_) ?_ ?_
          rotate_left
          · show Act.put _ (some 25) _ = _
            simp only [Act.put, List.setIfInBounds_toArray, List.set_cons_zero, List.set_cons_succ]
            rfl
          refine pure_ (i := 12) (N := some 6) (v := ?_) (a' := ?_) #[true, true, true, true, true, true, true, true, true, true, true, true, true] rfl rfl (by kernel_rfl) (fun _ _ _ h => h) (Or.inl ⟨by rfl, ?_⟩) ?_ ?_
          rotate_left
          · intro w'
            go_simp
            with_reducible rfl
          rotate_left
          · simp only [Act.put, List.setIfInBounds_toArray, List.set_cons_zero, List.set_cons_succ]
            rfl
          refine done_ (by kernel_rfl) ?_
          refine NoPanic.normal ?_
          have FIN := Lib.hid (tel_new HW.out R1.out R2.out R4.out M.out)
          go_wp2_with fail
          go_meet
          case rel => exact ⟨_, _, rfl, Lib.hid FIN.out.1, Lib.hid FIN.out.2.1, Lib.hid FIN.out.2.2, Lib.hid ((Below.heap_alloc _ _ sb (blk_lt HSB.out)).trans HSB.out)⟩
      · refine map_arm (by rfl) rfl rfl ?_
        intro mb wn hmn hbn hlo
        have hS' : wn.cell? ⟨sb, 0, none⟩ = some (.slice a1 busy.length c1) ∧ wn.cell? ⟨sb, 1, none⟩ = some (.slice a2 fails.length c2) ∧ wn.cell? ⟨sb, 4, none⟩ = some (.slice a4 torn.length c4) := by obtain ⟨z0, z1, z2⟩ := hHeld; exact ⟨pw_cell_below hbn z0, pw_cell_below hbn z1, pw_cell_below hbn z2⟩
        have M := Lib.hid (And.intro hmn (Nat.le_trans HW.out.size hlo))
        try (replace R1 := Lib.hid (Kd.R_below R1.out hbn))
        try (replace R2 := Lib.hid (Kd.R_below R2.out hbn))
        try (replace R4 := Lib.hid (Kd.R_below R4.out hbn))
        replace HSB := Lib.hid ((hbn.block _ (blk_lt HSB.out)).trans HSB.out)
        replace HW := Lib.hid (chainC (Nat.le_refl _) HW.out hbn)
        clear hmn hbn hlo
        clear hHeld
        refine hK.out _ _ ?_ (fun hHeld => ?_)
        · exact hS'
        clear hK K
        refine norm_ (a' := ?_) ?_ ?_
        rotate_left
        · show Act.put _ (some 23) _ = _
          simp only [Act.put, List.setIfInBounds_toArray, List.set_cons_zero, List.set_cons_succ]
          rfl
        refine one_ (i := 5) (N := some 19) #[true, true, true, true, true, true, true, true, false, true, false, false, false] rfl rfl (by kernel_rfl) (by decide) (fun K hK => ?_)
        refine goes_ (N := some 19) Try.func94 (by kernel_rfl) rfl #[.slice a2 fails.length c2] (by rfl) rfl rfl (by simp only [List.map_toArray, List.map_cons, List.map_nil]; rfl) ?_
        refine (H2.out _ HW.out).mono ?_
        rintro e wn ⟨⟨vn, rfl, hrn⟩, hbn⟩
        refine ⟨_, rfl, ?_⟩
        obtain ⟨An, cn, rfl⟩ := Kd.R_slice hrn
        have hS' : wn.cell? ⟨sb, 0, none⟩ = some (.slice a1 busy.length c1) ∧ wn.cell? ⟨sb, 1, none⟩ = some (.slice a2 fails.length c2) ∧ wn.cell? ⟨sb, 4, none⟩ = some (.slice a4 torn.length c4) := by obtain ⟨z0, z1, z2⟩ := hHeld; exact ⟨pw_cell_below hbn z0, pw_cell_below hbn z1, pw_cell_below hbn z2⟩
        have R2 := Lib.hid (Kd.R_lower hrn HW.out.size)
        try (replace R1 := Lib.hid (Kd.R_below R1.out hbn))
        try (replace M := Lib.hid (And.intro (M.out.1.below hbn) M.out.2))
        replace HSB := Lib.hid ((hbn.block _ (blk_lt HSB.out)).trans HSB.out)
        replace HW := Lib.hid (chainC (Nat.le_refl _) HW.out hbn)
        clear hrn hbn
        clear hHeld
        refine hK.out _ _ ?_ (fun hHeld => ?_)
        · exact hS'
        clear hK K
        refine norm_ (a' := ?_) ?_ ?_
        rotate_left
        · show Act.put _ (some 19) _ = _
          simp only [Act.put, List.setIfInBounds_toArray, List.set_cons_zero, List.set_cons_succ]
          rfl
        refine one_ (i := 8) (N := some 22) #[true, true, true, true, true, true, true, true, true, true, false, false, false] rfl rfl (by kernel_rfl) (by decide) (fun K hK => ?_)
        refine goes_ (N := some 22) Try.func95 (by kernel_rfl) rfl #[.slice a4 torn.length c4] (by rfl) rfl rfl (by simp only [List.map_toArray, List.map_cons, List.map_nil]; rfl) ?_
        refine (H4.out _ HW.out).mono ?_
        rintro e wn ⟨⟨vn, rfl, hrn⟩, hbn⟩
        refine ⟨_, rfl, ?_⟩
        obtain ⟨An, cn, rfl⟩ := Kd.R_slice hrn
        have hS' : wn.cell? ⟨sb, 0, none⟩ = some (.slice a1 busy.length c1) ∧ wn.cell? ⟨sb, 1, none⟩ = some (.slice a2 fails.length c2) ∧ wn.cell? ⟨sb, 4, none⟩ = some (.slice a4 torn.length c4) := by obtain ⟨z0, z1, z2⟩ := hHeld; exact ⟨pw_cell_below hbn z0, pw_cell_below hbn z1, pw_cell_below hbn z2⟩
        have R4 := Lib.hid (Kd.R_lower hrn HW.out.size)
        try (replace R1 := Lib.hid (Kd.R_below R1.out hbn))
        try (replace R2 := Lib.hid (Kd.R_below R2.out hbn))
        try (replace M := Lib.hid (And.intro (M.out.1.below hbn) M.out.2))
        replace HSB := Lib.hid ((hbn.block _ (blk_lt HSB.out)).trans HSB.out)
        replace HW := Lib.hid (chainC (Nat.le_refl _) HW.out hbn)
        clear hrn hbn
        clear hHeld
        refine hK.out _ _ ?_ (fun hHeld => ?_)
        · exact hS'
        clear hK K
        refine norm_ (a' := ?_) ?_ ?_
        rotate_left
        · show Act.put _ (some 22) _ = _
          simp only [Act.put, List.setIfInBounds_toArray, List.set_cons_zero, List.set_cons_succ]
          rfl
        refine pure_ (i := 10) (N := some 24) (v := ?_) (a' := ?_) #[true, true, true, true, true, true, true, true, true, true, true, false, false] rfl rfl (by kernel_rfl) (fun _ _ _ h => h) (Or.inl ⟨by rfl, ?_⟩) ?_ ?_
        rotate_left
        · intro w'
          go_simp
          with_reducible rfl
        rotate_left
        · simp only [Act.put, List.setIfInBounds_toArray, List.set_cons_zero, List.set_cons_succ]
          rfl
        refine one_ (i := 11) (N := some 25) #[true, true, true, true, true, true, true, true, true, true, true, true, false] rfl rfl (by kernel_rfl) (by decide) (fun K hK => ?_)
        refine value_ (w1 := ?_) (v := ?_) (by rfl) rfl ?_ ?_
        rotate_left 2
        · go_simp
          constructor
          · rfl
          · rfl
        clear hHeld
        refine hK.out _ _ ?_ (fun hHeld => ?_)
        · go_keep
        clear hK K
        refine norm_ (a' := ?_) ?_ ?_
        rotate_left
        · show Act.put _ (some 25) _ = _
          simp only [Act.put, List.setIfInBounds_toArray, List.set_cons_zero, List.set_cons_succ]
          rfl
        refine pure_ (i := 12) (N := some 6) (v := ?_) (a' := ?_) #[true, true, true, true, true, true, true, true, true, true, true, true, true] rfl rfl (by kernel_rfl) (fun _ _ _ h => h) (Or.inl ⟨by rfl, ?_⟩) ?_ ?_
        rotate_left
        · intro w'
          go_simp
          with_reducible rfl
        rotate_left
        · simp only [Act.put, List.setIfInBounds_toArray, List.set_cons_zero, List.set_cons_succ]
          rfl
        refine done_ (by kernel_rfl) ?_
        refine NoPanic.normal ?_
        have FIN := Lib.hid (tel_new HW.out R1.out R2.out R4.out M.out)
        go_wp2_with fail
        go_meet
        case rel => exact ⟨_, _, rfl, Lib.hid FIN.out.1, Lib.hid FIN.out.2.1, Lib.hid FIN.out.2.2, Lib.hid ((Below.heap_alloc _ _ sb (blk_lt HSB.out)).trans HSB.out)⟩
    · refine map_arm (by rfl) rfl rfl ?_
      intro mb wn hmn hbn hlo
      have hS' : wn.cell? ⟨sb, 0, none⟩ = some (.slice a1 busy.length c1) ∧ wn.cell? ⟨sb, 1, none⟩ = some (.slice a2 fails.length c2) ∧ wn.cell? ⟨sb, 4, none⟩ = some (.slice a4 torn.length c4) := by obtain ⟨z0, z1, z2⟩ := hHeld; exact ⟨pw_cell_below hbn z0, pw_cell_below hbn z1, pw_cell_below hbn z2⟩
      have M := Lib.hid (And.intro hmn (Nat.le_trans HW.out.size hlo))
      try (replace R1 := Lib.hid (Kd.R_below R1.out hbn))
      try (replace R2 := Lib.hid (Kd.R_below R2.out hbn))
      try (replace R4 := Lib.hid (Kd.R_below R4.out hbn))
      replace HSB := Lib.hid ((hbn.block _ (blk_lt HSB.out)).trans HSB.out)
      replace HW := Lib.hid (chainC (Nat.le_refl _) HW.out hbn)
      clear hmn hbn hlo
      clear hHeld
      refine hK.out _ _ ?_ (fun hHeld => ?_)
      · exact hS'
      clear hK K
      refine norm_ (a' := ?_) ?_ ?_
      rotate_left
      · show Act.put _ (some 23) _ = _
        simp only [Act.put, List.setIfInBounds_toArray, List.set_cons_zero, List.set_cons_succ]
        rfl
      refine one_ (i := 2) (N := some 16) #[true, true, true, true, true, false, true, true, false, true, false, false, false] rfl rfl (by kernel_rfl) (by decide) (fun K hK => ?_)
      refine goes_ (N := some 16) Try.func94 (by kernel_rfl) rfl #[.slice a1 busy.length c1] (by rfl) rfl rfl (by simp only [List.map_toArray, List.map_cons, List.map_nil]; rfl) ?_
      refine (H1.out _ HW.out).mono ?_
      rintro e wn ⟨⟨vn, rfl, hrn⟩, hbn⟩
      refine ⟨_, rfl, ?_⟩
      obtain ⟨An, cn, rfl⟩ := Kd.R_slice hrn
      have hS' : wn.cell? ⟨sb, 0, none⟩ = some (.slice a1 busy.length c1) ∧ wn.cell? ⟨sb, 1, none⟩ = some (.slice a2 fails.length c2) ∧ wn.cell? ⟨sb, 4, none⟩ = some (.slice a4 torn.length c4) := by obtain ⟨z0, z1, z2⟩ := hHeld; exact ⟨pw_cell_below hbn z0, pw_cell_below hbn z1, pw_cell_below hbn z2⟩
      have R1 := Lib.hid (Kd.R_lower hrn HW.out.size)
      try (replace M := Lib.hid (And.intro (M.out.1.below hbn) M.out.2))
      replace HSB := Lib.hid ((hbn.block _ (blk_lt HSB.out)).trans HSB.out)
      replace HW := Lib.hid (chainC (Nat.le_refl _) HW.out hbn)
      clear hrn hbn
      clear hHeld
      refine hK.out _ _ ?_ (fun hHeld => ?_)
      · exact hS'
      clear hK K
      refine norm_ (a' := ?_) ?_ ?_
      rotate_left
      · show Act.put _ (some 16) _ = _
        simp only [Act.put, List.setIfInBounds_toArray, List.set_cons_zero, List.set_cons_succ]
        rfl
      refine one_ (i := 5) (N := some 19) #[true, true, true, true, true, true, true, true, false, true, false, false, false] rfl rfl (by kernel_rfl) (by decide) (fun K hK => ?_)
      refine goes_ (N := some 19) Try.func94 (by kernel_rfl) rfl #[.slice a2 fails.length c2] (by rfl) rfl rfl (by simp only [List.map_toArray, List.map_cons, List.map_nil]; rfl) ?_
      refine (H2.out _ HW.out).mono ?_
      rintro e wn ⟨⟨vn, rfl, hrn⟩, hbn⟩
      refine ⟨_, rfl, ?_⟩
      obtain ⟨An, cn, rfl⟩ := Kd.R_slice hrn
      have hS' : wn.cell? ⟨sb, 0, none⟩ = some (.slice a1 busy.length c1) ∧ wn.cell? ⟨sb, 1, none⟩ = some (.slice a2 fails.length c2) ∧ wn.cell? ⟨sb, 4, none⟩ = some (.slice a4 torn.length c4) := by obtain ⟨z0, z1, z2⟩ := hHeld; exact ⟨pw_cell_below hbn z0, pw_cell_below hbn z1, pw_cell_below hbn z2⟩
      have R2 := Lib.hid (Kd.R_lower hrn HW.out.size)
      try (replace R1 := Lib.hid (Kd.R_below R1.out hbn))
      try (replace M := Lib.hid (And.intro (M.out.1.below hbn) M.out.2))
      replace HSB := Lib.hid ((hbn.block _ (blk_lt HSB.out)).trans HSB.out)
      replace HW := Lib.hid (chainC (Nat.le_refl _) HW.out hbn)
      clear hrn hbn
      clear hHeld
      refine hK.out _ _ ?_ (fun hHeld => ?_)
      · exact hS'
      clear hK K
      refine norm_ (a' := ?_) ?_ ?_
      rotate_left
      · show Act.put _ (some 19) _ = _
        simp only [Act.put, List.setIfInBounds_toArray, List.set_cons_zero, List.set_cons_succ]
        rfl
      refine one_ (i := 8) (N := some 22) #[true, true, true, true, true, true, true, true, true, true, false, false, false] rfl rfl (by kernel_rfl) (by decide) (fun K hK => ?_)
      refine goes_ (N := some 22) Try.func95 (by kernel_rfl) rfl #[.slice a4 torn.length c4] (by rfl) rfl rfl (by simp only [List.map_toArray, List.map_cons, List.map_nil]; rfl) ?_
      refine (H4.out _ HW.out).mono ?_
      rintro e wn ⟨⟨vn, rfl, hrn⟩, hbn⟩
      refine ⟨_, rfl, ?_⟩
      obtain ⟨An, cn, rfl⟩ := Kd.R_slice hrn
      have hS' : wn.cell? ⟨sb, 0, none⟩ = some (.slice a1 busy.length c1) ∧ wn.cell? ⟨sb, 1, none⟩ = some (.slice a2 fails.length c2) ∧ wn.cell? ⟨sb, 4, none⟩ = some (.slice a4 torn.length c4) := by obtain ⟨z0, z1, z2⟩ := hHeld; exact ⟨pw_cell_below hbn z0, pw_cell_below hbn z1, pw_cell_below hbn z2⟩
      have R4 := Lib.hid (Kd.R_lower hrn HW.out.size)
      try (replace R1 := Lib.hid (Kd.R_below R1.out hbn))
      try (replace R2 := Lib.hid (Kd.R_below R2.out hbn))
      try (replace M := Lib.hid (And.intro (M.out.1.below hbn) M.out.2))
      replace HSB := Lib.hid ((hbn.block _ (blk_lt HSB.out)).trans HSB.out)
      replace HW := Lib.hid (chainC (Nat.le_refl _) HW.out hbn)
      clear hrn hbn
      clear hHeld
      refine hK.out _ _ ?_ (fun hHeld => ?_)
      · exact hS'
      clear hK K
      refine norm_ (a' := ?_) ?_ ?_
      rotate_left
      · show Act.put _ (some 22) _ = _
        simp only [Act.put, List.setIfInBounds_toArray, List.set_cons_zero, List.set_cons_succ]
        rfl
      refine pure_ (i := 10) (N := some 24) (v := ?_) (a' := ?_) #[true, true, true, true, true, true, true, true, true, true, true, false, false] rfl rfl (by kernel_rfl) (fun _ _ _ h => h) (Or.inl ⟨by rfl, ?_⟩) ?_ ?_
      rotate_left
      · intro w'
        go_simp
        with_reducible rfl
      rotate_left
      · simp only [Act.put, List.setIfInBounds_toArray, List.set_cons_zero, List.set_cons_succ]
        rfl
      refine one_ (i := 11) (N := some 25) #[true, true, true, true, true, true, true, true, true, true, true, true, false] rfl rfl (by kernel_rfl) (by decide) (fun K hK => ?_)
      refine value_ (w1 := ?_) (v := ?_) (by rfl) rfl ?_ ?_
      rotate_left 2
      · go_simp
        constructor
        · rfl
        · rfl
      clear hHeld
      refine hK.out _ _ ?_ (fun hHeld => ?_)
      · go_keep
      clear hK K
      refine norm_ (a' := ?_) ?_ ?_
      rotate_left
      · show Act.put _ (some 25) _ = _
        simp only [Act.put, List.setIfInBounds_toArray, List.set_cons_zero, List.set_cons_succ]
        rfl
      refine pure_ (i := 12) (N := some 6) (v := ?_) (a' := ?_) #[true, true, true, true, true, true, true, true, true, true, true, true, true] rfl rfl (by kernel_rfl) (fun _ _ _ h => h) (Or.inl ⟨by rfl, ?_⟩) ?_ ?_
      rotate_left
      · intro w'
        go_simp
        with_reducible rfl
      rotate_left
      · simp only [Act.put, List.setIfInBounds_toArray, List.set_cons_zero, List.set_cons_succ]
        rfl
      refine done_ (by kernel_rfl) ?_
      refine NoPanic.normal ?_
      have FIN := Lib.hid (tel_new HW.out R1.out R2.out R4.out M.out)
      go_wp2_with fail
      go_meet
      case rel => exact ⟨_, _, rfl, Lib.hid FIN.out.1, Lib.hid FIN.out.2.1, Lib.hid FIN.out.2.2, Lib.hid ((Below.heap_alloc _ _ sb (blk_lt HSB.out)).trans HSB.out)⟩
  case rest =>
    obtain ⟨p, mb, rfl, HTB, HMP, HB, HS⟩ := hcut
    clear HW HSB H1 H2 H4
    have s2 := blk_cell HS.out 2
    obtain ⟨m, hm⟩ : ∃ m, m = turns.length := ⟨_, rfl⟩
    rw [← hm] at s2
    have HM := Lib.hid hm
    have HM2 : Hid (m ≤ 100) := Lib.hid (by have := HL3.out; omega)
    have HNl : Hid (wc.heap.size ≤ wc.heap.size) := Lib.hid (Nat.le_refl _)
    have HRW := Lib.hid (Rows.nil wc w.heap.size wc.heap.size)
    obtain ⟨Nl, hNl⟩ : ∃ Nl, Nl = wc.heap.size := ⟨_, rfl⟩
    rw [← hNl] at HTB HRW
    have HNL : Hid (Nl ≤ wc.heap.size) := Lib.hid (Nat.le_of_eq hNl)
    clear hm hNl HNl
    go_wp2_with fail
    clear s2
    go_loopw [29] (fun i wr => ∃ (k : Nat) (vs : Wv), k ≤ m ∧ i = .int .i64 k ∧ Hid (TelB wr w.heap.size Nl p mb busy fails torn) ∧ Hid (MapIs kW okW wr mb vs) ∧ Hid (Rows wr w.heap.size Nl vs (bitsOf (turns.take k))) ∧ Hid (Below w.heap.size w wr) ∧ Hid (Nl ≤ wr.heap.size)) (fun i _ => m - (intOf i).toNat)
    case atStart => exact ⟨0, [], by omega, rfl, HTB, HMP, HRW, HB, HNL⟩
    case round =>
      clear HTB HMP HRW HB HNL HS
      obtain ⟨k, vs, hk, rfl, HTB, HMP, HRW, HB, HNL⟩ := hrel
      by_cases hkm : k < m
      · have hkx : k < turns.length := by rw [← HM.out]; exact hkm
        have hC := Kd.C_below HC3.out HB.out
        obtain ⟨b, off, rfl, _, hcell⟩ := rowT hC (by omega)
        obtain ⟨x0, x1, x2⟩ := hcell k hkx
        have hmem := List.getElem_mem hkx
        have hts : turns.take (k + 1) = turns.take k ++ [turns[k]] := List.take_succ_eq_append_getElem hkx
        generalize turns[k] = t at x0 x1 x2 hmem hts
        obtain ⟨ta, tr, td⟩ := t
        have hot := HOK.out _ hmem
        have OKQ : Hid (okW (ta, tr)) := Lib.hid (by
          unfold okT inB at hot
          simp only [Bool.and_eq_true, decide_eq_true_eq] at hot
          exact ⟨okI_of (by omega) (by omega), okI_of (by omega) (by omega)⟩)
        have HBS := Lib.hid ((bits_step (turns.take k) (ta, tr, td)).symm.trans (by rw [hts]) : _ = bitsOf (turns.take (k + 1)))
        have HBL : Hid ((bitsOf (turns.take k) (ta, tr)).length ≤ 1000) := Lib.hid (by have := bitsOf_len (turns.take k) (ta, tr); have : (turns.take k).length ≤ k := List.length_take_le _ _; have := HM2.out; omega)
        obtain ⟨vo, hvo⟩ : ∃ vo, (mget vs (ta, tr)).getD (.slice none 0 0) = vo := ⟨_, rfl⟩
        have HVO := Lib.hid hvo
        have hk0 : (k : Int) < (m : Int) := by omega
        have hm100 : (m : Int) ≤ 100 := by have := HM2.out; omega
        clear hcell hmem hts hot hvo hC hkx
        obtain ⟨ht8, hk8⟩ := two_new2 wr #[.int .i64 ta, .int .i64 tr, .int .i64 td] #[.int .i64 ta, .int .i64 tr] 83 153
        have hb8 := chainC (Nat.le_refl _) (alloc_below wr (.cells #[.int .i64 ta, .int .i64 tr, .int .i64 td] 83)) (alloc_below (wr.alloc (.cells #[.int .i64 ta, .int .i64 tr, .int .i64 td] 83)) (.cells #[.int .i64 ta, .int .i64 tr] 153))
        have MP := Lib.hid (HMP.out.below hb8)
        have ST : Hid (St8 w _ Nl p mb (wr.heap.size + 1) wr.heap.size busy fails torn vs (bitsOf (turns.take k)) (ta, tr, td)) := Lib.hid ⟨chainC (Nat.le_refl _) HB.out hb8, HTB.out.below hb8, HRW.out.move (fun q v k hq hk => hb8.block k (HRW.out.own hq hk).1), Nat.le_trans HNL.out hb8.size, hk8, ht8, by obtain ⟨es, c, hm, _⟩ := MP.out; exact ⟨es, c, hm⟩⟩
        clear ht8 hk8 hb8 HMP HTB HRW HB HNL
        go_upto_region 8 with fail
        obtain ⟨tb, htb⟩ : ∃ tb, tb = wr.heap.size := ⟨_, rfl⟩
        rw [← htb] at ST ⊢
        clear htb
        obtain ⟨kb, hkb⟩ : ∃ kb, kb = tb + 1 := ⟨_, rfl⟩
        rw [← hkb] at ST ⊢
        clear hkb
        generalize ((wr.alloc (.cells #[.int .i64 ta, .int .i64 tr, .int .i64 td] 83)).alloc (.cells #[.int .i64 ta, .int .i64 tr] 153)) = W at ST MP ⊢
        replace ST := Lib.hid (ST.out.below (w' := W.drew) (pw_below_drewN (Below.refl _ _) 1))
        replace MP := Lib.hid (MP.out.drewN 1)
        have HS0 : Hid (_) := Lib.hid ST.out.S
        refine wp_region_noPanic ?_
        refine start_ (n := 13) (S := fun w' => w'.cell? ⟨p, 2, none⟩ = some (.map (some mb)) ∧ w'.cell? ⟨kb, 0, none⟩ = some (.int .i64 ta) ∧ w'.cell? ⟨kb, 1, none⟩ = some (.int .i64 tr) ∧ w'.cell? ⟨tb, 2, none⟩ = some (.int .i64 td)) (ds := [12]) #[false, false, false, false, false, false, false, false, false, false, false, false, false] (by kernel_rfl) rfl rfl HS0.out (fun hHeld => ?_)
        refine pure_ (i := 0) (N := some 38) (v := ?_) (a' := ?_) #[true, false, false, false, false, false, false, false, false, false, false, false, false] rfl rfl (by kernel_rfl) (fun _ _ _ h => h) (Or.inl ⟨by rfl, ?_⟩) ?_ ?_
        rotate_left
        · intro w'
          go_simp
          with_reducible rfl
        rotate_left
        · simp only [Act.put, List.setIfInBounds_toArray, List.set_cons_zero, List.set_cons_succ]
          rfl
        refine pure_ (i := 1) (N := some 39) (v := ?_) (a' := ?_) #[true, true, false, false, false, false, false, false, false, false, false, false, false] rfl rfl (by kernel_rfl) (fun _ _ _ h => h) (Or.inl ⟨by rfl, ?_⟩) ?_ ?_
        rotate_left
        · intro w'
          go_simp
          with_reducible rfl
        rotate_left
        · simp only [Act.put, List.setIfInBounds_toArray, List.set_cons_zero, List.set_cons_succ]
          rfl
        refine pure_ (i := 2) (N := some 40) (v := ?_) (a' := ?_) #[true, true, true, false, false, false, false, false, false, false, false, false, false] rfl rfl (by kernel_rfl) (fun _ _ _ h => h) (Or.inl ⟨by rfl, ?_⟩) ?_ ?_
        rotate_left
        · intro w'
          go_simp
          with_reducible rfl
        rotate_left
        · simp only [Act.put, List.setIfInBounds_toArray, List.set_cons_zero, List.set_cons_succ]
          rfl
        refine pure_ (i := 5) (N := some 44) (v := ?_) (a' := ?_) #[true, true, true, false, false, true, false, false, false, false, false, false, false] rfl rfl (by kernel_rfl) (fun _ _ _ h => h) (Or.inl ⟨by rfl, ?_⟩) ?_ ?_
        rotate_left
        · intro w'
          go_simp
          with_reducible rfl
        rotate_left
        · simp only [Act.put, List.setIfInBounds_toArray, List.set_cons_zero, List.set_cons_succ]
          rfl
        refine take_ (i := 3) (N := some 41) (v := ?_) (a' := ?_) #[true, true, true, true, false, true, false, false, false, false, false, false, false] rfl rfl (by kernel_rfl) (fun _ _ _ h => h) (Or.inl ⟨by rfl, ?_⟩) hHeld ?_ ?_
        rotate_left
        · rintro w' ⟨s0, s1, s2, s3⟩
          go_simp
          with_reducible rfl
        rotate_left
        · simp only [Act.put, List.setIfInBounds_toArray, List.set_cons_zero, List.set_cons_succ]
          rfl
        refine take_ (i := 4) (N := some 42) (v := ?_) (a' := ?_) #[true, true, true, true, true, true, false, false, false, false, false, false, false] rfl rfl (by kernel_rfl) (fun _ _ _ h => h) (Or.inl ⟨by rfl, ?_⟩) hHeld ?_ ?_
        rotate_left
        · rintro w' ⟨s0, s1, s2, s3⟩
          go_simp
          with_reducible rfl
        rotate_left
        · simp only [Act.put, List.setIfInBounds_toArray, List.set_cons_zero, List.set_cons_succ]
          rfl
        refine take_ (i := 6) (N := some 45) (v := ?_) (a' := ?_) #[true, true, true, true, true, true, true, false, false, false, false, false, false] rfl rfl (by kernel_rfl) (fun _ _ _ h => h) (Or.inl ⟨by rfl, ?_⟩) hHeld ?_ ?_
        rotate_left
        · rintro w' ⟨s0, s1, s2, s3⟩
          go_simp
          with_reducible rfl
        rotate_left
        · simp only [Act.put, List.setIfInBounds_toArray, List.set_cons_zero, List.set_cons_succ]
          rfl
        refine one_ (i := 7) (N := some 46) #[true, true, true, true, true, true, true, true, false, false, false, false, false] rfl rfl (by kernel_rfl) (by decide) (fun K hK => ?_)
        refine new_arm (x := .int .i64 td) (by rfl) rfl (by go_simp) ?_
        intro xb wn hbn hxb
        have ST1 := Lib.hid (ST.out.below hbn)
        have MP1 := Lib.hid (MP.out.below hbn)
        have XB := Lib.hid hxb
        clear hbn hxb
        clear hHeld
        refine hK.out _ _ ?_ (fun hHeld => ?_)
        · exact ST1.out.S
        clear hK K
        refine norm_ (a' := ?_) ?_ ?_
        rotate_left
        · show Act.put _ (some 46) _ = _
          simp only [Act.put, List.setIfInBounds_toArray, List.set_cons_zero, List.set_cons_succ]
          rfl
        refine one_ (i := 8) (N := some 47) #[true, true, true, true, true, true, true, true, true, false, false, false, false] rfl rfl (by kernel_rfl) (by decide) (fun K hK => ?_)
        refine entry_arm (by rfl) rfl (.tmp 41) (.tmp 42) rfl (by rfl) (by rfl) MP1.out OKQ.out HVO.out ?_
        intro sv wm hgn hsn hen hisM
        have ST2 := Lib.hid (ST1.out.entered hgn hisM)
        have XB2 := Lib.hid ((hgn.block _ (blk_lt XB.out) (fun e => ST1.out.ne XB.out (by injection e))).trans XB.out)
        have EN2 := Lib.hid hen
        clear hgn hsn hen hisM
        clear hHeld
        refine hK.out _ _ ?_ (fun hHeld => ?_)
        · exact ST2.out.S
        clear hK K
        refine norm_ (a' := ?_) ?_ ?_
        rotate_left
        · show Act.put _ (some 47) _ = _
          simp only [Act.put, List.setIfInBounds_toArray, List.set_cons_zero, List.set_cons_succ]
          rfl
        refine pure_ (i := 9) (N := some 43) (v := ?_) (a' := ?_) #[true, true, true, true, true, true, true, true, true, true, false, false, false] rfl rfl (by kernel_rfl) (fun _ _ _ h => h) (Or.inl ⟨by rfl, ?_⟩) ?_ ?_
        rotate_left
        · intro w'
          go_simp
          with_reducible rfl
        rotate_left
        · simp only [Act.put, List.setIfInBounds_toArray, List.set_cons_zero, List.set_cons_succ]
          rfl
        refine pure_ (i := 11) (N := some 49) (v := ?_) (a' := ?_) #[true, true, true, true, true, true, true, true, true, true, false, true, false] rfl rfl (by kernel_rfl) (fun _ _ _ h => h) (Or.inl ⟨by rfl, ?_⟩) ?_ ?_
        rotate_left
        · intro w'
          go_simp
          with_reducible rfl
        rotate_left
        · simp only [Act.put, List.setIfInBounds_toArray, List.set_cons_zero, List.set_cons_succ]
          rfl
        refine one_ (i := 10) (N := some 48) #[true, true, true, true, true, true, true, true, true, true, true, true, false] rfl rfl (by kernel_rfl) (by decide) (fun K hK => ?_)
        refine app_arm (by rfl) rfl (.tmp 43) (.tmp 46) rfl (by rfl) (by rfl) ST2.out XB2.out HVO.out EN2.out HBL.out ?_
        intro A5 n5 c5 w5 w3 hst5 hrun5 hst3 hmp3
        have ST5 := Lib.hid hst5
        have ST3 := Lib.hid hst3
        have MP3 := Lib.hid hmp3
        clear hst5 hst3 hmp3
        clear hHeld
        refine hK.out _ _ ?_ (fun hHeld => ?_)
        · exact ST5.out.S
        clear hK K
        refine norm_ (a' := ?_) ?_ ?_
        rotate_left
        · show Act.put _ (some 48) _ = _
          simp only [Act.put, List.setIfInBounds_toArray, List.set_cons_zero, List.set_cons_succ]
          rfl
        refine last_ (i := 12) (N := none) #[true, true, true, true, true, true, true, true, true, true, true, true, true] rfl rfl (by kernel_rfl) (by decide) (fun K hK => ?_)
        refine skip_ (w1 := ?_) (by rfl) rfl ?_ ?_
        rotate_left
        · go_simp
          rfl
        refine hK.out _ _ ?_
        clear hK K
        refine done_ (by kernel_rfl) ?_
        refine NoPanic.normal ?_
        go_wp2_with fail
        go_roundw
        case rel => exact ⟨k + 1, _, hkm, by go_num, Lib.hid ST3.out.tel, MP3, Lib.hid (HBS.out ▸ ST3.out.rows), Lib.hid ST3.out.low, Lib.hid ST3.out.nl⟩
        case measure => exact step_measure hkm
      · have hk2 : k = m := by omega
        subst hk2
        have hrw := HRW.out
        rw [HM.out, List.take_length] at hrw
        have FIN := Lib.hid (HFN.out _ _ _ _ _ _ HTB.out HMP.out hrw)
        clear hrw hkm
        go_wp2_with fail
        go_ret2
        exact ⟨⟨_, _, rfl, FIN.out⟩, HB.out⟩
end Go.Proofs.Ytnkgbnipcjgjeaa
