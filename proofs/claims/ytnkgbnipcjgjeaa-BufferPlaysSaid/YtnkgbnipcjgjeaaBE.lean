import Derived.Test.YtnkgbnipcjgjeaaBD
import Derived.Deep.DeepCutAuto
namespace Go.Proofs.Ytnkgbnipcjgjeaa
open Go.RowKit Go.Lib Go.Proofs.YtnkgbnipcjgjeaaW.PrintWords Go.Proofs.YtnkgbnipcjgjeaaW.PrintLast Go.Proofs.YtnkgbnipcjgjeaaW.PrintMore
set_option linter.unusedVariables false
/-- A row of entries of one's own. -/
def ERow (w : World) (N0 base : Nat) (v : Value) (es : List Ent) : Prop := ∃ hs, Kd.R kEh 54 w base (fun _ => True) v hs ∧ EAll w N0 hs es
section
variable {w w' : World} {N0 base : Nat} {v : Value} {es : List Ent}
theorem ERow.nil (w : World) (N0 base : Nat) : ERow w N0 base (.slice none 0 0) [] := ⟨[], Kd.R_nil _ _ _ _ _, trivial⟩
theorem ERow.own (h : ERow w N0 base v es) {k : Nat} (hk : v.ownBlock = some k) : k < w.heap.size ∧ base ≤ k ∧ ∃ cs, w.heap[k]? = some (.cells cs 54 (0, 0)) := by
  obtain ⟨hs, hR, _⟩ := h
  obtain ⟨_, h2, h3, q, hq, cs, hc⟩ := (Kd.R_bound hR).1 k hk
  have : q ∈ [54] := hq
  rw [List.mem_singleton.1 this] at hc
  exact ⟨h3, h2, cs, hc⟩
theorem ERow.at_ (h : ERow w N0 base v es) (h2 : ∀ k, v.ownBlock = some k → w'.heap[k]? = w.heap[k]?) (h3 : Keep (Bt N0 w) w w') : ERow w' N0 base v es := by
  obtain ⟨hs, a3, a4⟩ := h
  exact ⟨hs, Kd.R_mono (Kd.R_move (Kd.R_tight rfl a3) (fun k hk => h2 k hk.symm)) (fun _ _ => trivial), a4.move h3⟩
theorem ERow.below (h : ERow w N0 base v es) (hN : N0 ≤ w.heap.size) (hb : Below w.heap.size w w') : ERow w' N0 base v es := h.at_ (fun k hk => hb.block k (h.own hk).1) (Bt.below hN hb)
theorem ERow.mods {S : Nat → Prop} (h : ERow w N0 base v es) (hN : N0 ≤ w.heap.size) (hm : Mods w w' S) (h2 : ∀ k, v.ownBlock = some k → ¬ S k) (h3 : ∀ k, S k → ¬ Bt N0 w k) : ERow w' N0 base v es := h.at_ (fun k hk => hm.block k (h.own hk).1 (h2 k hk)) (Bt.mods hN hm h3)
theorem ERow.lower {base' : Nat} (h : ERow w N0 base v es) (hb : base' ≤ base) : ERow w N0 base' v es := by
  obtain ⟨hs, a3, a4⟩ := h
  exact ⟨hs, Kd.R_lower a3 hb, a4⟩
theorem ERow.form (h : ERow w N0 base v es) : ∃ A c hs, v = .slice A es.length c ∧ hs.length = es.length ∧ es.length ≤ c ∧ Kd.C kEh w A hs.length hs ∧ EAll w N0 hs es := by
  obtain ⟨hs, hR, hE⟩ := h
  obtain ⟨A, c, he, hc, hC⟩ := Kd.R_reads hR
  have hl := All2.len hE
  rw [hl] at he hc
  exact ⟨A, c, hs, he, hl, hc, hC, hE⟩
/-- Entry k of a row that is read: its header at its place. -/
theorem erow_at {A : Option Addr} {hs : List Eh} (hC : Kd.C kEh w A hs.length hs) (hE : EAll w N0 hs es) {k : Nat} (hk : k < es.length) :
    ∃ b off x, A = some ⟨b, off, none⟩ ∧ w.cell? ⟨b, off + k * 3, none⟩ = some (.int .i64 es[k].1) ∧ w.cell? ⟨b, off + k * 3 + 1, none⟩ = some (.int .i64 es[k].2.1) ∧ w.cell? ⟨b, off + k * 3 + 2, none⟩ = some (.slice x.1 x.2.1 x.2.2) ∧ DatF w N0 x es[k].2.2 := by
  have hl := All2.len hE
  have hks : k < hs.length := by omega
  obtain ⟨b, off, rfl, _, hcell⟩ := rowE_of_C hC (by omega)
  have hh := List.getElem?_eq_getElem hks
  obtain ⟨en, he1, he2⟩ := All2.get hE hh
  have hek : es[k] = en := by rw [List.getElem?_eq_getElem hk] at he1; exact Option.some.inj he1
  obtain ⟨e0, e1, e2⟩ := hcell k _ hh
  rw [hek]
  exact ⟨b, off, hs[k].2.2, rfl, he2.1 ▸ e0, he2.2.1 ▸ e1, e2, he2.2.2⟩
end
theorem BufIs.erow {w : World} {N0 g : Nat} {v : Value} {es : List Ent} {most size : Nat} (h : BufIs w N0 g v es most size) : ERow w N0 N0 v es := h.row
theorem snocR {w w1 : World} {N0 base : Nat} {hs : List Eh} {es : List Ent} {v1 : Value} {x : Eh} {en : Ent} (hE : EAll w N0 hs es) (hx : EntF w N0 x en) (hk : Keep (Bt N0 w) w w1) (hR : Kd.R kEh 54 w1 base (fun _ => True) v1 (hs ++ [x])) : ERow w1 N0 base v1 (es ++ [en]) :=
  ⟨_, hR, All2.snoc (hx.move hk) (EAll.move hE hk)⟩
theorem grown_bt {w w1 : World} {N0 base : Nat} {v : Value} {es : List Ent} (h : ERow w N0 base v es) (hN : N0 ≤ w.heap.size) (hb : N0 ≤ base) (hg : w.grownBy w1 v.ownBlock) : Keep (Bt N0 w) w w1 := fun k hk => hg.block k (Bt.lt hN hk) (fun e => by
  obtain ⟨_, h2, cs, hc⟩ := h.own e.symm
  rcases hk with hk | ⟨cs', fr, hk⟩
  · omega
  · rw [hc] at hk; injection hk with hk; injection hk with _ h2 _; cases h2)
theorem kEh_M (w : World) (base : Nat) (ok : Nat → Prop) (h : Eh) : kEh.M w base ok h (ehC h) := ⟨[_], _, rfl, rfl, ⟨[_], [_], rfl, rfl, rfl⟩⟩
/-- One entry more, in a row of one's own. -/
theorem more1 {w w1 w3 : World} {N0 base : Nat} {hs : List Eh} {es : List Ent} {v v3 : Value} {s1 s2 : Int} {h : Hdr} {xs : List Int} (hR : Kd.R kEh 54 w base (fun _ => True) v hs) (hE : EAll w N0 hs es) (hN : N0 ≤ w.heap.size) (hNb : N0 ≤ base) (hb1 : Below w.heap.size w w1) (hd : DatF w1 N0 h xs) (hr3 : Kd.R kEh 54 w3 base (fun _ => True) v3 (hs ++ [(s1, s2, h)])) (hg3 : w1.grownBy w3 v.ownBlock) : ERow w3 N0 base v3 (es ++ [(s1, s2, xs)]) := by
  have h1 : ERow w1 N0 base v es := ERow.below ⟨hs, hR, hE⟩ hN hb1
  exact snocR (EAll.move hE (Bt.below hN hb1)) ⟨rfl, rfl, hd⟩ (grown_bt h1 (Nat.le_trans hN hb1.size) hNb hg3) hr3
def oldN (n : Int) (m : Nat) : Nat := if n < 0 then 0 else if (m : Int) < n then m else n.toNat
theorem oldN_le (n : Int) (m : Nat) : oldN n m ≤ m := by unfold oldN; split <;> (try split) <;> omega
set_option maxHeartbeats 4000000 in
set_option maxRecDepth 100000 in
theorem bold_ok {w : World} {N0 g : Nat} {v : Value} {es : List Ent} {most size : Nat} (h : BufIs w N0 g v es most size) (n : Int) (hn : (Lit.int .i64 n).wf = true) (hln : ∀ e ∈ es, e.2.2.length ≤ 100000) :
    Calls Try.prog 33 #[.pointer (some ⟨g, 0, none⟩), .int .i64 n] w fun e w' => (∃ v', e = .returned v' ∧ ERow w' N0 w.heap.size v' (es.take (oldN n es.length))) ∧ Below w.heap.size w w' := by
  have HL := Lib.hid (blen_ok h)
  have HB0 := Lib.hid h
  have HLN := Lib.hid hln
  have hm : es.length ≤ 1024 := by have := h.fit; have := h.small; omega
  have hN : N0 ≤ w.heap.size := Nat.le_of_lt (Nat.lt_of_le_of_lt h.lo h.ltg)
  obtain ⟨m, hmm⟩ : ∃ m, m = es.length := ⟨_, rfl⟩
  rw [← hmm] at HL hm ⊢
  have HM := Lib.hid hmm
  obtain ⟨K, hK⟩ : ∃ K, K = oldN n m := ⟨_, rfl⟩
  have hKm : K ≤ m := by rw [hK]; exact oldN_le n m
  rw [← hK]
  have HK : Hid ((if n < 0 then 0 else n) = n ∧ n = (K : Int) ∨ n < 0 ∧ K = 0 ∨ (m : Int) < n ∧ 0 ≤ n ∧ K = m) := Lib.hid (by
    rw [hK]; unfold oldN
    by_cases h1 : n < 0
    · exact .inr (.inl ⟨h1, if_pos h1⟩)
    · by_cases h2 : (m : Int) < n
      · exact .inr (.inr ⟨h2, by omega, by rw [if_neg h1, if_pos h2]⟩)
      · exact .inl ⟨by rw [if_neg h1], by rw [if_neg h1, if_neg h2]; omega⟩)
  clear h hln hmm hK
  go_enter Try.func33, Try.ntmps33
  go_upto_region 2 with (fail)
  go_cut [11, 12] (fun v11 v12 wc => v11 = .int .i64 K ∧ v12 = .int .i64 0 ∧ wc = w)
  case first =>
    rcases HK.out with ⟨h1, h2⟩ | ⟨h1, h2⟩ | ⟨h1, h2, h3⟩
    · subst h2
      have hKm' : ¬ ((m : Int) < (K : Int)) := by omega
      clear h1
      go_wp2_with (go_at_call 34; refine (HL.out).mono ?_; rintro e w' ⟨rfl, rfl⟩)
      go_meet
      case rel => exact ⟨rfl, rfl, rfl⟩
    · have hm0 : ¬ ((m : Int) < 0) := by omega
      subst h2
      go_wp2_with (go_at_call 34; refine (HL.out).mono ?_; rintro e w' ⟨rfl, rfl⟩)
      go_meet
      case rel => exact ⟨rfl, rfl, rfl⟩
    · subst h3
      have hn0 : ¬ (n < 0) := by omega
      go_wp2_with (go_at_call 34; refine (HL.out).mono ?_; rintro e w' ⟨rfl, rfl⟩)
      go_meet
      case rel => exact ⟨rfl, rfl, rfl⟩
  case rest =>
    obtain ⟨rfl, rfl, rfl⟩ := hcut
    clear HL HK hn
    go_wp2_with fail
    go_loopw [5, 12] (fun v i wr => ∃ (k : Nat), k ≤ K ∧ i = .int .i64 k ∧ Hid (ERow wr N0 wc.heap.size v (es.take k)) ∧ Hid (Below wc.heap.size wc wr)) (fun _ i _ => K - (intOf i).toNat)
    case atStart => exact ⟨0, by omega, rfl, Lib.hid (ERow.nil _ _ _), Lib.hid (Below.refl _ _)⟩
    case round =>
      obtain ⟨k, hk, rfl, HR, HB⟩ := hrel
      by_cases hkn : k < K
      · have hkm : k < es.length := by rw [← HM.out]; omega
        have hbuf := HB0.out.below HB.out
        have hNr : N0 ≤ wr.heap.size := Nat.le_trans hN HB.out.size
        obtain ⟨A, c, hs, rfl, hl, hc, hC, hE⟩ := hbuf.form
        have c0 := hbuf.c0
        obtain ⟨b, off, x, rfl, e0, e1, e2, hd⟩ := erow_at hC hE hkm
        have hxl := HLN.out _ (List.getElem_mem hkm)
        have HCP := Lib.hid (bcopied_ok wr N0 hNr es[k].1 es[k].2.1 x es[k].2.2 hd hxl)
        have HTK : Hid (es.take (k + 1) = es.take k ++ [(es[k].1, es[k].2.1, es[k].2.2)]) := Lib.hid (List.take_succ_eq_append_getElem hkm)
        rw [← HM.out] at c0
        generalize es[k].1 = s1 at e0 HCP HTK
        generalize es[k].2.1 = s2 at e1 HCP HTK
        generalize es[k].2.2 = s3 at hd hxl HCP HTK
        obtain ⟨xA, xn, xc⟩ := x
        have hk0 : (k : Int) < (K : Int) := by omega
        have hkm0 : (k : Int) < (m : Int) := by omega
        have hK1 : (K : Int) ≤ 1024 := by omega
        obtain ⟨hs2, hR2, hE2⟩ := HR.out
        have hl2 := All2.len hE2
        rw [List.length_take] at hl2
        have HZ : Hid ((hs2.length + 1) * 40 ≤ 140737488355328) := Lib.hid (by omega)
        have HR2 := Lib.hid hR2
        have HE2 := Lib.hid hE2
        clear hbuf hC hE hl hc hd hxl hkm HR hR2 hE2 hl2
        go_wp2_with (first | (go_at_call 90; refine (HCP.out).mono ?_; rintro e w1 ⟨⟨h', rfl, hd'⟩, hb1⟩; obtain ⟨hA, hn', hc'⟩ := h'; have HD1 := Lib.hid hd'; have HB1 := Lib.hid hb1; have HO := Lib.hid (Kd.R_below HR2.out hb1); have HBB := Lib.hid (chainC' HB.out hb1); clear hd' hb1) | (at_builtin; refine Kd.R_append kEh (w0 := wc) wc.heap.size rfl (.tmp 15) (.tmp 24) 48 54 _ 40 rfl Try.underlying48 info54 rfl (by decide) (by decide) _ hs2 (s1, s2, hA, hn', hc') (ehC (s1, s2, hA, hn', hc')) _ (fun _ => False) rfl rfl (kEh_M _ _ _ _) (fun _ h => h.elim) (fun _ _ => trivial) HO.out HBB.out HBB.out.size HZ.out ?_; intro v3 w3 hr3 hb3 hg3 hat3; have HFIN := Lib.hid (more1 HR2.out HE2.out hNr hN HB1.out HD1.out hr3 hg3); have HB3 := Lib.hid hb3; clear hr3 hb3 hg3 hat3))
        rw [← HTK.out] at HFIN
        go_roundw
        case rel => exact ⟨k + 1, hkn, by go_num, HFIN, HB3⟩
        case measure => exact step_measure hkn
      · have hk2 : k = K := by omega
        subst hk2
        clear hkn
        go_wp2_with fail
        go_ret
        exact ⟨⟨_, rfl, HR.out⟩, HB.out⟩
end Go.Proofs.Ytnkgbnipcjgjeaa
