import Derived.Test.YtnkgbnipcjgjeaaBL
import Derived.Test.YtnkgbnipcjgjeaaQIx1
namespace Go.Proofs.Ytnkgbnipcjgjeaa
open Go.RowKit Go.Lib Go.Proofs.YtnkgbnipcjgjeaaW.PrintWords Go.Proofs.YtnkgbnipcjgjeaaW.PrintLast Go.Proofs.YtnkgbnipcjgjeaaW.PrintMore
set_option linter.unusedVariables false
theorem same_ev (xs ys : List Int) (hxy : xs.length = ys.length) (hl : xs.length ≤ 100000) : ∀ (d i : Nat), i + d = xs.length → EvL (fun k => QI.incunableref01_Same.l0 k xs ys (i : Int)) (decide (xs.drop i = ys.drop i)) := by
  intro d
  induction d with
  | zero =>
    intro i hd
    refine EvL.step (h := fun _ => some (decide (xs.drop i = ys.drop i))) (fun k => ?_) EvL.const
    simp only [QI.incunableref01_Same.l0]
    rw [if_neg (by omega), List.drop_of_length_le (by omega), List.drop_of_length_le (by omega)]
    rfl
  | succ d ih =>
    intro i hd
    have hx : i < xs.length := by omega
    have hy : i < ys.length := by omega
    have e1 : YtnkgbnipcjgjeaaW.PrintWords.rd xs (i : Int) = xs[i] := by unfold YtnkgbnipcjgjeaaW.PrintWords.rd; rw [Int.toNat_natCast, List.getD_eq_getElem?_getD, List.getElem?_eq_getElem hx]; rfl
    have e2 : YtnkgbnipcjgjeaaW.PrintWords.rd ys (i : Int) = ys[i] := by unfold YtnkgbnipcjgjeaaW.PrintWords.rd; rw [Int.toNat_natCast, List.getD_eq_getElem?_getD, List.getElem?_eq_getElem hy]; rfl
    rw [List.drop_eq_getElem_cons hx, List.drop_eq_getElem_cons hy]
    by_cases h : xs[i] = ys[i]
    · refine EvL.step (h := fun k => QI.incunableref01_Same.l0 k xs ys ((i + 1 : Nat) : Int)) (fun k => ?_) ?_
      · simp only [QI.incunableref01_Same.l0]
        rw [if_pos (by omega), if_pos (by omega), if_pos (by omega), e1, e2, if_pos h, w_succ i (by omega)]
      · rw [show decide (xs[i] :: xs.drop (i + 1) = ys[i] :: ys.drop (i + 1)) = decide (xs.drop (i + 1) = ys.drop (i + 1)) from decide_eq_decide.2 ⟨fun e => (List.cons.inj e).2, fun e => by rw [h, e]⟩]
        exact ih (i + 1) (by omega)
    · refine EvL.step (h := fun _ => some false) (fun k => ?_) ?_
      · simp only [QI.incunableref01_Same.l0]
        rw [if_pos (by omega), if_pos (by omega), if_pos (by omega), e1, e2, if_neg h]
      · rw [decide_eq_false (fun e => h (List.cons.inj e).1)]
        exact EvL.const
theorem same_f (xs ys : List Int) (hl : xs.length ≤ 100000) : ∃ k, QI.incunableref01_Same.f k xs ys = some (decide (xs = ys)) := by
  unfold QI.incunableref01_Same.f
  by_cases h : (xs.length : Int) = (ys.length : Int)
  · obtain ⟨k0, h0⟩ := same_ev xs ys (by omega) hl xs.length 0 (by omega)
    refine ⟨k0, ?_⟩
    rw [if_pos h]
    exact h0 k0 (Nat.le_refl _)
  · refine ⟨0, ?_⟩
    rw [if_neg h, decide_eq_false (fun e => h (by rw [e]))]
theorem same_call (A0 : Option Addr) (c0 : Nat) (xs : List Int) (A1 : Option Addr) (c1 : Nat) (ys : List Int) (w : World) (h0 : kB.C w A0 xs.length xs) (hc0 : xs.length ≤ c0) (h1 : kB.C w A1 ys.length ys) (hc1 : ys.length ≤ c1) (hl : xs.length ≤ 100000) :
    Calls Try.prog 52 #[.slice A0 xs.length c0, .slice A1 ys.length c1] w fun e w' => e = .returned (.bool (decide (xs = ys))) ∧ ∃ q, w' = w.drewN q := by
  obtain ⟨k, hk⟩ := same_f xs ys hl
  refine (QI.incunableref01_Same.calls k A0 c0 xs A1 c1 ys _ w h0 hc0 h1 hc1 hk).mono ?_
  rintro e w' ⟨rfl, ⟨q, rfl⟩⟩
  exact ⟨rfl, q, rfl⟩
/-- The document's buffer at block g: the value of its row, the row's headers, what they read as. -/
structure RBufIs (w : World) (N0 g : Nat) (v : Value) (es : List Ent) (most size : Nat) : Prop where
  blk : w.heap[g]? = some (.cells #[v, .int .i64 most, .int .i64 size] 62 (0, 0))
  lo : N0 ≤ g
  row : ∃ hs, Kd.R kEh 54 w N0 (fun _ => True) v hs ∧ EAll w N0 hs es
  small : 1 ≤ most ∧ most ≤ 1024 ∧ 1 ≤ size ∧ size ≤ 8192
  fit : es.length ≤ most
section
variable {w w' : World} {N0 g : Nat} {v : Value} {es : List Ent} {most size : Nat}
theorem RBufIs.ltg (h : RBufIs w N0 g v es most size) : g < w.heap.size := blk_lt h.blk
theorem RBufIs.own (h : RBufIs w N0 g v es most size) {k : Nat} (hk : v.ownBlock = some k) : k < w.heap.size ∧ N0 ≤ k ∧ k ≠ g ∧ ∃ cs, w.heap[k]? = some (.cells cs 54 (0, 0)) := by
  obtain ⟨hs, hR, _⟩ := h.row
  obtain ⟨_, h2, h3, q, hq, cs, hc⟩ := (Kd.R_bound hR).1 k hk
  have : q ∈ [54] := hq
  rw [List.mem_singleton.1 this] at hc
  refine ⟨h3, h2, fun e => ?_, cs, hc⟩
  rw [e, h.blk] at hc
  injection hc with hc
  injection hc with _ h2 _
  cases h2
theorem RBufIs.form (h : RBufIs w N0 g v es most size) : ∃ A c hs, v = .slice A es.length c ∧ hs.length = es.length ∧ es.length ≤ c ∧ Kd.C kEh w A hs.length hs ∧ EAll w N0 hs es := by
  obtain ⟨hs, hR, hE⟩ := h.row
  obtain ⟨A, c, he, hc, hC⟩ := Kd.R_reads hR
  have hl := All2.len hE
  rw [hl] at he hc
  exact ⟨A, c, hs, he, hl, hc, hC, hE⟩
theorem RBufIs.at_ (h : RBufIs w N0 g v es most size) (h1 : w'.heap[g]? = w.heap[g]?) (h2 : ∀ k, v.ownBlock = some k → w'.heap[k]? = w.heap[k]?) (h3 : Keep (Bt N0 w) w w') : RBufIs w' N0 g v es most size := by
  obtain ⟨a1, a2, ⟨hs, a3, a4⟩, a5, a6⟩ := h
  exact ⟨h1.trans a1, a2, ⟨hs, Kd.R_mono (Kd.R_move (Kd.R_tight rfl a3) (fun k hk => h2 k hk.symm)) (fun _ _ => trivial), a4.move h3⟩, a5, a6⟩
theorem RBufIs.below (h : RBufIs w N0 g v es most size) (hb : Below w.heap.size w w') : RBufIs w' N0 g v es most size := h.at_ (hb.block g h.ltg) (fun k hk => hb.block k (h.own hk).1) (Bt.below (Nat.le_of_lt (Nat.lt_of_le_of_lt h.lo h.ltg)) hb)
theorem RBufIs.mods {S : Nat → Prop} (h : RBufIs w N0 g v es most size) (hm : Mods w w' S) (h1 : ¬ S g) (h2 : ∀ k, v.ownBlock = some k → ¬ S k) (h3 : ∀ k, S k → ¬ Bt N0 w k) : RBufIs w' N0 g v es most size := h.at_ (hm.block g h.ltg h1) (fun k hk => hm.block k (h.own hk).1 (h2 k hk)) (Bt.mods (Nat.le_of_lt (Nat.lt_of_le_of_lt h.lo h.ltg)) hm h3)
theorem RBufIs.drewN (h : RBufIs w N0 g v es most size) (q : Nat) : RBufIs (w.drewN q) N0 g v es most size := h.at_ rfl (fun _ _ => rfl) (fun _ _ => rfl)
theorem RBufIs.hN (h : RBufIs w N0 g v es most size) : N0 ≤ w.heap.size := Nat.le_of_lt (Nat.lt_of_le_of_lt h.lo h.ltg)
theorem RBufIs.erow (h : RBufIs w N0 g v es most size) : ERow w N0 N0 v es := h.row
theorem RBufIs.notBt (h : RBufIs w N0 g v es most size) : ∀ k, BufS g v k → ¬ Bt N0 w k := fun k hk hb => by
  have hlo := h.lo
  rcases hk with rfl | hk
  · rcases hb with hb | ⟨cs, fr, hb⟩
    · omega
    · rw [h.blk] at hb
      injection hb with hb
      injection hb with _ h2 _
      cases h2
  · obtain ⟨_, h2, _, cs, hc⟩ := h.own hk
    rcases hb with hb | ⟨cs', fr, hb⟩
    · omega
    · rw [hc] at hb
      injection hb with hb
      injection hb with _ h2 _
      cases h2
theorem RBufIs.c0 (h : RBufIs w N0 g v es most size) : w.cell? ⟨g, 0, none⟩ = some v := blk_cell h.blk 0
theorem RBufIs.c1 (h : RBufIs w N0 g v es most size) : w.cell? ⟨g, 1, none⟩ = some (.int .i64 most) := blk_cell h.blk 1
theorem RBufIs.c2 (h : RBufIs w N0 g v es most size) : w.cell? ⟨g, 2, none⟩ = some (.int .i64 size) := blk_cell h.blk 2
set_option maxHeartbeats 4000000 in
set_option maxRecDepth 100000 in
theorem rfind_ok (h : RBufIs w N0 g v es most size) (s : Int) :
    Calls Try.prog 39 #[.pointer (some ⟨g, 0, none⟩), .int .i64 s] w fun e w' => e = .returned (.int .i64 (plc s es 0)) ∧ w' = w := by
  have c0 := h.c0
  obtain ⟨A, c, hs, rfl, hl, _, hC, hE⟩ := h.form
  have HC := Lib.hid hC
  have HE := Lib.hid hE
  obtain ⟨T, hT⟩ : ∃ T, T = plc s es 0 := ⟨_, rfl⟩
  have HT : Hid (T = plc s (es.drop 0) 0) := Lib.hid (by rw [List.drop_zero]; exact hT)
  rw [← hT]
  obtain ⟨m, hm⟩ : ∃ m, m = es.length := ⟨_, rfl⟩
  have hm2 : (m : Int) ≤ 1024 := by have := h.fit; have := h.small; omega
  rw [← hm] at c0
  have HM := Lib.hid hm
  clear h hC hE hl hT hm
  go_enter Try.func39, Try.ntmps39
  go_wp2_with fail
  go_loop [5] (fun i => ∃ (k : Nat), k ≤ m ∧ i = .int .i64 k ∧ Hid (T = plc s (es.drop k) k)) (fun i => m - (intOf i).toNat)
  case atStart => exact ⟨0, by omega, rfl, HT⟩
  case round =>
    clear HT
    obtain ⟨k, hk, rfl, HG⟩ := hrel
    by_cases hkn : k < m
    · have hke : k < es.length := by rw [← HM.out]; exact hkn
      obtain ⟨b, off, x, rfl, e0, _, _, _⟩ := erow_at HC.out HE.out hke
      have hg := HG.out
      rw [List.drop_eq_getElem_cons hke, plc] at hg
      generalize es[k].1 = x1 at e0 hg
      have hk0 : (k : Int) < (m : Int) := by omega
      by_cases e : x1 = s
      · have hT1 : T = (k : Int) := by rw [hg, if_pos e]
        have bb : (x1 == s) = true := beq_iff_eq.2 e
        subst hT1
        clear hg e
        go_wp2_with fail
        go_ret
        exact ⟨rfl, rfl⟩
      · have HG2 : Hid (T = plc s (es.drop (k + 1)) (k + 1)) := Lib.hid (by rw [hg, if_neg e])
        have bb : (x1 == s) = false := beq_eq_false_iff_ne.2 e
        clear hg e
        go_wp2_with fail
        go_round
        case rel => exact ⟨k + 1, hkn, by go_num, HG2⟩
        case measure => exact step_measure hkn
    · have hk2 : k = m := by omega
      subst hk2
      have hg := HG.out
      rw [HM.out, List.drop_length] at hg
      have : T = -1 := hg
      subst this
      clear hg hkn
      go_wp2_with fail
      go_ret
      exact ⟨rfl, rfl⟩
set_option maxHeartbeats 4000000 in
theorem rright_ok (h : RBufIs w N0 g v es most size) (s k : Int) (A : Option Addr) (n c : Nat) :
    Calls Try.prog 92 #[.pointer (some ⟨g, 0, none⟩), .agg #[.int .i64 s, .int .i64 k, .slice A n c]] w fun e w' => e = .returned (.bool (decide (RightP size s k n))) ∧ Below w.heap.size w w' := by
  have c2 := h.c2
  have hlg := h.ltg
  clear h
  have HB := Lib.hid ((Below.refl w.heap.size w).alloc (Nat.le_refl _) (.cells #[.int .i64 s, .int .i64 k, .slice A n c] 54))
  by_cases h1 : s < 0
  · rw [decide_eq_false (fun h : RightP size s k n => by have := h.1; omega)]
    go_enter Try.func92, Try.ntmps92
    go_wp2_with fail
    go_ret
    exact ⟨rfl, HB.out⟩
  · by_cases h2 : 2147483648 < s
    · rw [decide_eq_false (fun h : RightP size s k n => by have := h.2.1; omega)]
      go_enter Try.func92, Try.ntmps92
      go_wp2_with fail
      go_ret
      exact ⟨rfl, HB.out⟩
    · by_cases h3 : k = 1
      · subst h3
        have e1 : (decide (RightP size s 1 n)) = ((n : Int) == (size : Int)) := by
          rw [Bool.eq_iff_iff, decide_eq_true_iff, beq_iff_eq]
          exact ⟨fun h => by rcases h.2.2 with h | h <;> omega, fun h => ⟨by omega, by omega, .inl ⟨rfl, by omega⟩⟩⟩
        rw [e1]
        clear e1
        go_enter Try.func92, Try.ntmps92
        go_wp2_with fail
        go_quiet (fail)
        go_wp2_with fail
        go_ret
        exact ⟨rfl, pw_below_drewN HB.out _⟩
      · have b3 : (k == (1 : Int)) = false := by rw [beq_eq_false_iff_ne]; exact h3
        by_cases h5 : k = 2
        · subst h5
          have e1 : (decide (RightP size s 2 n)) = ((n : Int) == 0) := by
            rw [Bool.eq_iff_iff, decide_eq_true_iff, beq_iff_eq]
            exact ⟨fun h => by rcases h.2.2 with h | h <;> omega, fun h => ⟨by omega, by omega, .inr ⟨rfl, by omega⟩⟩⟩
          rw [e1]
          clear h3 e1
          go_enter Try.func92, Try.ntmps92
          go_wp2_with fail
          go_ret
          exact ⟨rfl, HB.out⟩
        · rw [decide_eq_false (fun h : RightP size s k n => by rcases h.2.2 with h | h <;> omega)]
          have b5 : (k == (2 : Int)) = false := by rw [beq_eq_false_iff_ne]; exact h5
          clear h3 h5
          go_enter Try.func92, Try.ntmps92
          go_wp2_with fail
          go_ret
          exact ⟨rfl, HB.out⟩
end
end Go.Proofs.Ytnkgbnipcjgjeaa
