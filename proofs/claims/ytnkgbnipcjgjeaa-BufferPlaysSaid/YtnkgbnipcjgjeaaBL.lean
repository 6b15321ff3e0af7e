import Derived.Test.YtnkgbnipcjgjeaaBK
namespace Go.Proofs.Ytnkgbnipcjgjeaa
open Go.RowKit Go.Lib Go.Proofs.YtnkgbnipcjgjeaaW.PrintWords Go.Proofs.YtnkgbnipcjgjeaaW.PrintLast Go.Proofs.YtnkgbnipcjgjeaaW.PrintMore
set_option linter.unusedVariables false
theorem alloc_below (w : World) (o : Obj) : Below w.heap.size w (w.alloc o) := (Below.refl _ _).alloc (Nat.le_refl _) o
abbrev kEn : Kd Ent := Kd.pair (Kd.int .i64) (Kd.pair (Kd.int .i64) (Kd.slice 5 kB))
/-- What came in, as headers. -/
theorem came_hdrs {w : World} {A : Option Addr} {l : List Ent} (h : Kd.C kEn w A l.length l) : ∃ hs, hs.length = l.length ∧ Kd.C kEh w A hs.length hs ∧ EAll w w.heap.size hs l := by
  have key : ∀ j, ∃ x : Eh, ∀ en, l[j]? = some en → EntF w w.heap.size x en ∧ ∀ ad, A = some ad → ∀ i u, (ehC x)[i]? = some u → w.cell? (ad.add (j * 3 + i)) = some u := fun j => by
    cases hj : l[j]? with
    | none => exact ⟨(0, 0, none, 0, 0), fun en he => by cases he⟩
    | some en =>
      obtain ⟨ad, rfl, hc⟩ := h.2.2 (by have := (List.getElem?_eq_some_iff.1 hj).1; omega)
      obtain ⟨c, _, hK, hcell⟩ := hc j en hj
      obtain ⟨_, _, rfl, rfl, ⟨_, _, rfl, rfl, ⟨A1, c1, rfl, hl, hC⟩⟩⟩ := hK
      refine ⟨(en.1, en.2.1, A1, en.2.2.length, c1), fun en' he => ?_⟩
      obtain rfl := Option.some.inj he
      exact ⟨⟨rfl, rfl, DatF.came rfl hl hC (Below.refl _ _)⟩, fun ad' e i u hu => by injection e with e; subst e; exact hcell i u hu⟩
  obtain ⟨f, hf⟩ := Classical.axiomOfChoice key
  have hlen : ((List.range l.length).map f).length = l.length := by simp
  have hget : ∀ j x, ((List.range l.length).map f)[j]? = some x → ∃ en, l[j]? = some en ∧ x = f j := fun j x hx => by
    have hj : j < l.length := by have := (List.getElem?_eq_some_iff.1 hx).1; simpa using this
    rw [List.getElem?_map, List.getElem?_range hj] at hx
    exact ⟨_, List.getElem?_eq_getElem hj, (Option.some.inj hx).symm⟩
  refine ⟨(List.range l.length).map f, hlen, ⟨rfl, by rw [hlen]; exact h.2.1, fun hp => ?_⟩, ?_⟩
  · obtain ⟨ad, e, _⟩ := h.2.2 (by omega)
    refine ⟨ad, e, fun j p hp => ?_⟩
    obtain ⟨en, he, rfl⟩ := hget j p hp
    exact ⟨ehC (f j), rfl, kEh_mk _ _, (hf j en he).2 ad e⟩
  · have gen : ∀ (us : List Eh) (ws : List Ent), us.length = ws.length → (∀ (j : Nat) (x : Eh) (en : Ent), us[j]? = some x → ws[j]? = some en → EntF w w.heap.size x en) → EAll w w.heap.size us ws := by
      intro us
      induction us with
      | nil => intro ws hl _; cases ws with | nil => trivial | cons => simp at hl
      | cons u us ih =>
        intro ws hl hall
        cases ws with
        | nil => simp at hl
        | cons b ws => exact ⟨hall 0 u b rfl rfl, ih ws (by simpa using hl) (fun j x en hx he => hall (j + 1) x en hx he)⟩
    refine gen _ _ hlen (fun j x en hx he => ?_)
    obtain ⟨en', he', rfl⟩ := hget j x hx
    exact (hf j en he).1
def awL : List Int := [5, 6, 5]
def awE (k : Nat) : List Ent := (awL.take k).foldl (fun es s => putL 4 1 es (s, 2, [])) []
theorem awE_succ {k : Nat} (h : k < 3) : awE (k + 1) = putL 4 1 (awE k) (awL.getD k 0, 2, []) := by
  match k, h with
  | 0, _ => rfl
  | 1, _ => rfl
  | 2, _ => rfl
theorem awE3 : awE 3 = [(5, 2, []), (6, 2, [])] := by decide
theorem awE_len (k : Nat) : k ≤ 3 → ∀ e ∈ awE k, e.2.2.length ≤ 100000 := by
  intro h
  match k, h with
  | 0, _ => decide
  | 1, _ => decide
  | 2, _ => decide
  | 3, _ => decide
set_option maxHeartbeats 4000000 in
set_option maxRecDepth 100000 in
theorem bawake_ok (w : World) : Calls Try.prog 30 #[] w fun e w' => e = .returned (.bool true) ∧ Below w.heap.size w w' := by
  have HNW := Lib.hid (bnew_ok 4 1 w w.heap.size (Nat.le_refl _) (by omega) (by omega) (by omega) (by omega))
  go_enter Try.func30, Try.ntmps30
  go_wp2_with (go_at_call 31; refine (HNW.out).mono ?_; rintro e w1 ⟨⟨g, rfl, hB, hg⟩, hb⟩; have HBU := Lib.hid hB; have HB := Lib.hid hb; clear hB hg hb)
  have hbw := blk_new w1 (.cells #[.int .i64 5, .int .i64 6, .int .i64 5] 3)
  have HBW := Lib.hid hbw
  have hb1 := alloc_below w1 (.cells #[.int .i64 5, .int .i64 6, .int .i64 5] 3)
  have HBU1 := Lib.hid (HBU.out.below hb1)
  have HB1 := Lib.hid (chainC' HB.out hb1)
  obtain ⟨bw, hbwe⟩ : ∃ bw, bw = w1.heap.size := ⟨_, rfl⟩
  rw [← hbwe] at HBW ⊢
  have HNE : Hid (bw ≠ g) := Lib.hid (by rw [hbwe]; have := HBU.out.ltg; omega)
  clear hbw hb1 HBU HB HNW hbwe
  generalize w1.alloc (.cells #[.int .i64 5, .int .i64 6, .int .i64 5] 3) = w2 at HBU1 HB1 HBW ⊢
  go_loopw [14] (fun i wr => ∃ (k : Nat) (v : Value), k ≤ 3 ∧ i = .int .i64 k ∧ Hid (BufIs wr w.heap.size g v (awE k) 4 1) ∧ Hid (wr.heap[bw]? = some (.cells #[.int .i64 5, .int .i64 6, .int .i64 5] 3 (0, 0))) ∧ Hid (Below w.heap.size w wr)) (fun i _ => 3 - (intOf i).toNat)
  case atStart => exact ⟨0, _, by omega, rfl, HBU1, HBW, HB1⟩
  case round =>
    clear HBU1 HBW HB1
    obtain ⟨k, v, hk, rfl, HBU, HBW, HB⟩ := hrel
    by_cases hkn : k < 3
    · have hget : (#[Value.int .i64 5, .int .i64 6, .int .i64 5])[k]? = some (.int .i64 (awL.getD k 0)) := by
        match k, hkn with
        | 0, _ => rfl
        | 1, _ => rfl
        | 2, _ => rfl
      have e0 := (blk_cell HBW.out k).trans hget
      have HSU := Lib.hid (awE_succ hkn)
      generalize awL.getD k 0 = s at e0 HSU
      have HPU := Lib.hid (bput_any HBU.out s 2 (none, 0, 0) [] (DatF.nil _ _ _ _) (by simp))
      have hk0 : (k : Int) < 3 := by omega
      have HBK : Hid (¬ BufS g v bw) := Lib.hid (fun h => h.elim HNE.out (fun h => by obtain ⟨_, _, _, cs, hc⟩ := HBU.out.own h; rw [HBW.out] at hc; injection hc with hc; injection hc with _ h2 _; cases h2))
      clear hget
      go_wp2_with (go_at_call 32; refine (HPU.out).mono ?_; rintro e w3 ⟨rfl, v3, hB3, hm3, _⟩; have HBU3 := Lib.hid hB3; have HBW3 := Lib.hid ((hm3.block bw (blk_lt HBW.out) HBK.out).trans HBW.out); have HB3 := Lib.hid (HBU.out.belowS HB.out hm3); clear hB3 hm3)
      rw [← HSU.out] at HBU3
      go_roundw
      case rel => exact ⟨k + 1, v3, hkn, by go_num, HBU3, HBW3, HB3⟩
      case measure => exact step_measure hkn
    · obtain rfl : k = 3 := by omega
      have hol := bold_ok HBU.out 9 (by decide) (awE_len 3 (Nat.le_refl _))
      rw [oldN_all 9 _ (by decide), List.take_length] at hol
      have hL2 : (awE 3).length = 2 := by rw [awE3]; rfl
      have hL5 : ∀ h : 0 < (awE 3).length, (awE 3)[0].1 = 5 := by rw [awE3]; intro h; rfl
      generalize awE 3 = L at hol hL2 hL5
      have HOL := Lib.hid hol
      have HL2 := Lib.hid hL2
      have HL5 := Lib.hid hL5
      clear hol hkn hL2 hL5
      go_wp2_with (go_at_call 33; refine (HOL.out).mono ?_; rintro e w3 ⟨⟨v3, rfl, hr3⟩, hb3⟩; obtain ⟨A3, c3, hs3, hv3, hl3, hc3, hC3, hE3⟩ := hr3.form; have HB3 := Lib.hid (chainC (Nat.le_refl _) HB.out hb3); obtain ⟨b3, o3, x3, rfl, e0, _⟩ := erow_at hC3 hE3 (k := 0) (by have := HL2.out; omega); rw [HL5.out, Nat.zero_mul, Nat.add_zero] at e0; rw [HL2.out] at hv3; subst hv3; clear hr3 hb3 hC3 hE3 hl3 hc3)
      go_ret
      exact ⟨rfl, HB3.out⟩
end Go.Proofs.Ytnkgbnipcjgjeaa
