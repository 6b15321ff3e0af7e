import Derived.Test.YtnkgbnipcjgjeaaBL
import Derived.StillTailTactics
namespace Go.Proofs.Ytnkgbnipcjgjeaa
open Go.RowKit Go.Lib Go.Proofs.YtnkgbnipcjgjeaaW.PrintWords Go.Proofs.YtnkgbnipcjgjeaaW.PrintLast Go.Proofs.YtnkgbnipcjgjeaaW.PrintMore
set_option linter.unusedVariables false
def poL (l : List Ent) : List Ent := l.foldl (putL 16 3) []
theorem poL_succ {l : List Ent} {k : Nat} (h : k < l.length) : poL (l.take (k + 1)) = putL 16 3 (poL (l.take k)) l[k] := by
  unfold poL
  rw [List.take_succ_eq_append_getElem h, List.foldl_append]
  rfl
theorem poL_good (l : List Ent) : Good 3 (poL l) := by
  have key : ∀ (l : List Ent) (es : List Ent), Good 3 es → Good 3 (l.foldl (putL 16 3) es) := by
    intro l
    induction l with
    | nil => intro es h; exact h
    | cons x r ih => intro es h; exact ih _ (good_put x h)
  exact key l [] ⟨by simp [sec], by simp⟩
theorem good_short {es : List Ent} (h : Good 3 es) : ∀ e ∈ es, e.2.2.length ≤ 100000 := fun e he => by
  have := (h.2 e he).2.2
  omega
theorem put_trim {es : List Ent} (h : Good 3 es) (hl : es.length ≤ 16) {i : Nat} (hi : i < es.length) : putR 16 3 es (es[i].1, 2, []) = (0, es.set i (es[i].1, 2, [])) := by
  have hr := h.2 _ (List.getElem_mem hi)
  have hp : plc es[i].1 es 0 = (i : Int) := by
    rw [plc_at (k := 0) (i := i) h.1 (by unfold sec; rw [List.getElem?_map, List.getElem?_eq_getElem hi]; rfl)]
    omega
  unfold putR
  rw [if_pos (show RightP 3 es[i].1 2 ([] : List Int).length from ⟨hr.1, hr.2.1, .inr ⟨rfl, rfl⟩⟩)]
  rw [hp, if_pos (by omega), Int.toNat_natCast]
theorem set_sec {es : List Ent} {i : Nat} (hi : i < es.length) : sec (es.set i (es[i].1, 2, [])) = sec es := by
  unfold sec
  rw [List.map_set]
  apply List.ext_getElem?
  intro j
  rw [List.getElem?_set]
  by_cases e : i = j
  · subst e
    rw [if_pos rfl, if_pos (by simpa using hi), List.getElem?_map, List.getElem?_eq_getElem hi]; rfl
  · rw [if_neg e]
theorem rem_nat {x : Int} {n : Nat} (h0 : 0 ≤ x) (hn : 0 < n) : ∃ i : Nat, x % (n : Int) = (i : Int) ∧ i < n := by
  obtain ⟨i, hi⟩ := Int.eq_ofNat_of_zero_le (Int.emod_nonneg x (show (n : Int) ≠ 0 by omega))
  have := Int.emod_lt_of_pos x (show (0 : Int) < n by omega)
  exact ⟨i, hi, by omega⟩
/-- The buffer, what it was, what it is. -/
def Two (w : World) (N0 g : Nat) (v : Value) (es2 : List Ent) (vw : Value) (es : List Ent) (bw : Nat) (vn : Value) (bn : Nat) : Prop := BufIs w N0 g v es2 16 3 ∧ ERow w N0 bw vw es ∧ ERow w N0 bn vn es2
theorem Two.below {w w' : World} {N0 g : Nat} {v : Value} {es2 : List Ent} {vw : Value} {es : List Ent} {bw : Nat} {vn : Value} {bn : Nat} (h : Two w N0 g v es2 vw es bw vn bn) (hb : Below w.heap.size w w') : Two w' N0 g v es2 vw es bw vn bn :=
  ⟨h.1.below hb, h.2.1.below h.1.hN hb, h.2.2.below h.1.hN hb⟩
theorem Two.ints {w w' : World} {N0 g : Nat} {v : Value} {es2 : List Ent} {vw : Value} {es : List Ent} {bw : Nat} {vn : Value} {bn : Nat} (h : Two w N0 g v es2 vw es bw vn bn) {row : Option Nat} (hg : w.grownBy w' row) (hS : ∀ k, row = some k → N0 ≤ k ∧ ∃ cs, w.heap[k]? = some (.cells cs 3 (0, 0))) : Two w' N0 g v es2 vw es bw vn bn := by
  have hm := Mods.of_grown (S := fun k => row = some k) hg (fun k e => e)
  have hbt : ∀ k, row = some k → ¬ Bt N0 w k := fun k hk hb => by
    obtain ⟨h1, cs, h2⟩ := hS k hk
    rcases hb with hb | ⟨cs', fr, hb⟩
    · omega
    · rw [h2] at hb; injection hb with hb; injection hb with _ h3 _; cases h3
  have h54 : ∀ k cs, w.heap[k]? = some (.cells cs 54 (0, 0)) → ¬ row = some k := fun k cs hk hr => by
    obtain ⟨h1, cs', h2⟩ := hS k hr
    rw [h2] at hk; injection hk with hk; injection hk with _ h3 _; cases h3
  refine ⟨h.1.mods hm (fun hr => ?_) (fun k hk => ?_) hbt, h.2.1.mods h.1.hN hm (fun k hk => ?_) hbt, h.2.2.mods h.1.hN hm (fun k hk => ?_) hbt⟩
  · obtain ⟨h1, cs', h2⟩ := hS g hr
    have := h.1.blk
    rw [h2] at this; injection this with this; injection this with _ h3 _; cases h3
  · obtain ⟨_, _, _, cs, hc⟩ := h.1.own hk
    exact h54 k cs hc
  · obtain ⟨_, _, cs, hc⟩ := h.2.1.own hk
    exact h54 k cs hc
  · obtain ⟨_, _, cs, hc⟩ := h.2.2.own hk
    exact h54 k cs hc
theorem ERow.cells {w : World} {N0 base : Nat} {A : Option Addr} {n c : Nat} {es : List Ent} (h : ERow w N0 base (.slice A n c) es) {j : Nat} (hj : j < es.length) :
    ∃ b off x, A = some ⟨b, off, none⟩ ∧ w.cell? ⟨b, off + j * 3, none⟩ = some (.int .i64 es[j].1) ∧ w.cell? ⟨b, off + j * 3 + 1, none⟩ = some (.int .i64 es[j].2.1) ∧ w.cell? ⟨b, off + j * 3 + 2, none⟩ = some (.slice x.1 x.2.1 x.2.2) ∧ DatF w N0 x es[j].2.2 := by
  obtain ⟨A', c', hs, he, hl, _, hC, hE⟩ := h.form
  injection he with e1 _ _
  subst e1
  exact erow_at hC hE hj
theorem sec_at {es es2 : List Ent} (h : sec es2 = sec es) {q : Nat} (h1 : q < es2.length) (h2 : q < es.length) : es2[q].1 = es[q].1 := by
  have := congrArg (fun l => l[q]?) h
  unfold sec at this
  simp only [List.getElem?_map, List.getElem?_eq_getElem h1, List.getElem?_eq_getElem h2, Option.map_some, Option.some.injEq] at this
  exact this
theorem take_min {es : List Ent} {q i : Nat} (h : q < es.length) (hqi : q ≤ i) : (sec es).take (min (q + 1) (i + 1)) = (sec es).take (min q (i + 1)) ++ [es[q].1] := by
  have hl : q < (sec es).length := by unfold sec; simpa using h
  rw [Nat.min_eq_left (by omega), Nat.min_eq_left (by omega), List.take_succ_eq_append_getElem hl]
  have : (sec es)[q] = es[q].1 := List.getElem_map _
  rw [this]
theorem info3 : (Try.prog.info? 3).map (fun i => (i.zero, i.size, i.bytes)) = some (some (.int .i64 0), 1, 8) := by kernel_rfl
theorem own3 {w : World} {base : Nat} {ok : Nat → Prop} {v : Value} {xs : List Int} (h : Kd.R (Kd.int .i64) 3 w base ok v xs) : ∀ k, v.ownBlock = some k → base ≤ k ∧ ∃ cs, w.heap[k]? = some (.cells cs 3 (0, 0)) := fun k hk => by
  obtain ⟨_, h2, h3, q, hq, cs, hc⟩ := (Kd.R_bound h).1 k hk
  have : q ∈ [3] := hq
  rw [List.mem_singleton.1 this] at hc
  exact ⟨h2, cs, hc⟩
set_option maxHeartbeats 8000000 in
set_option maxRecDepth 100000 in
theorem border_main (w : World) (x0 : List Ent) {A0 : Option Addr} {c0 : Nat} (hle : x0.length ≤ 60) (g0 : Kd.C kEn w A0 x0.length x0) (x1 : Int) (hx1 : 0 ≤ x1 ∧ x1 < 256) :
    Calls Try.prog 6 #[.slice A0 x0.length c0, .int .u8 x1] w fun e w' => e = .returned (.bool true) ∧ Below w.heap.size w w' := by
  obtain ⟨hs, hhl, hhC, hhE⟩ := came_hdrs g0
  have HC := Lib.hid hhC
  have HE := Lib.hid hhE
  have HHL := Lib.hid hhl
  obtain ⟨m, hm⟩ : ∃ m, m = x0.length := ⟨_, rfl⟩
  rw [← hm] at hle ⊢
  have HM := Lib.hid hm
  have hm60 : decide (60 < (m : Int)) = false := decide_eq_false (by omega)
  have HX1 := Lib.hid hx1
  clear g0 hhl hhC hhE hm hx1
  go_enter Try.func6, Try.ntmps6
  go_wp2_with (first | (go_at_call 30; refine (bawake_ok _).mono ?_; rintro e w1 ⟨rfl, hb⟩; have HB1 := Lib.hid hb; have HNW := Lib.hid (bnew_ok 16 3 w1 w.heap.size hb.size (by omega) (by omega) (by omega) (by omega)); clear hb) | (go_at_call 31; refine (HNW.out).mono ?_; rintro e w2 ⟨⟨g, rfl, hB, hg⟩, hb⟩; have HBU := Lib.hid hB; have HB := Lib.hid (chainC (Nat.le_refl _) HB1.out hb); clear hB hg hb HB1 HNW))
  go_loopw [31] (fun i wr => ∃ (k : Nat) (v : Value), k ≤ m ∧ i = .int .i64 k ∧ Hid (BufIs wr w.heap.size g v (poL (x0.take k)) 16 3) ∧ Hid (Below w.heap.size w wr)) (fun i _ => m - (intOf i).toNat)
  case atStart => exact ⟨0, _, by omega, rfl, HBU, HB⟩
  case round =>
    clear HBU HB
    obtain ⟨k, v, hk, rfl, HBU, HB⟩ := hrel
    by_cases hkn : k < m
    · have hkx : k < x0.length := by rw [← HM.out]; exact hkn
      have hCr := Kd.C_below HC.out HB.out
      have hEr : EAll wr w.heap.size hs x0 := HE.out.move (Bt.below (Nat.le_refl _) HB.out)
      obtain ⟨b, off, x, rfl, e0, e1, e2, hd⟩ := erow_at hCr hEr hkx
      have HSU := Lib.hid (poL_succ hkx)
      generalize x0[k] = en at e0 e1 e2 hd HSU
      obtain ⟨s1, s2, xs⟩ := en
      obtain ⟨xA, xn, xc⟩ := x
      have hxn : xn = xs.length := hd.1
      subst hxn
      have hk0 : (k : Int) < (m : Int) := by omega
      have hm0 : (m : Int) ≤ 60 := by omega
      have HBA := Lib.hid (HBU.out.below (alloc_below wr (.cells #[.int .i64 s1, .int .i64 s2, .slice xA xs.length xc] 54)))
      have HDA := Lib.hid (hd.move (Bt.below HBU.out.hN (alloc_below wr (.cells #[.int .i64 s1, .int .i64 s2, .slice xA xs.length xc] 54))))
      have HBB := Lib.hid (chainC (Nat.le_refl _) HB.out (alloc_below wr (.cells #[.int .i64 s1, .int .i64 s2, .slice xA xs.length xc] 54)))
      by_cases hbig : 100 < xs.length
      · have hd : decide (100 < (xs.length : Int)) = true := decide_eq_true (by omega)
        clear hCr hEr hkx
        go_wp2_with fail
        go_ret
        exact ⟨rfl, HBB.out⟩
      · have hd : decide (100 < (xs.length : Int)) = false := decide_eq_false (by omega)
        have HPU := Lib.hid (bput_any HBA.out s1 s2 (xA, xs.length, xc) xs HDA.out (by omega))
        clear hCr hEr hkx
        go_wp2_with (go_at_call 32; refine (HPU.out).mono ?_; rintro e w3 ⟨rfl, v3, hB3, hm3, _⟩; have HBU3 := Lib.hid hB3; have HB3 := Lib.hid (HBA.out.belowS HBB.out hm3); clear hB3 hm3)
        rw [← HSU.out] at HBU3
        go_roundw
        case rel => exact ⟨k + 1, v3, hkn, by go_num, HBU3, HB3⟩
        case measure => exact step_measure hkn
    · have hk2 : k = m := by omega
      subst hk2
      have hbu := HBU.out
      rw [HM.out, List.take_length] at hbu
      have hgood := poL_good x0
      generalize poL x0 = es at hbu hgood
      have HG := Lib.hid hgood
      have hesl : es.length ≤ 16 := hbu.fit
      have hol := bold_ok hbu 16 (by decide) (good_short hgood)
      rw [oldN_all 16 _ (by omega), List.take_length] at hol
      have HOL := Lib.hid hol
      have HBU2 := Lib.hid hbu
      clear hkn hol hgood hbu HBU
      by_cases hz : es.length = 0
      · have hz0 : es = [] := List.length_eq_zero_iff.1 hz
        subst hz0
        clear hz
        go_wp2_with (first | (go_at_call 33; refine (HOL.out).mono ?_; rintro e w3 ⟨⟨vw, rfl, hr3⟩, hb3⟩; obtain ⟨Aw, cw, hsw, rfl, _, _, _⟩ := hr3.form; have HL3 := Lib.hid (blen_ok (HBU2.out.below hb3)); have HB3 := Lib.hid (chainC (Nat.le_refl _) HB.out hb3); clear hr3 hb3) | (go_at_call 34; refine (HL3.out).mono ?_; rintro e w4 ⟨rfl, rfl⟩))
        go_ret
        exact ⟨rfl, HB3.out⟩
      · have hnz : 0 < es.length := by omega
        obtain ⟨i, hi, hin⟩ := rem_nat HX1.out.1 hnz
        have hx0 : 0 ≤ x1 := HX1.out.1
        have hx9 : x1 < 256 := HX1.out.2
        have hzb : ((es.length : Int) == 0) = false := by rw [beq_eq_false_iff_ne]; omega
        obtain ⟨n, hn⟩ : ∃ n, n = es.length := ⟨_, rfl⟩
        have HNN := Lib.hid hn
        have hin' := hin
        rw [← hn] at hi hin hzb hesl hnz
        have hi0 : (i : Int) < (n : Int) := by omega
        have hi00 : (0 : Int) ≤ (i : Int) := by omega
        have hn1 : (1 : Int) ≤ (n : Int) := by omega
        have hn16 : (n : Int) ≤ 16 := by omega
        clear hz hn
        go_upto_region 19 with (first | (go_at_call 33; refine (HOL.out).mono ?_; rintro e w3 ⟨⟨vw, rfl, hr3⟩, hb3⟩; obtain ⟨Aw, cw, hsw, rfl, hlw, hcw, hCw, hEw⟩ := hr3.form; have HBU3 := Lib.hid (HBU2.out.below hb3); have HB3 := Lib.hid (chainC (Nat.le_refl _) HB.out hb3); have HSZ := Lib.hid hb3.size; obtain ⟨bw, ow, xw, rfl, e0, _⟩ := erow_at hCw hEw hin'; have HW3 := Lib.hid hr3; rw [← HNN.out]; clear hr3 hb3 hCw hEw hlw hcw))
        rw [hi]
        have hput := put_trim HG.out (by rw [← HNN.out]; exact hesl) hin'
        have hsec := set_sec hin'
        have hgp := good_put (most := 16) (es[i].1, 2, []) HG.out
        unfold putL at hgp
        rw [hput] at hgp
        have hpa := bput_any HBU3.out es[i].1 2 (none, 0, 0) [] (DatF.nil _ _ _ _) (by simp)
        unfold putL at hpa
        rw [hput] at hpa
        have hk2 : (es.set i (es[i].1, 2, []))[i]? = some (es[i].1, 2, []) := by rw [List.getElem?_set, if_pos rfl, if_pos hin']
        have hl2 : (es.set i (es[i].1, 2, [])).length = n := by rw [List.length_set]; exact HNN.out.symm
        generalize es.set i (es[i].1, 2, []) = es2 at hsec hgp hpa hk2 hl2
        generalize es[i].1 = s at hput hpa e0 hk2
        have HSEC := Lib.hid hsec
        have HG2 := Lib.hid hgp
        have HPA := Lib.hid hpa
        have HK2 := Lib.hid hk2
        have HL2 := Lib.hid hl2
        have HBU2' := HBU2
        clear hput hsec hgp hpa hk2 hl2 hi
        go_wp2_with (first | (go_at_call 32; refine (HPA.out).mono ?_; rintro e w4 ⟨rfl, v4, hB4, hm4, hv4⟩; have HW4 := Lib.hid (HW3.out.mods HBU3.out.hN hm4 (fun q hq h => by have hq2 := HW3.out.own hq; rcases h with h | h; (have := HBU2.out.ltg; omega); (have := (HBU2.out.own h).1; omega)) HBU3.out.notBt); have HB4 := Lib.hid (HBU3.out.belowS HB3.out hm4); have hll := blen_ok hB4; rw [HL2.out] at hll; have HLL := Lib.hid hll; have HBU4 := Lib.hid hB4; have HV4 : Hid (∀ q, (Value.slice (some ⟨bw, ow, none⟩) n cw).ownBlock = some q → ¬ BufS g v4 q) := Lib.hid (fun q hq h => by rw [HNN.out] at hq; have hq2 := HW3.out.own hq; rcases h with h | h; (have := HBU2.out.ltg; omega); (rcases hv4 with hv4 | ⟨b4, h1, h2⟩; (rw [hv4] at h; have := (HBU2.out.own h).1; omega); (rw [h1] at h; injection h with h; omega))); have hol2 := bold_ok hB4 16 (by decide) (good_short HG2.out); rw [oldN_all 16 _ (by rw [HL2.out]; omega), List.take_length] at hol2; have HOL2 := Lib.hid hol2; clear hB4 hm4 hv4 hll hol2) | (go_at_call 34; refine (HLL.out).mono ?_; rintro e w5 ⟨rfl, rfl⟩) | (go_at_call 33; refine (HOL2.out).mono ?_; rintro e w6 ⟨⟨vn, rfl, hr6⟩, hb6⟩; obtain ⟨An, cn, hsn, rfl, hln, hcn, _, _⟩ := hr6.form; have HBU6 := Lib.hid (HBU4.out.below hb6); have HN6 := Lib.hid hr6; have HB6 := Lib.hid (chainC (Nat.le_refl _) HB4.out hb6); have HW6 := Lib.hid (HW4.out.below HBU4.out.hN hb6); rw [HL2.out]; clear hr6 hb6 hln hcn))
        have HT6 : Hid (Two w6 w.heap.size g v4 es2 (.slice (some ⟨bw, ow, none⟩) n cw) es wr.heap.size (.slice An n cn) w5.heap.size) := Lib.hid ⟨HBU6.out, by rw [HNN.out]; exact HW6.out, by have := HN6.out; rw [HL2.out] at this; exact this⟩
        have HGV : Hid (g < w6.heap.size ∧ ∀ k, v4.ownBlock = some k → k < w6.heap.size) := Lib.hid ⟨HBU6.out.ltg, fun k hk => (HBU6.out.own hk).1⟩
        have HB66 : Hid (w.heap.size ≤ w6.heap.size) := Lib.hid HB6.out.size
        clear HBU6 HW6 HN6 HBU4 HW4 HB4 HBU3 HW3 HB3 HBU2 HB HOL HOL2 HLL HPA e0 HBU2' HSZ
        go_loopw [12, 76] (fun f j wq => ∃ (q : Nat), q ≤ n ∧ j = .int .i64 q ∧ Hid (Kd.R (Kd.int .i64) 3 wq w6.heap.size (fun _ => True) f ((sec es).take (min q (i + 1)))) ∧ Hid (Two wq w.heap.size g v4 es2 (.slice (some ⟨bw, ow, none⟩) n cw) es wr.heap.size (.slice An n cn) w5.heap.size) ∧ Hid (Below w6.heap.size w6 wq)) (fun _ j _ => n - (intOf j).toNat)
        case atStart => exact ⟨0, by omega, rfl, Lib.hid (Kd.R_nil _ _ _ _ _), HT6, Lib.hid (Below.refl _ _)⟩
        case round =>
          clear HT6
          obtain ⟨q, hq, rfl, HF, HT, HB5⟩ := hrel
          by_cases hqn : q < n
          · have hq1 : q < es2.length := by rw [HL2.out]; exact hqn
            have hq2 : q < es.length := by rw [← HNN.out]; exact hqn
            obtain ⟨bn, on, xn, rfl, e0, e1, e2, t1⟩ := HT.out.2.2.cells hq1
            obtain ⟨b', o', xw, hA, a0, t2, t3, t4⟩ := HT.out.2.1.cells hq2
            injection hA with hA
            injection hA with hA1 hA2 _
            subst hA1 hA2
            clear t1 t2 t3 t4
            have hse := sec_at HSEC.out hq1 hq2
            have HTM := Lib.hid (fun hqi => take_min (i := i) hq2 hqi)
            rw [hse] at e0
            have hkd : q = i → es2[q].2.1 = 2 := fun e => by
              subst e
              have := HK2.out
              rw [List.getElem?_eq_getElem hq1] at this
              rw [Option.some.inj this]
            generalize es2[q].2.1 = kd at e1 hkd
            generalize es[q].1 = sx at e0 a0 HTM
            obtain ⟨xA, xl, xc⟩ := xn
            have hq0 : (q : Int) < (n : Int) := by omega
            have hba := alloc_below wr (.cells #[.int .i64 sx, .int .i64 kd, .slice xA xl xc] 54)
            have hwl : bw < wr.heap.size := World.block_lt_of_cell? wr _ a0
            have HTA := Lib.hid (fun a => HT.out.below (pw_below_drewN hba a))
            have HB5A := Lib.hid (fun a => chainC' HB5.out (pw_below_drewN hba a))
            have HFA := Lib.hid (fun a => Kd.R_below HF.out (pw_below_drewN hba a))
            have hne : (sx != sx) = false := by simp
            have hlen : ((sec es).take (min q (i + 1))).length ≤ 16 := by rw [List.length_take]; omega
            have HZ : Hid ((((sec es).take (min q (i + 1))).length + 1) * 8 ≤ 140737488355328) := Lib.hid (by omega)
            clear hba hse hq1 hq2 hlen HT HB5 HF
            by_cases hqi : q ≤ i
            · have htm := HTM.out hqi
              have HTM2 := Lib.hid htm
              have hqi0 : (q : Int) ≤ (i : Int) := by omega
              clear htm
              by_cases hqe : q = i
              · have hk2 := hkd hqe
                subst hk2
                have hqb : ((q : Int) == (i : Int)) = true := by rw [beq_iff_eq]; omega
                clear hqi hqe hkd
                go_wp2_with fail
                go_quiet (fail)
                have HTq := Lib.hid (HTA.out nq)
                have HBq := Lib.hid (HB5A.out nq)
                have HFq := Lib.hid (HFA.out nq)
                have k0 : ((wr.alloc (.cells #[.int .i64 sx, .int .i64 2, .slice xA xl xc] 54)).drewN nq).cell? ⟨wr.heap.size, 0, none⟩ = some (.int .i64 sx) := blk_cell (blk_new wr _) 0
                clear HTA HB5A HFA e0 e1 e2 a0
                generalize (wr.alloc (.cells #[.int .i64 sx, .int .i64 2, .slice xA xl xc] 54)).drewN nq = W at HTq HBq HFq k0 ⊢
                go_wp2_with (at_builtin; refine Kd.R_append (Kd.int .i64) (w0 := w6) w6.heap.size rfl (.tmp 102) (.tmp 105) 32 3 _ 8 rfl Try.underlying32 info3 rfl (by decide) (by decide) u12 _ sx [.int .i64 sx] _ (fun _ => False) rfl rfl rfl (fun _ h => h.elim) (fun _ _ => trivial) HFq.out HBq.out HBq.out.size HZ.out ?_; intro v9 w9 hr9 hb9 hg9 hat9; rw [← HTM2.out] at hr9; have HF9 := Lib.hid hr9; have HB9 := Lib.hid hb9; have HT9 := Lib.hid (HTq.out.ints hg9 (fun k hk => ⟨Nat.le_trans HB66.out (own3 HFq.out k hk).1, (own3 HFq.out k hk).2⟩)); clear hr9 hb9 hg9 hat9)
                go_roundw
                case rel => exact ⟨q + 1, hqn, by go_num, HF9, HT9, HB9⟩
                case measure => exact step_measure hqn
              · have hqb : ((q : Int) == (i : Int)) = false := by rw [beq_eq_false_iff_ne]; omega
                clear hqi hqe hkd
                go_wp2_with fail
                go_quiet (fail)
                have HTq := Lib.hid (HTA.out nq)
                have HBq := Lib.hid (HB5A.out nq)
                have HFq := Lib.hid (HFA.out nq)
                have k0 : ((wr.alloc (.cells #[.int .i64 sx, .int .i64 kd, .slice xA xl xc] 54)).drewN nq).cell? ⟨wr.heap.size, 0, none⟩ = some (.int .i64 sx) := blk_cell (blk_new wr _) 0
                clear HTA HB5A HFA e0 e1 e2 a0
                generalize (wr.alloc (.cells #[.int .i64 sx, .int .i64 kd, .slice xA xl xc] 54)).drewN nq = W at HTq HBq HFq k0 ⊢
                go_wp2_with (at_builtin; refine Kd.R_append (Kd.int .i64) (w0 := w6) w6.heap.size rfl (.tmp 102) (.tmp 105) 32 3 _ 8 rfl Try.underlying32 info3 rfl (by decide) (by decide) u12 _ sx [.int .i64 sx] _ (fun _ => False) rfl rfl rfl (fun _ h => h.elim) (fun _ _ => trivial) HFq.out HBq.out HBq.out.size HZ.out ?_; intro v9 w9 hr9 hb9 hg9 hat9; rw [← HTM2.out] at hr9; have HF9 := Lib.hid hr9; have HB9 := Lib.hid hb9; have HT9 := Lib.hid (HTq.out.ints hg9 (fun k hk => ⟨Nat.le_trans HB66.out (own3 HFq.out k hk).1, (own3 HFq.out k hk).2⟩)); clear hr9 hb9 hg9 hat9)
                go_roundw
                case rel => exact ⟨q + 1, hqn, by go_num, HF9, HT9, HB9⟩
                case measure => exact step_measure hqn
            · have hqb : ((q : Int) == (i : Int)) = false := by rw [beq_eq_false_iff_ne]; omega
              have hqi0 : ¬ (q : Int) ≤ (i : Int) := by omega
              have HF1 : Hid (∀ a, Kd.R (Kd.int .i64) 3 ((wr.alloc (.cells #[.int .i64 sx, .int .i64 kd, .slice xA xl xc] 54)).drewN a) w6.heap.size (fun _ => True) u12 ((sec es).take (min (q + 1) (i + 1)))) := Lib.hid (fun a => by
                have := HFA.out a
                rw [Nat.min_eq_right (by omega)] at this ⊢
                exact this)
              clear hqi hkd
              go_wp2_with fail
              go_quiet (fail)
              go_wp2_with fail
              go_roundw
              case rel => exact ⟨q + 1, hqn, by go_num, Lib.hid (HF1.out _), Lib.hid (HTA.out _), Lib.hid (HB5A.out _)⟩
              case measure => exact step_measure hqn
          · obtain rfl : q = n := by omega
            have hdr := HF.out
            rw [Nat.min_eq_right (by omega)] at hdr
            obtain ⟨Af, cf, rfl⟩ := Kd.R_slice hdr
            have htl : ((sec es).take (i + 1)).length ≤ 16 := by rw [List.length_take]; omega
            have hdt := Kd.R_tight rfl hdr
            have h35 := bdrop_ok HT.out.1 Af cf _ _ (Kd.R_F hdt) (fun k hk hs => by
              have := (own3 hdr k hk.symm).1
              rcases hs with hs | hs
              · have := HGV.out.1; omega
              · have := HGV.out.2 k hs; omega) (by omega)
            have hdl : dropL es2 ((sec es).take (i + 1)) = es2.drop (i + 1) := by rw [← HSEC.out]; exact dropL_head (i + 1) es2
            have hcnt : (es2.length : Int) - ((es2.drop (i + 1)).length : Int) = (i : Int) + 1 := by rw [List.length_drop, HL2.out]; omega
            rw [hdl, hcnt] at h35
            have hg3 : Good 3 (es2.drop (i + 1)) := ⟨by have h1 : sec (es2.drop (i + 1)) = (sec es2).drop (i + 1) := List.map_drop; rw [h1]; exact HG2.out.1.sublist (List.drop_sublist _ _), fun e he => HG2.out.2 e (List.mem_of_mem_drop he)⟩
            have hrel3 : ∀ j (h1 : j < (es2.drop (i + 1)).length) (h2 : i + 1 + j < es.length), (es2.drop (i + 1))[j].1 = es[i + 1 + j].1 := fun j h1 h2 => by
              rw [List.getElem_drop]
              exact sec_at HSEC.out _ h2
            have hl3 : (es2.drop (i + 1)).length = q - (i + 1) := by rw [List.length_drop, HL2.out]
            generalize es2.drop (i + 1) = es3 at h35 hg3 hrel3 hl3
            generalize (sec es).take (i + 1) = fs at h35 hdr hdt htl
            obtain ⟨FL, hFL⟩ : ∃ FL, FL = fs.length := ⟨_, rfl⟩
            rw [← hFL] at h35 ⊢
            have H35 := Lib.hid h35
            have HG3 := Lib.hid hg3
            have HR3 := Lib.hid hrel3
            have HL3 := Lib.hid hl3
            clear h35 hg3 hrel3 hl3 hdr hdt htl hdl hcnt hqn hFL
            have hib : ((i : Int) + 1 != (i : Int) + 1) = false := by simp
            obtain ⟨L, hL⟩ : ∃ L, L = q - (i + 1) := ⟨_, rfl⟩
            have hLi : (L : Int) = (q : Int) - (i : Int) - 1 := by omega
            rw [← hL] at HL3
            have hL16 : (L : Int) ≤ 16 := by omega
            have HLQ := Lib.hid hL
            have HLI := Lib.hid hLi
            clear hL hLi
            go_wp2_with (first | (go_at_call 35; refine (H35.out).mono ?_; rintro e w7 ⟨rfl, v7, hB7, hv7, hm7⟩; have hol3 := bold_ok hB7 16 (by decide) (good_short HG3.out); rw [oldN_all 16 _ (by rw [HL3.out]; exact hL16), List.take_length] at hol3; have HOL3 := Lib.hid hol3; have HW7 := Lib.hid (HT.out.2.1.mods HT.out.1.hN hm7 HV4.out HT.out.1.notBt); have HBU7 := Lib.hid hB7; have HB7 := Lib.hid (HT.out.1.belowS (chainC (Nat.le_refl _) HB6.out (HB5.out.mono (Nat.le_refl _))) hm7); clear hB7 hv7 hm7 hol3) | (go_at_call 33; refine (HOL3.out).mono ?_; rintro e w8 ⟨⟨v8, rfl, hr8⟩, hb8⟩; obtain ⟨A8, c8, hs8, rfl, hl8, hc8, _, _⟩ := hr8.form; have HN8 := Lib.hid hr8; have HB8 := Lib.hid (chainC (Nat.le_refl _) HB7.out hb8); have HW8 := Lib.hid (HW7.out.below HBU7.out.hN hb8); rw [HL3.out]; clear hr8 hb8 hl8 hc8))
            have HW9 : Hid ((∃ bb, ERow w8 w.heap.size bb (.slice (some ⟨bw, ow, none⟩) q cw) es) ∧ w.heap.size ≤ w8.heap.size) := Lib.hid ⟨⟨_, HW8.out⟩, HB8.out.size⟩
            go_loopw [118] (fun j wq => ∃ (t : Nat), t ≤ L ∧ j = .int .i64 t ∧ Hid (Below w8.heap.size w8 wq)) (fun j _ => L - (intOf j).toNat)
            case atStart => exact ⟨0, by omega, rfl, Lib.hid (Below.refl _ _)⟩
            case round =>
              obtain ⟨t, ht, rfl, HB⟩ := hrel
              by_cases htn : t < L
              · have ht3 : t < es3.length := by rw [HL3.out]; exact htn
                have hte : i + 1 + t < es.length := by rw [← HNN.out]; have := HLQ.out; omega
                obtain ⟨b8, o8, x8, rfl, e0, e1, e2, t1⟩ := (HN8.out.below HW9.out.2 HB.out).cells ht3
                obtain ⟨bb, hW9⟩ := HW9.out.1
                obtain ⟨b', o', xw, hA, a0, t2, t3, t4⟩ := (hW9.below HW9.out.2 HB.out).cells hte
                injection hA with hA
                injection hA with hA1 hA2 _
                subst hA1 hA2
                clear t1 t2 t3 t4 hW9
                rw [HR3.out t ht3 hte] at e0
                generalize es3[t].2.1 = kd at e1
                generalize es[i + 1 + t].1 = sx at e0 a0
                obtain ⟨xA, xl, xc⟩ := x8
                have ht0 : (t : Int) < (L : Int) := by omega
                have hba := alloc_below wr (.cells #[.int .i64 sx, .int .i64 kd, .slice xA xl xc] 54)
                have hwl : bw < wr.heap.size := World.block_lt_of_cell? wr _ a0
                have HB5A := Lib.hid (fun a => chainC' HB.out (pw_below_drewN hba a))
                have hne : (sx != sx) = false := by simp
                have f1 : (0 : Int) ≤ (i : Int) + 1 + (t : Int) := by omega
                have f2 : (i : Int) + 1 + (t : Int) < (q : Int) := by have := HLI.out; omega
                have f3 : ((i : Int) + 1 + (t : Int)).toNat = i + 1 + t := by omega
                have f4 : IntKind.i64.wrap ((i : Int) + 1) = (i : Int) + 1 := IntWalk.i64_in _ (by omega)
                have f5 : IntKind.i64.wrap ((i : Int) + 1 + (t : Int)) = (i : Int) + 1 + (t : Int) := IntWalk.i64_in _ (by omega)
                clear hba ht3 hte HB
                go_wp2_with fail
                go_quiet (fail)
                clear f1 f2 f3 f4 f5
                go_wp2_with fail
                go_roundw
                case rel => exact ⟨t + 1, htn, by go_num, Lib.hid (HB5A.out _)⟩
                case measure => exact step_measure htn
              · obtain rfl : t = L := by omega
                have HFIN := Lib.hid (chainC (Nat.le_refl _) HB8.out HB.out)
                have hfb : ((t : Int) == (q : Int) - (i : Int) - 1) = true := by rw [beq_iff_eq]; exact HLI.out
                clear htn
                go_wp2_with fail
                go_ret
                exact ⟨rfl, HFIN.out⟩
set_option maxHeartbeats 4000000 in
set_option maxRecDepth 100000 in
theorem bufferOrder_walk (w : World) (x0 : List (Int × Int × (List Int))) {A0_0 : Option Addr} {c0_0 : Nat} (l0_0 : x0.length ≤ c0_0) (g0_0 : Kd.C (Kd.pair (Kd.int .i64) (Kd.pair (Kd.int .i64) (Kd.slice 5 (Kd.int .u8)))) w A0_0 x0.length x0) (hw0 : (∀ z0 ∈ x0, ((Lit.int .i64 z0.1).wf = true ∧ (Lit.int .i64 z0.2.1).wf = true ∧ (∀ z1 ∈ z0.2.2, (Lit.int .u8 z1).wf = true)))) (x1 : Int) (hw1 : (Lit.int .u8 x1).wf = true) :
    Calls Try.prog 6 #[.slice A0_0 x0.length c0_0, .int .u8 x1] w fun e w' => e = .returned (.bool true) ∧ Below w.heap.size w w' := by
  have hx1 : 0 ≤ x1 ∧ x1 < 256 := by
    simp [Lit.wf, IntKind.min, IntKind.max, IntKind.signed, IntKind.bits] at hw1
    omega
  by_cases hle : x0.length ≤ 60
  · exact border_main w x0 hle g0_0 x1 hx1
  · have hm60 : decide (60 < (x0.length : Int)) = true := decide_eq_true (by omega)
    clear g0_0 hw0 hw1 hx1 hle l0_0
    generalize x0.length = m at hm60 ⊢
    go_enter Try.func6, Try.ntmps6
    go_wp2_with (go_at_call 30; refine (bawake_ok _).mono ?_; rintro e w1 ⟨rfl, hb⟩; have HB1 := Lib.hid hb; clear hb)
    go_ret
    exact ⟨rfl, HB1.out⟩
end Go.Proofs.Ytnkgbnipcjgjeaa
