import Derived.Test.YtnkgbnipcjgjeaaTS
namespace Go.Proofs.Ytnkgbnipcjgjeaa
open Go.RowKit Go.Shelf Go.Sort Go.Lib Go.Proofs.YtnkgbnipcjgjeaaW.PrintWords Go.Proofs.YtnkgbnipcjgjeaaW.PrintLast Go.Proofs.YtnkgbnipcjgjeaaW.PrintMore
set_option linter.unusedVariables false
theorem cell_block {w w' : World} {p : Addr} (h : w'.heap[p.block]? = w.heap[p.block]?) : w'.cell? p = w.cell? p := by
  unfold World.cell?
  rw [h]
/-- Byte j of a torn page. -/
def tornAt (l : List Int) (j : Nat) : Int := if 0 < l.length then l.getD (j % l.length) 0 else 0
def tornL (l : List Int) (n : Nat) : List Int := (List.range n).map (tornAt l)
theorem tornL_len (l : List Int) (n : Nat) : (tornL l n).length = n := by unfold tornL; rw [List.length_map, List.length_range]
theorem make52 (W : World) (sz : Nat) (h : sz ≤ 65536) : ∃ cur : Array Value, (Instr.makeSlice 52 (Value.int .i64 (sz : Int)) (Value.int .i64 (sz : Int))).run Try.prog W = .ok (.slice (some ⟨W.heap.size, 0, none⟩) sz sz) (W.alloc (.cells cur 5)) ∧ cur.size = sz ∧ ∀ j, j < sz → cur[j]? = some (.int .u8 0) := by
  obtain ⟨i0, hi, hzz⟩ := Option.map_eq_some_iff.1 info5
  simp only [Prod.mk.injEq] at hzz
  obtain ⟨hz0, hz1, hz2⟩ := hzz
  have hr := run_make (P := Try.prog) W 52 5 i0 (.int .u8 0) Try.underlying52 hi hz0 .i64 .i64 (sz : Int) (sz : Int) (by omega) (by omega) (by rw [hz2]; omega) (by omega)
  simp only [Int.toNat_natCast] at hr
  rw [hz1] at hr
  refine ⟨_, hr, ?_, fun j hj => ?_⟩
  · rw [size_madeCells]; omega
  · have := Kd.reps_made (R := fun (x : Int) (cs : List Value) => cs = [.int .u8 x]) (z := .int .u8 0) (by rfl) (by decide) rfl sz
    have h2 := this.2 j 0 (by rw [List.getElem?_replicate, if_pos hj])
    have h3 : ((madeCells (Value.int IntKind.u8 0).cells (sz * 1)).toList.drop (j * 1)).take 1 = [Value.int .u8 0] := h2
    rw [Nat.mul_one j] at h3
    have h4 := congrArg (fun l => l[0]?) h3
    simpa [List.getElem?_take, List.getElem?_drop] using h4
theorem row8c {A0 : Option Addr} {l0 : List Int} {w : World} (hr0 : kB.C w A0 l0.length l0) (hp : 0 < l0.length) :
    ∃ b off, A0 = some ⟨b, off, none⟩ ∧ b < w.heap.size ∧ ∀ j, j < l0.length → w.cell? ⟨b, off + j, none⟩ = some (.int .u8 (l0.getD j 0)) := by
  have hC := Kd.reads_of_C (d := (0 : Int)) (h1 := fun _ => rfl) hr0
  obtain ⟨ad, rfl, hc⟩ := hC.2.2 hp
  have h0 := hc 0 hp
  have e := spotless (show w.cell? ad = some _ from h0)
  refine ⟨ad.block, ad.off, by rw [← e], World.block_lt_of_cell? w ad h0, fun j hj => ?_⟩
  rw [← add_plain, ← e]
  exact hc j hj
/-- A row of bytes out of its block. -/
theorem R_mk8 {w : World} {base g cap : Nat} {cur : Array Value} {xs : List Int} (hb : base ≤ g) (hg : w.heap[g]? = some (.cells cur 5 (0, 0))) (hl : xs.length ≤ cap) (hm : cap ≤ maxLen) (hs : cur.size = cap) (hc : ∀ j, j < xs.length → cur[j]? = some (.int .u8 (xs.getD j 0))) :
    kB.R 5 w base (fun _ => True) (.slice (some ⟨g, 0, none⟩) xs.length cap) xs := by
  refine ⟨fun _ _ => trivial, xs.map (Value.int .u8), ⟨by show _ = xs.length * 1; simp, .inr ⟨g, cap, cur, rfl, hb, hg, hl, hm, by rw [hs]; show cap = cap * 1; omega, ?_⟩⟩, ?_⟩
  · apply List.ext_getElem?
    intro i
    show (cur.toList.take (xs.length * 1))[i]? = _
    rw [Nat.mul_one, List.getElem?_take, List.getElem?_map]
    split
    · rename_i hi
      rw [Array.getElem?_toList, hc i hi, List.getD_eq_getElem?_getD, List.getElem?_eq_getElem hi]
      rfl
    · rename_i hi
      rw [List.getElem?_eq_none (by omega)]
      rfl
  · refine ⟨by show _ = xs.length * 1; simp, fun j p hp => ?_⟩
    have hj : j < xs.length := (List.getElem?_eq_some_iff.1 hp).1
    show ((xs.map (Value.int .u8)).drop (j * 1)).take 1 = [Value.int .u8 p]
    rw [Nat.mul_one, List.drop_eq_getElem_cons (by simpa using hj), List.take_succ_cons, List.take_zero, List.getElem_map]
    have : xs[j] = p := by rw [List.getElem?_eq_getElem hj] at hp; exact Option.some.inj hp
    rw [this]
/-- A page under way: the first k bytes are told. -/
def PageIs (w : World) (zb n k : Nat) (l : List Int) : Prop := ∃ cur : Array Value, w.heap[zb]? = some (.cells cur 5 (0, 0)) ∧ cur.size = n ∧ ∀ j, j < n → cur[j]? = some (.int .u8 (if j < k then tornAt l j else 0))
theorem PageIs.fin {w : World} {zb n : Nat} {l : List Int} {base : Nat} (h : PageIs w zb n n l) (hb : base ≤ zb) (hn : n ≤ 65536) : kB.R 5 w base (fun _ => True) (.slice (some ⟨zb, 0, none⟩) n n) (tornL l n) := by
  obtain ⟨cur, h1, h2, h3⟩ := h
  have := R_mk8 (xs := tornL l n) (cap := n) hb h1 (by rw [tornL_len]; exact Nat.le_refl _) (by unfold maxLen; omega) h2 (fun j hj => by
    rw [tornL_len] at hj
    rw [h3 j hj, if_pos hj]
    unfold tornL
    rw [List.getD_eq_getElem?_getD, List.getElem?_map, List.getElem?_range hj]
    rfl)
  rw [tornL_len] at this
  exact this
theorem PageIs.put {w : World} {zb n k : Nat} {l : List Int} (h : PageIs w zb n k l) (hk : k < n) : PageIs (w.setCell ⟨zb, k, none⟩ (.int .u8 (tornAt l k))) zb n (k + 1) l := by
  obtain ⟨cur, h1, h2, h3⟩ := h
  refine ⟨_, blk_put h1 k _ rfl, by rw [Array.size_setIfInBounds]; exact h2, fun j hj => ?_⟩
  rw [Array.getElem?_setIfInBounds]
  by_cases e : k = j
  · subst e
    rw [if_pos rfl, if_pos (by omega), if_pos (by omega)]
  · rw [if_neg e, h3 j hj]
    by_cases h4 : j < k
    · rw [if_pos h4, if_pos (by omega)]
    · rw [if_neg h4, if_neg (by omega)]
theorem PageIs.skip {w : World} {zb n k : Nat} {l : List Int} (h : PageIs w zb n k l) (hl : l.length = 0) : PageIs w zb n (k + 1) l := by
  obtain ⟨cur, h1, h2, h3⟩ := h
  refine ⟨cur, h1, h2, fun j hj => ?_⟩
  rw [h3 j hj]
  have : tornAt l j = 0 := by unfold tornAt; rw [if_neg (by omega)]
  rw [this]
  split <;> split <;> rfl
section
variable {w : World} {N0 p mb : Nat} {asked work : Int} {s : Sc}
set_option maxHeartbeats 4000000 in
set_option maxRecDepth 100000 in
theorem torn_ok (n : Nat) (h : TelIs w N0 p mb asked work s) (hn : n ≤ 65536) (hl : s.torn.length ≤ 100000) :
    Calls Try.prog 51 #[.pointer (some ⟨p, 0, none⟩), .int .i64 (n : Int)] w fun e w' => (∃ v, e = .returned v ∧ kB.R 5 w' w.heap.size (fun _ => True) v (tornL s.torn n)) ∧ Below w.heap.size w w' := by
  have c2 := h.cell2
  have HI := Lib.hid (tis_ok p mb w c2)
  have HWI := Lib.hid (within_ok (n : Int) 0 65536 w)
  have hin : inB 0 65536 (n : Int) = true := decide_eq_true ⟨by omega, by omega⟩
  rw [hin] at HWI
  obtain ⟨A1, c1, A2, c2', A4, c4, h1, _, _, l4, _, _, f4⟩ := id h.blk
  have c3 := blk_cell h1 3
  obtain ⟨cur, hmk, hcs, hcz⟩ := make52 w n hn
  have HP : Hid (PageIs (w.alloc (.cells cur 5)) w.heap.size n 0 s.torn) := Lib.hid ⟨cur, blk_new w _, hcs, fun j hj => by rw [hcz j hj, if_neg (by omega)]⟩
  have HTB := Lib.hid (h.below (alloc_below w (.cells cur 5)))
  have HB := Lib.hid (alloc_below w (.cells cur 5))
  have hltp := h.ltp
  have HC4 := Lib.hid (Kd.F_now f4)
  have HN := Lib.hid hn
  have hnn : (n : Int) ≤ 65536 := by omega
  obtain ⟨m, hm⟩ : ∃ m, m = s.torn.length := ⟨_, rfl⟩
  have HM := Lib.hid hm
  rw [← hm] at c3
  have hmm : (m : Int) ≤ 100000 := by omega
  have HB4 := Lib.hid h1
  clear hin h h1 l4 f4 hcs hcz hn hl hm
  go_enter Try.func51, Try.ntmps51
  go_wp2_with (first | (go_at_call 96; refine (HI.out).mono ?_; rintro e w1 ⟨rfl, rfl⟩) | (go_at_call 98; refine (HWI.out).mono ?_; rintro e w1 ⟨rfl, rfl⟩))
  obtain ⟨zb, hzb⟩ : ∃ zb, zb = w1.heap.size := ⟨_, rfl⟩
  rw [← hzb] at HP ⊢
  have HZ := Lib.hid hzb
  clear hzb
  generalize w1.alloc (.cells cur 5) = W at HP HTB HB ⊢
  go_loopw [19] (fun i wr => ∃ k : Nat, k ≤ n ∧ i = .int .i64 k ∧ Hid (PageIs wr zb n k s.torn) ∧ Hid (Below w1.heap.size w1 wr)) (fun i _ => n - (intOf i).toNat)
  case atStart => exact ⟨0, by omega, rfl, HP, HB⟩
  case round =>
    clear HP HB
    obtain ⟨k, hk, rfl, HP, HB⟩ := hrel
    by_cases hkn : k < n
    · have hk0 : (k : Int) < (n : Int) := by omega
      have hp3 := (HB.out.block p hltp).trans HB4.out
      have d3 := blk_cell hp3 3
      rw [← HM.out] at d3
      by_cases hm0 : m = 0
      · have hd : decide (0 < m) = false := decide_eq_false (by omega)
        have HP2 := Lib.hid (HP.out.skip (by rw [← HM.out]; exact hm0))
        clear hp3 hm0 HP
        go_wp2_with fail
        go_roundw
        case rel => exact ⟨k + 1, hkn, by go_num, HP2, HB⟩
        case measure => exact step_measure hkn
      · have hd : decide (0 < m) = true := decide_eq_true (by omega)
        have hC := Kd.C_below HC4.out HB.out
        obtain ⟨b, off, rfl, hbl, hcell⟩ := row8c hC (by have := HM.out; omega)
        have hkm : k % m < m := Nat.mod_lt _ (by omega)
        have e0 := hcell (k % m) (by have := HM.out; omega)
        have hta : tornAt s.torn k = s.torn.getD (k % m) 0 := by unfold tornAt; rw [← HM.out, if_pos (by omega)]
        rw [← hta] at e0
        have HPP := Lib.hid (HP.out.put hkn)
        obtain ⟨cu, hzb, hcu, hcj⟩ := HP.out
        have z0 := (blk_cell hzb k).trans (hcj k hkn)
        have zz : wr.frozen? ⟨zb, k, none⟩ = false := blk_frozen hzb k
        have hbz : b ≠ zb := by
          have h4 := (Kd.C_lt (d := kB) HC4.out (by have := HM.out; omega) (by decide))
          have := HZ.out
          intro e
          rw [e] at h4
          have h5 : zb < w1.heap.size := h4
          omega
        have hpz : p ≠ zb := by have := HZ.out; omega
        generalize tornAt s.torn k = tx at e0 HPP
        have f3 : (wr.setCell ⟨zb, k, none⟩ (.int .u8 tx)).cell? ⟨p, 3, none⟩ = _ := (cell_block (p := ⟨p, 3, none⟩) (Below.heap_setCell wr ⟨zb, k, none⟩ (.int .u8 tx) p hpz)).trans d3
        have f0 : (wr.setCell ⟨zb, k, none⟩ (.int .u8 tx)).cell? ⟨b, off + k % m, none⟩ = _ := (cell_block (p := ⟨b, off + k % m, none⟩) (Below.heap_setCell wr ⟨zb, k, none⟩ (.int .u8 tx) b hbz)).trans e0
        have HB2 : Hid (Below w1.heap.size w1 (wr.setCell ⟨zb, k, none⟩ (.int .u8 tx))) := Lib.hid (HB.out.setCell (p := ⟨zb, k, none⟩) (by rw [HZ.out]; exact Nat.le_refl _) _)
        have hr1 : Int.tmod (k : Int) (m : Int) = ((k % m : Nat) : Int) := (Int.ofNat_tmod k m).symm
        have hr2 : (k : Int) % (m : Int) = ((k % m : Nat) : Int) := (Int.natCast_emod k m).symm
        have hq1 : ((k % m : Nat) : Int) < (m : Int) := by omega
        have hq0 : (0 : Int) ≤ ((k % m : Nat) : Int) := by omega
        have hmz : (m : Int) ≠ 0 := by omega
        have hwq : IntKind.i64.wrap ((k % m : Nat) : Int) = ((k % m : Nat) : Int) := IntWalk.i64_in _ (by omega)
        have hmb : ((m : Int) == 0) = false := by rw [beq_eq_false_iff_ne]; omega
        have hmn : (m == 0) = false := by rw [beq_eq_false_iff_ne]; exact hm0
        clear hp3 HP hC hcell hta hzb hcu hcj hbl hkm
        generalize k % m = km at e0 f0 hr1 hr2 hq1 hq0 hwq
        go_wp2_with fail
        go_region_held3 (fun w' => w'.cell? ⟨p, 3, none⟩ = some (.slice (some ⟨b, off, none⟩) m c4) ∧ w'.cell? ⟨b, off + km, none⟩ = some (.int .u8 tx)) (go_keep) (fail)
        all_goals
          go_wp2_with fail
          go_roundw
          case rel => exact ⟨k + 1, hkn, by go_num, Lib.hid HPP.out, Lib.hid (pw_below_drewN HB2.out 1)⟩
          case measure => exact step_measure hkn
    · have hk2 : k = n := by omega
      subst hk2
      have HF := Lib.hid (HP.out.fin (base := w1.heap.size) (by rw [HZ.out]; exact Nat.le_refl _) HN.out)
      clear hkn hk
      go_wp2_with fail
      go_ret
      exact ⟨⟨_, rfl, HF.out⟩, HB.out⟩
end
end Go.Proofs.Ytnkgbnipcjgjeaa
