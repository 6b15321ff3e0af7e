import Derived.Test.YtnkgbnipcjgjeaaBF
namespace Go.Proofs.Ytnkgbnipcjgjeaa
open Go.RowKit Go.Lib Go.Proofs.YtnkgbnipcjgjeaaW.PrintWords Go.Proofs.YtnkgbnipcjgjeaaW.PrintLast Go.Proofs.YtnkgbnipcjgjeaaW.PrintMore
set_option linter.unusedVariables false
theorem RE_mk {w : World} {base g c : Nat} {cur : Array Value} {hs : List Eh} (hb : base ≤ g) (hg : w.heap[g]? = some (.cells cur 54 (0, 0))) (hl : hs.length ≤ c) (hm : c ≤ maxLen) (hs3 : cur.size = c * 3)
    (hc : ∀ j h, hs[j]? = some h → cur[j * 3]? = some (.int .i64 h.1) ∧ cur[j * 3 + 1]? = some (.int .i64 h.2.1) ∧ cur[j * 3 + 2]? = some (.slice h.2.2.1 h.2.2.2.1 h.2.2.2.2)) :
    Kd.R kEh 54 w base (fun _ => True) (.slice (some ⟨g, 0, none⟩) hs.length c) hs := by
  refine ⟨fun _ _ => trivial, cur.toList.take (hs.length * 3), ⟨?_, .inr ⟨g, c, cur, rfl, hb, hg, hl, hm, hs3, rfl⟩⟩, ?_, fun j p hp => ?_⟩
  · rw [List.length_take, Array.length_toList]; show min (hs.length * 3) cur.size = hs.length * 3; omega
  · rw [List.length_take, Array.length_toList]; show min (hs.length * 3) cur.size = hs.length * 3; omega
  · have hj : j < hs.length := (List.getElem?_eq_some_iff.1 hp).1
    obtain ⟨a0, a1, a2⟩ := hc j p hp
    have e : ((cur.toList.take (hs.length * 3)).drop (j * 3)).take 3 = ehC p := by
      apply List.ext_getElem?
      intro i
      rw [List.getElem?_take]
      split
      · rename_i hi
        rw [List.getElem?_drop, List.getElem?_take, if_pos (by omega), Array.getElem?_toList]
        match i, hi with
        | 0, _ => exact a0
        | 1, _ => exact a1
        | 2, _ => exact a2
      · rename_i hi
        rw [List.getElem?_eq_none]
        show 3 ≤ i
        omega
    show kEh.M w base _ p (((cur.toList.take (hs.length * 3)).drop (j * 3)).take 3)
    rw [e]
    exact kEh_M w base _ p
theorem R_at {w : World} {base g n c : Nat} {ok : Nat → Prop} {hs : List Eh} (h : Kd.R kEh 54 w base ok (.slice (some ⟨g, 0, none⟩) n c) hs) {cur : Array Value} (hg : w.heap[g]? = some (.cells cur 54 (0, 0))) {j : Nat} {x : Eh} (hj : hs[j]? = some x) :
    cur[j * 3]? = some (.int .i64 x.1) ∧ cur[j * 3 + 1]? = some (.int .i64 x.2.1) ∧ cur[j * 3 + 2]? = some (.slice x.2.2.1 x.2.2.2.1 x.2.2.2.2) := by
  obtain ⟨A, cc, he, hc, hC⟩ := Kd.R_reads h
  have hjl := (List.getElem?_eq_some_iff.1 hj).1
  obtain ⟨b, off, e, _, hcell⟩ := rowE_of_C hC (by omega)
  rw [e] at he
  injection he with e1 _ _
  injection e1 with e1
  injection e1 with e1 e2 _
  subst e1 e2
  have := hcell j x hj
  simp only [Nat.zero_add, blk_cell hg] at this
  exact this
/-- An entry is put in its place. -/
theorem R_put3 {w : World} {base g n c : Nat} {hs : List Eh} (h : Kd.R kEh 54 w base (fun _ => True) (.slice (some ⟨g, 0, none⟩) n c) hs) {i : Nat} (hi : i < n) (x : Eh) :
    Kd.R kEh 54 (((w.setCell ⟨g, i * 3, none⟩ (.int .i64 x.1)).setCell ⟨g, i * 3 + 1, none⟩ (.int .i64 x.2.1)).setCell ⟨g, i * 3 + 2, none⟩ (.slice x.2.2.1 x.2.2.2.1 x.2.2.2.2)) base (fun _ => True) (.slice (some ⟨g, 0, none⟩) n c) (hs.set i x) := by
  obtain ⟨hnl, hnc, hcm, hbg, cur, hcur, hsz⟩ := R_cells h
  subst hnl
  have hl : hs.length = (hs.set i x).length := by simp
  rw [hl]
  refine RE_mk hbg (blk_put (blk_put (blk_put hcur _ _ rfl) _ _ rfl) _ _ rfl) (by simpa using hnc) hcm (by simpa using hsz) (fun j y hj => ?_)
  have hjl : j < hs.length := by have := (List.getElem?_eq_some_iff.1 hj).1; simpa using this
  rw [List.getElem?_set] at hj
  simp only [Array.getElem?_setIfInBounds, Array.size_setIfInBounds]
  by_cases e : i = j
  · subst e
    rw [if_pos rfl, if_pos hjl] at hj
    obtain rfl := Option.some.inj hj
    have : i * 3 + 2 < cur.size := by omega
    refine ⟨?_, ?_, ?_⟩
    · rw [if_neg (by omega), if_neg (by omega), if_pos rfl, if_pos (by omega)]
    · rw [if_neg (by omega), if_pos rfl, if_pos (by omega)]
    · rw [if_pos rfl, if_pos (by omega)]
  · rw [if_neg e] at hj
    obtain ⟨a0, a1, a2⟩ := R_at h hcur hj
    refine ⟨?_, ?_, ?_⟩
    · rw [if_neg (by omega), if_neg (by omega), if_neg (by omega)]; exact a0
    · rw [if_neg (by omega), if_neg (by omega), if_neg (by omega)]; exact a1
    · rw [if_neg (by omega), if_neg (by omega), if_neg (by omega)]; exact a2
section
variable {w : World} {N0 g : Nat} {v : Value} {es : List Ent} {most size : Nat}
theorem BufIs.hN (h : BufIs w N0 g v es most size) : N0 ≤ w.heap.size := Nat.le_of_lt (Nat.lt_of_le_of_lt h.lo h.ltg)
set_option maxHeartbeats 4000000 in
set_option maxRecDepth 100000 in
theorem bput_bad (h : BufIs w N0 g v es most size) (s k : Int) (A : Option Addr) (n c : Nat) (hr : ¬ RightP size s k n) :
    Calls Try.prog 32 #[.pointer (some ⟨g, 0, none⟩), .agg #[.int .i64 s, .int .i64 k, .slice A n c]] w fun e w' => e = .returned (.int .i64 2) ∧ Below w.heap.size w w' := by
  have hb1 : Below w.heap.size w (w.alloc (.cells #[.int .i64 s, .int .i64 k, .slice A n c] 54)) := (Below.refl w.heap.size w).alloc (Nat.le_refl _) _
  have h1 := h.below hb1
  have HI := Lib.hid (bis_ok h1)
  have hR := bright_ok h1 s k A n c
  rw [decide_eq_false hr] at hR
  have HR := Lib.hid hR
  have HB := Lib.hid hb1
  clear h h1 hb1 hR hr
  go_enter Try.func32, Try.ntmps32
  go_wp2_with (first | (go_at_call 87; refine (HI.out).mono ?_; rintro e w' ⟨rfl, rfl⟩) | (go_at_call 88; refine (HR.out).mono ?_; rintro e w' ⟨rfl, hb2⟩))
  go_ret
  exact ⟨rfl, chainC' HB.out hb2⟩
set_option maxHeartbeats 4000000 in
set_option maxRecDepth 100000 in
theorem bput_full (h : BufIs w N0 g v es most size) (s k : Int) (A : Option Addr) (n c : Nat) (hr : RightP size s k n) (hp : plc s es 0 < 0) (hf : es.length = most) :
    Calls Try.prog 32 #[.pointer (some ⟨g, 0, none⟩), .agg #[.int .i64 s, .int .i64 k, .slice A n c]] w fun e w' => e = .returned (.int .i64 3) ∧ Below w.heap.size w w' := by
  have hb1 : Below w.heap.size w (w.alloc (.cells #[.int .i64 s, .int .i64 k, .slice A n c] 54)) := (Below.refl w.heap.size w).alloc (Nat.le_refl _) _
  have h1 := h.below hb1
  have HI := Lib.hid (bis_ok h1)
  have hR := bright_ok h1 s k A n c
  rw [decide_eq_true hr] at hR
  have HR := Lib.hid hR
  have HB := Lib.hid hb1
  have HH := Lib.hid h1
  have HF := Lib.hid hf
  have hp0 : ¬ (0 ≤ plc s es 0) := by omega
  generalize hP : plc s es 0 = P at hp0 hp
  have HP := Lib.hid hP
  have k1 : ∀ w1, Below (w.alloc (.cells #[.int .i64 s, .int .i64 k, .slice A n c] 54)).heap.size (w.alloc (.cells #[.int .i64 s, .int .i64 k, .slice A n c] 54)) w1 → w1.cell? ⟨w.heap.size, 0, none⟩ = some (.int .i64 s) := fun w1 hb => by rw [blk_cell (box1 hb)]; rfl
  have HK1 := Lib.hid k1
  clear h h1 hb1 hR hr k1 hf hP
  go_enter Try.func32, Try.ntmps32
  go_wp2_with (first | (go_at_call 87; refine (HI.out).mono ?_; rintro e w' ⟨rfl, rfl⟩) | (go_at_call 88; refine (HR.out).mono ?_; rintro e w2 ⟨rfl, hb2⟩; have c2 := HK1.out _ hb2; have h2 := HH.out.below hb2; have HPL := Lib.hid (bplace_ok h2 s); rw [HP.out] at HPL; have HH2 := Lib.hid h2; have HB2 := Lib.hid (chainC' HB.out hb2); clear hb2 h2) | (go_at_call 89; refine (HPL.out).mono ?_; rintro e w3 ⟨rfl, hb3⟩; have h3 := HH2.out.below hb3; have hfu := bfull_ok h3; rw [decide_eq_true HF.out] at hfu; have HFU := Lib.hid hfu; have HB3 := Lib.hid (chainC' HB2.out hb3); clear hb3 h3 hfu) | (go_at_call 42; refine (HFU.out).mono ?_; rintro e w4 ⟨rfl, q, rfl⟩))
  go_ret
  exact ⟨rfl, pw_below_drewN HB3.out q⟩
end
end Go.Proofs.Ytnkgbnipcjgjeaa
