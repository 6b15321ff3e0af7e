import Derived.Test.YtnkgbnipcjgjeaaBA
namespace Go.Proofs.Ytnkgbnipcjgjeaa
open Go.RowKit Go.Lib Go.Proofs.YtnkgbnipcjgjeaaW.PrintWords Go.Proofs.YtnkgbnipcjgjeaaW.PrintLast Go.Proofs.YtnkgbnipcjgjeaaW.PrintMore
set_option linter.unusedVariables false
/-- The buffer at block g: the value of its row, the row's headers, what they read as. -/
structure BufIs (w : World) (N0 g : Nat) (v : Value) (es : List Ent) (most size : Nat) : Prop where
  blk : w.heap[g]? = some (.cells #[v, .int .i64 most, .int .i64 size] 142 (0, 0))
  lo : N0 ≤ g
  row : ∃ hs, Kd.R kEh 54 w N0 (fun _ => True) v hs ∧ EAll w N0 hs es
  small : 1 ≤ most ∧ most ≤ 1024 ∧ 1 ≤ size ∧ size ≤ 8192
  fit : es.length ≤ most
section
variable {w w' : World} {N0 g : Nat} {v : Value} {es : List Ent} {most size : Nat}
theorem BufIs.ltg (h : BufIs w N0 g v es most size) : g < w.heap.size := blk_lt h.blk
theorem BufIs.own (h : BufIs w N0 g v es most size) {k : Nat} (hk : v.ownBlock = some k) : k < w.heap.size ∧ N0 ≤ k ∧ k ≠ g ∧ ∃ cs, w.heap[k]? = some (.cells cs 54 (0, 0)) := by
  obtain ⟨hs, hR, _⟩ := h.row
  obtain ⟨_, h2, h3, q, hq, cs, hc⟩ := (Kd.R_bound hR).1 k hk
  have : q ∈ [54] := hq
  rw [List.mem_singleton.1 this] at hc
  refine ⟨h3, h2, fun e => ?_, cs, hc⟩
  rw [e, h.blk] at hc
  injection hc with hc
  injection hc with _ h2 _
  cases h2
theorem BufIs.form (h : BufIs w N0 g v es most size) : ∃ A c hs, v = .slice A es.length c ∧ hs.length = es.length ∧ es.length ≤ c ∧ Kd.C kEh w A hs.length hs ∧ EAll w N0 hs es := by
  obtain ⟨hs, hR, hE⟩ := h.row
  obtain ⟨A, c, he, hc, hC⟩ := Kd.R_reads hR
  have hl := All2.len hE
  rw [hl] at he hc
  exact ⟨A, c, hs, he, hl, hc, hC, hE⟩
theorem BufIs.at_ (h : BufIs w N0 g v es most size) (h1 : w'.heap[g]? = w.heap[g]?) (h2 : ∀ k, v.ownBlock = some k → w'.heap[k]? = w.heap[k]?) (h3 : Keep (Bt N0 w) w w') : BufIs w' N0 g v es most size := by
  obtain ⟨a1, a2, ⟨hs, a3, a4⟩, a5, a6⟩ := h
  exact ⟨h1.trans a1, a2, ⟨hs, Kd.R_mono (Kd.R_move (Kd.R_tight rfl a3) (fun k hk => h2 k hk.symm)) (fun _ _ => trivial), a4.move h3⟩, a5, a6⟩
theorem BufIs.below (h : BufIs w N0 g v es most size) (hb : Below w.heap.size w w') : BufIs w' N0 g v es most size := h.at_ (hb.block g h.ltg) (fun k hk => hb.block k (h.own hk).1) (Bt.below (Nat.le_of_lt (Nat.lt_of_le_of_lt h.lo h.ltg)) hb)
theorem BufIs.mods {S : Nat → Prop} (h : BufIs w N0 g v es most size) (hm : Mods w w' S) (h1 : ¬ S g) (h2 : ∀ k, v.ownBlock = some k → ¬ S k) (h3 : ∀ k, S k → ¬ Bt N0 w k) : BufIs w' N0 g v es most size := h.at_ (hm.block g h.ltg h1) (fun k hk => hm.block k (h.own hk).1 (h2 k hk)) (Bt.mods (Nat.le_of_lt (Nat.lt_of_le_of_lt h.lo h.ltg)) hm h3)
theorem BufIs.drewN (h : BufIs w N0 g v es most size) (q : Nat) : BufIs (w.drewN q) N0 g v es most size := h.at_ rfl (fun _ _ => rfl) (fun _ _ => rfl)
/-- What is the buffer's, is none of what is read. -/
def BufS (g : Nat) (v : Value) : Nat → Prop := fun k => k = g ∨ v.ownBlock = some k
theorem BufIs.notBt (h : BufIs w N0 g v es most size) : ∀ k, BufS g v k → ¬ Bt N0 w k := fun k hk hb => by
  have hlo := h.lo
  rcases hk with rfl | hk
  · rcases hb with hb | ⟨cs, fr, hb⟩
    · omega
    · rw [h.blk] at hb
      injection hb with hb
      injection hb with _ h2 _
      cases h2
  · obtain ⟨_, h2, _, cs, hc⟩ := h.own hk
    rcases hb with hb | ⟨cs', fr, hb⟩
    · omega
    · rw [hc] at hb
      injection hb with hb
      injection hb with _ h2 _
      cases h2
end
set_option maxHeartbeats 2000000 in
theorem bnew_ok (n sz : Nat) (w : World) (N0 : Nat) (hN : N0 ≤ w.heap.size) (h1 : 1 ≤ n) (h2 : n ≤ 1024) (h3 : 1 ≤ sz) (h4 : sz ≤ 8192) :
    Calls Try.prog 31 #[.int .i64 n, .int .i64 sz] w fun e w' => (∃ g, e = .returned (.tuple #[.pointer (some ⟨g, 0, none⟩), .int .i64 0]) ∧ BufIs w' N0 g (.slice none 0 0) [] n sz ∧ w.heap.size ≤ g) ∧ Below w.heap.size w w' := by
  have b1 : decide ((n : Int) < 1) = false := decide_eq_false (by omega)
  have b2 : decide (1024 < (n : Int)) = false := decide_eq_false (by omega)
  have b3 : decide ((sz : Int) < 1) = false := decide_eq_false (by omega)
  have b4 : decide (8192 < (sz : Int)) = false := decide_eq_false (by omega)
  have HS := Lib.hid (show 1 ≤ n ∧ n ≤ 1024 ∧ 1 ≤ sz ∧ sz ≤ 8192 from ⟨h1, h2, h3, h4⟩)
  have HN := Lib.hid hN
  clear h1 h2 h3 h4 hN
  go_enter Try.func31, Try.ntmps31
  go_wp2_with fail
  go_ret2
  exact ⟨⟨_, rfl, ⟨blk_new w _, HN.out, ⟨[], Kd.R_nil _ _ _ _ _, trivial⟩, HS.out, Nat.zero_le _⟩, Nat.le_refl _⟩, (Below.refl _ _).alloc (Nat.le_refl _) _⟩
set_option maxHeartbeats 2000000 in
theorem bnew_bad (n sz : Int) (w : World) (h : n < 1 ∨ 1024 < n ∨ sz < 1 ∨ 8192 < sz) :
    Calls Try.prog 31 #[.int .i64 n, .int .i64 sz] w fun e w' => e = .returned (.tuple #[.pointer none, .int .i64 2]) ∧ w' = w := by
  by_cases h1 : n < 1
  · clear h
    go_enter Try.func31, Try.ntmps31
    go_wp2_with fail
    go_ret2
    exact ⟨rfl, rfl⟩
  · by_cases h2 : 1024 < n
    · clear h
      go_enter Try.func31, Try.ntmps31
      go_wp2_with fail
      go_ret2
      exact ⟨rfl, rfl⟩
    · by_cases h3 : sz < 1
      · clear h
        go_enter Try.func31, Try.ntmps31
        go_wp2_with fail
        go_ret2
        exact ⟨rfl, rfl⟩
      · have h4 : 8192 < sz := by omega
        clear h
        go_enter Try.func31, Try.ntmps31
        go_wp2_with fail
        go_ret2
        exact ⟨rfl, rfl⟩
section
variable {w : World} {N0 g : Nat} {v : Value} {es : List Ent} {most size : Nat}
theorem BufIs.c0 (h : BufIs w N0 g v es most size) : w.cell? ⟨g, 0, none⟩ = some v := blk_cell h.blk 0
theorem BufIs.c1 (h : BufIs w N0 g v es most size) : w.cell? ⟨g, 1, none⟩ = some (.int .i64 most) := blk_cell h.blk 1
theorem BufIs.c2 (h : BufIs w N0 g v es most size) : w.cell? ⟨g, 2, none⟩ = some (.int .i64 size) := blk_cell h.blk 2
set_option maxHeartbeats 2000000 in
theorem bis_ok (h : BufIs w N0 g v es most size) : Calls Try.prog 87 #[.pointer (some ⟨g, 0, none⟩)] w fun e w' => e = .returned (.bool true) ∧ w' = w := by
  have c1 := h.c1
  have b1 : decide (0 < most) = true := decide_eq_true (by have := h.small; omega)
  clear h
  go_enter Try.func87, Try.ntmps87
  go_wp2_with fail
  go_ret
  exact ⟨rfl, rfl⟩
set_option maxHeartbeats 2000000 in
theorem blen_ok (h : BufIs w N0 g v es most size) : Calls Try.prog 34 #[.pointer (some ⟨g, 0, none⟩)] w fun e w' => e = .returned (.int .i64 es.length) ∧ w' = w := by
  have HI := Lib.hid (bis_ok h)
  obtain ⟨A, c, hs, rfl, _, _, _⟩ := h.form
  have c0 := h.c0
  clear h
  go_enter Try.func34, Try.ntmps34
  go_wp2_with (go_at_call 87; refine (HI.out).mono ?_; rintro e w' ⟨rfl, rfl⟩)
  go_ret
  exact ⟨rfl, rfl⟩
set_option maxHeartbeats 2000000 in
theorem bfull_ok (h : BufIs w N0 g v es most size) : Calls Try.prog 42 #[.pointer (some ⟨g, 0, none⟩)] w fun e w' => e = .returned (.bool (decide (es.length = most))) ∧ ∃ q, w' = w.drewN q := by
  have HI := Lib.hid (fun q => bis_ok (h.drewN q))
  obtain ⟨A, c, hs, rfl, _, _, _⟩ := h.form
  have c0 := h.c0
  have c1 := h.c1
  clear h
  by_cases e : es.length = most
  · have e1 : ((es.length : Int) == (most : Int)) = true := by rw [beq_iff_eq]; omega
    rw [decide_eq_true e]
    clear e
    go_enter Try.func42, Try.ntmps42
    go_wp2_with fail
    go_quiet ((go_at_call 87; exact Calls.quiet_of_same (HI.out _)))
    go_wp2_with fail
    go_ret
    exact ⟨rfl, _, rfl⟩
  · have e1 : ((es.length : Int) == (most : Int)) = false := by rw [beq_eq_false_iff_ne]; omega
    rw [decide_eq_false e]
    clear e
    go_enter Try.func42, Try.ntmps42
    go_wp2_with fail
    go_quiet ((go_at_call 87; exact Calls.quiet_of_same (HI.out _)))
    go_wp2_with fail
    go_ret
    exact ⟨rfl, _, rfl⟩
end
end Go.Proofs.Ytnkgbnipcjgjeaa
