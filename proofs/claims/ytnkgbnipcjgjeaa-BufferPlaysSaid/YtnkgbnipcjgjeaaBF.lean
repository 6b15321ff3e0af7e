import Derived.Test.YtnkgbnipcjgjeaaBE
import Derived.Test.YtnkgbnipcjgjeaaWNEv
import Derived.Lib.SliceRun
namespace Go.Proofs.Ytnkgbnipcjgjeaa
open Go.RowKit Go.Lib Go.Proofs.YtnkgbnipcjgjeaaW.PrintWords Go.Proofs.YtnkgbnipcjgjeaaW.PrintLast Go.Proofs.YtnkgbnipcjgjeaaW.PrintMore
set_option linter.unusedVariables false
theorem clear54 (W : World) (g o c ty : Nat) (hc : ∀ j, j < 3 → (W.cell? ⟨g, o + j, none⟩).isSome = true) (hf : ∀ j, j < 3 → W.frozen? ⟨g, o + j, none⟩ = false) :
    (Builtin.clear_ #[48] ty #[.slice (some ⟨g, o, none⟩) 1 c]).run Try.prog W = .ok (.tuple #[]) (W.setCells g o [.int .i64 0, .int .i64 0, .slice none 0 0]) := by
  have hst := run_storeCells_cells (P := Try.prog) g o [.int .i64 0, .int .i64 0, .slice none 0 0] 0 W (by simpa using hc) (by simpa using hf) (by decide)
  simp only [Nat.add_zero] at hst
  have hz : (zeroValue 54).run Try.prog W = .ok (.agg #[.int .i64 0, .int .i64 0, .slice none 0 0]) W := Try.zeroValue54 W
  have hzc : (Builtin.zeroCells (Value.agg #[.int .i64 0, .int .i64 0, .slice none 0 0]).cells 1).toList = [.int .i64 0, .int .i64 0, .slice none 0 0] := by kernel_rfl
  simp [Builtin.clear_, run_underlying Try.underlying48, hz, hzc, hst]
theorem R_behind1 {w : World} {base g n c : Nat} {hs : List Eh} (h : Kd.R kEh 54 w base (fun _ => True) (.slice (some ⟨g, 0, none⟩) n c) hs) {o : Nat} (ho : n * 3 ≤ o) (u : Value) :
    Kd.R kEh 54 (w.setCell ⟨g, o, none⟩ u) base (fun _ => True) (.slice (some ⟨g, 0, none⟩) n c) hs := by
  obtain ⟨h0, inner, ⟨h1, h2⟩, hr⟩ := h
  refine ⟨h0, inner, ⟨h1, ?_⟩, hr.imp_ (fun _ _ hp => hp)⟩
  rcases h2 with ⟨h2, _⟩ | ⟨g', cap, cur, he, hg, hh, hn, hm, hz, ht⟩
  · cases h2
  · injection he with e1 e2 e3
    injection e1 with e1
    injection e1 with e1 _ _
    subst e1 e2 e3
    refine .inr ⟨g, c, cur.setIfInBounds o u, rfl, hg, blk_put hh o u rfl, hn, hm, by rw [Array.size_setIfInBounds]; exact hz, ?_⟩
    have ho' : hs.length * kEh.sz ≤ o := ho
    rw [Array.toList_setIfInBounds, List.take_set_of_le ho']
    exact ht
/-- Writes behind the row's end. -/
theorem R_behind {base g n c : Nat} {hs : List Eh} : ∀ (us : List Value) {w : World} {o : Nat}, Kd.R kEh 54 w base (fun _ => True) (.slice (some ⟨g, 0, none⟩) n c) hs → n * 3 ≤ o →
    Kd.R kEh 54 (w.setCells g o us) base (fun _ => True) (.slice (some ⟨g, 0, none⟩) n c) hs ∧ Mods w (w.setCells g o us) (fun k => k = g)
  | [], w, o, h, ho => ⟨h, Mods.refl _ _⟩
  | u :: us, w, o, h, ho => by
    have h1 := R_behind us (R_behind1 h ho u) (show n * 3 ≤ o + 1 by omega)
    exact ⟨h1.1, (Mods.setCell (Mods.refl w (fun k => k = g)) (p := ⟨g, o, none⟩) (.inl rfl) u).trans h1.2 (fun _ h => .inl h)⟩
theorem R_cells {w : World} {base g n c : Nat} {ok : Nat → Prop} {hs : List Eh} (h : Kd.R kEh 54 w base ok (.slice (some ⟨g, 0, none⟩) n c) hs) : n = hs.length ∧ n ≤ c ∧ c ≤ maxLen ∧ base ≤ g ∧ ∃ cur, w.heap[g]? = some (.cells cur 54 (0, 0)) ∧ cur.size = c * 3 := by
  obtain ⟨A, cc, he, hc, _⟩ := Kd.R_reads h
  obtain ⟨h0, inner, ⟨h1, h2⟩, hr⟩ := h
  rcases h2 with ⟨h2, _⟩ | ⟨g', cap, cur, he2, hg, hh, hn, hm, hz, ht⟩
  · cases h2
  · injection he2 with e1 e2 e3
    injection e1 with e1
    injection e1 with e1 _ _
    subst e1 e3
    injection he with _ e4 e5
    exact ⟨e4, by omega, hm, hg, cur, hh, hz⟩
theorem sl_lo (b o n c i : Nat) (h : i ≤ c) (W : World) : (Instr.slice 48 (Value.slice (some ⟨b, o, none⟩) n c) none (some (Value.int .i64 (i : Int))) none).run Try.prog W = .ok (.slice (some ⟨b, o, none⟩) i c) W := by
  have hu := Try.underlying48
  have q1 : (0 : Int) ≤ (i : Int) := by omega
  have q2 : (i : Int) ≤ (c : Int) := by omega
  go_simp
theorem sl_hi (b o n c i : Nat) (h : i ≤ n) (h2 : n ≤ c) (h3 : i < c) (W : World) : (Instr.slice 48 (Value.slice (some ⟨b, o, none⟩) n c) (some (Value.int .i64 (i : Int))) none none).run Try.prog W = .ok (.slice (some ⟨b, o + i * 3, none⟩) (n - i) (c - i)) W := by
  have hu := Try.underlying48
  have q1 : (0 : Int) ≤ (i : Int) := by omega
  have q2 : (i : Int) ≤ (n : Int) := by omega
  have q3 : (n : Int) ≤ (c : Int) := by omega
  have q4 : i ≠ c := by omega
  have q6 : (i : Int) ≤ (c : Int) := by omega
  go_simp
  intro e; omega
theorem sl_all (b o n c i : Nat) (h : i = n) (h2 : n = c) (W : World) : (Instr.slice 48 (Value.slice (some ⟨b, o, none⟩) n c) (some (Value.int .i64 (i : Int))) none none).run Try.prog W = .ok (.slice (some ⟨b, o, none⟩) 0 0) W := by
  have hu := Try.underlying48
  have q1 : (0 : Int) ≤ (c : Int) := by omega
  subst h h2
  go_simp
theorem sl_mid (b o n c i : Nat) (h : i < c) (h2 : i + 1 ≤ c) (W : World) : (Instr.slice 48 (Value.slice (some ⟨b, o, none⟩) n c) (some (Value.int .i64 (i : Int))) (some (Value.int .i64 ((i + 1 : Nat) : Int))) none).run Try.prog W = .ok (.slice (some ⟨b, o + i * 3, none⟩) 1 (c - i)) W := by
  have hu := Try.underlying48
  have q1 : (0 : Int) ≤ (i : Int) := by omega
  have q2 : (i : Int) ≤ ((i + 1 : Nat) : Int) := by omega
  have q3 : ((i + 1 : Nat) : Int) ≤ (c : Int) := by omega
  have q4 : i ≠ c := by omega
  have q6 : (i : Int) ≤ (c : Int) := by omega
  go_simp
  rw [if_pos (by omega), if_neg (by omega)]
theorem size54' : (Try.prog.info? 54).map (·.size) = some kEh.sz := size54
set_option maxHeartbeats 4000000 in
set_option maxRecDepth 100000 in
/-- slices.Delete of one entry. -/
theorem bdel_ok {w : World} {base g n c : Nat} {hs : List Eh} (h : Kd.R kEh 54 w base (fun _ => True) (.slice (some ⟨g, 0, none⟩) n c) hs) (i : Nat) (hi : i < n) (hn : n ≤ 100000) (hbw : base ≤ w.heap.size) :
    Calls Try.prog 91 #[.slice (some ⟨g, 0, none⟩) n c, .int .i64 i, .int .i64 ((i + 1 : Nat) : Int)] w fun e w' => e = .returned (.slice (some ⟨g, 0, none⟩) (n - 1) c) ∧ Kd.R kEh 54 w' base (fun _ => True) (.slice (some ⟨g, 0, none⟩) (n - 1) c) (hs.eraseIdx i) ∧ Mods w w' (fun k => k = g) := by
  obtain ⟨hnl, hnc, hcm, hbg, cur, hcur, hsz⟩ := R_cells h
  unfold maxLen at hcm
  have HR := Lib.hid (Kd.R_drew h)
  have hcc := sl_lo g 0 n c i (by omega)
  obtain ⟨A2, hA2, hsl2⟩ : ∃ A2, (A2 = if c = i + 1 then some ⟨g, 0, none⟩ else (some (⟨g, 0, none⟩ : Addr)).map (·.add ((i + 1) * kEh.sz))) ∧ ∀ W, (Instr.slice 48 (Value.slice (some ⟨g, 0, none⟩) n c) (some (Value.int .i64 ((i + 1 : Nat) : Int))) none none).run Try.prog W = .ok (.slice A2 (n - (i + 1)) (c - (i + 1))) W := by
    by_cases hci : c = i + 1
    · refine ⟨some ⟨g, 0, none⟩, (if_pos hci).symm, fun W => ?_⟩
      rw [sl_all g 0 n c (i + 1) (by omega) (by omega), show n - (i + 1) = 0 by omega, show c - (i + 1) = 0 by omega]
    · refine ⟨some ⟨g, 0 + (i + 1) * 3, none⟩, by rw [if_neg hci, Option.map_some, add_plain]; rfl, fun W => sl_hi g 0 n c (i + 1) (by omega) (by omega) (by omega) W⟩
  have hmid := sl_mid g 0 (n - 1) c (n - 1) (by omega) (by omega)
  rw [show n - 1 + 1 = n by omega, Nat.zero_add] at hmid
  have e1 : ((i : Int) == ((i + 1 : Nat) : Int)) = false := by rw [beq_eq_false_iff_ne]; omega
  have q1 : (i : Int) ≤ ((i + 1 : Nat) : Int) := by omega
  have q2 : ((i + 1 : Nat) : Int) ≤ (n : Int) := by omega
  have q3 : (n : Int) ≤ (c : Int) := by omega
  have q5 : (0 : Int) ≤ ((i + 1 : Nat) : Int) := by omega
  have HA := Lib.hid hA2
  have HBW : Hid (base ≤ w.drew.heap.size) := Lib.hid hbw
  clear h hnl hA2 hbw
  simp only [Int.natCast_add, Int.natCast_one] at hsl2
  go_enter Try.func91, Try.ntmps91
  go_upto_region 5 with (fail)
  go_region_held3 (fun w' => True) (trivial) ((refine Kd.R_delete_step kEh (w0 := w.drew) base (by rfl) (.tmp 22) (.tmp 25) 48 54 rfl Try.underlying48 size54' (k := i) (n := n) rfl rfl HA.out rfl HR.out hi (Below.refl _ _) HBW.out ?_; intro w3 hr3 hb3 hg3; have HR3 := Lib.hid hr3; have HG3 := Lib.hid hg3; obtain ⟨d1, d2, d3, d4, cur3, d5, d6⟩ := R_cells hr3; have hcl := (fun ty => clear54 w3 g ((n - 1) * 3) (c - (n - 1)) ty (fun j hj => by rw [blk_cell d5]; rw [Array.getElem?_eq_getElem (by omega)]; rfl) (fun j _ => blk_frozen d5 _)); clear hr3 hb3 hg3 d1 d2 d3 d4 d5 d6))
  all_goals
    go_wp2_with fail
    go_ret
    have hf := R_behind [.int .i64 0, .int .i64 0, .slice none 0 0] HR3.out (Nat.le_refl _)
    exact ⟨rfl, hf.1, ((Mods.drew (Mods.refl w (fun k => k = g))).grown HG3.out (fun k e => .inl (by injection e with e; exact e.symm))).trans hf.2 (fun _ h => .inl h)⟩
end Go.Proofs.Ytnkgbnipcjgjeaa
