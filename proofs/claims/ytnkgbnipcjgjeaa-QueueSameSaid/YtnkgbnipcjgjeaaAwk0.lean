import Derived.Test.YtnkgbnipcjgjeaaBet1
import Derived.Test.YtnkgbnipcjgjeaaQIx1
import Derived.Deep.RegionHeld3
namespace Go.Proofs.Ytnkgbnipcjgjeaa.Qu
open Go.RowKit Go.Proofs.Ytnkgbnipcjgjeaa.QI Go.Proofs.Ytnkgbnipcjgjeaa.QW Go.Proofs.YtnkgbnipcjgjeaaW.PrintWords Go.Proofs.YtnkgbnipcjgjeaaW.PrintLast Go.Proofs.YtnkgbnipcjgjeaaW.PrintMore
set_option linter.unusedVariables false
set_option maxHeartbeats 2000000 in
theorem awk1_ok (s : Int) (w : World) : Calls Try.prog 105 #[.int .i64 s] w fun e w' => (∃ g, e = .returned (.agg #[.int .i64 1, .int .i64 s, .slice (some ⟨g, 0, none⟩) 1 1]) ∧ w'.heap[g]? = some (.cells #[.int .u8 1] 5 (0, 0)) ∧ w.heap.size ≤ g) ∧ Below w.heap.size w w' := by
  go_enter Try.func105, Try.ntmps105
  go_wp2
  refine bodyPost_ret (v := .agg #[.int .i64 1, .int .i64 s, .slice (some ⟨w.heap.size + 1, 0, none⟩) 1 1]) (by simp [results, go_sem]) rfl ⟨⟨_, rfl, ?_, by omega⟩, ?_⟩
  · have h := blk_new (w.alloc (.cells #[.int .i64 1, .int .i64 s, .slice (some ⟨w.heap.size + 1, 0, none⟩) 1 1] 116)) (.cells #[.int .u8 1] 5)
    rw [World.size_alloc] at h
    exact h
  · exact ((Below.refl _ _).alloc (Nat.le_refl _) _).alloc (by simp) _
theorem c_u8 {W : World} {g : Nat} (h : W.heap[g]? = some (.cells #[.int .u8 1] 5 (0, 0))) : (Kd.int .u8).C W (some ⟨g, 0, none⟩) 1 [1] := by
  refine ⟨rfl, by decide, fun _ => ⟨⟨g, 0, none⟩, rfl, fun j p hp => ?_⟩⟩
  match j, hp with
  | 0, hp =>
    obtain rfl := Option.some.inj hp
    refine ⟨[.int .u8 1], rfl, rfl, fun i u hu => ?_⟩
    match i, hu with
    | 0, hu =>
      obtain rfl := Option.some.inj hu
      exact blk_cell h 0
    | i + 1, hu => simp at hu
  | j + 1, hp => simp at hp
def opW (s : Int) : S116 := ⟨1, s, [1]⟩
theorem c_row116 {W : World} {b g0 g1 g2 : Nat} {s0 s1 s2 : Int} (h : W.heap[b]? = some (.cells #[.int .i64 1, .int .i64 s0, .slice (some ⟨g0, 0, none⟩) 1 1, .int .i64 1, .int .i64 s1, .slice (some ⟨g1, 0, none⟩) 1 1, .int .i64 1, .int .i64 s2, .slice (some ⟨g2, 0, none⟩) 1 1] 116 (0, 0)))
    (h0 : W.heap[g0]? = some (.cells #[.int .u8 1] 5 (0, 0))) (h1 : W.heap[g1]? = some (.cells #[.int .u8 1] 5 (0, 0))) (h2 : W.heap[g2]? = some (.cells #[.int .u8 1] 5 (0, 0))) :
    Kd.C k116 W (some ⟨b, 0, none⟩) 3 [opW s0, opW s1, opW s2] := by
  refine ⟨rfl, by decide, fun _ => ⟨⟨b, 0, none⟩, rfl, fun j p hp => ?_⟩⟩
  have key : ∀ (g o : Nat) (s : Int), W.heap[g]? = some (.cells #[.int .u8 1] 5 (0, 0)) → W.cell? ⟨b, o, none⟩ = some (.int .i64 1) → W.cell? ⟨b, o + 1, none⟩ = some (.int .i64 s) → W.cell? ⟨b, o + 2, none⟩ = some (.slice (some ⟨g, 0, none⟩) 1 1) →
      ∃ c, c.length = k116.sz ∧ k116.K W (opW s) c ∧ ∀ i u, c[i]? = some u → W.cell? ((⟨b, 0, none⟩ : Addr).add (o + i)) = some u := fun g o s hg e0 e1 e2 => by
    refine ⟨[.int .i64 1, .int .i64 s, .slice (some ⟨g, 0, none⟩) 1 1], rfl, k116_mk W (opW s) (A2 := some ⟨g, 0, none⟩) (c2 := 1) (Nat.le_refl 1) (c_u8 hg), fun i u hu => ?_⟩
    rw [add_plain, Nat.zero_add]
    match i, hu with
    | 0, hu => obtain rfl := Option.some.inj hu; exact e0
    | 1, hu => obtain rfl := Option.some.inj hu; exact e1
    | 2, hu => obtain rfl := Option.some.inj hu; exact e2
    | i + 3, hu => simp at hu
  match j, hp with
  | 0, hp => obtain rfl := Option.some.inj hp; exact key g0 0 s0 h0 (blk_cell h 0) (blk_cell h 1) (blk_cell h 2)
  | 1, hp => obtain rfl := Option.some.inj hp; exact key g1 3 s1 h1 (blk_cell h 3) (blk_cell h 4) (blk_cell h 5)
  | 2, hp => obtain rfl := Option.some.inj hp; exact key g2 6 s2 h2 (blk_cell h 6) (blk_cell h 7) (blk_cell h 8)
  | j + 3, hp => simp at hp
def ops3 : List S116 := [opW 5, opW 3, opW 5]
theorem ops3_any : anyWrong ops3 = false := by decide
theorem ops3_bet : betL ops3 3 0 0 [] = [1, 2] := by
  show segI ops3 0 3 = [1, 2]
  unfold segI segR
  have : segK ops3 3 3 0 = [1, 2] := by decide
  rw [this]
  have h : [1, 2].mergeSort (leP ops3) = [1, 2] := List.mergeSort_of_pairwise (by decide)
  rw [h]; rfl
theorem c_two {W : World} {b : Nat} {x y : Int} (h : W.heap[b]? = some (.cells #[.int .i64 x, .int .i64 y] 3 (0, 0))) : (Kd.int .i64).C W (some ⟨b, 0, none⟩) 2 [x, y] := by
  refine ⟨rfl, by decide, fun _ => ⟨⟨b, 0, none⟩, rfl, fun j p hp => ?_⟩⟩
  match j, hp with
  | 0, hp =>
    obtain rfl := Option.some.inj hp
    refine ⟨[.int .i64 x], rfl, rfl, fun i u hu => ?_⟩
    match i, hu with
    | 0, hu => obtain rfl := Option.some.inj hu; exact blk_cell h 0
    | i + 1, hu => simp at hu
  | 1, hp =>
    obtain rfl := Option.some.inj hp
    refine ⟨[.int .i64 y], rfl, rfl, fun i u hu => ?_⟩
    match i, hu with
    | 0, hu => obtain rfl := Option.some.inj hu; exact blk_cell h 1
    | i + 1, hu => simp at hu
  | j + 2, hp => simp at hp
theorem ints_f : incunableref01_Ints.f 3 [1, 2] [1, 2] = some true := by decide +kernel
set_option maxHeartbeats 8000000 in
set_option maxRecDepth 100000 in
theorem awake_ok (hseg : SegOk) (w : World) : Calls Try.prog 63 #[] w fun e w' => e = .returned (.bool true) ∧ Below w.heap.size w w' := by
  have HSEG := Lib.hid hseg
  clear hseg
  go_enter Try.func63, Try.ntmps63
  go_wp2_with fail
  refine (awk1_ok _ _).mono ?_
  rintro e w1 ⟨⟨g0, rfl, h0, _⟩, hb1⟩
  have HB := Lib.hid hb1
  have H0 := Lib.hid h0
  clear hb1 h0
  go_wp2_with fail
  refine (awk1_ok _ _).mono ?_
  rintro e w2 ⟨⟨g1, rfl, h1, _⟩, hb2⟩
  replace HB := Lib.hid (chainC (Nat.le_refl _) HB.out hb2)
  replace H0 := Lib.hid (blk_below H0.out hb2)
  have H1 := Lib.hid h1
  clear hb2 h1
  go_wp2_with fail
  refine (awk1_ok _ _).mono ?_
  rintro e w3 ⟨⟨g2, rfl, h2, _⟩, hb3⟩
  replace HB := Lib.hid (chainC (Nat.le_refl _) HB.out hb3)
  replace H0 := Lib.hid (blk_below H0.out hb3)
  replace H1 := Lib.hid (blk_below H1.out hb3)
  have H2 := Lib.hid h2
  clear hb3 h2
  go_wp2_with fail
  have hs1 := blk_new w3 (.cells #[.int .i64 1, .int .i64 5, .slice (some ⟨g0, 0, none⟩) 1 1, .int .i64 1, .int .i64 3, .slice (some ⟨g1, 0, none⟩) 1 1, .int .i64 1, .int .i64 5, .slice (some ⟨g2, 0, none⟩) 1 1] 116)
  have hC := c_row116 hs1 (blk_alloc H0.out _) (blk_alloc H1.out _) (blk_alloc H2.out _)
  have hbet := better_ok HSEG.out _ 3 ops3 _ hC (by decide) (by decide) ops3_any
  replace HB := Lib.hid (HB.out.alloc HB.out.size (.cells #[.int .i64 1, .int .i64 5, .slice (some ⟨g0, 0, none⟩) 1 1, .int .i64 1, .int .i64 3, .slice (some ⟨g1, 0, none⟩) 1 1, .int .i64 1, .int .i64 5, .slice (some ⟨g2, 0, none⟩) 1 1] 116))
  rw [show ops3.length = 3 from rfl, ops3_bet] at hbet
  refine hbet.mono ?_
  rintro e w4 ⟨⟨v, rfl, hR⟩, hb4⟩
  replace HB := Lib.hid (chainC (Nat.le_refl _) HB.out hb4)
  obtain ⟨A5, c5, rfl, hl5, hC5⟩ := Kd.R_reads hR
  have hlit := blk_new w4 (.cells #[.int .i64 1, .int .i64 2] 3)
  have hints := incunableref01_Ints.calls 3 A5 c5 [1, 2] _ 2 [1, 2] true _ (Kd.C_alloc hC5 (.cells #[.int .i64 1, .int .i64 2] 3)) hl5 (c_two hlit) (by decide) ints_f
  have HI := Lib.hid hints
  clear hs1 hC hbet hb4 hR hl5 hC5 hlit hints H0 H1 H2
  go_wp2_with fail
  refine (HI.out).mono ?_
  rintro e w5 ⟨rfl, ⟨q, rfl⟩⟩
  have HBF := Lib.hid (pw_below_drewN (HB.out.alloc HB.out.size (.cells #[.int .i64 1, .int .i64 2] 3)) q)
  go_wp2_with fail
  go_ret
  exact ⟨rfl, HBF.out⟩
def incunablelaw47_awake.f : Option Bool := some true
theorem awake_calls (hseg : SegOk) (r : Bool) (w : World) (h : incunablelaw47_awake.f = some r) :
    Calls Try.prog 63 #[] w fun e w' => e = .returned (.bool r) ∧ Below w.heap.size w w' := by
  obtain rfl := Option.some.inj h
  exact awake_ok hseg w
def queue_Better.f (l : List S116) : Option (List Int × Int) := if l.length ≤ 1000 then (if anyWrong l = true then some ([], 2) else some (betL l l.length 0 0 [], 0)) else none
theorem better_calls (hseg : SegOk) (A0 : Option Addr) (c0 : Nat) (l0 : List S116) (r1 : List Int) (r2 : Int) (w : World) (hr0 : Kd.C k116 w A0 l0.length l0) (hc0 : l0.length ≤ c0) (h : queue_Better.f l0 = some (r1, r2)) :
    Calls Try.prog 65 #[.slice A0 l0.length c0] w fun e w' => ∃ v0_ : Value, e = .returned (.tuple #[v0_, .int .i64 r2]) ∧ Kd.R (Kd.int .i64) 3 w' w.heap.size (fun _ => True) v0_ r1 ∧ Below w.heap.size w w' := by
  unfold queue_Better.f at h
  split at h
  · rename_i hl
    split at h
    · rename_i hb
      simp only [Option.some.injEq, Prod.mk.injEq] at h
      obtain ⟨rfl, rfl⟩ := h
      refine (better_bad A0 c0 l0 w hr0 hl hb).mono ?_
      rintro e w' ⟨rfl, hb⟩
      exact ⟨_, rfl, Kd.R_nil _ _ _ _ _, hb⟩
    · rename_i hb
      simp only [Option.some.injEq, Prod.mk.injEq] at h
      obtain ⟨rfl, rfl⟩ := h
      refine (better_ok hseg A0 c0 l0 w hr0 hc0 hl (by simpa using hb)).mono ?_
      rintro e w' ⟨⟨v, rfl, hr⟩, hb⟩
      exact ⟨v, rfl, hr, hb⟩
  · simp at h
end Go.Proofs.Ytnkgbnipcjgjeaa.Qu
