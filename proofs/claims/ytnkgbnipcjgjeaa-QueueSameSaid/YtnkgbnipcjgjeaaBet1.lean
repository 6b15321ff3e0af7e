import Derived.Test.YtnkgbnipcjgjeaaBet0
import Derived.Test.YtnkgbnipcjgjeaaSegP
namespace Go.Proofs.Ytnkgbnipcjgjeaa.Qu
open Go.RowKit Go.Proofs.Ytnkgbnipcjgjeaa.QW Go.Proofs.YtnkgbnipcjgjeaaW.PrintWords Go.Proofs.YtnkgbnipcjgjeaaW.PrintLast Go.Proofs.YtnkgbnipcjgjeaaW.PrintMore
set_option linter.unusedVariables false
def segI (l : List S116) (a b : Nat) : List Int := (segR l a b).map fun j : Nat => (j : Int)
theorem segK_len (l : List S116) (e : Nat) : ∀ d i, (segK l e d i).length ≤ d
  | 0, _ => by simp [segK]
  | d + 1, i => by
    have := segK_len l e d (i + 1)
    unfold segK
    rw [List.length_append]
    split <;> simp <;> omega
theorem segI_len (l : List S116) (a b : Nat) : (segI l a b).length ≤ b - a := by
  unfold segI segR
  rw [List.length_map, List.length_mergeSort]
  exact segK_len l b _ a
/-- The better order, from place i on: the last segment begins at f, ys is what came. -/
def betL (l : List S116) : Nat → Nat → Nat → List Int → List Int
  | 0, _, f, ys => ys ++ segI l f l.length
  | d + 1, i, f, ys => if (l.getD i z116).f0 = 4 then betL l d (i + 1) (i + 1) (ys ++ segI l f i ++ [(i : Int)]) else betL l d (i + 1) f ys
theorem betL_step (l : List S116) (d i f : Nat) (ys : List Int) {x : S116} (hx : x = l.getD i z116) {sg : List Int} (hs : sg = segI l f i) :
    betL l (d + 1) i f ys = if x.f0 = 4 then betL l d (i + 1) (i + 1) (ys ++ sg ++ [(i : Int)]) else betL l d (i + 1) f ys := by subst hx; subst hs; rfl
theorem c_one (w : World) (x : Int) : (Kd.int .i64).C (w.alloc (.cells #[.int .i64 x] 3)) (some ⟨w.heap.size, 0, none⟩) 1 [x] := by
  refine ⟨rfl, by decide, fun _ => ⟨⟨w.heap.size, 0, none⟩, rfl, fun j p hp => ?_⟩⟩
  match j, hp with
  | 0, hp =>
    obtain rfl := Option.some.inj hp
    refine ⟨[.int .i64 x], rfl, rfl, fun i u hu => ?_⟩
    match i, hu with
    | 0, hu =>
      obtain rfl := Option.some.inj hu
      exact blk_cell (blk_new w _) 0
    | i + 1, hu => simp at hu
  | j + 1, hp => simp at hp
theorem hz2 {ys sg : List Int} {k f n : Nat} (h1 : ys.length ≤ f) (h2 : sg.length ≤ k - f) (h0 : f ≤ k) (h : k < n) (hn : (n : Int) ≤ 1000) : ((ys ++ sg).length + 1) * 8 ≤ 140737488355328 := by
  rw [List.length_append]; omega
theorem len2 {ys sg : List Int} {k f : Nat} (h1 : ys.length ≤ f) (h2 : sg.length ≤ k - f) (h : f ≤ k) : (ys ++ sg ++ [(k : Int)]).length ≤ k + 1 := by
  rw [List.length_append, List.length_append]; simp; omega
/-- What segment comes to. -/
def SegOk : Prop := ∀ (A0 : Option Addr) (c0 fr en : Nat) (l0 : List S116) (w : World) (hr0 : Kd.C k116 w A0 l0.length l0) (hc0 : l0.length ≤ c0) (hl : l0.length ≤ 1000) (h1 : fr ≤ en) (h2 : en ≤ l0.length),
    Calls Try.prog 109 #[.slice A0 l0.length c0, .int .i64 (fr : Int), .int .i64 (en : Int)] w fun e w' => (∃ v, e = .returned v ∧ Kd.R (Kd.int .i64) 3 w' w.heap.size (fun _ => True) v (segI l0 fr en)) ∧ Below w.heap.size w w'
set_option maxHeartbeats 8000000 in
set_option maxRecDepth 100000 in
theorem better_bad (A0 : Option Addr) (c0 : Nat) (l0 : List S116) (w : World) (hr0 : Kd.C k116 w A0 l0.length l0) (hl : l0.length ≤ 1000) (hbad : anyWrong l0 = true) :
    Calls Try.prog 65 #[.slice A0 l0.length c0] w fun e w' => e = .returned (.tuple #[.slice none 0 0, .int .i64 2]) ∧ Below w.heap.size w w' := by
  have h := any_ok A0 c0 l0 w hr0 (by omega)
  rw [hbad] at h
  have H := Lib.hid h
  clear h hr0 hl hbad
  generalize l0.length = n at H ⊢
  go_enter Try.func65, Try.ntmps65
  go_wp2_with (go_at_call 106; refine (H.out).mono ?_; rintro e w2 ⟨rfl, hb⟩)
  go_ret2
  exact ⟨rfl, hb⟩
set_option maxHeartbeats 8000000 in
set_option maxRecDepth 100000 in
theorem better_ok (hseg : SegOk) (A0 : Option Addr) (c0 : Nat) (l0 : List S116) (w : World) (hr0 : Kd.C k116 w A0 l0.length l0) (hc0 : l0.length ≤ c0) (hl : l0.length ≤ 1000) (hok : anyWrong l0 = false) :
    Calls Try.prog 65 #[.slice A0 l0.length c0] w fun e w' => (∃ v, e = .returned (.tuple #[v, .int .i64 0]) ∧ Kd.R (Kd.int .i64) 3 w' w.heap.size (fun _ => True) v (betL l0 l0.length 0 0 [])) ∧ Below w.heap.size w w' := by
  have h := any_ok A0 c0 l0 w hr0 (by omega)
  rw [hok] at h
  have H := Lib.hid h
  have HSEG := Lib.hid hseg
  have HR := Lib.hid hr0
  have HL := Lib.hid hl
  have HC0 := Lib.hid hc0
  obtain ⟨T, hT⟩ : ∃ T, T = betL l0 l0.length 0 0 [] := ⟨_, rfl⟩
  rw [← hT]
  have HT := Lib.hid hT
  clear h hr0 hl hok hseg hc0 hT
  obtain ⟨n, hn⟩ : ∃ n, n = l0.length := ⟨_, rfl⟩
  rw [← hn] at H ⊢
  have HN := Lib.hid hn
  have hn2 : (n : Int) ≤ 1000 := by have := HL.out; omega
  clear hn
  have hu116 := Try.underlying116
  have hu22 := Try.underlying108
  have ha36 := Try.isAgg116
  go_enter Try.func65, Try.ntmps65
  go_wp2_with (go_at_call 106; refine (H.out).mono ?_; rintro e w2 ⟨rfl, hb⟩)
  have HB0 := Lib.hid hb
  clear hb H
  go_loopw [4, 5, 15] (fun v fr i wr => ∃ (k f : Nat) (ys : List Int), f ≤ k ∧ k ≤ n ∧ i = .int .i64 k ∧ fr = .int .i64 f ∧ Hid (Kd.R (Kd.int .i64) 3 wr w.heap.size (fun _ => True) v ys) ∧ Hid (betL l0 (n - k) k f ys = T) ∧ Hid (ys.length ≤ f) ∧ Hid (Below w.heap.size w wr)) (fun _ _ i _ => n - (intOf i).toNat)
  case atStart => exact ⟨0, 0, [], by omega, by omega, rfl, rfl, Lib.hid (Kd.R_nil _ _ _ _ _), Lib.hid (by have := HT.out; rw [this, HN.out]; rfl), Lib.hid (Nat.le_refl _), HB0⟩
  case round =>
    clear HB0
    obtain ⟨k, f, ys, hfk, hk, rfl, rfl, HO, HG, HY, HB⟩ := hrel
    by_cases hkn : k < n
    · have hlen : k < l0.length := by rw [← HN.out]; exact hkn
      have hCk : Kd.C k116 wr A0 l0.length l0 := Kd.C_below HR.out HB.out
      obtain ⟨b, off, rfl, hbb, hcell⟩ := row116 hCk (by omega)
      obtain ⟨A2, c2, e0, e1, e2, e3, e4⟩ := hcell k hlen
      obtain ⟨x, hx⟩ : ∃ x, x = l0.getD k z116 := ⟨_, rfl⟩
      obtain ⟨sg, hsg⟩ : ∃ s, s = segI l0 f k := ⟨_, rfl⟩
      have hgT := HG.out
      rw [show n - k = (n - (k + 1)) + 1 by omega, betL_step l0 _ k f ys hx hsg] at hgT
      rw [← hx] at e0 e1 e2
      obtain ⟨p0, hp0⟩ : ∃ p, p = x.f0 := ⟨_, rfl⟩
      obtain ⟨p1, hp1⟩ : ∃ p, p = x.f1 := ⟨_, rfl⟩
      obtain ⟨p2, hp2⟩ : ∃ p, p = x.f2.length := ⟨_, rfl⟩
      rw [← hp0] at e0 hgT
      rw [← hp1] at e1
      rw [← hp2] at e2
      have hk0 : (k : Int) < (n : Int) := by omega
      have HBA := Lib.hid (HB.out.alloc HB.out.size (.cells #[.int .i64 p0, .int .i64 p1, .slice A2 p2 c2] 116))
      have HOA := Lib.hid (Kd.R_alloc HO.out (.cells #[.int .i64 p0, .int .i64 p1, .slice A2 p2 c2] 116))
      have hcall := HSEG.out (some ⟨b, off, none⟩) c0 f k l0 (wr.alloc (.cells #[.int .i64 p0, .int .i64 p1, .slice A2 p2 c2] 116)) (Kd.C_below HR.out HBA.out) HC0.out HL.out hfk (by omega)
      rw [← hsg, ← HN.out] at hcall
      have HCALL := Lib.hid hcall
      have hsl : sg.length ≤ k - f := by rw [hsg]; exact segI_len l0 f k
      have HSL := Lib.hid hsl
      have HGT := Lib.hid hgT
      clear hcall hgT hsl hsg hx hp0 hp1 hp2 e3 e4 hcell hCk hbb hlen
      by_cases k4 : p0 = 4
      · have hgN := HGT.out
        rw [if_pos k4] at hgN
        have HGN := Lib.hid hgN
        have kb : (p0 == 4) = true := beq_iff_eq.2 k4
        clear hgN HGT k4
        go_wp2_with fail
        refine (HCALL.out).mono ?_
        rintro e w2 ⟨⟨v2, rfl, hR2⟩, hb2⟩
        obtain ⟨A3, c3, rfl, hl3, hC3⟩ := Kd.R_reads hR2
        have HC3 := Lib.hid hC3
        have HO2 := Lib.hid (Kd.R_below HOA.out hb2)
        have HB2 := Lib.hid (chainC (Nat.le_refl _) HBA.out hb2)
        have HS2 := Lib.hid HB2.out.size
        clear hR2 hC3 hb2 hl3
        have hz1 : (ys.length + sg.length) * 8 ≤ 140737488355328 := by have := HY.out; have := HSL.out; omega
        have HZ1 := Lib.hid hz1
        clear hz1
        go_wp2_with (first | (at_builtin; refine Kd.R_append_row (Value.int .i64) (0 : Int) (h1 := fun _ => rfl) (w0 := w) w.heap.size rfl (.tmp 23) (.tmp 27) 32 3 (.int .i64 0) 8 rfl Try.underlying32 info3 rfl (by decide) _ ys sg A3 sg.length c3 (fun _ => True) rfl rfl (fun _ _ => trivial) HO2.out HC3.out HB2.out HS2.out HZ1.out ?_; intro v3 w3 hR3 hb3 hg3 hat3; have HO3 := Lib.hid hR3; have HB3 := Lib.hid hb3; clear hR3 hb3 hg3 hat3; have HC4 := Lib.hid (show (Kd.int .i64).C (w3.alloc (.cells #[.int .i64 (k : Int)] 3)) (some ⟨w3.heap.size, 0, none⟩) 1 [(k : Int)] from c_one w3 _); have HO4 := Lib.hid (Kd.R_alloc HO3.out (.cells #[.int .i64 (k : Int)] 3)); have HB4 := Lib.hid (HB3.out.alloc HB3.out.size (.cells #[.int .i64 (k : Int)] 3)); have HZ2 := Lib.hid (hz2 (HY.out) (HSL.out) hfk hkn hn2)) | (at_builtin; refine Kd.R_append_row (Value.int .i64) (0 : Int) (h1 := fun _ => rfl) (w0 := w) w.heap.size rfl (.tmp 28) (.tmp 30) 32 3 (.int .i64 0) 8 rfl Try.underlying32 info3 rfl (by decide) _ (ys ++ sg) [(k : Int)] (some ⟨w3.heap.size, 0, none⟩) 1 1 (fun _ => True) rfl rfl (fun _ _ => trivial) HO4.out HC4.out HB4.out HB4.out.size HZ2.out ?_; intro v5 w5 hR5 hb5 hg5 hat5; have HO5 := Lib.hid hR5; have HB5 := Lib.hid hb5; clear hR5 hb5 hg5 hat5))
        go_roundw
        case rel => exact ⟨k + 1, k + 1, _, Nat.le_refl _, hkn, by go_num, by go_num, HO5, HGN, Lib.hid (len2 HY.out HSL.out hfk), HB5⟩
        case measure => exact step_measure hkn
      · have hgN := HGT.out
        rw [if_neg k4] at hgN
        have HGN := Lib.hid hgN
        have kb : (p0 == 4) = false := beq_eq_false_iff_ne.2 k4
        clear hgN HGT k4
        go_wp2_with fail
        go_roundw
        case rel => exact ⟨k + 1, f, ys, Nat.le_succ_of_le hfk, hkn, by go_num, rfl, HOA, HGN, HY, HBA⟩
        case measure => exact step_measure hkn
    · have hk2 : k = n := by omega
      subst hk2
      have hgT := HG.out
      rw [Nat.sub_self] at hgT
      obtain ⟨sg, hsg⟩ : ∃ s, s = segI l0 f k := ⟨_, rfl⟩
      have hTT : ys ++ sg = T := by rw [← hgT, hsg, HN.out]; rfl
      have hcall := HSEG.out A0 c0 f k l0 wr (Kd.C_below HR.out HB.out) HC0.out HL.out hfk (by have := HN.out; omega)
      rw [← hsg, ← HN.out] at hcall
      have HCALL := Lib.hid hcall
      have hsl : sg.length ≤ k - f := by rw [hsg]; exact segI_len l0 f k
      have HSL := Lib.hid hsl
      subst hTT
      clear hcall hgT hsl hsg hkn HG HT
      go_wp2_with fail
      refine (HCALL.out).mono ?_
      rintro e w2 ⟨⟨v2, rfl, hR2⟩, hb2⟩
      obtain ⟨A3, c3, rfl, hl3, hC3⟩ := Kd.R_reads hR2
      have HC3 := Lib.hid hC3
      have HO2 := Lib.hid (Kd.R_below HO.out hb2)
      have HB2 := Lib.hid (chainC (Nat.le_refl _) HB.out hb2)
      have HS2 := Lib.hid HB2.out.size
      clear hR2 hC3 hb2 hl3
      have hz1 : (ys.length + sg.length) * 8 ≤ 140737488355328 := by have := HY.out; have := HSL.out; omega
      have HZ1 := Lib.hid hz1
      clear hz1
      go_wp2_with (at_builtin; refine Kd.R_append_row (Value.int .i64) (0 : Int) (h1 := fun _ => rfl) (w0 := w) w.heap.size rfl (.tmp 35) (.tmp 40) 32 3 (.int .i64 0) 8 rfl Try.underlying32 info3 rfl (by decide) _ ys sg A3 sg.length c3 (fun _ => True) rfl rfl (fun _ _ => trivial) HO2.out HC3.out HB2.out HS2.out HZ1.out ?_; intro v3 w3 hR3 hb3 hg3 hat3; have HO3 := Lib.hid hR3; have HB3 := Lib.hid hb3; clear hR3 hb3 hg3 hat3)
      go_ret2
      exact ⟨⟨v3, rfl, HO3.out⟩, HB3.out⟩
end Go.Proofs.Ytnkgbnipcjgjeaa.Qu
