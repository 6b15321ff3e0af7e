import Derived.Test.YtnkgbnipcjgjeaaQWx1
import Derived.Lib.Hide
import Derived.WalkMore
namespace Go.Proofs.Ytnkgbnipcjgjeaa.Qu
open Go.RowKit Go.Proofs.Ytnkgbnipcjgjeaa.QW Go.Proofs.YtnkgbnipcjgjeaaW.PrintWords Go.Proofs.YtnkgbnipcjgjeaaW.PrintLast Go.Proofs.YtnkgbnipcjgjeaaW.PrintMore
set_option linter.unusedVariables false
theorem spotless {w : World} {ad : Addr} {v : Value} (h : w.cell? ad = some v) : ad = ⟨ad.block, ad.off, none⟩ := by
  obtain ⟨b, o, sp⟩ := ad
  cases sp with
  | none => rfl
  | some s =>
    exfalso
    unfold World.cell? at h
    simp only [Option.isSome_some, if_true] at h
    split at h <;> simp at h
theorem add_plain (b o j : Nat) : (⟨b, o, none⟩ : Addr).add j = ⟨b, o + j, none⟩ := by
  unfold Addr.add
  split
  · subst_vars; rfl
  · rfl
theorem chainC {B : Nat} {a w w1 : World} (hB : B ≤ a.heap.size) (h : Below B a w) (k : Below w.heap.size w w1) : Below B a w1 := h.trans (k.mono (Nat.le_trans hB h.size))
/-- A row of ops that is read, of one or more: its block, its place, its cells. -/
theorem row116 {A0 : Option Addr} {l0 : List S116} {w : World} (hr0 : Kd.C k116 w A0 l0.length l0) (hp : 0 < l0.length) :
    ∃ b off, A0 = some ⟨b, off, none⟩ ∧ b < w.heap.size ∧ ∀ k, k < l0.length → ∃ A2 c2, w.cell? ⟨b, off + k * 3, none⟩ = some (.int .i64 (l0.getD k z116).f0) ∧ w.cell? ⟨b, off + k * 3 + 1, none⟩ = some (.int .i64 (l0.getD k z116).f1) ∧ w.cell? ⟨b, off + k * 3 + 2, none⟩ = some (.slice A2 (l0.getD k z116).f2.length c2) ∧ (l0.getD k z116).f2.length ≤ c2 ∧ Kd.C (Kd.int .u8) w A2 (l0.getD k z116).f2.length (l0.getD k z116).f2 := by
  obtain ⟨ad, _, _, rfl, h0, _⟩ := at_T116 hr0 0 (by omega) (by omega)
  have e : ad = ⟨ad.block, ad.off, none⟩ := by
    have h1 : w.cell? (ad.add 0) = some _ := h0
    exact spotless h1
  refine ⟨ad.block, ad.off, by rw [← e], World.block_lt_of_cell? w ad h0, fun k hk => ?_⟩
  obtain ⟨ad', A2, c2, ea, g0, g1, g2, g3, g4⟩ := at_T116 hr0 (k : Int) (by omega) (by omega)
  injection ea with ea
  subst ea
  have ek : ad.add ((k : Int).toNat * 3) = ⟨ad.block, ad.off + k * 3, none⟩ := by
    have h2 : ad.add ((k : Int).toNat * 3) = (⟨ad.block, ad.off, none⟩ : Addr).add ((k : Int).toNat * 3) := congrArg (fun x => Addr.add x ((k : Int).toNat * 3)) e
    rw [h2, add_plain]; rfl
  rw [ek] at g0 g1 g2
  exact ⟨A2, c2, g0, g1, g2, g3, g4⟩
def chg (a : Int) : Bool := (a == 1) || (a == 2)
theorem changes_f (a b : Int) (l : List Int) : queue_changes.f a b l = some (chg a) := by
  unfold queue_changes.f chg
  by_cases h : a = 1
  · rw [if_pos h]; simp [h]
  · rw [if_neg h]; simp [h]
def goV (s : Int) : List S116 → Bool
  | [] => false
  | x :: xs => if x.f0 = 4 then false else if x.f1 = s then chg x.f0 else goV s xs
def covV (k s : Int) (l : List S116) : Bool := if chg k then goV s l else false
theorem goV_step (s : Int) (l : List S116) (k : Nat) (h : k < l.length) : goV s (l.drop k) = if (l.getD k z116).f0 = 4 then false else if (l.getD k z116).f1 = s then chg (l.getD k z116).f0 else goV s (l.drop (k + 1)) := by
  rw [List.drop_eq_getElem_cons h, goV, List.getD_eq_getElem?_getD, List.getElem?_eq_getElem h]
  rfl
theorem step_measure {n k : Nat} (h : k < n) : n - (intOf (.int .i64 ((k : Int) + 1))).toNat < n - (intOf (.int .i64 (k : Int))).toNat := by
  simp [intOf]; omega
def queue_covered.f (a b : Int) (d : List Int) (l : List S116) : Option Bool := if l.length ≤ 100000 then some (covV a b l) else none
set_option maxHeartbeats 8000000 in
set_option maxRecDepth 100000 in
theorem covered_ok (a s : Int) (Ad : Option Addr) (cd : Nat) (d : List Int) (A0 : Option Addr) (c0 : Nat) (l0 : List S116) (w : World) (hd : Kd.C (Kd.int .u8) w Ad d.length d) (hdc : d.length ≤ cd) (hr0 : Kd.C k116 w A0 l0.length l0) (hl : l0.length ≤ 100000) :
    Calls Try.prog 110 #[.agg #[.int .i64 a, .int .i64 s, .slice Ad d.length cd], .slice A0 l0.length c0] w fun e w' => e = .returned (.bool (covV a s l0)) ∧ Below w.heap.size w w' := by
  obtain ⟨T, hT⟩ : ∃ T, T = covV a s l0 := ⟨_, rfl⟩
  rw [← hT]
  have HT := Lib.hid hT
  have hch := fun W h => queue_changes.calls a s Ad cd d (chg a) W h hdc (changes_f a s d)
  have Hch := Lib.hid hch
  have HB := (Below.refl w.heap.size w).alloc (Nat.le_refl _) (.cells #[.int .i64 a, .int .i64 s, .slice Ad d.length cd] 116)
  have hS := blk_new w (.cells #[.int .i64 a, .int .i64 s, .slice Ad d.length cd] 116)
  have hd1 := Kd.C_alloc hd (.cells #[.int .i64 a, .int .i64 s, .slice Ad d.length cd] 116)
  have HR := Lib.hid hr0
  have HL := Lib.hid hl
  clear hT hch hd hdc hr0 hl
  obtain ⟨nd, hnd⟩ : ∃ n, n = d.length := ⟨_, rfl⟩
  rw [← hnd] at HB hS hd1 Hch ⊢
  obtain ⟨n, hn⟩ : ∃ n, n = l0.length := ⟨_, rfl⟩
  rw [← hn]
  have HN := Lib.hid hn
  clear hnd hn
  go_enter Try.func110, Try.ntmps110
  go_wp2_with fail
  go_step3
  generalize (w.alloc (.cells #[.int .i64 a, .int .i64 s, .slice Ad nd cd] 116)) = w1 at HB hS hd1 ⊢
  have d0 : w1.cell? ⟨w.heap.size, 0, none⟩ = some (.int .i64 a) := blk_cell hS 0
  have d1 : w1.cell? ⟨w.heap.size, 1, none⟩ = some (.int .i64 s) := blk_cell hS 1
  have d2 : w1.cell? ⟨w.heap.size, 2, none⟩ = some (.slice Ad nd cd) := blk_cell hS 2
  have hch1 := Hch.out w1 hd1
  have hu116 := Try.underlying116
  have hu22 := Try.underlying108
  have ha36 := Try.isAgg116
  cases hc : chg a with
  | false =>
    rw [hc] at hch1
    have hTf : T = false := by rw [HT.out]; unfold covV; rw [hc]; rfl
    subst hTf
    go_wp2_with (go_at_call 137; refine hch1.mono ?_; rintro e w2 ⟨rfl, hb⟩)
    rw [Exit.noGoto_ret]
    go_ret
    exact ⟨rfl, chainC (Nat.le_refl _) HB hb⟩
  | true =>
    rw [hc] at hch1
    go_wp2_with (go_at_call 137; refine hch1.mono ?_; rintro e w2 ⟨rfl, hb⟩)
    have hTg : goV s l0 = T := by rw [HT.out]; unfold covV; rw [hc]; rfl
    have HTG := Lib.hid hTg
    have hS2 := blk_below hS hb
    have HB2 := Lib.hid (chainC (Nat.le_refl _) HB hb)
    clear hTg hS HB hb hch1 d0 d1 d2 hd1 hc
    go_step3
    go_wp2_with fail
    go_loopw [12] (fun i wr => ∃ k : Nat, k ≤ n ∧ i = .int .i64 k ∧ Hid (goV s (l0.drop k) = T) ∧ wr.heap[w.heap.size]? = some (.cells #[.int .i64 a, .int .i64 s, .slice Ad nd cd] 116 (0, 0)) ∧ Hid (Below w.heap.size w wr)) (fun i _ => n - (intOf i).toNat)
    case atStart => exact ⟨0, by omega, rfl, Lib.hid (by rw [List.drop_zero]; exact HTG.out), hS2, HB2⟩
    case round =>
      clear hS2 HB2
      obtain ⟨k, hk, rfl, HG, hS, HB⟩ := hrel
      by_cases hkn : k < n
      · have hlen : k < l0.length := by rw [← HN.out]; exact hkn
        have hCk : Kd.C k116 wr A0 l0.length l0 := by
          have h9 := Kd.C_below HR.out HB.out
          exact h9
        obtain ⟨b, off, rfl, hbb, hcell⟩ := row116 hCk (by omega)
        obtain ⟨A2, c2, e0, e1, e2, e3, e4⟩ := hcell k hlen
        have hg := goV_step s l0 k hlen
        have hgT := HG.out
        rw [hg] at hgT
        obtain ⟨x, hx⟩ : ∃ x, x = l0.getD k z116 := ⟨_, rfl⟩
        rw [← hx] at e0 e1 e2 e3 e4 hgT
        have HGT := Lib.hid hgT
        have E4 := Lib.hid e4
        have E3 := Lib.hid e3
        have d1 : wr.cell? ⟨w.heap.size, 1, none⟩ = some (.int .i64 s) := blk_cell hS 1
        clear hlen hCk hcell hg hgT e3 e4 hx hbb
        obtain ⟨p0, hp0⟩ : ∃ p, p = x.f0 := ⟨_, rfl⟩
        obtain ⟨p1, hp1⟩ : ∃ p, p = x.f1 := ⟨_, rfl⟩
        obtain ⟨n2, hn2⟩ : ∃ p, p = x.f2.length := ⟨_, rfl⟩
        rw [← hp0] at e0
        rw [← hp1] at e1
        rw [← hn2] at e2
        have hgT := HGT.out
        rw [← hp0, ← hp1] at hgT
        have hchx := fun W h => queue_changes.calls p0 p1 A2 c2 x.f2 (chg p0) W h E3.out (changes_f p0 p1 x.f2)
        rw [← hn2] at hchx
        have E4' : Hid (Kd.C (Kd.int .u8) wr A2 n2 x.f2) := Lib.hid (by rw [hn2]; exact E4.out)
        have hch2 := hchx (wr.alloc (.cells #[.int .i64 p0, .int .i64 p1, .slice A2 n2 c2] 116)) (Kd.C_alloc E4'.out _)
        have hsz : w.heap.size ≤ wr.heap.size := HB.out.size
        have HBA := Lib.hid (HB.out.alloc hsz (.cells #[.int .i64 p0, .int .i64 p1, .slice A2 n2 c2] 116))
        have HSA := Lib.hid (blk_alloc hS (.cells #[.int .i64 p0, .int .i64 p1, .slice A2 n2 c2] 116))
        have d1' : (wr.alloc (.cells #[.int .i64 p0, .int .i64 p1, .slice A2 n2 c2] 116)).cell? ⟨w.heap.size, 1, none⟩ = some (.int .i64 s) := blk_cell HSA.out 1
        clear hchx hp0 hp1 hn2 hsz
        by_cases k4 : p0 = 4
        · rw [if_pos k4] at hgT
          subst hgT
          have kb : (p0 == 4) = true := beq_iff_eq.2 k4
          clear hch2 k4
          go_wp2_with fail
          try rw [Exit.noGoto_ret]
          go_ret
          exact ⟨rfl, HBA.out⟩
        · rw [if_neg k4] at hgT
          have kb : (p0 == 4) = false := beq_eq_false_iff_ne.2 k4
          clear k4
          by_cases ks : p1 = s
          · rw [if_pos ks] at hgT
            have kc : (p1 == s) = true := beq_iff_eq.2 ks
            rw [hgT] at hch2
            have HC2 := Lib.hid hch2
            clear ks hgT hch2
            go_wp2_with (go_at_call 137; refine (HC2.out).mono ?_; rintro e w9 ⟨rfl, hb⟩)
            try rw [Exit.noGoto_ret]
            go_ret
            exact ⟨rfl, chainC (Nat.le_refl _) HBA.out hb⟩
          · rw [if_neg ks] at hgT
            have kc : (p1 == s) = false := beq_eq_false_iff_ne.2 ks
            have HGN := Lib.hid hgT
            have hl := HL.out
            have hwk : wrap64 ((k : Int) + 1) = (k : Int) + 1 := by have := HN.out; unfold wrap64; omega
            clear ks hgT hch2 hl
            go_wp2_with fail
            go_roundw
            case rel => exact ⟨k + 1, Nat.succ_le_of_lt hkn, by first | rfl | exact congrArg (Value.int .i64) hwk, HGN, HSA.out, HBA⟩
            case measure =>
              rw [hwk]
              exact step_measure hkn
      · have hk2 : k = n := by omega
        subst hk2
        have hgT := HG.out
        rw [HN.out, List.drop_length] at hgT
        have hTf : T = false := hgT.symm
        subst hTf
        clear hgT hkn
        go_wp2_with fail
        try rw [Exit.noGoto_ret]
        go_ret
        exact ⟨rfl, HB.out⟩
theorem queue_covered.calls (a0_0 : Int) (a0_1 : Int) (A0_2 : Option Addr) (c0_2 : Nat) (l0_2 : List Int) (A1 : Option Addr) (c1 : Nat) (l1 : List S116) (r : Bool) (w : World) (hr0_2 : Kd.C (Kd.int .u8) w A0_2 l0_2.length l0_2) (hc0_2 : l0_2.length ≤ c0_2) (hr1 : Kd.C k116 w A1 l1.length l1) (hc1 : l1.length ≤ c1) (h : queue_covered.f a0_0 a0_1 l0_2 l1 = some r) :
    Calls Try.prog 110 #[.agg #[.int .i64 a0_0, .int .i64 a0_1, .slice A0_2 l0_2.length c0_2], .slice A1 l1.length c1] w fun e w' => e = .returned (.bool r) ∧ Below w.heap.size w w' := by
  unfold queue_covered.f at h
  split at h
  · rename_i hl
    obtain rfl := Option.some.inj h
    exact covered_ok a0_0 a0_1 A0_2 c0_2 l0_2 A1 c1 l1 w hr0_2 hc0_2 hr1 hl
  · simp at h
end Go.Proofs.Ytnkgbnipcjgjeaa.Qu
