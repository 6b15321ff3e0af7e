import Derived.Test.YtnkgbnipcjgjeaaDL
import Derived.Deep.DeepCutAuto
import Derived.StillTailTactics
namespace Go.Proofs.Ytnkgbnipcjgjeaa
open Go.RowKit Go.Shelf Go.Sort Go.Lib Go.Proofs.YtnkgbnipcjgjeaaW.PrintWords Go.Proofs.YtnkgbnipcjgjeaaW.PrintLast Go.Proofs.YtnkgbnipcjgjeaaW.PrintMore
set_option linter.unusedVariables false
/-- What is done to a record. -/
abbrev DoR := Int × Int × List Int
abbrev kDoR : Kd DoR := Kd.pair (Kd.int .i64) (Kd.pair (Kd.int .i64) (Kd.slice 5 (Kd.int .u8)))
def gR (l : List DoR) (k : Nat) : DoR := l.getD k (0, 0, [])
theorem rowR {A : Option Addr} {l : List DoR} {w : World} (h : Kd.C kDoR w A l.length l) (hp : 0 < l.length) :
    ∃ b off, A = some ⟨b, off, none⟩ ∧ b < w.heap.size ∧ ∀ k, k < l.length → ∃ Ad cd, w.cell? ⟨b, off + k * 3, none⟩ = some (.int .i64 (gR l k).1) ∧ w.cell? ⟨b, off + k * 3 + 1, none⟩ = some (.int .i64 (gR l k).2.1) ∧ w.cell? ⟨b, off + k * 3 + 2, none⟩ = some (.slice Ad (gR l k).2.2.length cd) ∧ (gR l k).2.2.length ≤ cd ∧ kB.C w Ad (gR l k).2.2.length (gR l k).2.2 := by
  obtain ⟨ad, rfl, hc⟩ := h.2.2 hp
  have hcells : ∀ k (hk : k < l.length), ∃ Ad cd, l[k].2.2.length ≤ cd ∧ kB.C w Ad l[k].2.2.length l[k].2.2 ∧ ∀ i u, [Value.int .i64 l[k].1, .int .i64 l[k].2.1, .slice Ad l[k].2.2.length cd][i]? = some u → w.cell? (ad.add (k * 3 + i)) = some u := fun k hk => by
    obtain ⟨c, _, hK, hcell⟩ := hc k l[k] (List.getElem?_eq_getElem hk)
    obtain ⟨_, _, rfl, rfl, ⟨_, _, rfl, rfl, ⟨Ad, cd, rfl, hle, hC⟩⟩⟩ := hK
    exact ⟨Ad, cd, hle, hC, fun i u hu => hcell i u hu⟩
  obtain ⟨A0, d0, _, _, h0⟩ := hcells 0 hp
  have h0 := h0 0 _ rfl
  rw [Nat.zero_mul, Nat.zero_add] at h0
  have e : ad = ⟨ad.block, ad.off, none⟩ := spotless (show w.cell? ad = some _ from h0)
  refine ⟨ad.block, ad.off, by rw [← e], World.block_lt_of_cell? w ad h0, fun k hk => ?_⟩
  have eg : gR l k = l[k] := by unfold gR; rw [List.getD_eq_getElem?_getD, List.getElem?_eq_getElem hk]; rfl
  rw [eg]
  obtain ⟨Ad, cd, hle, hC, hall⟩ := hcells k hk
  have a0 := hall 0 _ rfl
  have a1 := hall 1 _ rfl
  have a2 := hall 2 _ rfl
  rw [e, add_plain] at a0 a1 a2
  exact ⟨Ad, cd, a0, a1, a2, hle, hC⟩
theorem and3 {s : Nat} (h : s < 4) : bits BinOp.and IntKind.i64 (s : Int) 3 = (s : Int) := by
  match s, h with
  | 0, _ => decide +kernel
  | 1, _ => decide +kernel
  | 2, _ => decide +kernel
  | 3, _ => decide +kernel
theorem put_lens {l : Rec} {s : Int} {rows : List (List Int)} {k : Nat} (h : ∀ p ∈ l, p.2.length ≤ k + 1) (hr : rows.length ≤ k + 2) : ∀ p ∈ mput l s rows, p.2.length ≤ k + 2 := fun p hp => by
  rcases mem_mput p hp with rfl | hp
  · exact hr
  · exact Nat.le_succ_of_le (h p hp)
theorem put_zero {l : Rec} (h : ∀ s, [0] ∈ ofV l 1 s) (s : Int) (r : List Int) : ∀ s', [0] ∈ ofV (mput l s (ofV l 1 s ++ [r])) 1 s' := fun s' => by
  rw [ofV_put]
  split
  · exact List.mem_append_left _ (h s)
  · exact h s'
theorem row8_of_C {A0 : Option Addr} {l0 : List Int} {w : World} (hr0 : kB.C w A0 l0.length l0) (hp : 0 < l0.length) :
    ∃ b off, A0 = some ⟨b, off, none⟩ ∧ b < w.heap.size ∧ ∀ j, j < l0.length → w.cell? ⟨b, off + j, none⟩ = some (.int .u8 (l0.getD j 0)) := by
  have hC := Kd.reads_of_C (d := (0 : Int)) (h1 := fun _ => rfl) hr0
  obtain ⟨ad, rfl, hc⟩ := hC.2.2 hp
  have h0 := hc 0 hp
  have e := spotless (show w.cell? ad = some _ from h0)
  refine ⟨ad.block, ad.off, by rw [← e], World.block_lt_of_cell? w ad h0, fun j hj => ?_⟩
  rw [← add_plain, ← e]
  exact hc j hj
theorem cell_ne_map {w : World} {b db o : Nat} {es : Array MapEntry} {c : Nat} {v : Value} (h : w.heap[b]? = some (.map es c)) (hc : w.cell? ⟨db, o, none⟩ = some v) : db ≠ b := fun e => by
  subst e
  unfold World.cell? at hc
  simp [h] at hc
theorem u8_in {x : Int} (h0 : 0 ≤ x) (h1 : x < 256) : IntKind.u8.wrap x = x := by
  simp only [IntKind.wrap, IntKind.signed, IntKind.bits]
  simp
  omega
theorem cell0 {w : World} {m o : Nat} {v : Value} (h : w.cell? ⟨m, o + 0, none⟩ = some v) : w.cell? ⟨m, o, none⟩ = some v := h
theorem set0 {w : World} {m o : Nat} {v : Value} {P : Nat → Nat → Bool} (h : MayIs (w.setCell ⟨m, o + 0, none⟩ v) m P) : MayIs (w.setCell ⟨m, o, none⟩ v) m P := h
theorem tab0 (k s v : Nat) : ((decide (s < k) && (v == 0)) || (s == k && v == 0)) = (decide (s < k + 1) && (v == 0)) := by
  by_cases h1 : v = 0
  · subst h1
    simp only [beq_self_eq_true, Bool.and_true]
    rw [Bool.eq_iff_iff, Bool.or_eq_true, decide_eq_true_eq, decide_eq_true_eq, beq_iff_eq]
    omega
  · rw [show (v == 0) = false from by rw [beq_eq_false_iff_ne]; exact h1]; simp
theorem u8_wf {z : Int} (h : (Lit.int .u8 z).wf = true) : 0 ≤ z ∧ z < 256 := by
  simp [Lit.wf, IntKind.min, IntKind.max, IntKind.signed, IntKind.bits] at h
  omega
set_option maxHeartbeats 8000000 in
set_option maxRecDepth 100000 in
theorem durableGrows_walk (w : World) (x0 : (List (Int × Int × (List Int)))) {A0_0 : Option Addr} {c0_0 : Nat} (l0_0 : x0.length ≤ c0_0) (g0_0 : Kd.C (Kd.pair (Kd.int .i64) (Kd.pair (Kd.int .i64) (Kd.slice 5 (Kd.int .u8)))) w A0_0 x0.length x0) (hw0 : (∀ z0 ∈ x0, ((Lit.int .i64 z0.1).wf = true ∧ (Lit.int .i64 z0.2.1).wf = true ∧ (∀ z1 ∈ z0.2.2, (Lit.int .u8 z1).wf = true)))) :
    Calls Try.prog 10 #[.slice A0_0 x0.length c0_0] w fun e w' => e = .returned (.bool true) ∧ Below w.heap.size w w' := by
  have HR := Lib.hid (show Kd.C kDoR w A0_0 x0.length x0 from g0_0)
  have HW := Lib.hid hw0
  clear g0_0 hw0 l0_0
  obtain ⟨n, hn⟩ : ∃ n, n = x0.length := ⟨_, rfl⟩
  rw [← hn]
  have HN := Lib.hid hn
  clear hn
  have hu89 := Try.underlying89
  have hu96 := Try.underlying96
  have ha96 := Try.isAgg96
  have hu94 := Try.underlying94
  have hu93 := Try.underlying93
  go_enter Try.func10, Try.ntmps10
  go_wp2_with fail
  refine (dawake_ok _).mono ?_
  rintro e w1 ⟨rfl, hb⟩
  have HB := Lib.hid hb
  clear hb
  by_cases hl : 40 < n
  · go_wp2_with fail
    go_ret
    exact ⟨rfl, HB.out⟩
  · have hn2 : (n : Int) ≤ 40 := by omega
    go_wp2_with fail
    refine (dnew_ok 4 1 _ (by omega) (by omega) (by omega) (by omega)).mono ?_
    rintro e w2 ⟨⟨g, b, rfl, hr, hgs, hbs⟩, hb⟩
    have hgB : w.heap.size ≤ g := Nat.le_trans HB.out.size hgs
    have hbB : w.heap.size ≤ b := Nat.le_trans HB.out.size hbs
    replace HB := Lib.hid (chainC (Nat.le_refl _) HB.out hb)
    obtain ⟨m, hm⟩ : ∃ m, m = w2.heap.size := ⟨_, rfl⟩
    have hmg : g < m := by rw [hm]; exact hr.ltg
    have hmb : b < m := by rw [hm]; exact hr.ltb
    have hmB : w.heap.size ≤ m := by rw [hm]; exact HB.out.size
    have HR0 := Lib.hid (hr.below (alloc_below w2 (.cells Try.zeroCells94 94)))
    have HM0 : Hid (MayIs (w2.alloc (.cells Try.zeroCells94 94)) m (fun _ _ => false)) := Lib.hid (by rw [hm]; exact MayIs.new w2)
    replace HB := Lib.hid (chainC (Nat.le_refl _) HB.out (alloc_below w2 (.cells Try.zeroCells94 94)))
    have HGB := Lib.hid hgB
    have HBB := Lib.hid hbB
    have HMG := Lib.hid hmg
    have HMB := Lib.hid hmb
    have HMS := Lib.hid hmB
    have HMM := Lib.hid hm
    clear hr hgs hbs hb hgB hbB hmg hmb hmB hm
    go_upto_region 8 with fail
    go_wp2_with fail
    rw [← HMM.out]
    clear HMM
    generalize (w2.alloc (.cells Try.zeroCells94 94)) = w3 at HR0 HM0 HB ⊢
    go_loopw [22] (fun i wr => ∃ (k : Nat), k ≤ 4 ∧ i = .int .i64 k ∧ Hid (MayIs wr m (fun s v => decide (s < k) && (v == 0))) ∧ Hid (RecIs wr g b 4 1 (fun _ => False) []) ∧ Hid (Below w.heap.size w wr)) (fun i _ => 4 - (intOf i).toNat)
    case atStart => exact ⟨0, by omega, rfl, Lib.hid (HM0.out.congr (fun s v _ _ => by simp)), HR0, HB⟩
    case round =>
      clear HR0 HM0 HB
      obtain ⟨k, hk, rfl, HM, HRE, HB⟩ := hrel
      by_cases hk4 : k < 4
      · have hk0 : (k : Int) < 4 := by omega
        have fz : wr.frozen? ⟨m, k * 256, none⟩ = false := HM.out.frozen (k * 256)
        obtain ⟨u0, fc⟩ : ∃ u0, wr.cell? ⟨m, k * 256, none⟩ = some u0 := ⟨_, cell0 (HM.out.cell hk4 (v := 0) (by omega))⟩
        have HM1 : Hid (MayIs (wr.setCell ⟨m, k * 256, none⟩ (.bool true)) m (fun s v => decide (s < k + 1) && (v == 0))) := Lib.hid (set0 ((HM.out.set hk4 (v := 0) (by omega)).congr (fun s v _ _ => tab0 k s v)))
        have HMO : Hid (Mods wr (wr.setCell ⟨m, k * 256, none⟩ (.bool true)) (fun k => k = m)) := Lib.hid ((Mods.refl wr (fun k => k = m)).setCell (p := ⟨m, k * 256, none⟩) (.inl rfl) _)
        have HRE1 := Lib.hid (HRE.out.mods HMO.out (fun e => by have := HMG.out; omega) (fun e => by have := HMB.out; omega) (fun k hk => hk.elim))
        have HB1 := Lib.hid (Mods.toBelow HB.out HMO.out HB.out.size (fun i e => by rw [e]; exact HMS.out))
        clear HMO
        go_wp2_with fail
        go_roundw
        case rel => exact ⟨k + 1, hk4, by go_num, HM1, HRE1, HB1⟩
        case measure => exact step_measure hk4
      · have hke : k = 4 := by omega
        have hkb : decide ((k : Int) < 4) = false := decide_eq_false (by omega)
        have HKE := Lib.hid hke
        clear hk4 hk hke
        have HM2 : Hid (MayIs wr m (mayB [])) := Lib.hid (HM.out.congr (fun s v hs hv => by
          rw [HKE.out, decide_eq_true hs, Bool.true_and]
          show (v == 0) = decide ([(v : Int)] ∈ [zeros 1])
          rw [Bool.eq_iff_iff, beq_iff_eq, decide_eq_true_eq, List.mem_singleton]
          unfold zeros
          show v = 0 ↔ [(v : Int)] = [0]
          constructor
          · rintro rfl; rfl
          · intro h; injection h with h _; omega))
        clear HM HKE
        generalize hkk : (k : Int) = kk at hkb ⊢
        clear hkk
        go_wp2_with fail
        go_loopw [31] (fun i wr => ∃ (k : Nat) (l : Rec) (F : Nat → Prop), k ≤ n ∧ i = .int .i64 k ∧ Hid (RecIs wr g b 4 1 F l) ∧ Hid (MayIs wr m (mayB l)) ∧ Hid (∀ q, F q → q ≠ m) ∧ Hid (∀ p ∈ l, p.2.length ≤ k + 1) ∧ Hid (∀ s, [0] ∈ ofV l 1 s) ∧ Hid (Below w.heap.size w wr)) (fun i _ => n - (intOf i).toNat)
        case atStart => exact ⟨0, [], fun _ => False, by omega, rfl, HRE, HM2, Lib.hid (fun q h => h.elim), Lib.hid (fun p hp => by simp at hp), Lib.hid (fun s => List.mem_singleton.2 rfl), HB⟩
        case round =>
          clear HM2 HRE HB
          obtain ⟨k, l, F, hk, rfl, HRE, HMA, HFM, HLN, HZ, HB⟩ := hrel
          by_cases hkn : k < n
          · have hlen : k < x0.length := by rw [← HN.out]; exact hkn
            obtain ⟨bl, off, rfl, hbb, hcell⟩ := rowR (Kd.C_below HR.out HB.out) (by omega)
            obtain ⟨Ad, cd, e0, e1, e2, e3, e4⟩ := hcell k hlen
            have hmem : gR x0 k ∈ x0 := by unfold gR; rw [List.getD_eq_getElem?_getD, List.getElem?_eq_getElem hlen]; exact List.getElem_mem hlen
            have hwf := HW.out _ hmem
            generalize gR x0 k = d at e0 e1 e2 e3 e4 hwf
            obtain ⟨dk, x, dd⟩ := d
            have HX := Lib.hid (show okI x from hwf.2.1)
            have HDD : Hid (isB dd) := Lib.hid (fun z hz => u8_wf (hwf.2.2 z hz))
            have HE4 := Lib.hid e4
            have HE3 := Lib.hid e3
            have hk0 : (k : Int) < (n : Int) := by omega
            clear hlen hcell hmem hwf hbb e3 e4
            have HRA := Lib.hid (HRE.out.below (alloc_below wr (.cells #[.int .i64 dk, .int .i64 x, .slice Ad dd.length cd] 96)))
            have HMAA := Lib.hid (HMA.out.below (alloc_below wr (.cells #[.int .i64 dk, .int .i64 x, .slice Ad dd.length cd] 96)))
            have HBA := Lib.hid (chainC (Nat.le_refl _) HB.out (alloc_below wr (.cells #[.int .i64 dk, .int .i64 x, .slice Ad dd.length cd] 96)))
            have HSA := Lib.hid (blk_new wr (.cells #[.int .i64 dk, .int .i64 x, .slice Ad dd.length cd] 96))
            have HCA := Lib.hid (Kd.C_alloc HE4.out (.cells #[.int .i64 dk, .int .i64 x, .slice Ad dd.length cd] 96))
            have HLA : Hid ((wr.alloc (.cells #[.int .i64 dk, .int .i64 x, .slice Ad dd.length cd] 96)).heap.size = wr.heap.size + 1) := Lib.hid (by simp)
            go_upto_block 4 with fail
            go_cut [31] (fun v31 wc => v31 = .int .i64 k ∧ ∃ (l : Rec) (F : Nat → Prop), Hid (RecIs wc g b 4 1 F l) ∧ Hid (MayIs wc m (mayB l)) ∧ Hid (∀ q, F q → q ≠ m) ∧ Hid (∀ p ∈ l, p.2.length ≤ k + 2) ∧ Hid (∀ s, [0] ∈ ofV l 1 s) ∧ Hid (Below w.heap.size w wc))
            case first =>
              clear e0 e1 e2
              have HLN2 : Hid (∀ p ∈ l, p.2.length ≤ k + 2) := Lib.hid (fun p hp => Nat.le_succ_of_le (HLN.out p hp))
              have HCT : Hid (∀ s, (ofV l 1 s).length ≤ k + 1) := Lib.hid (fun s => ofV_len HLN.out (by omega) s)
              by_cases hd1 : dk = 1
              · subst hd1
                by_cases hin : 0 ≤ x ∧ x < 4
                · by_cases hl1 : dd.length = 1
                  · obtain ⟨y, rfl⟩ : ∃ y, dd = [y] := by
                      cases dd with
                      | nil => cases hl1
                      | cons y r =>
                        cases r with
                        | nil => exact ⟨y, rfl⟩
                        | cons z r => simp at hl1
                    have hy := HDD.out y List.mem_cons_self
                    obtain ⟨s0, rfl⟩ := Int.eq_ofNat_of_zero_le hin.1
                    obtain ⟨v0, rfl⟩ := Int.eq_ofNat_of_zero_le hy.1
                    have hs4 : s0 < 4 := by omega
                    have hv4 : v0 < 256 := by omega
                    have HW2 := Lib.hid (dwrite_ok (s0 : Int) [(v0 : Int)] Ad cd HRA.out HX.out HCA.out HE3.out HDD.out hin rfl (by have := HCT.out (s0 : Int); omega))
                    obtain ⟨db, dof, rfl, _, hdc⟩ := row8_of_C HCA.out (by simp)
                    have hdc0 := hdc 0 (by simp)
                    have HIN := Lib.hid hin
                    clear hin hy hl1 hdc
                    go_wp2_with fail
                    refine (HW2.out).mono ?_
                    rintro e w7 ⟨rfl, hr7, hm7⟩
                    have hDb : wr.heap.size ≠ b := by have := HMAA.out.lt; have := HMA.out.lt; have := HMB.out; omega
                    have hmb : m ≠ b := by have := HMB.out; omega
                    have hsa7 := hm7.blk HSA.out hDb
                    have f1 : w7.cell? ⟨wr.heap.size, 1, none⟩ = some (.int .i64 (s0 : Int)) := blk_cell hsa7 1
                    have f2 : w7.cell? ⟨wr.heap.size, 2, none⟩ = some (.slice (some ⟨db, dof, none⟩) 1 cd) := blk_cell hsa7 2
                    have hdb : db ≠ b := by
                      obtain ⟨vs, ⟨es, c, hbm, _⟩, _⟩ := HRA.out.map
                      exact cell_ne_map hbm hdc0
                    have f3 : w7.cell? ⟨db, dof, none⟩ = some (.int .u8 (v0 : Int)) := hm7.cell hdc0 hdb
                    have hma7 : MayIs w7 m (mayB l) := HMAA.out.at_ (hm7.block m HMAA.out.lt hmb)
                    have ff : w7.frozen? ⟨m, s0 * 256 + v0, none⟩ = false := hma7.frozen _
                    obtain ⟨u0, fc⟩ : ∃ u0, w7.cell? ⟨m, s0 * 256 + v0, none⟩ = some u0 := ⟨_, hma7.cell hs4 hv4⟩
                    have HR7 := Lib.hid hr7
                    have HMA7 := Lib.hid hma7
                    have HB7 := Lib.hid (Mods.toBelow HBA.out hm7 HBA.out.size (fun i e => by rw [e]; exact HBB.out))
                    have hs40 : (s0 : Int) < 4 := by omega
                    have hand := and3 hs4
                    have hv40 : (v0 : Int) < 256 := by omega
                    clear hsa7 hr7 hm7 hdb hDb hmb hma7
                    go_wp2_with fail
                    have HST : Hid (MayIs (w7.drew.setCell ⟨m, s0 * 256 + v0, none⟩ (.bool true)) m (mayB (mput l (s0 : Int) (ofV l 1 (s0 : Int) ++ [[(v0 : Int)]])))) := Lib.hid ((MayIs.set (w := w7.drew) HMA7.out hs4 hv4).congr (fun s v _ _ => by rw [mayB_put]))
                    have HMO : Hid (Mods w7 (w7.drew.setCell ⟨m, s0 * 256 + v0, none⟩ (.bool true)) (fun k => k = m)) := Lib.hid ((Mods.refl w7 (fun k => k = m)).drew.setCell (p := ⟨m, s0 * 256 + v0, none⟩) (.inl rfl) _)
                    have HF7 : Hid (∀ q, Fp F (wr.alloc (.cells #[.int .i64 1, .int .i64 (s0 : Int), .slice (some ⟨db, dof, none⟩) 1 cd] 96)) w7 q → q ≠ m) := Lib.hid (fun q hq => by
                      rcases hq with h | h
                      · exact HFM.out q h
                      · have := HMAA.out.lt
                        have h1 := h.1
                        simp only [List.length_singleton] at this
                        omega)
                    have HR8 := Lib.hid (HR7.out.mods HMO.out (fun e => by have := HMG.out; omega) (fun e => by have := HMB.out; omega) (fun k hk => HF7.out k hk))
                    have HB8 := Lib.hid (Mods.toBelow HB7.out HMO.out HB7.out.size (fun i e => by rw [e]; exact HMS.out))
                    clear HMO
                    go_still_tail 9, (by kernel_rfl)
                    go_wp2_with fail
                    go_meet
                    case rel => exact ⟨rfl, _, _, HR8, HST, HF7, Lib.hid (put_lens HLN.out (by rw [List.length_append]; have := HCT.out (s0 : Int); simp; omega)), Lib.hid (put_zero HZ.out _ _), HB8⟩
                  · have HC := Lib.hid (dwrite_bad2 x dd.length Ad cd HRA.out hin hl1)
                    clear hin hl1
                    go_wp2_with fail
                    refine (HC.out).mono ?_
                    rintro e w7 ⟨rfl, rfl⟩
                    go_wp2_with fail
                    go_meet
                    case rel => exact ⟨rfl, l, F, HRA, HMAA, HFM, HLN2, HZ, HBA⟩
                · have HC := Lib.hid (dwrite_bad1 x (.slice Ad dd.length cd) HRA.out hin)
                  clear hin
                  go_wp2_with fail
                  refine (HC.out).mono ?_
                  rintro e w7 ⟨rfl, rfl⟩
                  go_wp2_with fail
                  go_meet
                  case rel => exact ⟨rfl, l, F, HRA, HMAA, HFM, HLN2, HZ, HBA⟩
              · by_cases hd2 : dk = 2
                · subst hd2
                  by_cases hin : 0 ≤ x ∧ x < 4
                  · obtain ⟨s0, rfl⟩ := Int.eq_ofNat_of_zero_le hin.1
                    have HC := Lib.hid (dtrim_ok (s0 : Int) HRA.out HX.out hin (by have := HCT.out (s0 : Int); omega))
                    clear hin hd1
                    go_wp2_with fail
                    refine (HC.out).mono ?_
                    rintro e w7 ⟨rfl, F', hr7, hnx7, hm7⟩
                    have HR7 := Lib.hid hr7
                    have HM7 : Hid (MayIs w7 m (mayB (mput l (s0 : Int) (ofV l 1 (s0 : Int) ++ [zeros 1])))) := Lib.hid ((HMAA.out.at_ (hm7.block m HMAA.out.lt (fun e => by have := HMB.out; omega))).congr (fun s v _ _ => by
                      rw [show (zeros 1) = [((0 : Nat) : Int)] from rfl, mayB_put]
                      by_cases e : s = s0 ∧ v = 0
                      · rw [e.1, e.2, show mayB l s0 0 = true from decide_eq_true (HZ.out _)]; rfl
                      · rw [show (s == s0 && v == 0) = false from by rw [Bool.and_eq_false_iff, beq_eq_false_iff_ne, beq_eq_false_iff_ne]; omega, Bool.or_false]))
                    have HF7 : Hid (∀ q, F' q → q ≠ m) := Lib.hid (fun q hq => by
                      rcases hnx7 q hq with h | h
                      · exact HFM.out q h
                      · have := HMAA.out.lt; omega)
                    have HB7 := Lib.hid (Mods.toBelow HBA.out hm7 HBA.out.size (fun i e => by rw [e]; exact HBB.out))
                    clear hr7 hnx7 hm7
                    go_wp2_with fail
                    go_meet
                    case rel => exact ⟨rfl, _, F', HR7, HM7, HF7, Lib.hid (put_lens HLN.out (by rw [List.length_append]; have := HCT.out (s0 : Int); simp; omega)), Lib.hid (put_zero HZ.out _ _ ), HB7⟩
                  · have HC := Lib.hid (dtrim_bad x HRA.out hin)
                    clear hin hd1
                    go_wp2_with fail
                    refine (HC.out).mono ?_
                    rintro e w7 ⟨rfl, rfl⟩
                    go_wp2_with fail
                    go_meet
                    case rel => exact ⟨rfl, l, F, HRA, HMAA, HFM, HLN2, HZ, HBA⟩
                · have b1 : (dk == 1) = false := beq_eq_false_iff_ne.2 hd1
                  have b2 : (dk == 2) = false := beq_eq_false_iff_ne.2 hd2
                  clear hd1 hd2
                  go_wp2_with fail
                  go_meet
                  case rel => exact ⟨rfl, l, F, HRA, HMAA, HFM, HLN2, HZ, HBA⟩
            case rest =>
              clear e0 e1 e2 HRA HMAA HBA HSA HCA HLA HRE HMA HFM HLN HZ HB
              obtain ⟨rfl, l, F, HRE, HMA, HFM, HLN, HZ, HB⟩ := hcut
              go_wp2_with fail
              go_loopw [61] (fun i wr => ∃ (s : Nat), s ≤ 4 ∧ i = .int .i64 s ∧ Hid (RecIs wr g b 4 1 F l) ∧ Hid (MayIs wr m (mayB l)) ∧ Hid (Below w.heap.size w wr)) (fun i _ => 4 - (intOf i).toNat)
              case atStart => exact ⟨0, by omega, rfl, HRE, HMA, HB⟩
              case round =>
                clear HRE HMA HB
                obtain ⟨s, hs, rfl, HRE, HMA, HB⟩ := hrel
                by_cases hs4 : s < 4
                · have hs0 : (s : Int) < 4 := by omega
                  go_wp2_with fail
                  go_loopw [64] (fun i wr => ∃ (v : Nat), v ≤ 256 ∧ i = .int .i64 v ∧ Hid (RecIs wr g b 4 1 F l) ∧ Hid (MayIs wr m (mayB l)) ∧ Hid (Below w.heap.size w wr)) (fun i _ => 256 - (intOf i).toNat)
                  case atStart => exact ⟨0, by omega, rfl, HRE, HMA, HB⟩
                  case round =>
                    clear HRE HMA HB
                    obtain ⟨v, hv, rfl, HRE, HMA, HB⟩ := hrel
                    by_cases hv4 : v < 256
                    · have hv0 : (v : Int) < 256 := by omega
                      have hby : (v : Int) % 256 = v := by omega
                      have hwr8 : IntKind.u8.wrap (v : Int) = (v : Int) := u8_in (by omega) hv0
                      have hm1 := dmay_ok (s : Int) [(v : Int)] (some ⟨wr.drew.heap.size, 0, none⟩) 1 ((HRE.out.drewN 1).below (alloc_below wr.drew (.cells #[.int .u8 (v : Int)] 5))) (okI_of (by omega) (by omega)) (c_b1 wr.drew v) (Nat.le_refl _) (isB1 (by omega) (by omega)) (ofV_len (c := 1000) (fun p hp => by have := HLN.out p hp; omega) (by omega) _)
                      rw [show decide ((0 ≤ (s : Int) ∧ (s : Int) < (4 : Nat)) ∧ [(v : Int)] ∈ ofV l 1 (s : Int)) = mayB l s v from decide_eq_decide.2 ⟨fun h => h.2, fun h => ⟨⟨by omega, by omega⟩, h⟩⟩] at hm1
                      have HMC := Lib.hid hm1
                      obtain ⟨bb, hbb⟩ : ∃ bb, bb = mayB l s v := ⟨_, rfl⟩
                      rw [← hbb] at hm1
                      have fc : wr.cell? ⟨m, s * 256 + v, none⟩ = some (.bool bb) := by rw [hbb]; exact HMA.out.cell hs4 hv4
                      have fcd : wr.drew.cell? ⟨m, s * 256 + v, none⟩ = some (.bool bb) := fc
                      have hbne : (bb != bb) = false := by simp
                      replace HMC := Lib.hid hm1
                      have hml : m < wr.drew.heap.size := HMA.out.lt
                      clear hbb hm1
                      go_wp2_with fail
                      go_region_held3 (fun w' => w'.cell? ⟨m, s * 256 + v, none⟩ = some (.bool bb)) (go_keep) (first | (go_at_call 57; refine (HMC.out).mono ?_; rintro e w8 ⟨rfl, hb8⟩; have hb8' := chainC (Nat.le_refl _) (alloc_below wr.drew (.cells #[.int .u8 (v : Int)] 5)) hb8; have f8 : w8.cell? ⟨m, s * 256 + v, none⟩ = some (.bool bb) := (hb8'.cell (p := ⟨m, s * 256 + v, none⟩) hml).trans fcd; have HRE8 := Lib.hid ((HRE.out.drewN 1).below hb8'); have HMA8 := Lib.hid ((HMA.out.drewN 1).below hb8'); have HB8 := Lib.hid (chainC (Nat.le_refl _) (HB.out.drew) hb8'); clear hb8 hb8'))
                      all_goals
                        go_wp2_with fail
                        exact ⟨⟨v + 1, hv4, by go_num, HRE8, HMA8, HB8⟩, step_measure hv4⟩
                    · obtain rfl : v = 256 := by omega
                      clear hv4 hv
                      go_wp2_with fail
                      go_roundw
                      case rel => exact ⟨s + 1, hs4, by go_num, HRE, HMA, HB⟩
                      case measure => exact step_measure hs4
                · obtain rfl : s = 4 := by omega
                  clear hs4 hs
                  go_wp2_with fail
                  go_roundw
                  case rel => exact ⟨k + 1, l, F, hkn, by go_num, HRE, HMA, HFM, HLN, HZ, HB⟩
                  case measure => exact step_measure hkn
          · have hk2 : k = n := by omega
            subst hk2
            clear hkn
            go_wp2_with fail
            go_ret
            exact ⟨rfl, HB.out⟩
end Go.Proofs.Ytnkgbnipcjgjeaa
