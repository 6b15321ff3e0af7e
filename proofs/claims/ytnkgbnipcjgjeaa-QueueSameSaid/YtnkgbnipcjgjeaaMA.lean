import Derived.Test.YtnkgbnipcjgjeaaBC
import Derived.Test.YtnkgbnipcjgjeaaMp
import Derived.Deep.RegionHeld3
namespace Go.Proofs.Ytnkgbnipcjgjeaa
open Go.RowKit Go.Lib Go.Proofs.YtnkgbnipcjgjeaaW.PrintWords Go.Proofs.YtnkgbnipcjgjeaaW.PrintLast Go.Proofs.YtnkgbnipcjgjeaaW.PrintMore
set_option linter.unusedVariables false
/-! A model of a disk (layer 31). -/
namespace Mo
def zeros (sz : Nat) : List Int := List.replicate sz 0
abbrev Md := List (Int × List Int)
/-- What a sector has. -/
def mV (l : Md) (sz : Nat) (s : Int) : List Int := (mget l s).getD (zeros sz)
def VIs (w : World) (N0 sz : Nat) (v : Value) (xs : List Int) : Prop := xs.length = sz ∧ ∃ A c, v = .slice A sz c ∧ DatF w N0 (A, sz, c) xs
def MSt (w : World) (N0 sz : Nat) (vs : List (Int × Value)) (l : Md) : Prop := All2 (fun p q => p.1 = q.1 ∧ VIs w N0 sz p.2 q.2) vs l
section
variable {w w' : World} {N0 sz : Nat}
theorem MSt.move {vs : List (Int × Value)} {l : Md} (h : MSt w N0 sz vs l) (hk : Keep (Bt N0 w) w w') : MSt w' N0 sz vs l := All2.imp (fun a b hab => ⟨hab.1, hab.2.1, by obtain ⟨A, c, h1, h2⟩ := hab.2.2; exact ⟨A, c, h1, h2.move hk⟩⟩) h
theorem MSt.look {vs : List (Int × Value)} {l : Md} (h : MSt w N0 sz vs l) (x : Int) : (mget l x = none ∧ mget vs x = none) ∨ ∃ xs v, mget l x = some xs ∧ mget vs x = some v ∧ VIs w N0 sz v xs := by
  induction vs generalizing l with
  | nil =>
    cases l with
    | nil => exact .inl ⟨rfl, rfl⟩
    | cons q l => exact h.elim
  | cons p vs ih =>
    cases l with
    | nil => exact h.elim
    | cons q l =>
      obtain ⟨⟨h1, h2⟩, h3⟩ := h
      unfold mget
      by_cases e : p.1 = x
      · rw [if_pos e, if_pos (h1 ▸ e)]
        exact .inr ⟨_, _, rfl, rfl, h2⟩
      · rw [if_neg e, if_neg (h1 ▸ e)]
        exact ih h3
theorem MSt.put {vs : List (Int × Value)} {l : Md} (h : MSt w N0 sz vs l) (x : Int) {v : Value} {xs : List Int} (hv : VIs w N0 sz v xs) : MSt w N0 sz (mput vs x v) (mput l x xs) := by
  induction vs generalizing l with
  | nil =>
    cases l with
    | nil => exact ⟨⟨rfl, hv⟩, trivial⟩
    | cons q l => exact h.elim
  | cons p vs ih =>
    cases l with
    | nil => exact h.elim
    | cons q l =>
      obtain ⟨⟨h1, h2⟩, h3⟩ := h
      unfold mput
      by_cases e : p.1 = x
      · rw [if_pos e, if_pos (h1 ▸ e)]
        exact ⟨⟨h1, hv⟩, h3⟩
      · rw [if_neg e, if_neg (h1 ▸ e)]
        exact ⟨⟨h1, h2⟩, ih h3⟩
theorem MSt.del {vs : List (Int × Value)} {l : Md} (h : MSt w N0 sz vs l) (x : Int) : MSt w N0 sz (mdel vs x) (mdel l x) := by
  induction vs generalizing l with
  | nil =>
    cases l with
    | nil => exact trivial
    | cons q l => exact h.elim
  | cons p vs ih =>
    cases l with
    | nil => exact h.elim
    | cons q l =>
      obtain ⟨⟨h1, h2⟩, h3⟩ := h
      unfold mdel
      by_cases e : p.1 = x
      · rw [if_pos e, if_pos (h1 ▸ e)]
        exact h3
      · rw [if_neg e, if_neg (h1 ▸ e)]
        exact ⟨⟨h1, h2⟩, ih h3⟩
end
/-- The model at block g, its map at block b. -/
structure ModIs (w : World) (N0 g b n sz : Nat) (l : Md) : Prop where
  blk : w.heap[g]? = some (.cells #[.map (some b), .int .i64 n, .int .i64 sz] 169 (0, 0))
  map : ∃ vs, MapIs kI okI w b vs ∧ MSt w N0 sz vs l
  lo : N0 ≤ g ∧ N0 ≤ b
  small : n ≤ 65536 ∧ sz ≤ 8192
section
variable {w w' : World} {N0 g b n sz : Nat} {l : Md}
theorem ModIs.ltg (h : ModIs w N0 g b n sz l) : g < w.heap.size := blk_lt h.blk
theorem ModIs.ltb (h : ModIs w N0 g b n sz l) : b < w.heap.size := by obtain ⟨vs, h1, _⟩ := h.map; exact h1.lt
theorem ModIs.hN (h : ModIs w N0 g b n sz l) : N0 ≤ w.heap.size := Nat.le_of_lt (Nat.lt_of_le_of_lt h.lo.1 h.ltg)
theorem ModIs.bmap (h : ModIs w N0 g b n sz l) : ∃ es c, w.heap[b]? = some (.map es c) := by
  obtain ⟨vs, ⟨es, c, hb, _⟩, _⟩ := h.map
  exact ⟨es, c, hb⟩
theorem ModIs.ne (h : ModIs w N0 g b n sz l) : g ≠ b := by
  obtain ⟨es, c, hb⟩ := h.bmap
  intro e
  rw [← e, h.blk] at hb
  cases hb
theorem ModIs.notBt (h : ModIs w N0 g b n sz l) : ¬ Bt N0 w b := fun hb => by
  rcases hb with h1 | ⟨cs, fr, h1⟩
  · have := h.lo.2; omega
  · obtain ⟨es, c, hb⟩ := h.bmap
    rw [hb] at h1
    cases h1
theorem ModIs.at_ (h : ModIs w N0 g b n sz l) (h1 : w'.heap[g]? = w.heap[g]?) (h2 : w'.heap[b]? = w.heap[b]?) (h3 : Keep (Bt N0 w) w w') : ModIs w' N0 g b n sz l := by
  obtain ⟨a1, ⟨vs, a2, a3⟩, a4, a5⟩ := h
  exact ⟨h1.trans a1, ⟨vs, a2.at_ h2, a3.move h3⟩, a4, a5⟩
theorem ModIs.below (h : ModIs w N0 g b n sz l) (hb : Below w.heap.size w w') : ModIs w' N0 g b n sz l := h.at_ (hb.block g h.ltg) (hb.block b h.ltb) (Bt.below h.hN hb)
theorem ModIs.drewN (h : ModIs w N0 g b n sz l) (q : Nat) : ModIs (w.drewN q) N0 g b n sz l := h.at_ rfl rfl (fun _ _ => rfl)
theorem ModIs.drew (h : ModIs w N0 g b n sz l) : ModIs w.drew N0 g b n sz l := h.at_ rfl rfl (fun _ _ => rfl)
theorem ModIs.mods {S : Nat → Prop} (h : ModIs w N0 g b n sz l) (hm : Mods w w' S) (h1 : ¬ S g) (h2 : ¬ S b) (h3 : ∀ k, S k → ¬ Bt N0 w k) : ModIs w' N0 g b n sz l := h.at_ (hm.block g h.ltg h1) (hm.block b h.ltb h2) (Bt.mods h.hN hm h3)
theorem ModIs.cell (h : ModIs w N0 g b n sz l) : w.cell? ⟨g, 0, none⟩ = some (.map (some b)) := blk_cell h.blk 0
end
theorem keI' : KEnc Try.prog 3 kI okI := kencI Try.underlying3
theorem zero52 (w : World) : (zeroValue 52).run Try.prog w = .ok (.slice none 0 0) w := Try.zeroValue52 w
set_option maxHeartbeats 2000000 in
set_option maxRecDepth 100000 in
theorem mnew_ok (n sz : Nat) (w : World) (N0 : Nat) (hN : N0 ≤ w.heap.size) (h1 : 1 ≤ n) (h2 : n ≤ 65536) (h3 : 1 ≤ sz) (h4 : sz ≤ 8192) :
    Calls Try.prog 66 #[.int .i64 n, .int .i64 sz] w fun e w' => (∃ g b, e = .returned (.tuple #[.pointer (some ⟨g, 0, none⟩), .int .i64 0]) ∧ ModIs w' N0 g b n sz [] ∧ w.heap.size ≤ g ∧ w.heap.size ≤ b) ∧ Below w.heap.size w w' := by
  have hmm := @run_makeMap Try.prog
  have hu167 := Try.underlying167
  have b1 : decide ((n : Int) < 1) = false := decide_eq_false (by omega)
  have b2 : decide (65536 < (n : Int)) = false := decide_eq_false (by omega)
  have b3 : decide ((sz : Int) < 1) = false := decide_eq_false (by omega)
  have b4 : decide (8192 < (sz : Int)) = false := decide_eq_false (by omega)
  have HM := Lib.hid ((MapIs.new kI okI w).alloc (.cells #[.map (some w.heap.size), .int .i64 n, .int .i64 sz] 169))
  have HB := Lib.hid (((Below.refl w.heap.size w).alloc (Nat.le_refl _) (.map #[] 0)).alloc (by simp) (.cells #[.map (some w.heap.size), .int .i64 n, .int .i64 sz] 169))
  have HK := Lib.hid (blk_new (w.alloc (.map #[] 0)) (.cells #[.map (some w.heap.size), .int .i64 n, .int .i64 sz] 169))
  have HN := Lib.hid hN
  clear hN
  go_enter Try.func66, Try.ntmps66
  go_wp2_with fail
  go_ret2
  refine ⟨⟨_, w.heap.size, rfl, ⟨?_, ⟨[], HM.out, trivial⟩, ⟨Nat.le_trans HN.out (by omega), HN.out⟩, h2, h4⟩, by omega, Nat.le_refl _⟩, HB.out⟩
  have h := HK.out
  rw [World.size_alloc] at h
  exact h
/-- Is there a sector? 0, or why not. -/
def mayE (n : Nat) (s : Int) : Int := if 0 ≤ s ∧ s < n then 0 else 2
set_option maxHeartbeats 2000000 in
set_option maxRecDepth 100000 in
theorem may_ok {w : World} {N0 g b n sz : Nat} {l : Md} (s : Int) (h : ModIs w N0 g b n sz l) : Calls Try.prog 111 #[.pointer (some ⟨g, 0, none⟩), .int .i64 s] w fun e w' => e = .returned (.int .i64 (mayE n s)) ∧ w' = w := by
  have c0 := h.cell
  have c1 : w.cell? ⟨g, 1, none⟩ = some (.int .i64 n) := blk_cell h.blk 1
  have hq := fun W => run_eql_map_nil W 167 3 52 (some b) Try.underlying167
  clear h
  unfold mayE
  by_cases h1 : s < 0
  · rw [if_neg (by omega)]
    go_enter Try.func111, Try.ntmps111
    go_wp2_with fail
    go_ret
    exact ⟨rfl, rfl⟩
  · by_cases h2 : (n : Int) ≤ s
    · rw [if_neg (by omega)]
      go_enter Try.func111, Try.ntmps111
      go_wp2_with fail
      go_ret
      exact ⟨rfl, rfl⟩
    · rw [if_pos (by omega)]
      go_enter Try.func111, Try.ntmps111
      go_wp2_with fail
      go_ret
      exact ⟨rfl, rfl⟩
set_option maxHeartbeats 2000000 in
set_option maxRecDepth 100000 in
theorem mwrite_bad {w : World} {N0 g b n sz : Nat} {l : Md} (s : Int) (v : Value) (h : ModIs w N0 g b n sz l) (hin : ¬ (0 ≤ s ∧ s < n)) :
    Calls Try.prog 69 #[.pointer (some ⟨g, 0, none⟩), .int .i64 s, v] w fun e w' => e = .returned (.int .i64 2) ∧ w' = w := by
  have hmay := may_ok s h
  unfold mayE at hmay
  rw [if_neg hin] at hmay
  have HMAY := Lib.hid hmay
  clear h hmay hin
  go_enter Try.func69, Try.ntmps69
  go_wp2_with (go_at_call 111; refine (HMAY.out).mono ?_; rintro e w' ⟨rfl, rfl⟩)
  go_ret
  exact ⟨rfl, rfl⟩
set_option maxHeartbeats 2000000 in
set_option maxRecDepth 100000 in
theorem mtrim_bad {w : World} {N0 g b n sz : Nat} {l : Md} (s : Int) (h : ModIs w N0 g b n sz l) (hin : ¬ (0 ≤ s ∧ s < n)) :
    Calls Try.prog 70 #[.pointer (some ⟨g, 0, none⟩), .int .i64 s] w fun e w' => e = .returned (.int .i64 2) ∧ w' = w := by
  have hmay := may_ok s h
  unfold mayE at hmay
  rw [if_neg hin] at hmay
  have HMAY := Lib.hid hmay
  clear h hmay hin
  go_enter Try.func70, Try.ntmps70
  go_wp2_with (go_at_call 111; refine (HMAY.out).mono ?_; rintro e w' ⟨rfl, rfl⟩)
  go_ret
  exact ⟨rfl, rfl⟩
set_option maxHeartbeats 2000000 in
set_option maxRecDepth 100000 in
theorem mread_bad {w : World} {N0 g b n sz : Nat} {l : Md} (s : Int) (h : ModIs w N0 g b n sz l) (hin : ¬ (0 ≤ s ∧ s < n)) :
    Calls Try.prog 71 #[.pointer (some ⟨g, 0, none⟩), .int .i64 s] w fun e w' => e = .returned (.tuple #[.slice none 0 0, .int .i64 2]) ∧ w' = w := by
  have hmay := may_ok s h
  unfold mayE at hmay
  rw [if_neg hin] at hmay
  have HMAY := Lib.hid hmay
  clear h hmay hin
  go_enter Try.func71, Try.ntmps71
  go_wp2_with (go_at_call 111; refine (HMAY.out).mono ?_; rintro e w' ⟨rfl, rfl⟩)
  go_ret2
  exact ⟨rfl, rfl⟩
theorem mod_upd {w w5 w6 : World} {N0 g b n sz : Nat} {l l' : Md} {vs' : List (Int × Value)} (h : ModIs w N0 g b n sz l) (hb : Below w.heap.size w w5) (hst : MSt w5 N0 sz vs' l')
    (hm6 : MapIs kI okI w6 b vs') (hg6 : w5.grownBy w6 (some b)) : ModIs w6 N0 g b n sz l' ∧ Mods w w6 (fun k => k = b) := by
  have h5 := h.below hb
  have hk6 : Keep (Bt N0 w5) w5 w6 := fun k hk => hg6.block k (Bt.lt h5.hN hk) (fun e => by
    injection e with e
    subst e
    exact h5.notBt hk)
  refine ⟨⟨?_, ⟨_, hm6, hst.move hk6⟩, h.lo, h.small⟩, (Mods.of_below hb (fun k => k = b)).grown hg6 (fun k e => .inl (by injection e with e; exact e.symm))⟩
  exact (hg6.block g h5.ltg (fun e => h5.ne (by injection e))).trans h5.blk
set_option maxHeartbeats 4000000 in
set_option maxRecDepth 100000 in
theorem mtrim_ok {w : World} {N0 g b n sz : Nat} {l : Md} (s : Int) (h : ModIs w N0 g b n sz l) (hs : okI s) (hin : 0 ≤ s ∧ s < n) :
    Calls Try.prog 70 #[.pointer (some ⟨g, 0, none⟩), .int .i64 s] w fun e w' => e = .returned (.int .i64 0) ∧ ModIs w' N0 g b n sz (mdel l s) ∧ Mods w w' (fun k => k = b) := by
  have hmay := may_ok s h
  unfold mayE at hmay
  rw [if_pos hin] at hmay
  have HMAY := Lib.hid hmay
  have c0 := h.cell
  obtain ⟨vs, hm, hst⟩ := h.map
  have HM := Lib.hid hm
  have HS := Lib.hid hs
  have HR := Lib.hid h
  have HST := Lib.hid hst
  clear h hmay hin hm hst hs
  go_enter Try.func70, Try.ntmps70
  go_wp2_with (first | (go_at_call 111; refine (HMAY.out).mono ?_; rintro e w' ⟨rfl, rfl⟩) | (at_delete; refine wp_del rfl (.tmp 14) (.tmp 15) 167 rfl keI' Try.underlying167 rfl HM.out s HS.out rfl ?_; intro w6 hm6 hg6 hs6; have HF := Lib.hid (mod_upd HR.out (Below.refl _ _) (HST.out.del s) hm6 hg6); clear hm6 hg6 hs6))
  go_wp2_with fail
  go_ret
  exact ⟨rfl, HF.out⟩
set_option maxHeartbeats 4000000 in
set_option maxRecDepth 100000 in
theorem mwrite_ok {w : World} {N0 g b n sz : Nat} {l : Md} (s : Int) (data : List Int) (Ad : Option Addr) (cd : Nat) (h : ModIs w N0 g b n sz l) (hs : okI s) (hd : kB.C w Ad data.length data) (hcd : data.length ≤ cd) (hin : 0 ≤ s ∧ s < n) (hlen : data.length = sz) :
    Calls Try.prog 69 #[.pointer (some ⟨g, 0, none⟩), .int .i64 s, .slice Ad data.length cd] w fun e w' => e = .returned (.int .i64 0) ∧ ModIs w' N0 g b n sz (mput l s data) ∧ Mods w w' (fun k => k = b) := by
  have c0 := h.cell
  have c2 : w.cell? ⟨g, 2, none⟩ = some (.int .i64 sz) := blk_cell h.blk 2
  obtain ⟨vs, hm, hst⟩ := h.map
  have hmay := may_ok s h
  unfold mayE at hmay
  rw [if_pos hin] at hmay
  have hdl : ((data.length : Int) != (sz : Int)) = false := by rw [hlen]; simp
  have hcl := fun W hb => clone_ok Ad cd data W (Kd.C_below hd hb) hcd (by have := h.small.2; omega)
  have hlg := h.ltg
  have HM := Lib.hid hm
  have HST := Lib.hid hst
  have HMAY := Lib.hid hmay
  have HCL : Hid (∀ W, Below w.heap.size w W → Calls Try.prog 95 #[.slice Ad data.length cd] W fun e w' => (∃ v, e = .returned v ∧ kB.R 5 w' W.heap.size (fun _ => True) v data) ∧ Below W.heap.size W w') := Lib.hid hcl
  have HR := Lib.hid h
  have HS := Lib.hid hs
  have HLEN := Lib.hid hlen
  have HLB := Lib.hid h.ltb
  have HNE := Lib.hid h.ne
  clear h hs hd hcd hlen hin hm hst hmay hcl
  go_enter Try.func69, Try.ntmps69
  go_wp2_with (go_at_call 111; refine (HMAY.out).mono ?_; rintro e w' ⟨rfl, rfl⟩)
  have c0d : w'.drew.cell? ⟨g, 0, none⟩ = some (.map (some b)) := c0
  have hlg1 : g < w'.drew.heap.size := hlg
  go_region_held3 (fun w' => w'.cell? ⟨g, 0, none⟩ = some (.map (some b))) (go_keep) (first | (go_at_call 95; (refine (HCL.out _ (pw_below_drewN (Below.refl _ _) 1)).mono ?_; rintro e w3 ⟨⟨v3, rfl, hv3⟩, hb3⟩; have HV3 := Lib.hid hv3; obtain ⟨A3, c3, rfl⟩ := Kd.R_slice hv3; have f3 : w3.cell? ⟨g, 0, none⟩ = some (.map (some b)) := (hb3.cell (p := ⟨g, 0, none⟩) hlg1).trans c0d; have HB3 := Lib.hid hb3; have HM3 := Lib.hid (HM.out.at_ (w' := w3) (hb3.block b HLB.out)); obtain ⟨w6, hrun6, hm6, hg6, hs6⟩ := HM3.out.put keI' Try.underlying167 HS.out (.slice A3 data.length c3); have hrun7 : (Instr.mapUpdate 167 (.map (some b)) (.int .i64 s) (.slice A3 data.length c3)).run Try.prog w3 = .ok () w6 := hrun6; have f6 : w6.cell? ⟨g, 0, none⟩ = some (.map (some b)) := (World.cell?_of_block (hg6.block g (Nat.lt_of_lt_of_le hlg1 HB3.out.size) (fun e => HNE.out (by injection e)))).trans f3; have HF := Lib.hid (mod_upd (w := w'.drew) HR.out.drew HB3.out (MSt.put (MSt.move (w := w'.drew) HST.out (Bt.below HR.out.drew.hN HB3.out)) s ⟨HLEN.out, A3, c3, by rw [HLEN.out], by rw [← HLEN.out]; exact DatF.own HV3.out⟩) hm6 hg6); clear hm6 hg6 hs6 hrun6 hv3 hb3)))
  all_goals
    go_wp2_with fail
    go_ret
    exact ⟨rfl, HF.out.1, ⟨HF.out.2.os, HF.out.2.tape, HF.out.2.output, HF.out.2.size, HF.out.2.block⟩⟩
theorem mV_len {w : World} {N0 g b n sz : Nat} {l : Md} (h : ModIs w N0 g b n sz l) (s : Int) : (mV l sz s).length = sz := by
  obtain ⟨vs, _, hst⟩ := h.map
  unfold mV
  rcases hst.look s with ⟨h1, h2⟩ | ⟨xs, v, h1, h2, h3⟩
  · rw [h1]; exact List.length_replicate
  · rw [h1]; exact h3.1
set_option maxHeartbeats 4000000 in
set_option maxRecDepth 100000 in
theorem mread_ok {w : World} {N0 g b n sz : Nat} {l : Md} (s : Int) (h : ModIs w N0 g b n sz l) (hs : okI s) (hin : 0 ≤ s ∧ s < n) :
    Calls Try.prog 71 #[.pointer (some ⟨g, 0, none⟩), .int .i64 s] w fun e w' => (∃ v, e = .returned (.tuple #[v, .int .i64 0]) ∧ kB.R 5 w' w.heap.size (fun _ => True) v (mV l sz s)) ∧ Below w.heap.size w w' := by
  have c0 := h.cell
  have c2 : w.cell? ⟨g, 2, none⟩ = some (.int .i64 sz) := blk_cell h.blk 2
  obtain ⟨vs, hm, hst⟩ := h.map
  have hmay := may_ok s h
  unfold mayE at hmay
  rw [if_pos hin] at hmay
  have hsm := h.small.2
  have HM := Lib.hid hm
  have HMAY := Lib.hid hmay
  have HS := Lib.hid hs
  have hlg := h.ltg
  have hlen : Hid ((mV l sz s).length = sz) := Lib.hid (mV_len h s)
  have hlook : ∃ A m c ys, (mget vs s).getD (.slice none 0 0) = .slice A m c ∧ (∀ W, Below w.heap.size w W → kB.C W A m ys) ∧ ys.take (min m sz) ++ (zeros sz).drop (min m sz) = mV l sz s := by
    unfold mV
    rcases hst.look s with ⟨h1, h2⟩ | ⟨xs, v, h1, h2, h3⟩
    · rw [h1, h2]
      exact ⟨none, 0, 0, [], rfl, fun W _ => ⟨rfl, by decide, fun h => absurd h (Nat.lt_irrefl _)⟩, by simp⟩
    · rw [h1, h2]
      obtain ⟨h4, A, c, rfl, h5⟩ := h3
      refine ⟨A, sz, c, xs, rfl, fun W hb => ?_, ?_⟩
      · have := (h5.move (Bt.below h.hN hb)).c
        rw [h4] at this
        exact this
      · rw [Nat.min_self, List.take_of_length_le (by omega), List.drop_eq_nil_of_le (by simp [zeros])]
        simp
  obtain ⟨A, m, c, ys, hl1, hl2, hl3⟩ := hlook
  have HL1 := Lib.hid hl1
  have HL2 : Hid (∀ W, Below w.heap.size w W → kB.C W A m ys) := Lib.hid hl2
  have HL3 := Lib.hid hl3
  have HLB := Lib.hid h.ltb
  clear h hs hin hm hst hmay hl1 hl2 hl3
  go_enter Try.func71, Try.ntmps71
  go_wp2_with (first | (go_at_call 111; refine (HMAY.out).mono ?_; rintro e w' ⟨rfl, rfl⟩) | (at_make; refine Kd.R_make kB (w0 := w') w'.heap.size 5 rfl rfl 52 (.tmp 17) (.tmp 17) rfl (sz : Int) rfl rfl Try.underlying52 (.int .u8 0) 1 info5 rfl (by decide) (by decide) 0 (ok := fun _ => True) (okp := fun _ => True) rfl (fun _ h => h) trivial (by omega) (by simp; omega) (Below.refl _ _) (Nat.le_refl _) ?_; intro v1 w1 hr1 hb1 hg1 hat1; rw [Int.toNat_natCast] at hr1; have HR1 := Lib.hid hr1; obtain ⟨A1, c1, rfl⟩ := Kd.R_slice hr1; rw [List.length_replicate] at HR1; have c01 : w1.cell? ⟨g, 0, none⟩ = some (.map (some b)) := (hb1.cell (p := ⟨g, 0, none⟩) hlg).trans c0; have HB1 := Lib.hid hb1; have HM1 := Lib.hid (HM.out.at_ (w' := w1) (hb1.block b HLB.out)); clear hr1 hb1 hg1 hat1) | (at_lookup; refine wp_look rfl (.tmp 23) (.tmp 24) 167 false rfl keI' Try.underlying167 (zero52 _) rfl HM1.out s HS.out rfl ?_; rw [if_neg (by decide), HL1.out]) | ((with_reducible refine gate_ (.call { callee := .builtin .copy, args := #[.tmp 19, .tmp 25], argTypes := #[52, 52] }) rfl ?_); (refine Kd.R_copy (enc := Value.int .u8) (h1 := fun _ => rfl) (0 : Int) (w0 := w') w'.heap.size rfl (.tmp 19) (.tmp 25) 52 52 5 rfl Try.underlying52 rfl _ _ ys A m c (fun _ => True) rfl rfl HR1.out (HL2.out _ HB1.out) HB1.out HB1.out.size ?_; intro w2 hr2 hb2 hg2; have HR2 := Lib.hid hr2; have HB2 := Lib.hid hb2; clear hr2 hb2 hg2)))
  go_ret2
  refine ⟨⟨_, rfl, ?_⟩, HB2.out⟩
  have h := HR2.out
  rw [List.length_replicate] at h
  rw [← HL3.out]
  exact h
end Mo
end Go.Proofs.Ytnkgbnipcjgjeaa
