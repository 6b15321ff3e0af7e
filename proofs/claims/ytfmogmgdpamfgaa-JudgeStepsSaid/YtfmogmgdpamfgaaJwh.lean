import Derived.Test.YtfmogmgdpamfgaaJwg
import Derived.Test.YtfmogmgdpamfgaaJp7
namespace Go.Proofs.Ytfmogmgdpamfgaa.Jd
open Go.RowKit Go.Proofs.YtfmogmgdpamfgaaW.PrintWords Go.Proofs.YtfmogmgdpamfgaaW.PrintLast Go.Proofs.YtfmogmgdpamfgaaW.PrintMore
set_option linter.unusedVariables false
set_option linter.unusedSimpArgs false
abbrev kCy : Kd (Int × Int) := Kd.pair (Kd.int .i64) (Kd.int .u8)
theorem kCy_K {w : World} {h : Int × Int} {c : List Value} (hK : kCy.K w h c) : c = [.int .i64 h.1, .int .u8 h.2] := by
  obtain ⟨_, _, rfl, rfl, rfl⟩ := hK
  rfl
/-- A row of cycles that is read: its cells. -/
theorem rowCy {A : Option Addr} {hs : List (Int × Int)} {w : World} (hr : Kd.C kCy w A hs.length hs) (hp : 0 < hs.length) :
    ∃ b off, A = some ⟨b, off, none⟩ ∧ b < w.heap.size ∧ ∀ j h, hs[j]? = some h → w.cell? ⟨b, off + j * 2, none⟩ = some (.int .i64 h.1) ∧ w.cell? ⟨b, off + j * 2 + 1, none⟩ = some (.int .u8 h.2) := by
  obtain ⟨ad, rfl, hc⟩ := hr.2.2 hp
  have hcells : ∀ j h, hs[j]? = some h → ∀ i u, ([.int .i64 h.1, .int .u8 h.2] : List Value)[i]? = some u → w.cell? (ad.add (j * 2 + i)) = some u := fun j h hj i u hu => by
    obtain ⟨c, _, hK, hcell⟩ := hc j h hj
    rw [kCy_K hK] at hcell
    exact hcell i u hu
  have h0 := hcells 0 _ (List.getElem?_eq_getElem hp) 0 _ rfl
  rw [Nat.zero_mul, Nat.zero_add] at h0
  have e : ad = ⟨ad.block, ad.off, none⟩ := spotless (show w.cell? ad = some _ from h0)
  refine ⟨ad.block, ad.off, by rw [← e], ?_, fun j h hj => ?_⟩
  · have := World.block_lt_of_cell? w _ h0
    rw [e, add_plain] at this
    exact this
  · have hx := hcells j h hj
    have a0 := hx 0 _ rfl
    have a1 := hx 1 _ rfl
    rw [e, add_plain] at a0 a1
    exact ⟨a0, a1⟩
/-- Where a judge stands: its blocks are new since w0, others are as they were. -/
structure At (w0 w : World) (N0 p : Nat) (g : Ge) (t : Nat → Nat) (s : JS) (gb : Nat) : Prop where
  j : JG w p g t s gb
  b : Below N0 w0 w
  n : ∀ k, t k ≠ 0 → N0 ≤ k
  z : N0 ≤ w.heap.size
section
variable {w0 w w' : World} {N0 p gb n : Nat} {g : Ge} {t t' : Nat → Nat} {s s' : JS}
theorem At.next (h : At w0 w N0 p g t s gb) (hj : JG w' p g t' s' gb) (hx : Nxt w w' t t') : At w0 w' N0 p g t' s' gb := ⟨hj, nxt_below hx h.b h.n h.z, nxt_low hx h.n h.z, Nat.le_trans h.z hx.m.size⟩
theorem JG.below (h : JG w p g t s gb) (hb : Below w.heap.size w w') : JG w' p g t s gb := by
  obtain ⟨a, b, c, d, h⟩ := h
  exact ⟨a, b, c, d, h.below hb⟩
theorem JG.nxt {u u' : Nat → Nat} (h : JG w p g t s gb) (hn : Nxt w w' u u') (hd : ∀ k, u k = 0 ∨ t k = 0) : JG w' p g t s gb := by
  obtain ⟨a, b, c, d, h⟩ := h
  exact ⟨a, b, c, d, h.nxt hn hd⟩
theorem JG.lt (h : JG w p g t s gb) : ∀ k, t k ≠ 0 → k < w.heap.size := by
  obtain ⟨a, b, c, d, h⟩ := h
  exact Ob.lt h
theorem At.below (h : At w0 w N0 p g t s gb) (hb : Below w.heap.size w w') : At w0 w' N0 p g t s gb := ⟨h.j.below hb, chainC' h.b hb h.z, h.n, Nat.le_trans h.z hb.size⟩
where chainC' {w0 w w' : World} {N0 : Nat} (h : Below N0 w0 w) (k : Below w.heap.size w w') (hz : N0 ≤ w.heap.size) : Below N0 w0 w' := h.trans (k.mono hz)
/-- A block that is none of the judge's. -/
theorem nxt_keep {o : Obj} {jv : Nat} (hx : Nxt w w' t t') (h : w.heap[jv]? = some o) (h0 : t jv = 0) : w'.heap[jv]? = some o ∧ t' jv = 0 := by
  refine ⟨(hx.far (blk_lt h) h0).trans h, ?_⟩
  by_cases e : t' jv = 0
  · exact e
  · rcases hx.n jv e with h2 | h2
    · exact absurd h0 h2
    · have := blk_lt h
      omega
set_option maxHeartbeats 4000000 in
set_option maxRecDepth 100000 in
theorem clo_ok (k b : Int) (hb1 : 0 ≤ b ∧ b ≤ 255) (jv : Nat) (hw : WfN g n s) (hn : n ≤ 800000) (h : JG w p g t s gb) (hv : w.heap[jv]? = some (.cells #[.pointer (some ⟨p, 0, none⟩)] 26 (0, 0))) (hv0 : t jv = 0) : Calls Try.prog 61 #[.agg #[.int .i64 k, .int .u8 b], .pointer (some ⟨jv, 0, none⟩)] w fun e w' => e = .returned (.bool (!(stepP g s k b).2)) ∧ ∃ t', JG w' p g t' (stepP g s k b).1 gb ∧ Nxt w w' t t' := by
  have hab := alloc_below w (.cells #[.int .i64 k, .int .u8 b] 33)
  have hbk := blk_new w (.cells #[.int .i64 k, .int .u8 b] 33)
  obtain ⟨l1, r1, e1, d1, hj⟩ := h.below hab
  have HST := Lib.hid (step_ok k b hb1 (hw.wf (by omega)) hj)
  have HX0 := Lib.hid (Nxt.of_below (t := t) hab)
  have HBX := Lib.hid hbk
  have HV := Lib.hid ((hab.block jv (blk_lt hv)).trans hv)
  have hvne : jv ≠ w.heap.size := by have := blk_lt hv; omega
  clear hab hbk h hv hw hn hj hb1 hv0
  go_enter Try.func61, Try.ntmps61
  go_upto_region 1 with fail
  generalize w.alloc (.cells #[.int .i64 k, .int .u8 b] 33) = w1 at HST HX0 HBX HV ⊢
  generalize w.heap.size = bx at HBX hvne ⊢
  have q0 : w1.cell? ⟨bx, 0, none⟩ = some (.int .i64 k) := blk_cell HBX.out 0
  have q1 : w1.cell? ⟨bx, 1, none⟩ = some (.int .u8 b) := blk_cell HBX.out 1
  have v0 : w1.cell? ⟨jv, 0, none⟩ = some (.pointer (some ⟨p, 0, none⟩)) := blk_cell HV.out 0
  go_wp2_with (go_at_call 16; refine (HST.out).mono ?_; rintro e w2 ⟨rfl, t2, hj2, hx2⟩; have HJ2 := Lib.hid hj2; have HX2 := Lib.hid (HX0.out.trans hx2); clear hj2 hx2)
  go_ret
  exact ⟨rfl, _, HJ2.out, HX2.out⟩
theorem takeN_cons (g : Ge) (s : JS) (x : Int × Int) (xs : List (Int × Int)) : takeN g s (x :: xs) = if (stepP g s x.1 x.2).2 then takeN g (stepP g s x.1 x.2).1 xs + 1 else 0 := rfl
/-- The index of the first cycle that is not taken. -/
def idxT (g : Ge) (s : JS) (l : List (Int × Int)) : Int := if takeN g s l = l.length then -1 else (takeN g s l : Int)
set_option maxHeartbeats 8000000 in
set_option maxRecDepth 100000 in
theorem idx_ok (A : Option Addr) (c : Nat) (l : List (Int × Int)) (jv : Nat) (hs0 : WfN g 0 s) (hl : l.length ≤ 100000) (hby : ∀ x ∈ l, 0 ≤ x.2 ∧ x.2 ≤ 255) (hr : ∀ W, Below N0 w0 W → Kd.C kCy W A l.length l) (h : At w0 w N0 p g t s gb) (hv : w.heap[jv]? = some (.cells #[.pointer (some ⟨p, 0, none⟩)] 26 (0, 0))) (hv0 : t jv = 0) :
    Calls Try.prog 60 #[.slice A l.length c, .func (.func 61) #[] #[.pointer (some ⟨jv, 0, none⟩)]] w fun e w' => e = .returned (.int .i64 (idxT g s l)) ∧ Below N0 w0 w' := by
  have HR := Lib.hid hr
  have HBY := Lib.hid hby
  obtain ⟨m, hm⟩ : ∃ m, m = l.length := ⟨_, rfl⟩
  rw [← hm]
  have HM := Lib.hid hm
  have hmb : m ≤ 100000 := by omega
  have HW0 := Lib.hid hs0
  have HA := Lib.hid h
  have HV := Lib.hid hv
  have HV0 := Lib.hid hv0
  obtain ⟨T, hT⟩ : ∃ T, T = idxT g s l := ⟨_, rfl⟩
  rw [← hT]
  have HT := Lib.hid hT
  clear hr hby hl hm hs0 h hv hv0 hT
  go_enter Try.func60, Try.ntmps60
  go_wp2_with fail
  go_loopw [8] (fun i wr => ∃ k : Nat, k ≤ m ∧ i = .int .i64 k ∧ ∃ t2 s2, Hid (takeN g s2 (l.drop k) + k = takeN g s l) ∧ Hid (WfN g k s2) ∧ Hid (At w0 wr N0 p g t2 s2 gb) ∧ Hid (wr.heap[jv]? = some (.cells #[.pointer (some ⟨p, 0, none⟩)] 26 (0, 0))) ∧ Hid (t2 jv = 0)) (fun i _ => m - (intOf i).toNat)
  case atStart => exact ⟨0, by omega, rfl, _, s, Lib.hid (by rw [List.drop_zero]; rfl), HW0, HA, HV, HV0⟩
  case round =>
    clear HA HV HV0
    obtain ⟨k, hk, rfl, t2, s2, HTK, HWF, HA, HV, HV0⟩ := hrel
    by_cases hkm : k < m
    · have hk0 : (k : Int) < (m : Int) := by omega
      have hlen : k < l.length := by rw [← HM.out]; exact hkm
      obtain ⟨b5, o5, rfl, _, hcell⟩ := rowCy (HR.out wr HA.out.b) (by omega)
      obtain ⟨e0, e1⟩ := hcell k _ (List.getElem?_eq_getElem hlen)
      have hbx := HBY.out l[k] (List.getElem_mem hlen)
      have htk := HTK.out
      rw [List.drop_eq_getElem_cons hlen] at htk
      obtain ⟨x, hx⟩ : ∃ x, x = l[k] := ⟨_, rfl⟩
      rw [← hx] at e0 e1 hbx htk
      clear hx hcell
      obtain ⟨xk, xb⟩ := x
      have HC := Lib.hid (clo_ok xk xb hbx jv HWF.out (by omega) HA.out.j HV.out HV0.out)
      have HWN := Lib.hid (HWF.out.step xk xb hbx)
      rw [takeN_cons] at htk
      simp only at htk e0 e1
      cases hst : (stepP g s2 xk xb).2 with
      | true =>
        rw [hst] at HC htk
        rw [if_pos rfl] at htk
        have HTN := Lib.hid htk
        clear hst htk hbx hlen
        go_wp2_with fail
        refine (HC.out).mono ?_
        rintro e w2 ⟨rfl, t3, hj3, hx3⟩
        have hkp := nxt_keep hx3 HV.out HV0.out
        have HV2 := Lib.hid hkp.1
        have HV3 := Lib.hid hkp.2
        have HA2 := Lib.hid (HA.out.next hj3 hx3)
        clear hj3 hx3 hkp
        go_wp2_with fail
        go_roundw
        case rel => exact ⟨k + 1, hkm, by go_num, _, _, Lib.hid (by rw [← HTN.out]; omega), HWN, HA2, HV2, HV3⟩
        case measure => exact step_measure hkm
      | false =>
        rw [hst] at HC htk
        rw [if_neg (by decide)] at htk
        have HTN : Hid (T = (k : Int)) := Lib.hid (by
          rw [HT.out]
          unfold idxT
          rw [← htk, if_neg (by omega)]
          omega)
        clear hst htk hbx hlen
        go_wp2_with fail
        refine (HC.out).mono ?_
        rintro e w2 ⟨rfl, t3, hj3, hx3⟩
        have HA2 := Lib.hid (HA.out.next hj3 hx3)
        clear hj3 hx3
        go_wp2_with fail
        go_ret
        exact ⟨by rw [HTN.out]; rfl, HA2.out.b⟩
    · have hke : m = k := by omega
      have htk := HTK.out
      rw [List.drop_of_length_le (by rw [← HM.out]; omega)] at htk
      have HTN : Hid (T = -1) := Lib.hid (by
        rw [HT.out]
        unfold idxT
        rw [← htk, if_pos (by rw [← HM.out]; show 0 + k = m; omega)])
      subst hke
      clear htk hkm hk
      go_wp2_with fail
      go_ret
      exact ⟨by rw [HTN.out]; rfl, HA.out.b⟩
/-- Run. -/
theorem idxT_neg (g : Ge) (s : JS) (l : List (Int × Int)) : (idxT g s l < 0 ↔ takeN g s l = l.length) ∧ (¬ idxT g s l < 0 → idxT g s l = (takeN g s l : Int)) := by
  unfold idxT
  by_cases h : takeN g s l = l.length
  · rw [if_pos h]; exact ⟨⟨fun _ => h, fun _ => by decide⟩, fun h2 => absurd (by decide) h2⟩
  · rw [if_neg h]; exact ⟨⟨fun h2 => by omega, fun h2 => absurd h2 h⟩, fun _ => rfl⟩
set_option maxHeartbeats 4000000 in
set_option maxRecDepth 100000 in
theorem run_bad (hg : ¬ g.ok) (A : Option Addr) (m c : Nat) (w : World) : Calls Try.prog 19 #[g.v, .slice A m c] w fun e w' => e = .returned (.tuple #[.int .i64 0, .bool false]) ∧ Below w.heap.size w w' := by
  have hab := alloc_below w (.cells #[.int .i64 g.pl, .int .i64 g.bl, .int .i64 g.pg, .int .i64 g.ch, .int .i64 g.ck, .int .i64 g.ru, .int .i64 g.pa] 23)
  have HC := Lib.hid (jnew_bad hg)
  have HB := Lib.hid hab
  clear hg hab
  unfold Ge.v at *
  go_enter Try.func19, Try.ntmps19
  go_wp2_with (go_at_call 14; refine (HC.out _).mono ?_; rintro e w1 ⟨rfl, hb1⟩; have HB1 := Lib.hid (chainC (Nat.le_refl _) HB.out hb1); clear hb1)
  go_ret2
  exact ⟨rfl, below_alloc HB1.out _⟩
set_option maxHeartbeats 8000000 in
set_option maxRecDepth 100000 in
theorem run_ok (hg : g.ok) (A : Option Addr) (c : Nat) (l : List (Int × Int)) (w : World) (hl : l.length ≤ 100000) (hby : ∀ x ∈ l, 0 ≤ x.2 ∧ x.2 ≤ 255) (hr : Kd.C kCy w A l.length l) (hc : l.length ≤ c) : Calls Try.prog 19 #[g.v, .slice A l.length c] w fun e w' => e = .returned (.tuple #[.int .i64 (takeN g (newP g) l : Int), .bool (decide (takeN g (newP g) l = l.length))]) ∧ Below w.heap.size w w' := by
  have hab := alloc_below w (.cells #[.int .i64 g.pl, .int .i64 g.bl, .int .i64 g.pg, .int .i64 g.ch, .int .i64 g.ck, .int .i64 g.ru, .int .i64 g.pa] 23)
  have HC := Lib.hid (jnew_ok hg)
  have HB := Lib.hid hab
  have HR := Lib.hid hr
  have HG := Lib.hid hg
  have HBY := Lib.hid hby
  have HL := Lib.hid hl
  obtain ⟨m, hm⟩ : ∃ m, m = l.length := ⟨_, rfl⟩
  obtain ⟨TN, htn⟩ : ∃ TN, TN = takeN g (newP g) l := ⟨_, rfl⟩
  have HTN := Lib.hid htn
  have HM := Lib.hid hm
  rw [← htn, ← hm]
  clear hg hab hr hby hl hc hm htn
  unfold Ge.v at *
  go_enter Try.func19, Try.ntmps19
  go_upto_region 2 with (go_at_call 14; refine (HC.out _).mono ?_; rintro e w1 ⟨p, t, gb, rfl, hj1, hb1, ht1⟩; have HJ1 := Lib.hid hj1; have HT1 := Lib.hid ht1; have HB1 := Lib.hid (chainC (Nat.le_refl _) HB.out hb1); have HBB := Lib.hid hb1; clear hb1 hj1 ht1)
  have hab2 := alloc_below w1 (.cells #[.pointer (some ⟨p, 0, none⟩)] 26)
  have hbk2 := blk_new w1 (.cells #[.pointer (some ⟨p, 0, none⟩)] 26)
  have HV := Lib.hid hbk2
  have HJ2 := Lib.hid (HJ1.out.below hab2)
  have HB2 := Lib.hid (chainC (Nat.le_refl _) HB1.out hab2)
  have HV0 : Hid (t w1.heap.size = 0) := Lib.hid (by
    by_cases e : t w1.heap.size = 0
    · exact e
    · have := HJ1.out.lt _ e; omega)
  clear hab2 hbk2 HJ1 HB1
  have HA : Hid (At w (w1.alloc (.cells #[.pointer (some ⟨p, 0, none⟩)] 26)) w.heap.size p g t (newP g) gb) := Lib.hid ⟨HJ2.out, HB2.out, fun k hk => Nat.le_trans (by simp) (HT1.out k hk), HB2.out.size⟩
  have hmf : ∀ (fn : Fn) (first cap : Array Value) (w : World), (Instr.makeFunc fn first cap).run Try.prog w = .ok (.func fn first cap) w := fun _ _ _ _ => rfl
  generalize w1.alloc (.cells #[.pointer (some ⟨p, 0, none⟩)] 26) = w2 at HA HV ⊢
  generalize w1.heap.size = jv at HV HV0 ⊢
  have hI := idx_ok (w0 := w) (N0 := w.heap.size) A c l jv (WfN.new HG.out) HL.out HBY.out (fun W hW => Kd.C_below HR.out hW) HA.out HV.out HV0.out
  rw [← HM.out] at hI
  have HI := Lib.hid hI
  have hng := idxT_neg g (newP g) l
  rw [← HTN.out, ← HM.out] at hng
  generalize idxT g (newP g) l = T at HI hng
  clear hI
  by_cases hT : T < 0
  · have hd : Hid (TN = m) := Lib.hid (hng.1.1 hT)
    clear hng
    go_wp2_with (go_at_call 60; refine (HI.out).mono ?_; rintro e w3 ⟨rfl, hb3⟩; have HB3 := Lib.hid hb3; clear hb3)
    go_ret2
    exact ⟨by rw [hd.out, decide_eq_true rfl]; rfl, HB3.out⟩
  · have hd : Hid (T = (TN : Int)) := Lib.hid (hng.2 hT)
    have hd2 : Hid (TN ≠ m) := Lib.hid (fun e => hT (hng.1.2 e))
    clear hng
    go_wp2_with (go_at_call 60; refine (HI.out).mono ?_; rintro e w3 ⟨rfl, hb3⟩; have HB3 := Lib.hid hb3; clear hb3)
    go_ret2
    exact ⟨by rw [decide_eq_false hd2.out, ← hd.out]; rfl, HB3.out⟩
end
end Go.Proofs.Ytfmogmgdpamfgaa.Jd
