import Derived.Test.YtnkgbnipcjgjeaaDD
namespace Go.Proofs.Ytnkgbnipcjgjeaa
open Go.RowKit Go.Shelf Go.Sort Go.Lib Go.Proofs.YtnkgbnipcjgjeaaW.PrintWords Go.Proofs.YtnkgbnipcjgjeaaW.PrintLast Go.Proofs.YtnkgbnipcjgjeaaW.PrintMore
set_option linter.unusedVariables false
def isB (xs : List Int) : Prop := ∀ x ∈ xs, 0 ≤ x ∧ x < 256
theorem strOf_eq {xs ys : List Int} (hx : isB xs) (hy : isB ys) : ((strOfNums xs).toList == (strOfNums ys).toList) = decide (xs = ys) := by
  have e : ∀ l : List Int, (strOfNums l).toList = l.map fun n => UInt8.ofNat n.toNat := fun l => by rw [← strOfNums_data, ByteArray.toList_eq]
  rw [e, e, Bool.eq_iff_iff, beq_iff_eq, decide_eq_true_eq]
  constructor
  · intro h
    induction xs generalizing ys with
    | nil =>
      cases ys with
      | nil => rfl
      | cons y ys => simp at h
    | cons x xs ih =>
      cases ys with
      | nil => simp at h
      | cons y ys =>
        simp only [List.map_cons, List.cons.injEq] at h
        have h1 := hx x List.mem_cons_self
        have h2 := hy y List.mem_cons_self
        have h3 : x = y := by
          have := congrArg UInt8.toNat h.1
          simp at this
          omega
        rw [h3, ih (fun z hz => hx z (List.mem_cons_of_mem _ hz)) (fun z hz => hy z (List.mem_cons_of_mem _ hz)) h.2]
  · intro h; rw [h]
set_option maxHeartbeats 2000000 in
set_option maxRecDepth 100000 in
theorem mclos_ok (A0 : Option Addr) (c0 : Nat) (xs : List Int) (A1 : Option Addr) (c1 : Nat) (data : List Int) (bx : Nat) (w : World) (hb : w.cell? ⟨bx, 0, none⟩ = some (.slice A1 data.length c1)) (h0 : kB.C w A0 xs.length xs) (hc0 : xs.length ≤ c0) (h1 : kB.C w A1 data.length data) (hc1 : data.length ≤ c1) (hx : isB xs) (hd : isB data) :
    Calls Try.prog 103 #[.slice A0 xs.length c0, .pointer (some ⟨bx, 0, none⟩)] w fun e w' => e = .returned (.bool (decide (xs = data))) ∧ ∃ q, w' = w.drewN q := by
  have hc := QY.bytes_Equal.calls A0 c0 xs A1 c1 data _ w h0 hc0 h1 hc1 (by unfold QY.bytes_Equal.f; rw [strOf_eq hx hd])
  have HC := Lib.hid hc
  clear h0 hc0 h1 hc1 hx hd hc
  go_enter Try.func103, Try.ntmps103
  go_wp2_with fail
  refine (HC.out).mono ?_
  rintro e w' ⟨rfl, ⟨q, rfl⟩⟩
  go_wp2_with fail
  go_ret
  exact ⟨rfl, q, rfl⟩
/-- Headers that are read. -/
theorem rowH_of_C {A : Option Addr} {hs : List Hdr} {w : World} (hr : kH.C w A hs.length hs) (hp : 0 < hs.length) :
    ∃ b off, A = some ⟨b, off, none⟩ ∧ b < w.heap.size ∧ ∀ j h, hs[j]? = some h → w.cell? ⟨b, off + j, none⟩ = some (.slice h.1 h.2.1 h.2.2) := by
  have hC := Kd.reads_of_C (d := ((none, 0, 0) : Hdr)) (h1 := fun _ => rfl) hr
  obtain ⟨ad, rfl, hc⟩ := hC.2.2 hp
  have h0 := hc 0 hp
  have e := spotless (show w.cell? ad = some _ from h0)
  refine ⟨ad.block, ad.off, by rw [← e], World.block_lt_of_cell? w ad h0, fun j h hj => ?_⟩
  have hl := (List.getElem?_eq_some_iff.1 hj).1
  have := hc j hl
  rw [← add_plain, ← e]
  rw [List.getD_eq_getElem?_getD, hj] at this
  exact this
/-- Where data is, from k on; -1: nowhere. -/
def idxB (rows : List (List Int)) (x : List Int) : Nat → Nat → Int
  | 0, _ => -1
  | d + 1, k => if rows.getD k [] = x then (k : Int) else idxB rows x d (k + 1)
theorem idxB_iff (rows : List (List Int)) (x : List Int) : ∀ d k, k + d = rows.length → decide (0 ≤ idxB rows x d k) = decide (x ∈ rows.drop k) := by
  intro d
  induction d with
  | zero =>
    intro k hk
    rw [List.drop_of_length_le (by omega)]
    rfl
  | succ d ih =>
    intro k hk
    have hl : k < rows.length := by omega
    unfold idxB
    rw [List.drop_eq_getElem_cons hl, List.getD_eq_getElem?_getD, List.getElem?_eq_getElem hl, Option.getD_some]
    by_cases e : rows[k] = x
    · rw [if_pos e, decide_eq_true (by omega), decide_eq_true (by rw [e]; exact List.mem_cons_self)]
    · rw [if_neg e, ih (k + 1) (by omega)]
      refine decide_eq_decide.2 ⟨fun h => List.mem_cons_of_mem _ h, fun h => ?_⟩
      rcases List.mem_cons.1 h with h | h
      · exact absurd h.symm e
      · exact h
set_option maxHeartbeats 4000000 in
set_option maxRecDepth 100000 in
theorem midx_ok (A : Option Addr) (c : Nat) (hs : List Hdr) (rows : List (List Int)) (F : Nat → Prop) (A1 : Option Addr) (c1 : Nat) (data : List Int) (bx : Nat) (w : World) (hr : kH.C w A hs.length hs) (hst : HSt w F hs rows) (hb : w.cell? ⟨bx, 0, none⟩ = some (.slice A1 data.length c1)) (h1 : kB.C w A1 data.length data) (hc1 : data.length ≤ c1) (hx : ∀ r ∈ rows, isB r) (hd : isB data) (hl : rows.length ≤ 100000) :
    Calls Try.prog 134 #[.slice A hs.length c, .func (.func 103) #[] #[.pointer (some ⟨bx, 0, none⟩)]] w fun e w' => e = .returned (.int .i64 (idxB rows data rows.length 0)) ∧ ∃ q, w' = w.drewN q := by
  have hlen := All2.len hst
  obtain ⟨T, hT⟩ : ∃ T, T = idxB rows data rows.length 0 := ⟨_, rfl⟩
  rw [← hT]
  have hclos : ∀ (j q : Nat) (h : Hdr) (xs : List Int), hs[j]? = some h → rows[j]? = some xs → Calls Try.prog 103 #[.slice h.1 h.2.1 h.2.2, .pointer (some ⟨bx, 0, none⟩)] (w.drewN q) fun e w' => e = .returned (.bool (decide (xs = data))) ∧ ∃ q, w' = w.drewN q := fun j q h xs hj hrow => by
    obtain ⟨xs', e1, e2, e3, e4⟩ := All2.get hst hj
    rw [hrow] at e1
    obtain rfl := Option.some.inj e1
    rw [e2]
    refine (mclos_ok h.1 h.2.2 xs A1 c1 data bx (w.drewN q) hb (e4 _ (fun _ _ => rfl)) e3 (Kd.C_drewN h1 q) hc1 (hx _ (List.mem_of_getElem? hrow)) hd).mono ?_
    rintro e w' ⟨he, q2, hq⟩
    exact ⟨he, q + q2, by rw [hq, World.drewN, World.drewN, World.drewN]; simp [Nat.add_assoc]⟩
  have HCL := Lib.hid hclos
  have HT := Lib.hid hT
  have HR := Lib.hid hr
  obtain ⟨n, hn⟩ : ∃ n, n = hs.length := ⟨_, rfl⟩
  rw [← hn]
  have HN := Lib.hid hn
  have HNR : Hid (n = rows.length) := Lib.hid (hn.trans hlen)
  have hn2 : (n : Int) ≤ 100000 := by omega
  clear hr hst hb h1 hc1 hx hd hl hlen hclos hT hn
  go_enter Try.func134, Try.ntmps134
  go_wp2_with fail
  go_loopw [8] (fun i wr => ∃ (k q : Nat), k ≤ n ∧ i = .int .i64 k ∧ Hid (idxB rows data (n - k) k = T) ∧ wr = w.drewN q) (fun i _ => n - (intOf i).toNat)
  case atStart => exact ⟨0, 0, by omega, rfl, Lib.hid (by rw [HT.out, HNR.out]; rfl), rfl⟩
  case round =>
    obtain ⟨k, q, hk, rfl, HG, rfl⟩ := hrel
    by_cases hkn : k < n
    · have hks : k < hs.length := by rw [← HN.out]; exact hkn
      have hkr : k < rows.length := by rw [← HNR.out]; exact hkn
      obtain ⟨b, off, rfl, _, hcell⟩ := rowH_of_C HR.out (by omega)
      have hh := List.getElem?_eq_getElem hks
      have hrw := List.getElem?_eq_getElem hkr
      have hcl := HCL.out k q _ _ hh hrw
      have e0 := hcell k _ hh
      have hg := HG.out
      rw [show n - k = (n - (k + 1)) + 1 by omega] at hg
      have hg' : (if rows.getD k [] = data then (k : Int) else idxB rows data (n - (k + 1)) (k + 1)) = T := hg
      rw [List.getD_eq_getElem?_getD, hrw, Option.getD_some] at hg'
      generalize hs[k] = h at hcl e0 hh
      generalize rows[k] = xs at hcl hg' hrw
      obtain ⟨hA, hn', hc'⟩ := h
      have hk0 : (k : Int) < (n : Int) := by omega
      by_cases e : xs = data
      · rw [if_pos e] at hg'
        rw [decide_eq_true e] at hcl
        subst hg'
        have HC := Lib.hid hcl
        clear hg hcl hcell hh hrw e hks hkr
        go_wp2_with fail
        refine (HC.out).mono ?_
        rintro e w2 ⟨rfl, ⟨q2, rfl⟩⟩
        go_wp2_with fail
        go_ret
        exact ⟨rfl, q2, rfl⟩
      · rw [if_neg e] at hg'
        rw [decide_eq_false e] at hcl
        have HC := Lib.hid hcl
        have HG2 := Lib.hid hg'
        clear hg hcl hcell hh hrw e hks hkr hg'
        go_wp2_with fail
        refine (HC.out).mono ?_
        rintro e w2 ⟨rfl, ⟨q2, rfl⟩⟩
        go_wp2_with fail
        go_roundw
        case rel => exact ⟨k + 1, q2, hkn, by go_num, HG2, rfl⟩
        case measure => exact step_measure hkn
    · have hk2 : k = n := by omega
      subst hk2
      have hg := HG.out
      rw [Nat.sub_self] at hg
      have : T = -1 := hg.symm
      subst this
      clear hg hkn
      go_wp2_with fail
      go_ret
      exact ⟨rfl, q, rfl⟩
end Go.Proofs.Ytnkgbnipcjgjeaa
