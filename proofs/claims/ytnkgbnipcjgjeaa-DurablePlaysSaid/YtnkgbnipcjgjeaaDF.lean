import Derived.Test.YtnkgbnipcjgjeaaDE
namespace Go.Proofs.Ytnkgbnipcjgjeaa
open Go.RowKit Go.Shelf Go.Sort Go.Lib Go.Proofs.YtnkgbnipcjgjeaaW.PrintWords Go.Proofs.YtnkgbnipcjgjeaaW.PrintLast Go.Proofs.YtnkgbnipcjgjeaaW.PrintMore
set_option linter.unusedVariables false
set_option maxHeartbeats 4000000 in
set_option maxRecDepth 100000 in
theorem mhas_ok (A : Option Addr) (c : Nat) (hs : List Hdr) (rows : List (List Int)) (F : Nat → Prop) (A1 : Option Addr) (c1 : Nat) (data : List Int) (bx : Nat) (w : World) (hr : kH.C w A hs.length hs) (hst : HSt w F hs rows) (hb : w.cell? ⟨bx, 0, none⟩ = some (.slice A1 data.length c1)) (h1 : kB.C w A1 data.length data) (hc1 : data.length ≤ c1) (hx : ∀ r ∈ rows, isB r) (hd : isB data) (hl : rows.length ≤ 100000) :
    Calls Try.prog 102 #[.slice A hs.length c, .func (.func 103) #[] #[.pointer (some ⟨bx, 0, none⟩)]] w fun e w' => e = .returned (.bool (decide (data ∈ rows))) ∧ ∃ q, w' = w.drewN q := by
  have HI := Lib.hid (midx_ok A c hs rows F A1 c1 data bx w hr hst hb h1 hc1 hx hd hl)
  have hT := idxB_iff rows data rows.length 0 (by omega)
  rw [List.drop_zero] at hT
  rw [← hT]
  generalize idxB rows data rows.length 0 = T at HI
  clear hr hst hb h1 hc1 hx hd hl hT
  go_enter Try.func102, Try.ntmps102
  go_wp2_with fail
  refine (HI.out).mono ?_
  rintro e w2 ⟨rfl, ⟨q2, rfl⟩⟩
  go_wp2_with fail
  go_ret
  exact ⟨rfl, q2, rfl⟩
theorem ofV_isB {w : World} {g b n sz : Nat} {F : Nat → Prop} {l : Rec} (h : RecIs w g b n sz F l) (s : Int) : ofV l sz s ≠ [] ∧ ∀ r ∈ ofV l sz s, r.length = sz ∧ isB r := by
  unfold ofV
  cases hmg : mget l s with
  | none =>
    refine ⟨by simp, fun r hr => ?_⟩
    obtain rfl : r = zeros sz := by simpa using hr
    exact ⟨by unfold zeros; simp, fun x hx => by unfold zeros at hx; have := (List.mem_replicate.1 hx).2; omega⟩
  | some rows => exact (h.wf _ (mget_in hmg)).2.2
set_option maxHeartbeats 4000000 in
set_option maxRecDepth 100000 in
theorem dmay_ok {w : World} {g b n sz : Nat} {F : Nat → Prop} {l : Rec} (s : Int) (data : List Int) (Ad : Option Addr) (cd : Nat) (h : RecIs w g b n sz F l) (hs : okI s) (hd : kB.C w Ad data.length data) (hcd : data.length ≤ cd) (hby : isB data) (hcnt : (ofV l sz s).length ≤ 1000) :
    Calls Try.prog 57 #[.pointer (some ⟨g, 0, none⟩), .int .i64 s, .slice Ad data.length cd] w fun e w' => e = .returned (.bool (decide ((0 ≤ s ∧ s < n) ∧ data ∈ ofV l sz s))) ∧ Below w.heap.size w w' := by
  have HB := Lib.hid ((Below.refl w.heap.size w).alloc (Nat.le_refl _) (.cells #[.slice Ad data.length cd] 52))
  have hBX := blk_new w (.cells #[.slice Ad data.length cd] 52)
  have hR1 := h.below ((Below.refl w.heap.size w).alloc (Nat.le_refl _) (.cells #[.slice Ad data.length cd] 52))
  have hmay := may_ok s hR1
  have hof := of_ok s hR1 hs
  have hw := (ofV_isB h s).2
  have HD := Lib.hid (Kd.C_alloc hd (.cells #[.slice Ad data.length cd] 52))
  have HCD := Lib.hid hcd
  have HBY := Lib.hid hby
  have HCN := Lib.hid hcnt
  have HW := Lib.hid hw
  have HBX := Lib.hid hBX
  have HOF := Lib.hid hof
  have HMAY := Lib.hid hmay
  generalize ofV l sz s = R at HOF HCN HW ⊢
  have HSZ : Hid ((w.alloc (.cells #[.slice Ad data.length cd] 52)).heap.size = w.heap.size + 1) := Lib.hid (by simp)
  clear h hR1 hmay hof hs hd hcd hby hcnt hw hBX
  by_cases hin : 0 ≤ s ∧ s < n
  · have hmay := HMAY.out
    unfold mayE at hmay
    rw [if_pos hin] at hmay
    replace HMAY := Lib.hid hmay
    rw [show decide ((0 ≤ s ∧ s < n) ∧ data ∈ R) = decide (data ∈ R) from decide_eq_decide.2 ⟨fun h => h.2, fun h => ⟨hin, h⟩⟩]
    clear hmay hin
    go_enter Try.func57, Try.ntmps57
    go_wp2_with (go_at_call 99; refine (HMAY.out).mono ?_; rintro e w' ⟨rfl, rfl⟩)
    refine (HOF.out).mono ?_
    rintro e w2 ⟨⟨v, rfl, A, c, hh, rfl, hc, hk, hst⟩, hb⟩
    have hln := All2.len hst
    have hbx := blk_cell (blk_below HBX.out hb) 0
    have hmh := mhas_ok A c hh R _ Ad cd data w.heap.size w2 (by rw [hln]; exact hk w2 (Keep.refl _ _)) hst hbx (Kd.C_below HD.out hb) HCD.out (fun r hr => (HW.out r hr).2) HBY.out (by have := HCN.out; omega)
    rw [hln] at hmh
    have HMH := Lib.hid hmh
    have HB2 := Lib.hid (chainC (by omega) HB.out hb)
    clear hb hc hk hst hln hmh hbx
    go_wp2_with fail
    refine (HMH.out).mono ?_
    rintro e w3 ⟨rfl, ⟨q, rfl⟩⟩
    go_wp2_with fail
    go_ret
    exact ⟨rfl, pw_below_drewN HB2.out q⟩
  · have hmay := HMAY.out
    unfold mayE at hmay
    rw [if_neg hin] at hmay
    replace HMAY := Lib.hid hmay
    rw [show decide ((0 ≤ s ∧ s < n) ∧ data ∈ R) = false from decide_eq_false (fun h => hin h.1)]
    clear hmay hin
    go_enter Try.func57, Try.ntmps57
    go_wp2_with (go_at_call 99; refine (HMAY.out).mono ?_; rintro e w' ⟨rfl, rfl⟩)
    go_ret
    exact ⟨rfl, HB.out⟩
set_option maxHeartbeats 2000000 in
set_option maxRecDepth 100000 in
theorem dmay_nil (w : World) (s : Int) (A : Option Addr) (m c : Nat) : Calls Try.prog 57 #[.pointer none, .int .i64 s, .slice A m c] w fun e w' => e = .returned (.bool false) ∧ Below w.heap.size w w' := by
  go_enter Try.func57, Try.ntmps57
  go_wp2_with (go_at_call 99; refine (may_nil _ _).mono ?_; rintro e w' ⟨rfl, rfl⟩)
  go_ret
  exact ⟨rfl, (Below.refl _ _).alloc (Nat.le_refl _) _⟩
set_option maxHeartbeats 2000000 in
set_option maxRecDepth 100000 in
theorem dlast_nil (w : World) (s : Int) : Calls Try.prog 61 #[.pointer none, .int .i64 s] w fun e w' => e = .returned (.tuple #[.slice none 0 0, .int .i64 1]) ∧ w' = w := by
  go_enter Try.func61, Try.ntmps61
  go_wp2_with (go_at_call 99; refine (may_nil _ _).mono ?_; rintro e w' ⟨rfl, rfl⟩)
  go_ret2
  exact ⟨rfl, rfl⟩
set_option maxHeartbeats 4000000 in
set_option maxRecDepth 100000 in
theorem dlast_ok {w : World} {g b n sz : Nat} {F : Nat → Prop} {l : Rec} (s : Int) (h : RecIs w g b n sz F l) (hs : okI s) (hin : 0 ≤ s ∧ s < n) (hcnt : (ofV l sz s).length ≤ 1000) :
    Calls Try.prog 61 #[.pointer (some ⟨g, 0, none⟩), .int .i64 s] w fun e w' => (∃ v, e = .returned (.tuple #[v, .int .i64 0]) ∧ kB.R 5 w' w.heap.size (fun _ => True) v ((ofV l sz s).getLastD [])) ∧ Below w.heap.size w w' := by
  have hmay := may_ok s h
  unfold mayE at hmay
  rw [if_pos hin] at hmay
  have hw := ofV_isB h s
  have hsm := h.small
  have HOF := Lib.hid (of_ok s h hs)
  have HMAY := Lib.hid hmay
  have HW := Lib.hid hw
  have HCN := Lib.hid hcnt
  generalize ofV l sz s = R at HOF HCN HW ⊢
  obtain ⟨T, hT⟩ : ∃ T, T = R.getLastD [] := ⟨_, rfl⟩
  rw [← hT]
  have HT := Lib.hid hT
  clear h hmay hs hin hcnt hw hT
  go_enter Try.func61, Try.ntmps61
  go_wp2_with (go_at_call 99; refine (HMAY.out).mono ?_; rintro e w' ⟨rfl, rfl⟩)
  refine (HOF.out).mono ?_
  rintro e w2 ⟨⟨v, rfl, A, c, hh, rfl, hc, hk, hst⟩, hb⟩
  have hln := All2.len hst
  have hpos : 0 < R.length := List.length_pos_iff.2 HW.out.1
  obtain ⟨m, hm⟩ : ∃ m, R.length = m + 1 := ⟨R.length - 1, by omega⟩
  have hkw := hk w2 (Keep.refl _ _)
  rw [← hln] at hkw
  obtain ⟨b1, o1, rfl, _, hcell⟩ := rowH_of_C hkw (by omega)
  have hml : m < hh.length := by omega
  have hh1 := List.getElem?_eq_getElem hml
  have e0 := hcell m _ hh1
  obtain ⟨xs, hx1, hx2, hx3, hx4⟩ := All2.get hst hh1
  have hlast : T = xs := by
    rw [HT.out, List.getLastD_eq_getLast?, List.getLast?_eq_getElem?, hm, Nat.add_sub_cancel, hx1]; rfl
  subst hlast
  rw [hm] at hc
  generalize hh[m] = hd at e0 hh1 hx2 hx3 hx4
  obtain ⟨A3, n3, c3⟩ := hd
  have hx2' : n3 = T.length := hx2
  subst hx2'
  have hxl := (HW.out.2 T (List.mem_of_getElem? hx1)).1
  have HC := Lib.hid (clone_ok A3 c3 T w2 (hx4 _ (Keep.refl _ _)) hx3 (by omega))
  have HB := Lib.hid hb
  have hi : ((m + 1 : Nat) : Int) - 1 = (m : Int) := by omega
  have hi2 : (m : Int) < ((m + 1 : Nat) : Int) := by omega
  have hm1 : m ≤ 1000 := by have := HCN.out; omega
  clear hb hk hst hln hpos hkw hcell hml hh1 hx1 hx3 hx4 hx2 hxl
  rw [hm]
  clear hm
  go_wp2_with fail
  refine (HC.out).mono ?_
  rintro e w3 ⟨⟨v3, rfl, hv3⟩, hb3⟩
  have HV := Lib.hid (Kd.R_lower hv3 HB.out.size)
  obtain ⟨A4, c4, rfl⟩ := Kd.R_slice hv3
  have HB3 := Lib.hid (chainC (Nat.le_refl _) HB.out hb3)
  clear hv3 hb3
  go_wp2_with fail
  go_ret2
  exact ⟨⟨_, rfl, HV.out⟩, HB3.out⟩
end Go.Proofs.Ytnkgbnipcjgjeaa
