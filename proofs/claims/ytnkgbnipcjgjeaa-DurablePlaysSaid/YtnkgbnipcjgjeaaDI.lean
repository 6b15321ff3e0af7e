import Derived.Test.YtnkgbnipcjgjeaaDH
namespace Go.Proofs.Ytnkgbnipcjgjeaa
open Go.RowKit Go.Shelf Go.Sort Go.Lib Go.Proofs.YtnkgbnipcjgjeaaW.PrintWords Go.Proofs.YtnkgbnipcjgjeaaW.PrintLast Go.Proofs.YtnkgbnipcjgjeaaW.PrintMore
set_option linter.unusedVariables false
theorem last_slice (b o m c : Nat) (h : m + 1 ≤ c) (W : World) : (Instr.slice 102 (Value.slice (some ⟨b, o, none⟩) (m + 1) c) (some (Value.int .i64 (m : Int))) none none).run Try.prog W = .ok (.slice (some ⟨b, o + m, none⟩) 1 (c - m)) W := by
  have hu := Try.underlying102
  have q1 : (0 : Int) ≤ (m : Int) := by omega
  have q2 : (m : Int) ≤ ((m + 1 : Nat) : Int) := by omega
  have q3 : ((m + 1 : Nat) : Int) ≤ (c : Int) := by omega
  have q4 : m ≠ c := by omega
  have q5 : m + 1 - m = 1 := by omega
  have q6 : (m : Int) ≤ (c : Int) := by omega
  go_simp
  rw [if_pos (by omega), if_neg (by omega)]
theorem c_cell1 {α : Type} {enc : α → Value} {h1 : ∀ x, (enc x).oneCell' = true} {W : World} {b o : Nat} {x : α} (h : W.cell? ⟨b, o, none⟩ = some (enc x)) : (Kd.scalar enc h1).C W (some ⟨b, o, none⟩) 1 [x] := by
  refine ⟨rfl, by decide, fun _ => ⟨⟨b, o, none⟩, rfl, fun j p hp => ?_⟩⟩
  match j, hp with
  | 0, hp =>
    obtain rfl := Option.some.inj hp
    refine ⟨[enc x], rfl, rfl, fun i u hu => ?_⟩
    match i, hu with
    | 0, hu =>
      obtain rfl := Option.some.inj hu
      rw [add_plain]
      exact h
    | i + 1, hu => simp at hu
  | j + 1, hp => simp at hp
/-- The last of a sector's values, alone. -/
theorem vst_last {w : World} {F : Nat → Prop} {v : Value} {rows : List (List Int)} (h : VSt w F v rows) (hne : rows ≠ []) : ∃ b o m c, v = .slice (some ⟨b, o, none⟩) (m + 1) c ∧ m + 1 ≤ c ∧ rows.length = m + 1 ∧ VSt w F (.slice (some ⟨b, o + m, none⟩) 1 (c - m)) [rows.getLastD []] := by
  obtain ⟨A, c, hh, rfl, hc, hk, hst⟩ := h
  have hln := All2.len hst
  have hpos : 0 < rows.length := List.length_pos_iff.2 hne
  obtain ⟨m, hm⟩ : ∃ m, rows.length = m + 1 := ⟨rows.length - 1, by omega⟩
  have hkw := hk w (Keep.refl _ _)
  rw [← hln] at hkw
  obtain ⟨b, o, rfl, _, hcell⟩ := rowH_of_C hkw (by omega)
  have hml : m < hh.length := by omega
  have hh1 := List.getElem?_eq_getElem hml
  obtain ⟨xs, hx1, hx2, hx3, hx4⟩ := All2.get hst hh1
  have hlast : rows.getLastD [] = xs := by
    rw [List.getLastD_eq_getLast?, List.getLast?_eq_getElem?, hm, Nat.add_sub_cancel, hx1]; rfl
  rw [hm] at hc ⊢
  refine ⟨b, o, m, c, rfl, hc, rfl, some ⟨b, o + m, none⟩, c - m, [hh[m]], rfl, by show 1 ≤ c - m; omega, fun w' hk' => ?_, ⟨⟨by rw [hlast]; exact hx2, by rw [hlast]; exact hx3, fun w' hk' => by rw [hlast]; exact hx4 w' hk'⟩, trivial⟩⟩
  have hkw' := hk w' hk'
  rw [← hln] at hkw'
  obtain ⟨b2, o2, he, _, hcell2⟩ := rowH_of_C hkw' (by omega)
  injection he with he
  injection he with e1 e2 _
  subst e1 e2
  exact c_cell1 (enc := vH) (h1 := fun _ => rfl) (hcell2 m _ hh1)
def flP (p : Int × List (List Int)) : Int × List (List Int) := (p.1, [p.2.getLastD []])
def flL (l : Rec) : Rec := l.map flP
set_option maxHeartbeats 8000000 in
set_option maxRecDepth 100000 in
theorem dflush_ok {w : World} {g b n sz : Nat} {F : Nat → Prop} {l : Rec} (h : RecIs w g b n sz F l) (hn : 1 ≤ n) (hcnt : ∀ p ∈ l, p.2.length ≤ 1000) :
    Calls Try.prog 60 #[.pointer (some ⟨g, 0, none⟩)] w fun e w' => e = .returned (.int .i64 0) ∧ RecIs w' g b n sz F (flL l) ∧ Mods w w' (fun k => k = b) := by
  have hmay := may_ok 0 h
  unfold mayE at hmay
  rw [if_pos (by omega)] at hmay
  obtain ⟨vs, hm, hst⟩ := h.map
  have c0 := h.cell
  have hsm := h.small
  have HMAY := Lib.hid hmay
  have HM := Lib.hid hm
  have HST := Lib.hid hst
  have HRE := Lib.hid h
  have HCN := Lib.hid hcnt
  have hlb := h.ltb
  have hlg := h.ltg
  have HNE := Lib.hid h.ne
  clear h hmay hm hst hn hcnt
  go_enter Try.func60, Try.ntmps60
  go_wp2_with (first | (go_at_call 99; refine (HMAY.out).mono ?_; rintro e w' ⟨rfl, rfl⟩) | (at_range; refine wp_range rfl (.tmp 14) rfl Try.underlying156 rfl HM.out ?_; intro w0 hrg0 hb0 hs0))
  go_frame
  obtain ⟨r, hr⟩ : ∃ r, r = w'.heap.size := ⟨_, rfl⟩
  rw [← hr] at hrg0 ⊢
  have HR := Lib.hid hr
  have HRG := Lib.hid hrg0
  have HMO := Lib.hid (Mods.of_below hb0 (fun k => k = b))
  clear hrg0 hb0 hs0 hr
  go_loopw [4] (fun _ wr => ∃ (S : Nat → Bool) (vc : List (Int × Value)) (lc : Rec), Hid (∀ i, lc[i]? = (l[i]?).map (fun p => if S i then flP p else p)) ∧ Hid (MSt wr F vc lc) ∧ Hid (RngIs kI okI wr b r vc S) ∧ Hid (Mods w' wr (fun k => k = b))) (fun _ wr => wr.rangeLeft b r)
  case atStart => exact ⟨fun _ => false, vs, l, Lib.hid (fun i => by cases l[i]? <;> rfl), Lib.hid (HST.out.move (fun k hk => HMO.out.block k (HRE.out.foot k hk).1 (HRE.out.foot k hk).2.2) (fun _ h => h)), HRG, HMO⟩
  case round =>
    clear HRG HMO
    obtain ⟨S, vc, lc, HLC, HMS, HRG, HMO⟩ := hrel
    go_wp2_with (at_next; refine wp_next rfl (.tmp 15) rfl rfl HRG.out ?_ ?_)
    · intro hall
      have hlc : lc = flL l := by
        apply List.ext_getElem?
        intro i
        rw [HLC.out i]
        unfold flL
        rw [List.getElem?_map]
        cases hi : l[i]? with
        | none => rfl
        | some p =>
          have hil := (List.getElem?_eq_some_iff.1 hi).1
          have hlen : lc.length = l.length := by
            have h1 : ∀ i, lc[i]? = none ↔ l[i]? = none := fun i => by rw [HLC.out i, Option.map_eq_none_iff]
            have h2 := (h1 l.length).2 (List.getElem?_eq_none (Nat.le_refl _))
            have h3 := (h1 lc.length).1 (List.getElem?_eq_none (Nat.le_refl _))
            rw [List.getElem?_eq_none_iff] at h2 h3
            omega
          rw [Option.map_some, Option.map_some, hall i (by rw [All2.len HMS.out]; omega), if_pos rfl]
      have HFIN : Hid (RecIs wr g b n sz F (flL l)) := Lib.hid ⟨(HMO.out.block g hlg HNE.out).trans HRE.out.blk, ⟨vc, HRG.out.map, by rw [← hlc]; exact HMS.out⟩, fun k hk => ⟨Nat.lt_of_lt_of_le (HRE.out.foot k hk).1 HMO.out.size, (HRE.out.foot k hk).2⟩, fun p hp => by
        unfold flL at hp
        obtain ⟨p0, hp0, rfl⟩ := List.mem_map.1 hp
        have hw := HRE.out.wf p0 hp0
        refine ⟨hw.1, hw.2.1, by simp [flP], fun x hx => ?_⟩
        rw [List.mem_singleton.1 hx]
        refine hw.2.2.2 _ ?_
        rw [List.getLastD_eq_getLast?, List.getLast?_eq_some_getLast hw.2.2.1]
        exact List.getLast_mem _, HRE.out.small⟩
      clear hall hlc
      go_wp2_with fail
      go_ret
      exact ⟨rfl, HFIN.out, HMO.out⟩
    · intro j x v w1 hj hSj hrg1 hlt hg1 hs1 hen
      obtain ⟨⟨qx, rows⟩, hq, hq1, hv⟩ := All2.get HMS.out hj
      obtain rfl : x = qx := hq1
      have hlq : l[j]? = some (x, rows) := by
        have := HLC.out j
        rw [hq] at this
        cases hl : l[j]? with
        | none => rw [hl] at this; cases this
        | some p =>
          rw [hl, Option.map_some, hSj, if_neg (by decide)] at this
          exact this.symm
      have hne := (HRE.out.wf _ (List.mem_of_getElem? hlq)).2.2.1
      have hrB : w'.heap.size ≤ r := by rw [HR.out]; exact Nat.le_refl _
      have hkeep1 : Keep F wr w1 := fun k hk => hg1.block k (Nat.lt_of_lt_of_le (HRE.out.foot k hk).1 HMO.out.size) (fun e => by injection e with e; have := (HRE.out.foot k hk).1; omega)
      have hv' : VSt w1 F v rows := VSt.move hv hkeep1 (fun _ h => h)
      have hms1 := MSt.move HMS.out hkeep1 (fun _ h => h)
      obtain ⟨b1, o1, m, c, rfl, hc, hm, hvl⟩ := vst_last hv' hne
      have hm1 : m ≤ 1000 := by have := HCN.out _ (List.mem_of_getElem? hlq); have : rows.length ≤ 1000 := this; omega
      have hi : ((m + 1 : Nat) : Int) - 1 = (m : Int) := by omega
      have hmm : (m : Int) ≤ (m : Int) + 1 := by omega
      have hcm : ¬ c = m := by omega
      have hmod1 := HMO.out.grown hg1 (fun k e => .inr (by injection e with e; rw [← e]; exact hrB))
      have c1 : w1.cell? ⟨g, 0, none⟩ = some (.map (some b)) := hmod1.cell c0 HNE.out
      have c1d : w1.drew.cell? ⟨g, 0, none⟩ = some (.map (some b)) := c1
      obtain ⟨P, cp, hP⟩ : ∃ P cp, P = some (⟨b1, o1 + m, none⟩ : Addr) ∧ cp = c - m := ⟨_, _, rfl, rfl⟩
      have hsl := fun W => last_slice b1 o1 m c hc W
      rw [← hP.1, ← hP.2] at hsl hvl
      obtain ⟨M1, hM1⟩ : ∃ M1, M1 = m + 1 := ⟨_, rfl⟩
      rw [← hM1] at hsl hi hen hc
      have hMm : (m : Int) ≤ (M1 : Int) := by omega
      have hMc : (M1 : Int) ≤ (c : Int) := by omega
      have hM2 : M1 ≤ 1001 := by omega
      have hwr : IntKind.i64.wrap (m : Int) = (m : Int) := IntWalk.i64_in _ (by omega)
      have hsl1 := hsl w1.drew
      have hrgd : RngIs kI okI w1.drew b r vc (fun i => S i || i == j) := hrg1
      obtain ⟨w2, hrun2, hrg2, hg2, hs2, hleft2⟩ := hrgd.put keI' Try.underlying156 hj (.slice P 1 cp)
      have hrun3 : (Instr.mapUpdate 156 (.map (some b)) (.int .i64 x) (.slice P 1 cp)).run Try.prog w1.drew = .ok () w2 := hrun2
      have c2 : w2.cell? ⟨g, 0, none⟩ = some (.map (some b)) := (cell_block (p := ⟨g, 0, none⟩) (hg2.block g (Nat.lt_of_lt_of_le hlg hmod1.size) (fun e => HNE.out (by injection e)))).trans c1d
      have hkeep2 : Keep F w1 w2 := fun k hk => hg2.block k (Nat.lt_of_lt_of_le (HRE.out.foot k hk).1 hmod1.size) (fun e => by injection e with e; exact (HRE.out.foot k hk).2.2 e)
      have HMS2 : Hid (MSt w2 F (vc.set j (x, .slice P 1 cp)) (lc.set j (flP (x, rows)))) := Lib.hid (All2.set ⟨rfl, VSt.move hvl hkeep2 (fun _ h => h)⟩ (MSt.move hms1 hkeep2 (fun _ h => h)))
      have HLC2 : Hid (∀ i, (lc.set j (flP (x, rows)))[i]? = (l[i]?).map (fun p => if (S i || i == j) then flP p else p)) := Lib.hid (fun i => by
        rw [List.getElem?_set]
        by_cases e : j = i
        · subst e
          rw [if_pos rfl, if_pos (List.getElem?_eq_some_iff.1 hq).1, hlq]
          simp
        · rw [if_neg e, HLC.out i, show (i == j) = false from by rw [beq_eq_false_iff_ne]; exact fun h => e h.symm, Bool.or_false])
      have HRG2 := Lib.hid hrg2
      have HMO2 := Lib.hid (Mods.grown (Mods.drew hmod1) hg2 (fun k e => .inl (by injection e with e; exact e.symm)))
      have HLT : Hid (w2.rangeLeft b r < wr.rangeLeft b r) := Lib.hid (by rw [hleft2]; exact hlt)
      have hsl2 := hsl w2
      rw [← hM1]
      clear hmm hcm hP hM1
      clear hj hSj hrg1 hlt hg1 hs1 hq hv hlq hne hkeep1 hv' hms1 hm hvl hmod1 hrgd hrg2 hg2 hs2 hleft2 hkeep2 hrB
      go_wp2_with fail
      go_region_held3 (fun w' => w'.cell? ⟨g, 0, none⟩ = some (.map (some b))) (go_keep) (fail)
      all_goals
        go_wp2_with fail
        go_roundw
        case rel => exact ⟨_, _, _, HLC2, HMS2, HRG2, HMO2⟩
        case measure => exact HLT.out
end Go.Proofs.Ytnkgbnipcjgjeaa
