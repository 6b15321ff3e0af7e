import Derived.Test.YtnkgbnipcjgjeaaDB
namespace Go.Proofs.Ytnkgbnipcjgjeaa
open Go.RowKit Go.Shelf Go.Sort Go.Lib Go.Proofs.YtnkgbnipcjgjeaaW.PrintWords Go.Proofs.YtnkgbnipcjgjeaaW.PrintLast Go.Proofs.YtnkgbnipcjgjeaaW.PrintMore
set_option linter.unusedVariables false
theorem mem_mput {l : Rec} {s : Int} {rows : List (List Int)} : ∀ p ∈ mput l s rows, p = (s, rows) ∨ p ∈ l := by
  induction l with
  | nil => intro p hp; exact .inl (by simpa [mput] using hp)
  | cons q r ih =>
    intro p hp
    unfold mput at hp
    split at hp
    · rename_i e
      rcases List.mem_cons.1 hp with h | h
      · exact .inl (by rw [h, ← e])
      · exact .inr (List.mem_cons_of_mem _ h)
    · rcases List.mem_cons.1 hp with h | h
      · exact .inr (h ▸ List.mem_cons_self)
      · rcases ih p h with h | h
        · exact .inl h
        · exact .inr (List.mem_cons_of_mem _ h)
theorem blk_alloc_cell {w : World} {p : Addr} {v : Value} (h : w.cell? p = some v) (o : Obj) : (w.alloc o).cell? p = some v := ((Below.refl w.heap.size w).alloc (Nat.le_refl _) o).cell (p := p) (World.block_lt_of_cell? w p h) |>.trans h
theorem cell_block {w w' : World} {p : Addr} (h : w'.heap[p.block]? = w.heap[p.block]?) : w'.cell? p = w.cell? p := by
  unfold World.cell?
  rw [h]
theorem mget_in {β : Type} {l : List (Int × β)} {x : Int} {v : β} (h : mget l x = some v) : (x, v) ∈ l := by
  induction l with
  | nil => cases h
  | cons p r ih =>
    unfold mget at h
    split at h
    · rename_i e
      injection h with h
      exact List.mem_cons.2 (.inl (Prod.ext e.symm h.symm))
    · exact List.mem_cons_of_mem _ (ih h)
/-- A store of a sector's values. -/
theorem rec_put {w w5 w6 : World} {g b n sz : Nat} {F : Nat → Prop} {l : Rec} {vs : List (Int × Value)} {s : Int} {v : Value} {rows : List (List Int)} (h : RecIs w g b n sz F l) (hvs : MSt w F vs l) (hb : Below w.heap.size w w5) (hv : VSt w5 (Fp F w w5) v rows)
    (hm6 : MapIs kI okI w6 b (mput vs s v)) (hg6 : w5.grownBy w6 (some b)) (hs6 : w6.heap.size = w5.heap.size) (hs : 0 ≤ s ∧ s < n) (hwf : rows ≠ [] ∧ ∀ r ∈ rows, r.length = sz ∧ ∀ x ∈ r, 0 ≤ x ∧ x < 256) :
    RecIs w6 g b n sz (Fp F w w6) (mput l s rows) ∧ Mods w w6 (fun k => k = b) := by
  have hbs := hb.size
  have hne := h.ne
  have hlb := h.ltb
  have hF : ∀ k, Fp F w w5 k → Fp F w w6 k := fun k hk => hk.imp id (fun h => ⟨h.1, by omega⟩)
  have hk6 : Keep (Fp F w w5) w5 w6 := fun k hk => hg6.block k (by rcases hk with hk | hk; exact Nat.lt_of_lt_of_le (h.foot k hk).1 hbs; exact hk.2) (fun e => by
    injection e with e
    rcases hk with hk | hk
    · exact (h.foot k hk).2.2 e
    · omega)
  have hk5 : Keep F w w5 := fun k hk => hb.block k (h.foot k hk).1
  refine ⟨⟨?_, ⟨_, hm6, ?_⟩, ?_, ?_, h.small⟩, ?_⟩
  · exact (hg6.block g (Nat.lt_of_lt_of_le h.ltg hbs) (fun e => hne (by injection e))).trans ((hb.block g h.ltg).trans h.blk)
  · exact MSt.put ((hvs.move hk5 (fun k hk => .inl hk)).move hk6 hF) s (hv.move hk6 hF)
  · intro k hk
    rcases hk with hk | hk
    · have := h.foot k hk
      exact ⟨by omega, this.2⟩
    · have := h.ltg
      exact ⟨hk.2, by omega, by omega⟩
  · intro p hp
    rcases mem_mput p hp with rfl | hp
    · exact ⟨hs.1, hs.2, hwf.1, hwf.2⟩
    · exact h.wf p hp
  · exact (Mods.of_below hb (fun k => k = b)).grown hg6 (fun k e => .inl (by injection e with e; exact e.symm))
/-- One row more. -/
theorem vst_snoc {w w1 w2 w3 w5 : World} {F : Nat → Prop} {hh : List Hdr} {R : List (List Int)} {data : List Int} {A3 : Option Addr} {c3 : Nat} {v2 v5 : Value} (hFs : ∀ k, F k → k < w.heap.size) (h01 : w.heap.size ≤ w1.heap.size) (hst : HSt w1 (Fp F w w1) hh R) (hb5 : Below w1.heap.size w1 w5) (hr5 : kH.R 52 w5 w1.heap.size (fun _ => True) v5 (hh ++ [(A3, data.length, c3)]))
    (hc3 : data.length ≤ c3) (hk3 : ∀ w', Keep (Fp F w2 w3) w3 w' → kB.C w' A3 data.length data) (h12 : w1.heap.size ≤ w2.heap.size) (h23 : w2.heap.size ≤ w3.heap.size) (hg5 : w3.grownBy w5 v2.ownBlock) (hv2 : ∀ k, v2.ownBlock = some k → w1.heap.size ≤ k ∧ k < w2.heap.size) :
    VSt w5 (Fp F w w5) v5 (R ++ [data]) := by
  obtain ⟨A5, c5, rfl, hc5, hk5⟩ := rH_keep (F := F) hr5
  have hln := All2.len hst
  have e1 : (hh ++ [(A3, data.length, c3)]).length = (R ++ [data]).length := by rw [List.length_append, List.length_append, hln]; rfl
  rw [e1] at hc5 hk5 ⊢
  have h35 := hg5.size
  refine ⟨A5, c5, hh ++ [(A3, data.length, c3)], rfl, hc5, fun w' hk => hk5 w' (fun k hF => hk k (hF.imp id (fun h => ⟨by omega, h.2⟩))), All2.snoc ⟨rfl, hc3, fun w' hk => hk3 w' (fun k hF => ?_)⟩ (HSt.move hst (fun k hF => hb5.block k ?_) (fun k hF => hF.imp id (fun h => ⟨h.1, by have := hb5.size; omega⟩)))⟩
  · rcases hF with hF | hF
    · have := hFs k hF; omega
    · exact hF.2
  · refine (hk k ?_).trans (hg5.block k ?_ (fun e => ?_))
    · rcases hF with hF | hF
      · exact .inl hF
      · exact .inr ⟨by omega, by omega⟩
    · rcases hF with hF | hF
      · have := hFs k hF; omega
      · exact hF.2
    · have := hv2 k e.symm
      rcases hF with hF | hF
      · have := hFs k hF; omega
      · omega
set_option maxHeartbeats 8000000 in
set_option maxRecDepth 100000 in
theorem dwrite_ok {w : World} {g b n sz : Nat} {F : Nat → Prop} {l : Rec} (s : Int) (data : List Int) (Ad : Option Addr) (cd : Nat) (h : RecIs w g b n sz F l) (hs : okI s) (hd : kB.C w Ad data.length data) (hcd : data.length ≤ cd) (hby : ∀ x ∈ data, 0 ≤ x ∧ x < 256) (hin : 0 ≤ s ∧ s < n) (hlen : data.length = sz) (hcnt : (ofV l sz s).length ≤ 1000) :
    Calls Try.prog 55 #[.pointer (some ⟨g, 0, none⟩), .int .i64 s, .slice Ad data.length cd] w fun e w' => e = .returned (.int .i64 0) ∧ RecIs w' g b n sz (Fp F w w') (mput l s (ofV l sz s ++ [data])) ∧ Mods w w' (fun k => k = b) := by
  have c0 := h.cell
  have c2 : w.cell? ⟨g, 2, none⟩ = some (.int .i64 sz) := blk_cell h.blk 2
  obtain ⟨vs, hm, hst⟩ := h.map
  have hE : mayE n s = 0 := by unfold mayE; rw [if_pos hin]
  have hmay := may_ok s h
  rw [hE] at hmay
  have hof := of_ok s (h.drewN 1) hs
  have hsm := h.small
  have hwf : ofV l sz s ++ [data] ≠ [] ∧ ∀ r ∈ ofV l sz s ++ [data], r.length = sz ∧ ∀ x ∈ r, 0 ≤ x ∧ x < 256 := by
    refine ⟨by simp, fun r hr => ?_⟩
    rcases List.mem_append.1 hr with hr | hr
    · unfold ofV at hr
      cases hmg : mget l s with
      | none =>
        rw [hmg] at hr
        obtain rfl : r = zeros sz := by simpa using hr
        exact ⟨by unfold zeros; simp, fun x hx => by unfold zeros at hx; have := (List.mem_replicate.1 hx).2; omega⟩
      | some rows =>
        rw [hmg] at hr
        exact (h.wf _ (mget_in hmg)).2.2.2 r hr
    · obtain rfl : r = data := by simpa using hr
      exact ⟨hlen, hby⟩
  generalize ofV l sz s = R at hof hcnt hwf ⊢
  have hdl : ((data.length : Int) != (sz : Int)) = false := by rw [hlen]; simp
  have hlen2 : data.length ≤ 100000 := by omega
  have hlg := h.ltg
  have HM := Lib.hid hm
  have HST := Lib.hid hst
  have HMAY := Lib.hid hmay
  have HOF := Lib.hid hof
  have HR := Lib.hid h
  have HD := Lib.hid hd
  have HCD := Lib.hid hcd
  have HL2 := Lib.hid hlen2
  have HWF := Lib.hid hwf
  have HIN := Lib.hid hin
  have HS := Lib.hid hs
  have HCN := Lib.hid hcnt
  have HLB := Lib.hid h.ltb
  have HNE := Lib.hid h.ne
  have HFT : Hid (∀ k, F k → k < w.heap.size) := Lib.hid (fun k hk => (h.foot k hk).1)
  clear h hs hd hcd hlen hlen2 hwf hin hm hst hmay hof hcnt hE
  go_enter Try.func55, Try.ntmps55
  go_wp2_with (go_at_call 99; refine (HMAY.out).mono ?_; rintro e w' ⟨rfl, rfl⟩)
  have c0d : w'.drew.cell? ⟨g, 0, none⟩ = some (.map (some b)) := c0
  have hlg1 : g < w'.drew.heap.size := hlg
  go_region_held3 (fun w' => w'.cell? ⟨g, 0, none⟩ = some (.map (some b))) (go_keep) (first | (go_at_call 101; refine (HOF.out).mono ?_; rintro e w1 ⟨⟨v, rfl, hv⟩, hb⟩; obtain ⟨A, c, hh, rfl, hc, hk, hst⟩ := hv; rw [← All2.len hst] at hc hk ⊢; have f1 : w1.cell? ⟨g, 0, none⟩ = some (.map (some b)) := (hb.cell (p := ⟨g, 0, none⟩) hlg1).trans c0d; have HCL := Lib.hid (clone2_ok A c hh w1 (hk w1 (Keep.refl _ _)) hc (by have := HCN.out; have := All2.len hst; omega)); have HST1 := Lib.hid hst; have HB1 := Lib.hid hb; have hl1 := hb.size; clear hb hc hk hst) | (go_at_call 100; (refine (HCL.out).mono ?_; rintro e w2 ⟨⟨v2, rfl, hv2⟩, hb2⟩; have HV2 := Lib.hid hv2; obtain ⟨A2, c2, rfl⟩ := Kd.R_slice hv2; have f2 : w2.cell? ⟨g, 0, none⟩ = some (.map (some b)) := (hb2.cell (p := ⟨g, 0, none⟩) (Nat.lt_of_lt_of_le hlg1 hl1)).trans f1; have hl2 := hb2.size; have HB2 := Lib.hid hb2; have HCD2 := Lib.hid (clone_ok Ad cd data w2 (Kd.C_below (Kd.C_below (Kd.C_drewN HD.out 1) HB1.out) hb2) HCD.out HL2.out); clear hv2 hb2)) | (go_at_call 95; (refine (HCD2.out).mono ?_; rintro e w3 ⟨⟨v3, rfl, hv3⟩, hb3⟩; obtain ⟨A3, c3, rfl, hc3, hk3⟩ := r_keep (F := F) hv3; have f3 : w3.cell? ⟨g, 0, none⟩ = some (.map (some b)) := (hb3.cell (p := ⟨g, 0, none⟩) (Nat.lt_of_lt_of_le hlg1 (Nat.le_trans hl1 hl2))).trans f2; have f3a : (w3.alloc (.cells #[.slice A3 data.length c3] 52)).cell? ⟨g, 0, none⟩ = some (.map (some b)) := blk_alloc_cell f3 _; have hl3 := hb3.size; have HB3 := Lib.hid hb3; have HB13 := Lib.hid (chainC (Nat.le_refl _) HB2.out hb3); have HC3 := Lib.hid hc3; have HK3 := Lib.hid hk3; have HO3 := Lib.hid (Kd.R_below HV2.out hb3); clear hv3 hb3 hc3 hk3)) | ((refine Kd.R_append_step kH (w0 := w1) w1.heap.size (by rfl) (.tmp 29) (.tmp 32) 102 52 _ 24 rfl Try.underlying102 info52 rfl (by decide) (by decide) _ hh (A3, data.length, c3) [.slice A3 data.length c3] _ (fun _ => False) rfl rfl rfl (fun _ h => h.elim) (fun _ _ => trivial) HO3.out HB13.out (Nat.le_trans hl2 hl3) (by have := HCN.out; have := All2.len HST1.out; omega) ?_; intro v5 w5 hr5 hb5 hg5 hat5; have f5 : w5.cell? ⟨g, 0, none⟩ = some (.map (some b)) := (hb5.cell (p := ⟨g, 0, none⟩) (Nat.lt_of_lt_of_le hlg1 hl1)).trans f1; have HV5 := Lib.hid (vst_snoc (w := w'.drew) (F := F) HFT.out hl1 HST1.out hb5 hr5 HC3.out HK3.out hl2 hl3 hg5 (fun k hk => ⟨((Kd.R_bound HV2.out).1 k hk).2.1, ((Kd.R_bound HV2.out).1 k hk).2.2.1⟩)); have HB5 := Lib.hid (chainC (Nat.le_refl _) HB1.out hb5); have HM5 := Lib.hid (HM.out.at_ (w' := w5) (HB5.out.block b HLB.out)); obtain ⟨A5, c5, rfl⟩ := Kd.R_slice hr5; rw [List.length_append] at HV5 ⊢; obtain ⟨w6, hrun6, hm6, hg6, hs6⟩ := HM5.out.put keI' Try.underlying156 HS.out (.slice A5 (hh.length + 1) c5); have hrun7 : (Instr.mapUpdate 156 (.map (some b)) (.int .i64 s) (.slice A5 (hh.length + 1) c5)).run Try.prog w5 = .ok () w6 := hrun6; have f6 : w6.cell? ⟨g, 0, none⟩ = some (.map (some b)) := (cell_block (p := ⟨g, 0, none⟩) (hg6.block g (Nat.lt_of_lt_of_le hlg1 HB5.out.size) (fun e => HNE.out (by injection e)))).trans f5; have HFIN := Lib.hid (rec_put (w := w'.drew) (HR.out.drewN 1) HST.out HB5.out HV5.out hm6 hg6 hs6 HIN.out HWF.out); clear hm6 hg6 hs6 hrun6 hr5 hb5 hg5 hat5)))
  all_goals
    go_wp2_with fail
    go_ret
    exact ⟨rfl, HFIN.out.1, ⟨HFIN.out.2.os, HFIN.out.2.tape, HFIN.out.2.output, HFIN.out.2.size, HFIN.out.2.block⟩⟩
end Go.Proofs.Ytnkgbnipcjgjeaa
