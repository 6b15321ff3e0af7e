import Derived.Test.YtnkgbnipcjgjeaaFC
namespace Go.Proofs.Ytnkgbnipcjgjeaa
open Go.RowKit Go.Shelf Go.Sort Go.Lib Go.Proofs.YtnkgbnipcjgjeaaW.PrintWords Go.Proofs.YtnkgbnipcjgjeaaW.PrintLast Go.Proofs.YtnkgbnipcjgjeaaW.PrintMore
set_option linter.unusedVariables false
set_option maxHeartbeats 1000000 in
set_option maxRecDepth 100000 in
theorem list_ok {l : List (Int × Int)} {g b : Nat} (w : World) (hp : PoolIs w g b l) (hlen : l.length ≤ 1000) :
    Calls Try.prog 19 #[.pointer (some ⟨g, 0, none⟩)] w fun e w' => (∃ v, e = .returned v ∧ (Kd.int .i64).R 3 w' w.heap.size (fun _ => True) v (listP l)) ∧ Below w.heap.size w w' := by
  have HB := (Below.refl w.heap.size w).alloc (Nat.le_refl _) (.cells #[.pointer (some ⟨g, 0, none⟩)] 24)
  have hS := blk_new w (.cells #[.pointer (some ⟨g, 0, none⟩)] 24)
  have hp1 : PoolIs (w.alloc (.cells #[.pointer (some ⟨g, 0, none⟩)] 24)) g b l := hp.below (HB.mono (Nat.le_refl _))
  have hk := fun W => callsIn_wide.1 (AnyZI.keys_in (P := Try.prog) (ρ := lay83_ren) lay83 Fence.wide 1 trivial rfl (some b) W)
  have hk' : ∀ W, Calls Try.prog 83 #[.map (some b)] W fun e w' => e = .returned (.func (.func 122) #[] #[.pointer (some ⟨W.heap.size, 0, none⟩)]) ∧ w' = W.alloc (.cells #[.map (some b)] 46) := hk
  obtain ⟨T, hT⟩ : ∃ T, T = listP l := ⟨_, rfl⟩
  rw [← hT]
  have hsort : ∀ W, Below (w.heap.size + 1) (w.alloc (.cells #[.pointer (some ⟨g, 0, none⟩)] 24)) W → Calls Try.prog 82 #[.func (.func 122) #[] #[.pointer (some ⟨W.heap.size, 0, none⟩)], .func (.func 84) #[] #[.pointer (some ⟨w.heap.size, 0, none⟩)]] (W.alloc (.cells #[.map (some b)] 46)) fun e w' => (∃ v, e = .returned v ∧ (Kd.int .i64).R 3 w' w.heap.size (fun _ => True) v T) ∧ Below w.heap.size w w' := fun W hW => by
    have hW2 := hW.alloc (by have := hW.size; simpa using this) (.cells #[.map (some b)] 46)
    have hbx : W.heap.size + 1 = (W.alloc (.cells #[.map (some b)] 46)).heap.size := by simp
    have h := sortedFunc_ok (l := l) (bx := w.heap.size) (bm := W.heap.size) (g := g) (b := b) (W.alloc (.cells #[.map (some b)] 46)) (by
      rw [hW2.cell (p := ⟨w.heap.size, 0, none⟩) (by show w.heap.size < w.heap.size + 1; omega)]
      exact blk_cell hS 0) (blk_cell (blk_new W _) 0) (hp1.below (by
        have e : (w.alloc (.cells #[.pointer (some ⟨g, 0, none⟩)] 24)).heap.size = w.heap.size + 1 := by simp
        rw [e]; exact hW2)) hlen
    rw [← hT] at h
    refine h.mono ?_
    rintro e w' ⟨⟨v, rfl, hr⟩, hb⟩
    have hsz := hW2.size
    simp only [World.size_alloc] at hsz
    exact ⟨⟨v, rfl, Kd.R_lower hr (by simp; omega)⟩, (HB.trans (hW2.mono (Nat.le_succ _))).trans (hb.mono (by simp; omega))⟩
  have hs1 := hsort _ (Below.refl (w.heap.size + 1) (w.alloc (.cells #[.pointer (some ⟨g, 0, none⟩)] 24)))
  rw [World.size_alloc] at hs1
  have HSORT := Lib.hid hs1
  clear hs1
  have hk1 := hk' (w.alloc (.cells #[.pointer (some ⟨g, 0, none⟩)] 24))
  rw [World.size_alloc] at hk1
  have HK := Lib.hid hk1
  clear hk1
  have hi := fun W h => is_ok g b W h
  have hg := hp1.cell
  clear hk hk' hsort hp hp1 HB hS hT hlen
  have HI := Lib.hid (hi _ hg)
  clear hi
  go_enter Try.func19, Try.ntmps19
  go_wp2_with (first | (go_at_call 81; refine (HI.out).mono ?_; rintro e w' ⟨rfl, rfl⟩) | (go_at_call 83; refine (HK.out).mono ?_; rintro e w' ⟨rfl, rfl⟩) | (go_at_call 82; refine (HSORT.out).mono ?_; rintro e w2 ⟨⟨v, rfl, hr⟩, hb⟩; have HF := Lib.hid hr; have HFB := Lib.hid hb; clear hr hb))
  go_ret
  exact ⟨⟨v, rfl, HF.out⟩, HFB.out⟩
set_option maxHeartbeats 2000000 in
theorem list_nil (w : World) : Calls Try.prog 19 #[.pointer none] w fun e w' => e = .returned (.slice none 0 0) ∧ Below w.heap.size w w' := by
  go_enter Try.func19, Try.ntmps19
  go_wp2_with (go_at_call 81; refine (is_nil _).mono ?_; rintro e w' ⟨rfl, rfl⟩)
  go_ret
  exact ⟨rfl, (Below.refl _ _).alloc (Nat.le_refl _) _⟩
set_option maxHeartbeats 1000000 in
set_option maxRecDepth 100000 in
theorem next_none {g b : Nat} (w : World) (hp : PoolIs w g b []) :
    Calls Try.prog 24 #[.pointer (some ⟨g, 0, none⟩)] w fun e w' => e = .returned (.tuple #[.int .i64 0, .int .i64 0, .bool false]) ∧ Below w.heap.size w w' := by
  have h := list_ok w hp (by simp)
  rw [listP_nil] at h
  have H := Lib.hid h
  clear h hp
  go_enter Try.func24, Try.ntmps24
  go_wp2_with fail
  refine (H.out).mono ?_
  rintro e w1 ⟨⟨v, rfl, hr⟩, hb⟩
  obtain ⟨A, c, rfl, _, _⟩ := Kd.R_reads hr
  clear hr
  go_wp2_with fail
  go_ret3
  exact ⟨rfl, hb⟩
set_option maxHeartbeats 2000000 in
theorem next_nil (w : World) :
    Calls Try.prog 24 #[.pointer none] w fun e w' => e = .returned (.tuple #[.int .i64 0, .int .i64 0, .bool false]) ∧ Below w.heap.size w w' := by
  go_enter Try.func24, Try.ntmps24
  go_wp2_with (go_at_call 19; refine (list_nil _).mono ?_; rintro e w' ⟨rfl, hb⟩)
  go_ret3
  exact ⟨rfl, hb⟩
set_option maxHeartbeats 1000000 in
set_option maxRecDepth 100000 in
theorem next_ok {l r : List (Int × Int)} {p : Int × Int} {g b : Nat} (w : World) (hp : PoolIs w g b l) (hlen : l.length ≤ 1000) (hs : sortP l = p :: r) :
    Calls Try.prog 24 #[.pointer (some ⟨g, 0, none⟩)] w fun e w' => e = .returned (.tuple #[.int .i64 p.1, .int .i64 p.2, .bool true]) ∧ Below w.heap.size w w' := by
  have h := list_ok w hp hlen
  unfold listP at h
  rw [hs, List.map_cons] at h
  have hpm : p ∈ l := (sortP_perm l).mem_iff.1 (by rw [hs]; exact List.mem_cons_self)
  have hpo := hp.2.2 p hpm
  have hmg := mget_mem hp.nodup hpm
  have hlk : ∀ W' : World, PoolIs W' g b l → (Instr.lookup 46 (.map (some b)) (.int .i64 p.1) false).run Try.prog W' = .ok (.int .i64 p.2) W' := fun W' h => by
    have := h.2.1.look keI Try.underlying46 (zero3 W') (okI_of hpo.1 (by omega)) false
    rw [mgetII, hmg] at this
    exact this
  have H := Lib.hid h
  have HP := Lib.hid hp
  have HLK := Lib.hid hlk
  obtain ⟨a, x⟩ := p
  generalize hq : r.map (fun x => x.1) = rr at H
  have hll : (a :: rr).length = rr.length + 1 := rfl
  clear h hp hlen hs hpm hpo hmg hlk hq
  go_enter Try.func24, Try.ntmps24
  go_wp2_with fail
  refine (H.out).mono ?_
  rintro e w1 ⟨⟨v, rfl, hr⟩, hb⟩
  obtain ⟨A, c, rfl, hcap, hC⟩ := Kd.R_reads hr
  obtain ⟨gb, off, rfl, hgb, hcell⟩ := row_of_C hC (by simp)
  have h0 : w1.cell? ⟨gb, off + 0, none⟩ = some (.int .i64 a) := hcell 0 (by simp)
  rw [Nat.add_zero] at h0
  have hp1 := HP.out.below hb
  have hl1 := HLK.out w1.drew hp1
  have hg1 : w1.cell? ⟨g, 0, none⟩ = some (.map (some b)) := hp1.cell
  have HBF := Lib.hid hb
  rw [hll] at hcap ⊢
  generalize rr.length = n at hcap ⊢
  have h1 : (0 : Int) < ((n + 1 : Nat) : Int) := by omega
  have h2 : 0 < n + 1 := by omega
  clear hr hC hcell hp1 hb hgb hcap hll
  go_wp2_with fail
  go_region_held3 (fun w' => w'.cell? ⟨g, 0, none⟩ = some (.map (some b)) ∧ w'.cell? ⟨gb, off, none⟩ = some (.int .i64 a) ∧ (Instr.lookup 46 (.map (some b)) (.int .i64 a) false).run Try.prog w' = .ok (.int .i64 x) w') (go_keep) (fail)
  all_goals
    go_wp2_with fail
    go_ret3
    exact ⟨rfl, HBF.out.drew⟩
theorem mdel_head {l r : List (Int × Int)} {p : Int × Int} (hn : (l.map (·.1)).Nodup) (hs : sortP l = p :: r) : (mdel l p.1).Perm r := by
  have hpm : p ∈ l := (sortP_perm l).mem_iff.1 (by rw [hs]; exact List.mem_cons_self)
  obtain ⟨j, hj⟩ := List.getElem?_of_mem hpm
  rw [(m_some (k := p.1) (b := p.2) hn hj).2.2]
  have hjl := (List.getElem?_eq_some_iff.1 hj).1
  have h1 := erase_perm l hjl
  have h2 : l[j] = p := by rw [List.getElem?_eq_getElem hjl] at hj; exact Option.some.inj hj
  rw [h2] at h1
  have h3 := (sortP_perm l).symm
  rw [hs] at h3
  exact List.Perm.cons_inv (h1.trans h3)
set_option maxHeartbeats 1000000 in
set_option maxRecDepth 100000 in
theorem take_ok {l r : List (Int × Int)} {p : Int × Int} {g b : Nat} (w : World) (hp : PoolIs w g b l) (hlen : l.length ≤ 1000) (hs : sortP l = p :: r) :
    Calls Try.prog 25 #[.pointer (some ⟨g, 0, none⟩)] w fun e w' => e = .returned (.tuple #[.int .i64 p.1, .int .i64 p.2, .bool true]) ∧ PoolIs w' g b (mdel l p.1) ∧ Mods w w' (fun k => k = b) := by
  have h := next_ok w hp hlen hs
  have hpm : p ∈ l := (sortP_perm l).mem_iff.1 (by rw [hs]; exact List.mem_cons_self)
  have hpo := hp.2.2 p hpm
  have H := Lib.hid h
  have HP := Lib.hid hp
  obtain ⟨a, x⟩ := p
  have HX := Lib.hid (okI_of hpo.1 (by omega) : okI a)
  clear h hp hlen hs hpm hpo
  go_enter Try.func25, Try.ntmps25
  go_wp2_with fail
  refine (H.out).mono ?_
  rintro e w1 ⟨rfl, hb⟩
  have hp1 := HP.out.below hb
  have hg1 := hp1.cell
  have HM := Lib.hid hp1.2.1
  have HP1 := Lib.hid hp1
  have HB1 := Lib.hid hb
  clear hp1 hb
  go_wp2_with (at_delete; refine wp_del rfl (.tmp 15) (.tmp 16) 46 rfl keI Try.underlying46 rfl HM.out a HX.out rfl ?_; intro w2 hm2 hg2 hs2; have HM2 := Lib.hid hm2; have HG2 := Lib.hid hg2; clear hm2 hg2 hs2)
  go_ret3
  have h1 := HM2.out
  rw [mdelII] at h1
  have hpp := HP1.out
  exact ⟨rfl, ⟨(HG2.out.block g hpp.ltg (fun e => hpp.ne (by injection e))).trans hpp.1, h1, fun q hq => hpp.2.2 q (mdel_sub q hq)⟩, (Mods.of_below HB1.out _).grown HG2.out (fun k e => .inl (by injection e with e; exact e.symm))⟩
set_option maxHeartbeats 1000000 in
set_option maxRecDepth 100000 in
theorem take_none {g b : Nat} (w : World) (hp : PoolIs w g b []) :
    Calls Try.prog 25 #[.pointer (some ⟨g, 0, none⟩)] w fun e w' => e = .returned (.tuple #[.int .i64 0, .int .i64 0, .bool false]) ∧ Below w.heap.size w w' := by
  have H := Lib.hid (next_none w hp)
  clear hp
  go_enter Try.func25, Try.ntmps25
  go_wp2_with (go_at_call 24; refine (H.out).mono ?_; rintro e w' ⟨rfl, hb⟩)
  go_ret3
  exact ⟨rfl, hb⟩
set_option maxHeartbeats 2000000 in
theorem take_nil (w : World) :
    Calls Try.prog 25 #[.pointer none] w fun e w' => e = .returned (.tuple #[.int .i64 0, .int .i64 0, .bool false]) ∧ Below w.heap.size w w' := by
  go_enter Try.func25, Try.ntmps25
  go_wp2_with (go_at_call 24; refine (next_nil _).mono ?_; rintro e w' ⟨rfl, hb⟩)
  go_ret3
  exact ⟨rfl, hb⟩
end Go.Proofs.Ytnkgbnipcjgjeaa
