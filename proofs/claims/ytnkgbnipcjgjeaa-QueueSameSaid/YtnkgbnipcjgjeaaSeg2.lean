import Derived.Test.YtnkgbnipcjgjeaaSeg1
namespace Go.Proofs.Ytnkgbnipcjgjeaa.Qu
open Go.RowKit Go.Shelf Go.Sort Go.Lib Go.Proofs.Ytnkgbnipcjgjeaa.QW Go.Proofs.YtnkgbnipcjgjeaaW.PrintWords Go.Proofs.YtnkgbnipcjgjeaaW.PrintLast Go.Proofs.YtnkgbnipcjgjeaaW.PrintMore
set_option linter.unusedVariables false
theorem sub36 {w : World} {b off c0 k en : Nat} {l0 : List S116} (h : Kd.C k116 w (some ⟨b, off, none⟩) l0.length l0) (h1 : en ≤ l0.length) (h2 : k + 1 ≤ en) (h3 : en ≤ c0) (hne : c0 ≠ k + 1) :
    ((l0.take en).drop (k + 1)).length = en - (k + 1) ∧ Kd.C k116 w (some ⟨b, off + (k + 1) * 3, none⟩) ((l0.take en).drop (k + 1)).length ((l0.take en).drop (k + 1)) := by
  have hl : (l0.take en).length = en := by rw [List.length_take]; omega
  have hd := Kd.C_drop (m := k + 1) (c := c0) (Kd.C_take h h1) (by rw [hl]; exact h2) (by rw [hl]; exact h3)
  rw [if_neg hne] at hd
  refine ⟨by rw [List.length_drop, hl], ?_⟩
  have e : (some (⟨b, off, none⟩ : Addr)).map (·.add ((k + 1) * k116.sz)) = some ⟨b, off + (k + 1) * 3, none⟩ := by
    show some ((⟨b, off, none⟩ : Addr).add ((k + 1) * 3)) = _
    rw [add_plain]
  rw [e] at hd
  exact hd
theorem seg_slice {w : World} {b off n c0 k en : Nat} {l0 : List S116} (h : Kd.C k116 w (some ⟨b, off, none⟩) l0.length l0) (h1 : en ≤ l0.length) (h2 : k + 1 ≤ en) (h3 : en ≤ c0) :
    ∃ (P : Option Addr) (ln cp : Nat), (∀ W, (Instr.slice 108 (Value.slice (some ⟨b, off, none⟩) n c0) (some (Value.int .i64 ((k : Int) + 1))) (some (Value.int .i64 (en : Int))) none).run Try.prog W = .ok (.slice P ln cp) W) ∧ ((l0.take en).drop (k + 1)).length = ln ∧ Kd.C k116 w P ((l0.take en).drop (k + 1)).length ((l0.take en).drop (k + 1)) := by
  by_cases hc : c0 = k + 1
  · have hE : en = k + 1 := by omega
    refine ⟨some ⟨b, off, none⟩, 0, 0, fun W => ?_, ?_, ?_⟩
    · subst hE
      subst hc
      go_simp
      rw [if_pos (by omega), if_pos (by omega)]
    · rw [List.length_drop, List.length_take]; omega
    · have e : (l0.take en).drop (k + 1) = [] := List.drop_eq_nil_of_le (by rw [List.length_take]; omega)
      rw [e]
      exact ⟨rfl, by decide, fun hp => absurd hp (by decide)⟩
  · have hs := sub36 (k := k) h h1 h2 h3 hc
    refine ⟨some ⟨b, off + (k + 1) * 3, none⟩, en - (k + 1), c0 - (k + 1), fun W => ?_, hs.1, hs.2⟩
    have q1 : (0 : Int) ≤ (k : Int) + 1 := by omega
    have q2 : (k : Int) + 1 ≤ (en : Int) := by omega
    have q3 : (en : Int) ≤ (c0 : Int) := by omega
    have q4 : ((k : Int) + 1).toNat = k + 1 := by omega
    go_simp
def finL (m : Nat) (ks : List Nat) : List (Fin (m + 1)) := ks.map fun i => Fin.ofNat (m + 1) i
theorem finL_val (m : Nat) (ks : List Nat) (h : ∀ j ∈ ks, j < m + 1) : (finL m ks).map (fun i => i.val) = ks := by
  unfold finL
  rw [List.map_map]
  conv => rhs; rw [← List.map_id ks]
  exact List.map_congr_left fun j hj => by
    show (Fin.ofNat (m + 1) j).val = j
    simp only [Fin.ofNat]
    exact Nat.mod_eq_of_lt (h j hj)
def sortF (l0 : List S116) (m : Nat) (d : List (Fin (m + 1))) : List (Fin (m + 1)) := d.mergeSort fun x y => !(ltOf (cfF l0 m) y x)
theorem sortF_val (l0 : List S116) (m : Nat) (d : List (Fin (m + 1))) : (sortF l0 m d).map (fun i => i.val) = (d.map (fun i => i.val)).mergeSort (leP l0) := by
  unfold sortF
  exact List.map_mergeSort fun a _ b _ => by rw [ltF]; rfl
theorem holds_ks {W : World} {g m : Nat} {cu : Array Value} {d : List (Fin (m + 1))} (hg : W.heap[g]? = some (.cells cu 3 (0, 0))) (hc : ∀ j (h : j < d.length), cu[j]? = some (.int .i64 (d[j].val : Int))) : Holds (encF (m := m)) W g 0 d.toArray := by
  intro j hj
  have hj' : j < d.length := by simpa using hj
  refine ⟨?_, blk_frozen hg _⟩
  rw [Nat.zero_add, blk_cell hg j, hc j hj', getElem!_pos _ j hj]
  simp [encF]
theorem sorted_R2 {W : World} {base g m cap q : Nat} {cu : Array Value} {os : Array Obj} {l0 : List S116} {d : List (Fin (m + 1))} (hg : W.heap[g]? = some (.cells cu 3 (0, 0))) (hb : base ≤ g) (hcap : d.length ≤ cap) (hm : cap ≤ maxLen) (hs : cu.size = cap) :
    (Kd.int .i64).R 3 (sortWorld (encF (m := m)) W g 0 q (sortF l0 m d).toArray os) base (fun _ => True) (.slice (some ⟨g, 0, none⟩) d.length cap) ((sortF l0 m d).map fun i => (i.val : Int)) := by
  have hlen : (sortF l0 m d).length = d.length := by unfold sortF; rw [List.length_mergeSort]
  have hlen2 : ((sortF l0 m d).map fun i => (i.val : Int)).length = d.length := by rw [List.length_map, hlen]
  have h := R_mk (w := sortWorld (encF (m := m)) W g 0 q (sortF l0 m d).toArray os) (base := base) (g := g) (cap := cap) (xs := (sortF l0 m d).map fun i => (i.val : Int)) hb (sw_blk _ hg) (by omega) hm (by unfold putCells; rw [Array.size_mapIdx]; exact hs) (fun j hj => ?_)
  · rw [hlen2] at h
    exact h
  · have hj' : j < d.length := by omega
    have hjc : j < cu.size := by omega
    unfold putCells
    rw [Array.getElem?_mapIdx, Array.getElem?_eq_getElem hjc]
    have hsz : j < (sortF l0 m d).toArray.size := by simpa [hlen] using hj'
    simp only [Option.map_some, Nat.zero_le, true_and, Nat.zero_add, Nat.sub_zero]
    rw [if_pos hsz, getElem!_pos _ j hsz]
    show some (encF ((sortF l0 m d).toArray[j])) = some (.int .i64 (((sortF l0 m d).map fun i => (i.val : Int)).getD j 0))
    rw [List.getD_eq_getElem?_getD, List.getElem?_map, List.getElem?_eq_getElem (by omega)]
    rfl
/-- The row that the loop has made, of one place or more, as places. -/
theorem row_ks {W : World} {base m : Nat} {v : Value} {ks : List Nat} (h : W.ownsRow base 3 1 v (ks.map fun j : Nat => (j : Int)).length (nums .i64 (ks.map fun j : Nat => (j : Int)))) (hp : ks ≠ []) (hk : ∀ j ∈ ks, j < m + 1) :
    ∃ g cap cu, v = .slice (some ⟨g, 0, none⟩) (finL m ks).length cap ∧ base ≤ g ∧ W.heap[g]? = some (.cells cu 3 (0, 0)) ∧ (finL m ks).length ≤ cap ∧ cap ≤ maxLen ∧ cu.size = cap ∧ ∀ j (h : j < (finL m ks).length), cu[j]? = some (.int .i64 ((finL m ks)[j].val : Int)) := by
  have hlen : (finL m ks).length = ks.length := by unfold finL; rw [List.length_map]
  rcases h.2 with ⟨_, h2⟩ | ⟨g, cap, cu, h1, h2, h3, h4, h5, h6, h7⟩
  · rw [List.length_map] at h2
    exact absurd (List.eq_nil_of_length_eq_zero h2) hp
  · rw [List.length_map] at h1 h4
    refine ⟨g, cap, cu, by rw [h1, hlen], h2, h3, by omega, h5, by omega, fun j hj => ?_⟩
    have hj' : j < ks.length := by omega
    have e : cu[j]? = (nums .i64 (ks.map fun j : Nat => (j : Int)))[j]? := by
      rw [← h7, List.getElem?_take, if_pos (by rw [List.length_map]; omega), Array.getElem?_toList]
    rw [e]
    unfold nums
    rw [List.getElem?_map, List.getElem?_map, List.getElem?_eq_getElem hj']
    have e2 : ((finL m ks)[j]).val = ks[j] := by
      have h9 : ((finL m ks).map (fun i => i.val))[j]? = ks[j]? := by rw [finL_val m ks hk]
      rw [List.getElem?_map, List.getElem?_eq_getElem hj, List.getElem?_eq_getElem hj'] at h9
      exact Option.some.inj h9
    rw [e2]; rfl
set_option maxHeartbeats 8000000 in
set_option maxRecDepth 100000 in
theorem seg_ok (A0 : Option Addr) (c0 fr en : Nat) (l0 : List S116) (w : World) (hr0 : Kd.C k116 w A0 l0.length l0) (hc0 : l0.length ≤ c0) (hl : l0.length ≤ 1000) (h1 : fr ≤ en) (h2 : en ≤ l0.length) :
    Calls Try.prog 109 #[.slice A0 l0.length c0, .int .i64 (fr : Int), .int .i64 (en : Int)] w fun e w' => (∃ v, e = .returned v ∧ Kd.R (Kd.int .i64) 3 w' w.heap.size (fun _ => True) v ((segR l0 fr en).map fun j : Nat => (j : Int))) ∧ Below w.heap.size w w' := by
  obtain ⟨T, hT⟩ : ∃ T, T = (segR l0 fr en).map fun j : Nat => (j : Int) := ⟨_, rfl⟩
  rw [← hT]
  have HTT := Lib.hid hT
  clear hT
  have HR := Lib.hid hr0
  have HL := Lib.hid hl
  have H1 := Lib.hid h1
  have H2 := Lib.hid h2
  have HC0 := Lib.hid hc0
  clear hr0 hl h1 h2 hc0
  have HB := Below.refl (w.heap.size + 1) (w.alloc (.cells #[.slice A0 l0.length c0] 108))
  have hS := blk_new w (.cells #[.slice A0 l0.length c0] 108)
  obtain ⟨n, hn⟩ : ∃ n, n = l0.length := ⟨_, rfl⟩
  rw [← hn] at HB hS HC0 H2 HL ⊢
  have HN := Lib.hid hn
  clear hn
  have HBH := Lib.hid HB
  go_enter Try.func109, Try.ntmps109
  go_wp2_with fail
  go_loopw [7, 8] (fun v i wr => ∃ (k : Nat) (xs : List Int), fr ≤ k ∧ k ≤ en ∧ i = .int .i64 k ∧ wr.ownsRow (w.heap.size + 1) 3 1 v xs.length (nums .i64 xs) ∧ Hid (xs ++ segN l0 en (en - k) k = segN l0 en (en - fr) fr) ∧ Hid (xs.length ≤ k) ∧ Hid (xs = [] → v = .slice none 0 0) ∧ Hid (Below (w.heap.size + 1) (w.alloc (.cells #[.slice A0 n c0] 108)) wr)) (fun v i _ => en - (intOf i).toNat)
  case atStart => exact ⟨fr, [], Nat.le_refl _, H1.out, rfl, own_nil _ _ _ _, Lib.hid rfl, Lib.hid (Nat.zero_le _), Lib.hid (fun _ => rfl), HBH⟩
  case round =>
    obtain ⟨k, xs, hk1, hk2, rfl, hown, HX, HXL, HNIL, HBW⟩ := hrel
    by_cases hke : k < en
    · have hlen : k < l0.length := by have := H2.out; rw [← HN.out]; omega
      have hC0 : Kd.C k116 wr A0 l0.length l0 := Kd.C_below HR.out (((Below.refl _ _).alloc (Nat.le_refl _) _).trans (HBW.out.mono (Nat.le_succ _)))
      obtain ⟨b, off, rfl, hbb, hcell⟩ := row116 hC0 (by omega)
      obtain ⟨A2, c2, e0, e1, e2, e3, e4⟩ := hcell k hlen
      obtain ⟨x, hx⟩ : ∃ x, x = l0.getD k z116 := ⟨_, rfl⟩
      rw [← hx] at e0 e1 e2 e3 e4
      have hbox : wr.cell? ⟨w.heap.size, 0, none⟩ = some (.slice (some ⟨b, off, none⟩) n c0) := by
        rw [HBW.out.cell (p := ⟨w.heap.size, 0, none⟩) (by show w.heap.size < w.heap.size + 1; omega), World.cell?_alloc_at _ _ _ _ rfl]; rfl
      have hw : IntKind.i64.wrap ((k : Int) + 1) = (k : Int) + 1 := by have := HL.out; have := H2.out; exact IntWalk.i64_in _ (by omega)
      have hk0 : (k : Int) < (n : Int) := by have := HN.out; omega
      have hkn : k < n := by have := HN.out; omega
      have hen : (en : Int) ≤ (c0 : Int) := by have := HC0.out; have := H2.out; omega
      have hke1 : (k : Int) + 1 ≤ (en : Int) := by omega
      have E4 := Lib.hid e4
      have E3 := Lib.hid e3
      have HC9 := Lib.hid hC0
      have HX9 := Lib.hid hx
      clear hC0 hcell hx e3 e4 hlen hbb
      obtain ⟨P, ln, cp, hsl, hlnn, hPC⟩ := seg_slice (n := n) (k := k) (en := en) (c0 := c0) HC9.out (by have := HN.out; have := H2.out; omega) (by omega) (by have := HC0.out; have := H2.out; omega)
      have hcov := fun W (hb : Below wr.heap.size wr W) => covered_ok x.f0 x.f1 A2 c2 x.f2 P cp ((l0.take en).drop (k + 1)) W (Kd.C_below E4.out hb) E3.out (Kd.C_below hPC hb) (by rw [List.length_drop, List.length_take]; have := HL.out; have := H2.out; omega)
      rw [hlnn] at hcov
      obtain ⟨kv, hkv⟩ : ∃ v, v = covV x.f0 x.f1 ((l0.take en).drop (k + 1)) := ⟨_, rfl⟩
      rw [← hkv] at hcov
      have HKV := Lib.hid hkv
      have HCOV := Lib.hid hcov
      have hbx := HBW.out
      clear hPC hlnn hcov hkv
      go_upto_region 5 with fail
      go_region_held3 (fun w' => w'.cell? ⟨w.heap.size, 0, none⟩ = some (.slice (some ⟨b, off, none⟩) n c0) ∧ w'.cell? ⟨b, off + k * 3, none⟩ = some (.int .i64 x.f0) ∧ w'.cell? ⟨b, off + k * 3 + 1, none⟩ = some (.int .i64 x.f1) ∧ w'.cell? ⟨b, off + k * 3 + 2, none⟩ = some (.slice A2 x.f2.length c2)) (go_keep) (first | (go_at_call 110; refine (HCOV.out _ (Below.refl _ _).drew).mono ?_; rintro e w2 ⟨rfl, hb2⟩; have hbx2 := hbx.drew.trans (hb2.mono (by have := hbx.size; simp at this; show w.heap.size + 1 ≤ wr.heap.size; omega)); have gbx := (hb2.cell (p := ⟨w.heap.size, 0, none⟩) (World.block_lt_of_cell? wr _ hbox)).trans hbox; have g0 := (hb2.cell (p := ⟨b, off + k * 3, none⟩) (World.block_lt_of_cell? wr _ e0)).trans e0; have g1 := (hb2.cell (p := ⟨b, off + k * 3 + 1, none⟩) (World.block_lt_of_cell? wr _ e1)).trans e1; have g2 := (hb2.cell (p := ⟨b, off + k * 3 + 2, none⟩) (World.block_lt_of_cell? wr _ e2)).trans e2))
      have hown2 := pw_own_below (w := wr.drew) hown hb2
      have hlen : k < l0.length := by have := H2.out; rw [← HN.out]; omega
      have hstep : segN l0 en (en - k) k = (if keepS l0 k en then [(k : Int)] else []) ++ segN l0 en (en - (k + 1)) (k + 1) := by
        rw [show en - k = (en - (k + 1)) + 1 by omega]; rfl
      have hkeep : keepS l0 k en = !kv := by unfold keepS; rw [← HX9.out, ← HKV.out]
      have hxx := HX.out
      rw [hstep, hkeep] at hxx
      have hxl := HXL.out
      have HBX2 := Lib.hid hbx2
      have hwk : wrap64 ((k : Int) + 1) = (k : Int) + 1 := by have := HL.out; have := H2.out; unfold wrap64; omega
      clear hb2 hbx hbx2 hown hstep hkeep gbx g0 g1 g2 hbox e0 e1 e2 hsl hw hk0 hkn hen hke1 hlen
      cases kv with
      | true =>
        have HXX := Lib.hid hxx
        have HXL2 := Lib.hid hxl
        clear hxx hxl
        go_wp2_with fail
        go_roundw
        case rel => exact ⟨k + 1, xs, Nat.le_succ_of_le hk1, hke, by first | rfl | exact congrArg (Value.int .i64) hwk, hown2, HXX, Lib.hid (Nat.le_succ_of_le HXL2.out), HNIL, HBX2⟩
        case measure =>
          rw [hwk]
          exact step_measure hke
      | false =>
        have hreads : ReadsInt (w2.alloc (.cells #[.int .i64 (k : Int)] 3)) .i64 (some ⟨w2.heap.size, 0, none⟩) 1 [(k : Int)] := ⟨rfl, by decide, fun _ => ⟨⟨w2.heap.size, 0, none⟩, rfl, fun j hj => by
          have hj0 : j = 0 := by omega
          subst hj0
          exact blk_cell (blk_new w2 _) 0⟩⟩
        have hown3 := hown2.alloc (.cells #[.int .i64 (k : Int)] 3)
        have hsz : (w.heap.size + 1) ≤ w2.heap.size := by have := HBX2.out.size; simpa using this
        have HBA := HBX2.out.alloc hsz (.cells #[.int .i64 (k : Int)] 3)
        have hsz2 : (w.heap.size + 1) ≤ (w2.alloc (.cells #[.int .i64 (k : Int)] 3)).heap.size := Nat.le_trans hsz (by simp)
        have hbig : (xs.length + 1) * 8 ≤ 140737488355328 := by have := HL.out; have := H2.out; omega
        have HXX := Lib.hid hxx
        have HXL2 := Lib.hid hxl
        have HRD := Lib.hid hreads
        have HOW3 := Lib.hid hown3
        have HBA2 := Lib.hid HBA
        have HSZ2 := Lib.hid hsz2
        have HBIG := Lib.hid hbig
        clear hxx hxl hreads hown3 hown2 HBA hsz hsz2 hbig
        go_wp2_with (at_builtin; refine print_append_row (w0 := (w.alloc (.cells #[.slice (some ⟨b, off, none⟩) n c0] 108))) (w.heap.size + 1) rfl _ _ 32 3 .i64 8 rfl Try.underlying32 info3 (by decide) _ xs [(k : Int)] _ 1 1 rfl rfl HOW3.out HRD.out HBA2.out HSZ2.out HBIG.out ?_; intro v1 w5 hown5 hb5 hg5 hat5)
        go_roundw
        case rel => exact ⟨k + 1, _, Nat.le_succ_of_le hk1, hke, by first | rfl | exact congrArg (Value.int .i64) hwk, hown5, Lib.hid (by have h9 := HXX.out; rw [List.append_assoc]; exact h9), Lib.hid (by rw [List.length_append]; exact Nat.succ_le_succ HXL2.out), Lib.hid (fun e => absurd e (by simp)), Lib.hid hb5⟩
        case measure =>
          rw [hwk]
          exact step_measure hke
    · have hk2 : k = en := by omega
      have hxs : xs = (segK l0 en (en - fr) fr).map fun j : Nat => (j : Int) := by
        have h9 := HX.out
        rw [hk2, Nat.sub_self] at h9
        rw [← segN_eq, ← h9]
        simp [segN]
      have hkl : ∀ j ∈ segK l0 en (en - fr) fr, j < en := fun j hj => by have := segK_lt l0 en (en - fr) fr j hj; omega
      subst hk2
      have hRS : segR l0 fr k = (segK l0 k (k - fr) fr).mergeSort (leP l0) := rfl
      generalize segK l0 k (k - fr) fr = ks at hxs hkl hRS
      have hTS : T = (ks.mergeSort (leP l0)).map fun j : Nat => (j : Int) := by rw [HTT.out, hRS]
      have HTS := Lib.hid hTS
      clear hTS HTT
      have hbox : wr.cell? ⟨w.heap.size, 0, none⟩ = some (.slice A0 n c0) := by
        rw [HBW.out.cell (p := ⟨w.heap.size, 0, none⟩) (by show w.heap.size < w.heap.size + 1; omega), World.cell?_alloc_at _ _ _ _ rfl]; rfl
      have HBE : Hid (Below w.heap.size w wr) := Lib.hid (((Below.refl _ _).alloc (Nat.le_refl _) _).trans (HBW.out.mono (Nat.le_succ _)))
      by_cases hks : ks = []
      · subst hks
        have hv := HNIL.out (by rw [hxs]; rfl)
        subst hv
        have hS := AnyF.slices_SortFunc_none { lay121 with } none 0 (.func (.func 136) #[] #[.pointer (some ⟨w.heap.size, 0, none⟩)]) wr
        change Calls Try.prog 121 _ _ _ at hS
        have HSS := Lib.hid hS
        have hTn : T = [] := by rw [HTS.out]; simp
        subst hTn
        clear hS hxs hkl HX HXL HNIL hown hRS HTS
        go_wp2_with (go_at_call 121; refine (HSS.out).mono ?_; rintro e w' ⟨rfl, rfl⟩)
        go_ret
        exact ⟨⟨_, rfl, Kd.R_nil _ _ _ _ _⟩, HBE.out⟩
      · obtain ⟨m, hm⟩ : ∃ m, l0.length = m + 1 := by
          obtain ⟨x, hx⟩ := List.exists_mem_of_ne_nil _ hks
          have := hkl x hx
          have := H2.out
          have := HN.out
          exact ⟨l0.length - 1, by omega⟩
        have hkm : ∀ j ∈ ks, j < m + 1 := fun j hj => by have := hkl j hj; have := H2.out; have := HN.out; omega
        subst hxs
        obtain ⟨g, cap, cu, rfl, hbg, hcu, hcap, hcapm, hcs, hcells⟩ := row_ks (m := m) hown hks hkm
        have hfv := finL_val m ks hkm
        have hfl : (finL m ks).length = ks.length := by unfold finL; rw [List.length_map]
        have hC0 : Kd.C k116 wr A0 l0.length l0 := Kd.C_below HR.out HBE.out
        obtain ⟨b, off, rfl, hbb, hcell⟩ := row116 hC0 (by omega)
        have hbs : b < w.heap.size := by
          obtain ⟨b', off', he, hb', _⟩ := row116 HR.out (by omega)
          injection he with he
          injection he with he _
          rw [he]; exact hb'
        have eg : ∀ args w, (callFunc 136 args).run Try.prog w = .ok (.enter 136 args) w := enters_of Try.func136 (by kernel_rfl) rfl
        have hcmp : CmpLays1 Try.prog 136 #[.pointer (some ⟨w.heap.size, 0, none⟩)] (encF (m := m)) (cfF l0 m) g 0 (finL m ks).toArray.size wr := by
          intro m' os dk hdk x y
          have hl1 : ∀ j, j < m + 1 → wr.cell? ⟨b, off + j * 3 + 1, none⟩ = some (.int .i64 (l0.getD j z116).f1) := fun j hj => by
            obtain ⟨_, _, _, e1, _⟩ := hcell j (by omega)
            exact e1
          exact closS (sortWorld (encF (m := m)) wr g 0 m' dk os) (sw_cell _ hbox (by show w.heap.size ≠ g; omega)) (by have := x.isLt; have := HN.out; omega) (by have := y.isLt; have := HN.out; omega) (sw_cell _ (hl1 x.val x.isLt) (by show b ≠ g; omega)) (sw_cell _ (hl1 y.val y.isLt) (by show b ≠ g; omega))
        have hlen9 : (finL m ks).length < 4611686018427387904 := by
          have h9 := HXL.out
          rw [List.length_map] at h9
          have := HL.out
          have := H2.out
          omega
        have hS := Any.slices_SortFunc_total lay121 (encF (m := m)) (fun _ => rfl) (cfF l0 m) (swoF l0 m) 136 #[.pointer (some ⟨w.heap.size, 0, none⟩)] g 0 cap (finL m ks).toArray wr eg hcmp (holds_ks hcu hcells) (blk_lt hcu) (by simpa using hlen9) (totF l0 m)
        have hd1 : (finL m ks).toArray.size = (finL m ks).length := by simp
        rw [hd1] at hS
        change Calls Try.prog 121 _ _ _ at hS
        have HSS := Lib.hid hS
        have HCS := Lib.hid hcs
        have HCU := Lib.hid hcu
        have HCP := Lib.hid hcap
        have HCM := Lib.hid hcapm
        have HBG := Lib.hid hbg
        have hRT : ∀ q os, (Kd.int .i64).R 3 (sortWorld (encF (m := m)) wr g 0 q (sortF l0 m (finL m ks)).toArray os) w.heap.size (fun _ => True) (.slice (some ⟨g, 0, none⟩) (finL m ks).length cap) T := fun q os => by
          have h8 := sorted_R2 (base := w.heap.size) (q := q) (os := os) (l0 := l0) (d := finL m ks) hcu (by omega) hcap hcapm hcs
          have h7 : ((sortF l0 m (finL m ks)).map fun i => (i.val : Int)) = (ks.mergeSort (leP l0)).map fun j : Nat => (j : Int) := by
            rw [← hfv, ← sortF_val, hfv, List.map_map]; rfl
          rw [h7, ← HTS.out] at h8
          exact h8
        have HRT := Lib.hid hRT
        have hgw : w.heap.size ≤ g := by omega
        have HGW := Lib.hid hgw
        clear hS hcmp hcell eg hd1 hcs hcu hcap hcapm hbg hgw hRT hfv hfl hbs hbb hkm hks hkl HX HXL HNIL hown hcells hlen9 hC0 hRS hm
        clear hke hk1 hk2
        generalize (finL m ks).length = fl at HSS HCP HRT ⊢
        go_wp2_with (go_at_call 121; refine (HSS.out).mono ?_; rintro e w' ⟨rfl, q, os, rfl⟩)
        go_ret
        exact ⟨⟨_, rfl, HRT.out q os⟩, below_sortWorld _ HBE.out HGW.out (Nat.le_refl _)⟩
end Go.Proofs.Ytnkgbnipcjgjeaa.Qu
