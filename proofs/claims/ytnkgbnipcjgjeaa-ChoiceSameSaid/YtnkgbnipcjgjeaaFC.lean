import Derived.Test.YtnkgbnipcjgjeaaFB
namespace Go.Proofs.Ytnkgbnipcjgjeaa
open Go.RowKit Go.Shelf Go.Sort Go.Lib Go.Proofs.YtnkgbnipcjgjeaaW.PrintWords Go.Proofs.YtnkgbnipcjgjeaaW.PrintLast Go.Proofs.YtnkgbnipcjgjeaaW.PrintMore
set_option linter.unusedVariables false
set_option maxHeartbeats 4000000 in
theorem clos_ok {l : List (Int × Int)} {bx g b : Nat} (W : World) (hx : W.cell? ⟨bx, 0, none⟩ = some (.pointer (some ⟨g, 0, none⟩))) (hp : PoolIs W g b l) {p q : Int × Int} (hpm : mget l p.1 = some p.2) (hqm : mget l q.1 = some q.2) (hpo : okI p.1) (hqo : okI q.1) :
    Calls Try.prog 84 #[.int .i64 p.1, .int .i64 q.1, .pointer (some ⟨bx, 0, none⟩)] W fun e w' => e = .returned (.int .i64 (orI (Lib.compareInt p.2 q.2) (Lib.compareInt p.1 q.1))) ∧ ∃ n os', w' = grow (W.drewN n) os' := by
  obtain ⟨a, x⟩ := p
  obtain ⟨c, y⟩ := q
  have hl : ∀ (k : Int) (v : Int) (W' : World), mget l k = some v → okI k → MapIs kI okI W' b (mapII l) → (Instr.lookup 46 (.map (some b)) (.int .i64 k) false).run Try.prog W' = .ok (.int .i64 v) W' := fun k v W' hk ho hm => by
    have := hm.look keI Try.underlying46 (zero3 W') ho false
    rw [mgetII, hk] at this
    exact this
  have hA0 := hl a x W.drew hpm hpo hp.2.1
  have hB0 := hl c y W.drew hqm hqo hp.2.1
  have hA1 := fun o => hl a x (W.alloc o).drew hpm hpo (MapIs.alloc (w := W) hp.2.1 o)
  have hB1 := fun o => hl c y (W.alloc o).drew hqm hqo (MapIs.alloc (w := W) hp.2.1 o)
  have hg := hp.cell
  clear hl hpm hqm hpo hqo hp
  have k1 := fun W => cmp_ok x y W
  have k2 := fun W => cmp_ok a c W
  generalize Lib.compareInt x y = c1 at k1 ⊢
  generalize Lib.compareInt a c = c2 at k2 ⊢
  have K1 := Lib.hid k1
  have K2 := Lib.hid k2
  clear k1 k2
  go_enter Try.func84, Try.ntmps84
  go_wp2_with fail
  go_region_held3 (fun w' => w'.cell? ⟨bx, 0, none⟩ = some (.pointer (some ⟨g, 0, none⟩)) ∧ w'.cell? ⟨g, 0, none⟩ = some (.map (some b)) ∧ (Instr.lookup 46 (.map (some b)) (.int .i64 a) false).run Try.prog w' = .ok (.int .i64 x) w' ∧ (Instr.lookup 46 (.map (some b)) (.int .i64 c) false).run Try.prog w' = .ok (.int .i64 y) w') (go_keep) (first | (go_at_call_of 86 (Value.int .i64 x); refine (K1.out _).mono ?_; rintro e w3 ⟨rfl, rfl⟩) | (go_at_call_of 86 (Value.int .i64 a); refine (K2.out _).mono ?_; rintro e w3 ⟨rfl, rfl⟩) | (go_at_call 85; refine (or_ok c1 c2 _ _ (by simp) (by simp)).mono ?_; rintro e w4 ⟨rfl, rfl⟩))
  all_goals
    go_wp2
    go_ret
    exact ⟨rfl, 1, #[.cells #[.int .i64 c1, .int .i64 c2] 3], by rw [← alloc_eq_grow]; rfl⟩
theorem mget_mem {l : List (Int × Int)} (hn : (l.map (·.1)).Nodup) {p : Int × Int} (hp : p ∈ l) : mget l p.1 = some p.2 := by
  obtain ⟨j, hj⟩ := List.getElem?_of_mem hp
  exact (m_some (k := p.1) (b := p.2) hn hj).1
theorem heap_putRow {α : Type} [Inhabited α] (enc : α → Value) {w : World} {blk off : Nat} {d : Array α} {c : Array Value} {e : TypeId} {fr : Nat × Nat} (h : w.heap[blk]? = some (.cells c e fr)) : (putRow enc w blk off d).heap[blk]? = some (.cells (putCells enc off d c) e fr) := by
  simp [putRow, mapBlock, Array.getElem?_modify, h, onCells]
theorem heap_putRow_far {α : Type} [Inhabited α] (enc : α → Value) {w : World} {blk off i : Nat} {d : Array α} (h : i ≠ blk) : (putRow enc w blk off d).heap[i]? = w.heap[i]? := by
  simp [putRow, mapBlock, Array.getElem?_modify, Ne.symm h]
theorem sw_heap {α : Type} [Inhabited α] (enc : α → Value) {W : World} {blk off q : Nat} {d : Array α} {os : Array Obj} {i : Nat} (hi : i < W.heap.size) (h : i ≠ blk) : (sortWorld enc W blk off q d os).heap[i]? = W.heap[i]? := by
  show (grow (putRow enc (Sort.ahead W q) blk off d) os).heap[i]? = _
  rw [heap_grow_old _ _ (by rw [size_putRow]; exact hi), heap_putRow_far enc h]
  rfl
theorem sw_blk {α : Type} [Inhabited α] (enc : α → Value) {W : World} {blk off q : Nat} {d : Array α} {os : Array Obj} {c : Array Value} {e : TypeId} {fr : Nat × Nat} (h : W.heap[blk]? = some (.cells c e fr)) : (sortWorld enc W blk off q d os).heap[blk]? = some (.cells (putCells enc off d c) e fr) := by
  have hlt : blk < W.heap.size := (Array.getElem?_eq_some_iff.1 h).1
  show (grow (putRow enc (Sort.ahead W q) blk off d) os).heap[blk]? = _
  rw [heap_grow_old _ _ (by rw [size_putRow]; exact hlt)]
  exact heap_putRow enc h
theorem below_sortWorld {α : Type} [Inhabited α] (enc : α → Value) {w W : World} {B blk off q : Nat} {d : Array α} {os : Array Obj} (h : Below B w W) (hb : B ≤ blk) (hB : B ≤ w.heap.size) : Below B w (sortWorld enc W blk off q d os) := by
  refine ⟨h.os, h.tape, h.output, ?_, fun i hi => ?_⟩
  · refine Nat.le_trans h.size ?_
    show W.heap.size ≤ (grow (putRow enc (Sort.ahead W q) blk off d) os).heap.size
    simp [grow]
  · have hs := h.size
    rw [sw_heap enc (by omega) (by omega)]
    exact h.block i hi
theorem holds_d {W : World} {g m : Nat} {l : List (Int × Int)} {cu : Array Value} {d : List (Fin (m + 1))} (hg : W.heap[g]? = some (.cells cu 3 (0, 0))) (hc : cu.toList.take d.length = d.map (encQ l m)) : Holds (encQ l m) W g 0 d.toArray := by
  intro j hj
  have hj' : j < d.length := by simpa using hj
  refine ⟨?_, blk_frozen hg _⟩
  have h := congrArg (fun t => t[j]?) hc
  simp only [List.getElem?_take, if_pos hj', Array.getElem?_toList, List.getElem?_map, List.getElem?_eq_getElem hj', Option.map_some] at h
  rw [Nat.zero_add, blk_cell hg j, h, getElem!_pos _ j hj]
  simp
theorem sorted_own {W : World} {base g m cap q : Nat} {cu : Array Value} {os : Array Obj} {l : List (Int × Int)} {d : List (Fin (m + 1))} (hg : W.heap[g]? = some (.cells cu 3 (0, 0))) (hb : base ≤ g) (hcap : d.length ≤ cap) (hm : cap ≤ maxLen) (hs : cu.size = cap) {d' : List (Fin (m + 1))} (hd : d'.length = d.length) :
    (Kd.int .i64).R 3 (sortWorld (encQ l m) W g 0 q d'.toArray os) base (fun _ => True) (.slice (some ⟨g, 0, none⟩) d.length cap) (d'.map fun i => (atL l m i).1) := by
  have hlen2 : (d'.map fun i => (atL l m i).1).length = d.length := by rw [List.length_map, hd]
  have h := R_mk (w := sortWorld (encQ l m) W g 0 q d'.toArray os) (base := base) (g := g) (cap := cap) (xs := d'.map fun i => (atL l m i).1) hb (sw_blk _ hg) (by omega) hm (by unfold putCells; rw [Array.size_mapIdx]; exact hs) (fun j hj => ?_)
  · rw [hlen2] at h
    exact h
  · have hj' : j < d'.length := by omega
    have hjc : j < cu.size := by omega
    unfold putCells
    rw [Array.getElem?_mapIdx, Array.getElem?_eq_getElem hjc]
    have hsz : j < d'.toArray.size := by simpa using hj'
    simp only [Option.map_some, Nat.zero_le, true_and, Nat.zero_add, Nat.sub_zero]
    rw [if_pos hsz, getElem!_pos _ j hsz]
    show some (encQ l m (d'.toArray[j])) = some (.int .i64 ((d'.map fun i => (atL l m i).1).getD j 0))
    rw [List.getD_eq_getElem?_getD, List.getElem?_map, List.getElem?_eq_getElem hj']
    rfl
set_option maxHeartbeats 4000000 in
/-- slices.SortedFunc over the pool's keys. -/
theorem sortedFunc_ok {l : List (Int × Int)} {bx bm g b : Nat} (w : World) (hx : w.cell? ⟨bx, 0, none⟩ = some (.pointer (some ⟨g, 0, none⟩))) (hm : w.cell? ⟨bm, 0, none⟩ = some (.map (some b))) (hp : PoolIs w g b l) (hlen : l.length ≤ 1000) :
    Calls Try.prog 82 #[.func (.func 122) #[] #[.pointer (some ⟨bm, 0, none⟩)], .func (.func 84) #[] #[.pointer (some ⟨bx, 0, none⟩)]] w fun e w' => (∃ v, e = .returned v ∧ (Kd.int .i64).R 3 w' w.heap.size (fun _ => True) v (listP l)) ∧ Below w.heap.size w w' := by
  have hbx : bx < w.heap.size := World.block_lt_of_cell? w _ hx
  have hbm : bm < w.heap.size := World.block_lt_of_cell? w _ hm
  have hml : (1000 : Nat) ≤ maxLen := by unfold maxLen; omega
  obtain ⟨D, hD, hperm, hsz⟩ := MapIs.owns (H := Unit) (P := Try.prog) (k := 3) (e := 3) hp.2.1 Try.underlying3 Try.underlying3 (fun p hpm => okI_of (hp.2.2 p hpm).2.2.1 (by have := (hp.2.2 p hpm).2.2.2; omega)) (by omega)
  have hseq := AnyZI.keys_gives (P := Try.prog) (ρ := lay83_ren) { lay83 with } Fence.wide 1 trivial rfl (Nat.le_refl _) bm b l.length D w hbm hm hD
  have hseq' : SeqGives Fence.wide (3 - 1 - 1) Try.prog 122 #[.pointer (some ⟨bm, 0, none⟩)] encZ (fun ss => ss.Perm (intKeys D)) (Maps.size D) w := hseq
  have eg : ∀ args w, (callFunc 122 args).run Try.prog w = .ok (.enter 122 args) w := enters_of Try.func122 (by kernel_rfl) rfl
  have hcol := callsIn_wide.1 (AnyZI.collect_in (P := Try.prog) (ρ := lay120_ren) lay120 Fence.wide 3 trivial trivial rfl (Nat.le_refl _) 122 #[.pointer (some ⟨bm, 0, none⟩)] trivial eg (fun ss => ss.Perm (intKeys D)) (Maps.size D) (by rw [hsz]; omega) (by rw [hsz]; omega) w hseq')
  change Calls Try.prog 120 _ _ _ at hcol
  have hcol2 := hcol.mono (R' := fun e w' => ∃ (v : Value) (ss : List Int), e = .returned v ∧ ss.Perm (l.map (·.1)) ∧ w'.ownsRow w.heap.size 3 1 v ss.length (ss.map encZ) ∧ (v = .slice none 0 0 ↔ ss = []) ∧ Below w.heap.size w w') (fun e w' ⟨v, ss, h1, h2, h3, h4, h5⟩ => ⟨v, ss, h1, h2.trans hperm, h3, h4, h5⟩)
  obtain ⟨T, hT⟩ : ∃ T, T = listP l := ⟨_, rfl⟩
  rw [← hT]
  have HC := Lib.hid hcol2
  have HP := Lib.hid hp
  have HX := Lib.hid hx
  have HT := Lib.hid hT
  have HL := Lib.hid hlen
  have HBX := Lib.hid hbx
  clear hcol hcol2 hseq hseq' eg hD hperm hsz hp hx hT hlen hm hbm hbx hml
  go_enter Try.func82, Try.ntmps82
  go_wp2_with fail
  refine (HC.out).mono ?_
  rintro e w1 ⟨v, ss, rfl, hss, hrow, hnil, hb1⟩
  have HSS := Lib.hid hss
  have HB1 := Lib.hid hb1
  by_cases hz : ss = []
  · subst hz
    obtain rfl := hnil.2 rfl
    have hl0 : l = [] := by
      have := hss.length_eq
      rw [List.length_map] at this
      exact List.eq_nil_of_length_eq_zero this.symm
    have hTn : T = [] := by rw [HT.out, hl0, listP_nil]
    subst hTn
    have hS := AnyF.slices_SortFunc_none { lay121 with } none 0 (.func (.func 84) #[] #[.pointer (some ⟨bx, 0, none⟩)]) w1
    change Calls Try.prog 121 _ _ _ at hS
    have HS := Lib.hid hS
    clear hS hss hrow hnil hb1 hl0
    go_wp2_with (go_at_call 121; refine (HS.out).mono ?_; rintro e w2 ⟨rfl, rfl⟩)
    go_ret
    exact ⟨⟨_, rfl, Kd.R_nil _ _ _ _ _⟩, HB1.out⟩
  · rcases hrow.2 with ⟨_, h0⟩ | ⟨gb, cap, cur, rfl, hbase, hgb, r1, r2, r3, r4⟩
    · exact absurd (List.eq_nil_of_length_eq_zero h0) hz
    · have hll : l.length = ss.length := by have := hss.length_eq; rw [List.length_map] at this; exact this.symm
      obtain ⟨m, hlm⟩ : ∃ m, l.length = m + 1 := ⟨l.length - 1, by have := List.length_pos_iff.2 hz; omega⟩
      obtain ⟨dd, hd1, hd2⟩ := places hlm hss
      have hdl : dd.length = ss.length := by rw [← hd1, List.length_map]
      have hpool := HP.out.below hb1
      have hpd := HP.out.ltg
      have hpb := HP.out.ltb
      have hbx2 := HBX.out
      have hnod := HP.out.nodup
      have hxw : w1.cell? ⟨bx, 0, none⟩ = some (.pointer (some ⟨g, 0, none⟩)) := (hb1.cell (p := ⟨bx, 0, none⟩) hbx2).trans HX.out
      have eg : ∀ args w, (callFunc 84 args).run Try.prog w = .ok (.enter 84 args) w := enters_of Try.func84 (by kernel_rfl) rfl
      have hmem : ∀ i : Fin (m + 1), atL l m i ∈ l := fun i => by
        have hi : i.val < l.length := by omega
        unfold atL
        rw [List.getD_eq_getElem?_getD, List.getElem?_eq_getElem hi]
        exact List.getElem_mem hi
      have hcmp : CmpLays1 Try.prog 84 #[.pointer (some ⟨bx, 0, none⟩)] (encQ l m) (cfQ l m) gb 0 dd.toArray.size w1 := by
        intro m' os dk hdk x y
        have hpo : PoolIs (sortWorld (encQ l m) w1 gb 0 m' dk os) g b l := hpool.at_ (sw_heap _ (by have := hb1.size; omega) (by omega)) (sw_heap _ (by have := hb1.size; omega) (by omega))
        have hcx : (sortWorld (encQ l m) w1 gb 0 m' dk os).cell? ⟨bx, 0, none⟩ = some (.pointer (some ⟨g, 0, none⟩)) := (World.cell?_of_block (w := w1) (sw_heap _ (by show bx < _; have := hb1.size; omega) (by show bx ≠ gb; omega))).trans hxw
        have ox := HP.out.2.2 _ (hmem x)
        have oy := HP.out.2.2 _ (hmem y)
        exact clos_ok _ hcx hpo (mget_mem hnod (hmem x)) (mget_mem hnod (hmem y)) (okI_of ox.1 (by omega)) (okI_of oy.1 (by omega))
      have hholds : Holds (encQ l m) w1 gb 0 dd.toArray := holds_d hgb (by
        rw [hdl]
        rw [Nat.mul_one] at r4
        rw [r4, ← hd1, List.map_map]; rfl)
      have hS := Any.slices_SortFunc_total lay121 (encQ l m) (fun _ => rfl) (cfQ l m) (swoQ l m) 84 #[.pointer (some ⟨bx, 0, none⟩)] gb 0 cap dd.toArray w1 eg hcmp hholds (blk_lt hgb) (by have := HL.out; simp; omega) (totQ hlm hnod)
      have hd3 : dd.toArray.size = dd.length := by simp
      rw [hd3] at hS
      change Calls Try.prog 121 _ _ _ at hS
      have HS := Lib.hid hS
      have hfin : ∀ q os, (Kd.int .i64).R 3 (sortWorld (encQ l m) w1 gb 0 q (dd.mergeSort fun x y => !(ltOf (cfQ l m) y x)).toArray os) w.heap.size (fun _ => True) (.slice (some ⟨gb, 0, none⟩) dd.length cap) T ∧ Below w.heap.size w (sortWorld (encQ l m) w1 gb 0 q (dd.mergeSort fun x y => !(ltOf (cfQ l m) y x)).toArray os) := fun q os => by
        rw [HT.out, ← sort_places hd2]
        exact ⟨sorted_own hgb hbase (by omega) r2 (by omega) (List.length_mergeSort _), below_sortWorld _ hb1 hbase (Nat.le_refl _)⟩
      have HF := Lib.hid hfin
      rw [← hdl]
      clear hS hcmp hholds eg hmem hxw hnod hpool hd1 hd2 hd3 hdl hll hss hrow hnil hb1 r1 r2 r3 r4 hfin hgb hbase hz hlm HSS
      generalize dd.length = dn at HS HF ⊢
      go_wp2_with (go_at_call 121; refine (HS.out).mono ?_; rintro e w2 ⟨rfl, q, os, rfl⟩)
      go_ret
      exact ⟨⟨_, rfl, (HF.out q os).1⟩, (HF.out q os).2⟩
end Go.Proofs.Ytnkgbnipcjgjeaa
