import Derived.Test.YtnkgbnipcjgjeaaFA
namespace Go.Proofs.Ytnkgbnipcjgjeaa
open Go.RowKit Go.Shelf Go.Sort Go.Lib Go.Proofs.YtnkgbnipcjgjeaaW.PrintWords Go.Proofs.YtnkgbnipcjgjeaaW.PrintLast Go.Proofs.YtnkgbnipcjgjeaaW.PrintMore
set_option linter.unusedVariables false
set_option maxHeartbeats 2000000 in
theorem is_ok (g b : Nat) (w : World) (hc : w.cell? ⟨g, 0, none⟩ = some (.map (some b))) : Calls Try.prog 81 #[.pointer (some ⟨g, 0, none⟩)] w fun e w' => e = .returned (.bool true) ∧ w' = w := by
  have hn := fun W => run_neq_map_nil W 46 3 3 (some b) Try.underlying46
  go_enter Try.func81, Try.ntmps81
  go_wp2
  go_ret
  exact ⟨rfl, rfl⟩
set_option maxHeartbeats 2000000 in
theorem is_nil (w : World) : Calls Try.prog 81 #[.pointer none] w fun e w' => e = .returned (.bool false) ∧ w' = w := by
  go_enter Try.func81, Try.ntmps81
  go_wp2
  go_ret
  exact ⟨rfl, rfl⟩
theorem zero3 (w : World) : (zeroValue 3).run Try.prog w = .ok (.int .i64 0) w := Try.zeroValue3 w
theorem mgetII (l : List (Int × Int)) (x : Int) : mget (mapII l) x = (mget l x).map (Value.int .i64) := mget_map (Value.int .i64) x l
set_option maxHeartbeats 4000000 in
theorem has_ok (g b : Nat) (l : List (Int × Int)) (x : Int) (w : World) (hp : PoolIs w g b l) (hx : okI x) : Calls Try.prog 28 #[.pointer (some ⟨g, 0, none⟩), .int .i64 x] w fun e w' => e = .returned (.bool (mget l x).isSome) ∧ w' = w := by
  have hc := hp.cell
  have hi := is_ok g b w hc
  have HI := Lib.hid hi
  have HM := Lib.hid hp.2.1
  have HX := Lib.hid hx
  obtain ⟨T, hT⟩ : ∃ T, T = (mget l x).isSome := ⟨_, rfl⟩
  rw [← hT]
  obtain ⟨v, hv⟩ : ∃ v, v = (mget (mapII l) x).getD (Value.int .i64 0) := ⟨_, rfl⟩
  have hs : (mget (mapII l) x).isSome = T := by rw [mgetII, hT]; simp
  have HV := Lib.hid hv
  have HS := Lib.hid hs
  clear hi hp hx hT hv hs
  go_enter Try.func28, Try.ntmps28
  go_wp2_with (first | (go_at_call 81; refine (HI.out).mono ?_; rintro e w' ⟨rfl, rfl⟩) | (at_lookup; refine wp_look rfl (.tmp 14) (.tmp 15) 46 true rfl keI Try.underlying46 (zero3 _) rfl HM.out x HX.out rfl ?_; rw [if_pos rfl, HS.out, ← HV.out]))
  go_ret
  exact ⟨rfl, rfl⟩
set_option maxHeartbeats 2000000 in
theorem has_nil (x : Int) (w : World) : Calls Try.prog 28 #[.pointer none, .int .i64 x] w fun e w' => e = .returned (.bool false) ∧ w' = w := by
  go_enter Try.func28, Try.ntmps28
  go_wp2_with (go_at_call 81; refine (is_nil _).mono ?_; rintro e w' ⟨rfl, rfl⟩)
  go_ret
  exact ⟨rfl, rfl⟩
set_option maxHeartbeats 2000000 in
theorem len_ok (g b : Nat) (l : List (Int × Int)) (w : World) (hp : PoolIs w g b l) : Calls Try.prog 20 #[.pointer (some ⟨g, 0, none⟩)] w fun e w' => e = .returned (.int .i64 l.length) ∧ w' = w := by
  have hc := hp.cell
  have hi := is_ok g b w hc
  have HI := Lib.hid hi
  have HM := Lib.hid hp.2.1
  have hl : (mapII l).length = l.length := List.length_map ..
  generalize l.length = n at hl ⊢
  have HL := Lib.hid hl
  clear hi hp hl
  go_enter Try.func20, Try.ntmps20
  go_wp2_with (first | (go_at_call 81; refine (HI.out).mono ?_; rintro e w' ⟨rfl, rfl⟩) | (at_len; refine wp_mlen rfl (.tmp 9) 46 rfl Try.underlying46 rfl HM.out ?_; rw [HL.out]))
  go_ret
  exact ⟨rfl, rfl⟩
set_option maxHeartbeats 2000000 in
theorem len_nil (w : World) : Calls Try.prog 20 #[.pointer none] w fun e w' => e = .returned (.int .i64 0) ∧ w' = w := by
  go_enter Try.func20, Try.ntmps20
  go_wp2_with (go_at_call 81; refine (is_nil _).mono ?_; rintro e w' ⟨rfl, rfl⟩)
  go_ret
  exact ⟨rfl, rfl⟩
set_option maxHeartbeats 2000000 in
theorem new_ok (w : World) : Calls Try.prog 16 #[] w fun e w' => (∃ g b, e = .returned (.pointer (some ⟨g, 0, none⟩)) ∧ PoolIs w' g b [] ∧ w.heap.size ≤ g ∧ w.heap.size ≤ b) ∧ Below w.heap.size w w' := by
  have hmm := @run_makeMap Try.prog
  go_enter Try.func16, Try.ntmps16
  go_wp2
  go_ret
  refine ⟨⟨_, _, rfl, ⟨?_, ?_, fun p hp => by simp at hp⟩, by omega, Nat.le_refl _⟩, ((Below.refl _ _).alloc (Nat.le_refl _) _).alloc (by simp) _⟩
  · have h := blk_new (w.alloc (.map #[] 0)) (.cells #[.map (some w.heap.size)] 136)
    rw [World.size_alloc] at h
    exact h
  · exact (MapIs.new kI okI w).alloc _
/-- Can block x, erased y times, be put? -/
def putB (l : List (Int × Int)) (x y : Int) : Bool := decide (0 ≤ x ∧ x < 256 ∧ 0 ≤ y ∧ y ≤ 2147483648) && (mget l x).isNone
theorem put_no (x y : Int) (p : Value) (w : World) (hp : Calls Try.prog 81 #[p] w fun e w' => e = .returned (.bool true) ∧ w' = w) (hb : ¬ (0 ≤ x ∧ x < 256 ∧ 0 ≤ y ∧ y ≤ 2147483648)) : Calls Try.prog 17 #[p, .int .i64 x, .int .i64 y] w fun e w' => e = .returned (.int .i64 2) ∧ w' = w := by
  have HP := Lib.hid hp
  clear hp
  by_cases h1 : x < 0
  · clear hb
    go_enter Try.func17, Try.ntmps17
    go_wp2_with (go_at_call 81; refine (HP.out).mono ?_; rintro e w' ⟨rfl, rfl⟩)
    go_ret
    exact ⟨rfl, rfl⟩
  · by_cases h2 : 256 ≤ x
    · clear hb
      go_enter Try.func17, Try.ntmps17
      go_wp2_with (go_at_call 81; refine (HP.out).mono ?_; rintro e w' ⟨rfl, rfl⟩)
      go_ret
      exact ⟨rfl, rfl⟩
    · by_cases h3 : y < 0
      · clear hb
        go_enter Try.func17, Try.ntmps17
        go_wp2_with (go_at_call 81; refine (HP.out).mono ?_; rintro e w' ⟨rfl, rfl⟩)
        go_ret
        exact ⟨rfl, rfl⟩
      · have h4 : 2147483648 < y := by omega
        clear hb
        go_enter Try.func17, Try.ntmps17
        go_wp2_with (go_at_call 81; refine (HP.out).mono ?_; rintro e w' ⟨rfl, rfl⟩)
        go_ret
        exact ⟨rfl, rfl⟩
set_option maxHeartbeats 2000000 in
theorem put_nil (x y : Int) (w : World) : Calls Try.prog 17 #[.pointer none, .int .i64 x, .int .i64 y] w fun e w' => e = .returned (.int .i64 1) ∧ w' = w := by
  go_enter Try.func17, Try.ntmps17
  go_wp2_with (go_at_call 81; refine (is_nil _).mono ?_; rintro e w' ⟨rfl, rfl⟩)
  go_ret
  exact ⟨rfl, rfl⟩
set_option maxHeartbeats 4000000 in
theorem put_err (g b : Nat) (l : List (Int × Int)) (x y : Int) (w : World) (hp : PoolIs w g b l) (hb : putB l x y = false) : Calls Try.prog 17 #[.pointer (some ⟨g, 0, none⟩), .int .i64 x, .int .i64 y] w fun e w' => e = .returned (.int .i64 2) ∧ w' = w := by
  by_cases hr : 0 ≤ x ∧ x < 256 ∧ 0 ≤ y ∧ y ≤ 2147483648
  · unfold putB at hb
    rw [decide_eq_true hr, Bool.true_and] at hb
    have hh := has_ok g b l x w hp (okI_of hr.1 (by omega))
    have hs : (mget l x).isSome = true := by
      cases h : mget l x with
      | none => rw [h] at hb; cases hb
      | some v => rfl
    rw [hs] at hh
    have HH := Lib.hid hh
    have HI := Lib.hid (is_ok g b w hp.cell)
    obtain ⟨r1, r2, r3, r4⟩ := hr
    clear hb hs hh hp
    go_enter Try.func17, Try.ntmps17
    go_wp2_with (first | (go_at_call 81; refine (HI.out).mono ?_; rintro e w' ⟨rfl, rfl⟩) | (go_at_call 28; refine (HH.out).mono ?_; rintro e w' ⟨rfl, rfl⟩))
    go_ret
    exact ⟨rfl, rfl⟩
  · exact put_no x y _ w (is_ok g b w hp.cell) hr
theorem mput_new (l : List (Int × Int)) {x : Int} (y : Int) (h : mget l x = none) : mput l x y = l ++ [(x, y)] := by
  induction l with
  | nil => rfl
  | cons p r ih =>
    unfold mget at h
    unfold mput
    by_cases e : p.1 = x
    · rw [if_pos e] at h; cases h
    · rw [if_neg e] at h
      rw [if_neg e, ih h]; rfl
theorem mputII (l : List (Int × Int)) (x y : Int) : mput (mapII l) x (.int .i64 y) = mapII (mput l x y) := mput_map (Value.int .i64) x y l
theorem mdelII (l : List (Int × Int)) (x : Int) : mdel (mapII l) x = mapII (mdel l x) := mdel_map (Value.int .i64) x l
set_option maxHeartbeats 4000000 in
theorem put_ok (g b : Nat) (l : List (Int × Int)) (x y : Int) (w : World) (hp : PoolIs w g b l) (hb : putB l x y = true) : Calls Try.prog 17 #[.pointer (some ⟨g, 0, none⟩), .int .i64 x, .int .i64 y] w fun e w' => e = .returned (.int .i64 0) ∧ PoolIs w' g b (l ++ [(x, y)]) ∧ w.grownBy w' (some b) ∧ w'.heap.size = w.heap.size := by
  have hb' := hb
  unfold putB at hb'
  rw [Bool.and_eq_true, decide_eq_true_eq] at hb'
  obtain ⟨⟨r1, r2, r3, r4⟩, hn⟩ := hb'
  have hnone : mget l x = none := by
    cases h : mget l x with
    | none => rfl
    | some v => rw [h] at hn; cases hn
  have hx := okI_of r1 (show x ≤ 4294967296 by omega)
  have hh := has_ok g b l x w hp hx
  have hs : (mget l x).isSome = false := by rw [hnone]; rfl
  rw [hs] at hh
  have HH := Lib.hid hh
  have HI := Lib.hid (is_ok g b w hp.cell)
  have HM := Lib.hid hp.2.1
  have hc := hp.cell
  have HX := Lib.hid hx
  have hfin : ∀ w', MapIs kI okI w' b (mput (mapII l) x (.int .i64 y)) → w.grownBy w' (some b) → PoolIs w' g b (l ++ [(x, y)]) := fun w' h1 h2 => by
    rw [mputII, mput_new l y hnone] at h1
    exact ⟨(h2.block g hp.ltg (fun e => hp.ne (by injection e))).trans hp.1, h1, fun p hpp => by
      rcases List.mem_append.1 hpp with h | h
      · exact hp.2.2 p h
      · obtain rfl : p = (x, y) := by simpa using h
        exact ⟨r1, r2, r3, r4⟩⟩
  have HF := Lib.hid hfin
  clear hb hn hnone hx hh hs hp hfin
  go_enter Try.func17, Try.ntmps17
  go_wp2_with (first | (go_at_call 81; refine (HI.out).mono ?_; rintro e w' ⟨rfl, rfl⟩) | (go_at_call 28; refine (HH.out).mono ?_; rintro e w' ⟨rfl, rfl⟩) | (at_mapUpdate; refine wp_put rfl (.tmp 32) (.tmp 33) (.tmp 34) 46 rfl keI Try.underlying46 rfl HM.out x HX.out rfl (.int .i64 y) rfl ?_; intro w2 hm2 hg2 hs2; have HM2 := Lib.hid hm2; have HG2 := Lib.hid hg2; have HS2 := Lib.hid hs2; clear hm2 hg2 hs2))
  go_ret
  exact ⟨rfl, HF.out _ HM2.out HG2.out, HG2.out, HS2.out⟩
theorem mdel_sub {l : List (Int × Int)} {x : Int} : ∀ p ∈ mdel l x, p ∈ l := by
  induction l with
  | nil => intro p hp; exact hp
  | cons q r ih =>
    intro p hp
    unfold mdel at hp
    split at hp
    · exact List.mem_cons_of_mem _ hp
    · rcases List.mem_cons.1 hp with rfl | h
      · exact List.mem_cons_self
      · exact List.mem_cons_of_mem _ (ih p h)
set_option maxHeartbeats 4000000 in
theorem drop_ok (g b : Nat) (l : List (Int × Int)) (x : Int) (w : World) (hp : PoolIs w g b l) (hx : okI x) : Calls Try.prog 21 #[.pointer (some ⟨g, 0, none⟩), .int .i64 x] w fun e w' => e = .returned (.bool (mget l x).isSome) ∧ PoolIs w' g b (mdel l x) ∧ w.grownBy w' (some b) ∧ w'.heap.size = w.heap.size := by
  have hh := has_ok g b l x w hp hx
  have HH := Lib.hid hh
  have HM := Lib.hid hp.2.1
  have hc := hp.cell
  have HX := Lib.hid hx
  have hfin : ∀ w', MapIs kI okI w' b (mdel (mapII l) x) → w.grownBy w' (some b) → PoolIs w' g b (mdel l x) := fun w' h1 h2 => by
    rw [mdelII] at h1
    exact ⟨(h2.block g hp.ltg (fun e => hp.ne (by injection e))).trans hp.1, h1, fun p hpp => hp.2.2 p (mdel_sub p hpp)⟩
  have HF := Lib.hid hfin
  have hsame : (mget l x).isSome = false → PoolIs w g b (mdel l x) := fun h => by
    have : mdel l x = l := by
      clear hfin HF HM hc HX hh HH hp hx
      induction l with
      | nil => rfl
      | cons p r ih =>
        unfold mget at h
        unfold mdel
        by_cases e : p.1 = x
        · rw [if_pos e] at h; cases h
        · rw [if_neg e] at h
          rw [if_neg e, ih h]
    rw [this]; exact hp
  have HSM := Lib.hid hsame
  clear hp hx hh hfin hsame
  cases ht : (mget l x).isSome with
  | true =>
    rw [ht] at HH
    clear ht HSM
    go_enter Try.func21, Try.ntmps21
    go_wp2_with (first | (go_at_call 28; refine (HH.out).mono ?_; rintro e w' ⟨rfl, rfl⟩) | (at_delete; refine wp_del rfl (.tmp 13) (.tmp 14) 46 rfl keI Try.underlying46 rfl HM.out x HX.out rfl ?_; intro w2 hm2 hg2 hs2; have HM2 := Lib.hid hm2; have HG2 := Lib.hid hg2; have HS2 := Lib.hid hs2; clear hm2 hg2 hs2))
    go_ret
    exact ⟨rfl, HF.out _ HM2.out HG2.out, HG2.out, HS2.out⟩
  | false =>
    rw [ht] at HH
    have HPP := Lib.hid (HSM.out ht)
    clear ht HSM
    go_enter Try.func21, Try.ntmps21
    go_wp2_with (go_at_call 28; refine (HH.out).mono ?_; rintro e w' ⟨rfl, rfl⟩)
    go_ret
    exact ⟨rfl, HPP.out, World.grownBy.refl _ _, rfl⟩
set_option maxHeartbeats 2000000 in
theorem drop_nil (x : Int) (w : World) : Calls Try.prog 21 #[.pointer none, .int .i64 x] w fun e w' => e = .returned (.bool false) ∧ w' = w := by
  go_enter Try.func21, Try.ntmps21
  go_wp2_with (go_at_call 28; refine (has_nil x _).mono ?_; rintro e w' ⟨rfl, rfl⟩)
  go_ret
  exact ⟨rfl, rfl⟩
end Go.Proofs.Ytnkgbnipcjgjeaa
