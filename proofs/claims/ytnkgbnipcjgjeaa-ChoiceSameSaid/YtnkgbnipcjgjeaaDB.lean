import Derived.Test.YtnkgbnipcjgjeaaDA
namespace Go.Proofs.Ytnkgbnipcjgjeaa
open Go.RowKit Go.Shelf Go.Sort Go.Lib Go.Proofs.YtnkgbnipcjgjeaaW.PrintWords Go.Proofs.YtnkgbnipcjgjeaaW.PrintLast Go.Proofs.YtnkgbnipcjgjeaaW.PrintMore
set_option linter.unusedVariables false
/-! Lists in step. -/
def All2 {α β : Type} (R : α → β → Prop) : List α → List β → Prop
  | [], [] => True
  | a :: us, b :: ws => R a b ∧ All2 R us ws
  | _, _ => False
section
variable {α β : Type} {R R' : α → β → Prop}
theorem All2.imp (hR : ∀ a b, R a b → R' a b) : ∀ {us : List α} {ws : List β}, All2 R us ws → All2 R' us ws
  | [], [], _ => trivial
  | _ :: _, _ :: _, h => ⟨hR _ _ h.1, All2.imp hR h.2⟩
  | [], _ :: _, h => h.elim
  | _ :: _, [], h => h.elim
theorem All2.len : ∀ {us : List α} {ws : List β}, All2 R us ws → us.length = ws.length
  | [], [], _ => rfl
  | _ :: _, _ :: _, h => by rw [List.length_cons, List.length_cons, All2.len h.2]
  | [], _ :: _, h => h.elim
  | _ :: _, [], h => h.elim
theorem All2.snoc {a : α} {b : β} (hab : R a b) : ∀ {us : List α} {ws : List β}, All2 R us ws → All2 R (us ++ [a]) (ws ++ [b])
  | [], [], _ => ⟨hab, trivial⟩
  | _ :: _, _ :: _, h => ⟨h.1, All2.snoc hab h.2⟩
  | [], _ :: _, h => h.elim
  | _ :: _, [], h => h.elim
theorem All2.get : ∀ {us : List α} {ws : List β} {i : Nat} {a : α}, All2 R us ws → us[i]? = some a → ∃ b, ws[i]? = some b ∧ R a b
  | a :: us, b :: ws, 0, x, h, e => ⟨b, rfl, by obtain rfl := Option.some.inj e; exact h.1⟩
  | a :: us, b :: ws, i + 1, x, h, e => All2.get (i := i) h.2 e
  | [], [], _, _, _, e => by simp at e
  | [], _ :: _, _, _, h, _ => h.elim
  | _ :: _, [], _, _, h, _ => h.elim
theorem All2.get' : ∀ {us : List α} {ws : List β} {i : Nat} {b : β}, All2 R us ws → ws[i]? = some b → ∃ a, us[i]? = some a ∧ R a b
  | a :: us, b :: ws, 0, x, h, e => ⟨a, rfl, by obtain rfl := Option.some.inj e; exact h.1⟩
  | a :: us, b :: ws, i + 1, x, h, e => All2.get' (i := i) h.2 e
  | [], [], _, _, _, e => by simp at e
  | [], _ :: _, _, _, h, _ => h.elim
  | _ :: _, [], _, _, h, _ => h.elim
theorem All2.set {a : α} {b : β} (hab : R a b) : ∀ {us : List α} {ws : List β} {i : Nat}, All2 R us ws → All2 R (us.set i a) (ws.set i b)
  | [], [], _, _ => trivial
  | _ :: _, _ :: _, 0, h => ⟨hab, h.2⟩
  | _ :: _, _ :: _, i + 1, h => ⟨h.1, All2.set hab h.2⟩
  | [], _ :: _, _, h => h.elim
  | _ :: _, [], _, h => h.elim
theorem All2.drop : ∀ {us : List α} {ws : List β} (i : Nat), All2 R us ws → All2 R (us.drop i) (ws.drop i)
  | _, _, 0, h => by rw [List.drop_zero, List.drop_zero]; exact h
  | [], [], i + 1, h => trivial
  | _ :: _, _ :: _, i + 1, h => All2.drop i h.2
  | [], _ :: _, _ + 1, h => h.elim
  | _ :: _, [], _ + 1, h => h.elim
end
/-! Rows of rows of bytes, read whatever happens outside the blocks F. -/
def Keep (F : Nat → Prop) (w w' : World) : Prop := ∀ k, F k → w'.heap[k]? = w.heap[k]?
def HSt (w : World) (F : Nat → Prop) (hs : List Hdr) (rows : List (List Int)) : Prop := All2 (fun (h : Hdr) (xs : List Int) => h.2.1 = xs.length ∧ xs.length ≤ h.2.2 ∧ ∀ w', Keep F w w' → kB.C w' h.1 xs.length xs) hs rows
def VSt (w : World) (F : Nat → Prop) (v : Value) (rows : List (List Int)) : Prop := ∃ A c hs, v = .slice A rows.length c ∧ rows.length ≤ c ∧ (∀ w', Keep F w w' → kH.C w' A rows.length hs) ∧ HSt w F hs rows
def MSt (w : World) (F : Nat → Prop) (vs : List (Int × Value)) (l : List (Int × List (List Int))) : Prop := All2 (fun p q => p.1 = q.1 ∧ VSt w F p.2 q.2) vs l
section
variable {w w' : World} {F F' : Nat → Prop}
theorem Keep.trans {w2 : World} (h : Keep F w w') (h2 : Keep F w' w2) : Keep F w w2 := fun k hk => (h2 k hk).trans (h k hk)
theorem Keep.refl (F : Nat → Prop) (w : World) : Keep F w w := fun _ _ => rfl
theorem HSt.move {hs : List Hdr} {rows : List (List Int)} (h : HSt w F hs rows) (hk : Keep F w w') (hF : ∀ k, F k → F' k) : HSt w' F' hs rows :=
  All2.imp (fun a b hab => ⟨hab.1, hab.2.1, fun w2 h2 => hab.2.2 w2 (fun k hk2 => (h2 k (hF k hk2)).trans (hk k hk2))⟩) h
theorem VSt.move {v : Value} {rows : List (List Int)} (h : VSt w F v rows) (hk : Keep F w w') (hF : ∀ k, F k → F' k) : VSt w' F' v rows := by
  obtain ⟨A, c, hs, h1, h2, h3, h4⟩ := h
  exact ⟨A, c, hs, h1, h2, fun w2 h5 => h3 w2 (fun k hk2 => (h5 k (hF k hk2)).trans (hk k hk2)), h4.move hk hF⟩
theorem MSt.move {vs : List (Int × Value)} {l : List (Int × List (List Int))} (h : MSt w F vs l) (hk : Keep F w w') (hF : ∀ k, F k → F' k) : MSt w' F' vs l := All2.imp (fun a b hab => ⟨hab.1, hab.2.move hk hF⟩) h
theorem MSt.look {vs : List (Int × Value)} {l : List (Int × List (List Int))} (h : MSt w F vs l) (x : Int) : (mget l x = none ∧ mget vs x = none) ∨ ∃ rows v, mget l x = some rows ∧ mget vs x = some v ∧ VSt w F v rows := by
  induction vs generalizing l with
  | nil =>
    cases l with
    | nil => exact .inl ⟨rfl, rfl⟩
    | cons q l => exact h.elim
  | cons p vs ih =>
    cases l with
    | nil => exact h.elim
    | cons q l =>
      obtain ⟨⟨h1, h2⟩, h3⟩ := h
      unfold mget
      by_cases e : p.1 = x
      · rw [if_pos e, if_pos (h1 ▸ e)]
        exact .inr ⟨_, _, rfl, rfl, h2⟩
      · rw [if_neg e, if_neg (h1 ▸ e)]
        exact ih h3
theorem MSt.put {vs : List (Int × Value)} {l : List (Int × List (List Int))} (h : MSt w F vs l) (x : Int) {v : Value} {rows : List (List Int)} (hv : VSt w F v rows) : MSt w F (mput vs x v) (mput l x rows) := by
  induction vs generalizing l with
  | nil =>
    cases l with
    | nil => exact ⟨⟨rfl, hv⟩, trivial⟩
    | cons q l => exact h.elim
  | cons p vs ih =>
    cases l with
    | nil => exact h.elim
    | cons q l =>
      obtain ⟨⟨h1, h2⟩, h3⟩ := h
      unfold mput
      by_cases e : p.1 = x
      · rw [if_pos e, if_pos (h1 ▸ e)]
        exact ⟨⟨h1, hv⟩, h3⟩
      · rw [if_neg e, if_neg (h1 ▸ e)]
        exact ⟨⟨h1, h2⟩, ih h3⟩
end
/-- What was made between two worlds, or was there. -/
def Fp (F : Nat → Prop) (w w' : World) : Nat → Prop := fun k => F k ∨ (w.heap.size ≤ k ∧ k < w'.heap.size)
theorem Keep.fp {F : Nat → Prop} {w w1 w2 : World} (hF : ∀ k, F k → k < w1.heap.size) (hb : Below w1.heap.size w1 w2) : Keep (Fp F w w1) w1 w2 := fun k hk => hb.block k (by rcases hk with h | h; exact hF k h; exact h.2)
theorem r_keep {v : Value} {xs : List Int} {w w1 : World} {F : Nat → Prop} (h : kB.R 5 w1 w.heap.size (fun _ => True) v xs) : ∃ A c, v = .slice A xs.length c ∧ xs.length ≤ c ∧ ∀ w', Keep (Fp F w w1) w1 w' → kB.C w' A xs.length xs := by
  obtain ⟨A, c, rfl, hc, _⟩ := Kd.R_reads h
  refine ⟨A, c, rfl, hc, fun w' hk => ?_⟩
  have h2 := Kd.R_move (w1 := w') (Kd.R_bound h) (fun k hb => hk k (.inr ⟨hb.2.1, hb.2.2.1⟩))
  obtain ⟨A2, c2, he, hc2, hC⟩ := Kd.R_reads h2
  injection he with e1 _ _
  rw [e1]
  exact hC
theorem rH_keep {v : Value} {hs : List Hdr} {w w1 : World} {F : Nat → Prop} (h : kH.R 52 w1 w.heap.size (fun _ => True) v hs) : ∃ A c, v = .slice A hs.length c ∧ hs.length ≤ c ∧ ∀ w', Keep (Fp F w w1) w1 w' → kH.C w' A hs.length hs := by
  obtain ⟨A, c, rfl, hc, _⟩ := Kd.R_reads h
  refine ⟨A, c, rfl, hc, fun w' hk => ?_⟩
  have h2 := Kd.R_move (w1 := w') (Kd.R_bound h) (fun k hb => hk k (.inr ⟨hb.2.1, hb.2.2.1⟩))
  obtain ⟨A2, c2, he, hc2, hC⟩ := Kd.R_reads h2
  injection he with e1 _ _
  rw [e1]
  exact hC
abbrev Rec := List (Int × List (List Int))
def zeros (sz : Nat) : List Int := List.replicate sz 0
/-- A sector's values. -/
def ofV (l : Rec) (sz : Nat) (s : Int) : List (List Int) := (mget l s).getD [zeros sz]
/-- The record at block g. -/
structure RecIs (w : World) (g b n sz : Nat) (F : Nat → Prop) (l : Rec) : Prop where
  blk : w.heap[g]? = some (.cells #[.map (some b), .int .i64 n, .int .i64 sz] 158 (0, 0))
  map : ∃ vs, MapIs kI okI w b vs ∧ MSt w F vs l
  foot : ∀ k, F k → k < w.heap.size ∧ k ≠ g ∧ k ≠ b
  wf : ∀ p ∈ l, 0 ≤ p.1 ∧ p.1 < n ∧ p.2 ≠ [] ∧ ∀ r ∈ p.2, r.length = sz ∧ ∀ x ∈ r, 0 ≤ x ∧ x < 256
  small : n ≤ 65536 ∧ sz ≤ 8192
section
variable {w w' : World} {g b n sz : Nat} {F : Nat → Prop} {l : Rec}
theorem RecIs.ltg (h : RecIs w g b n sz F l) : g < w.heap.size := blk_lt h.blk
theorem RecIs.ltb (h : RecIs w g b n sz F l) : b < w.heap.size := by obtain ⟨vs, h1, _⟩ := h.map; exact h1.lt
theorem RecIs.ne (h : RecIs w g b n sz F l) : g ≠ b := by
  obtain ⟨vs, ⟨es, c, hb, _⟩, _⟩ := h.map
  intro e
  rw [← e, h.blk] at hb
  cases hb
theorem RecIs.at_ (h : RecIs w g b n sz F l) (h1 : w'.heap[g]? = w.heap[g]?) (h2 : w'.heap[b]? = w.heap[b]?) (h3 : Keep F w w') (h4 : w.heap.size ≤ w'.heap.size) : RecIs w' g b n sz F l := by
  obtain ⟨a1, ⟨vs, a2, a3⟩, a4, a5, a6⟩ := h
  exact ⟨h1.trans a1, ⟨vs, a2.at_ h2, a3.move h3 (fun _ h => h)⟩, fun k hk => ⟨Nat.lt_of_lt_of_le (a4 k hk).1 h4, (a4 k hk).2⟩, a5, a6⟩
theorem RecIs.below (h : RecIs w g b n sz F l) (hb : Below w.heap.size w w') : RecIs w' g b n sz F l := h.at_ (hb.block g h.ltg) (hb.block b h.ltb) (fun k hk => hb.block k (h.foot k hk).1) hb.size
theorem RecIs.drewN (h : RecIs w g b n sz F l) (q : Nat) : RecIs (w.drewN q) g b n sz F l := h.at_ rfl rfl (fun _ _ => rfl) (Nat.le_refl _)
theorem RecIs.mods {S : Nat → Prop} (h : RecIs w g b n sz F l) (hm : Mods w w' S) (h1 : ¬ S g) (h2 : ¬ S b) (h3 : ∀ k, F k → ¬ S k) : RecIs w' g b n sz F l := h.at_ (hm.block g h.ltg h1) (hm.block b h.ltb h2) (fun k hk => hm.block k (h.foot k hk).1 (h3 k hk)) hm.size
theorem RecIs.grown {row : Option Nat} (h : RecIs w g b n sz F l) (hm : w.grownBy w' row) (h1 : some g ≠ row) (h2 : some b ≠ row) (h3 : ∀ k, F k → some k ≠ row) : RecIs w' g b n sz F l := h.at_ (hm.block g h.ltg h1) (hm.block b h.ltb h2) (fun k hk => hm.block k (h.foot k hk).1 (h3 k hk)) hm.size
theorem RecIs.cell (h : RecIs w g b n sz F l) : w.cell? ⟨g, 0, none⟩ = some (.map (some b)) := blk_cell h.blk 0
/-- A record with nothing in it: for any F. -/
theorem RecIs.reF (h : RecIs w g b n sz F []) (F' : Nat → Prop) (hF : ∀ k, F' k → k < w.heap.size ∧ k ≠ g ∧ k ≠ b) : RecIs w g b n sz F' [] := by
  obtain ⟨a1, ⟨vs, a2, a3⟩, a4, a5, a6⟩ := h
  cases vs with
  | nil => exact ⟨a1, ⟨[], a2, trivial⟩, hF, a5, a6⟩
  | cons p vs => exact a3.elim
end
theorem c_one1 {α : Type} {enc : α → Value} {h1 : ∀ x, (enc x).oneCell' = true} {W : World} {b e : Nat} {x : α} (h : W.heap[b]? = some (.cells #[enc x] e (0, 0))) : (Kd.scalar enc h1).C W (some ⟨b, 0, none⟩) 1 [x] := by
  refine ⟨rfl, by decide, fun _ => ⟨⟨b, 0, none⟩, rfl, fun j p hp => ?_⟩⟩
  match j, hp with
  | 0, hp =>
    obtain rfl := Option.some.inj hp
    refine ⟨[enc x], rfl, rfl, fun i u hu => ?_⟩
    match i, hu with
    | 0, hu =>
      obtain rfl := Option.some.inj hu
      exact blk_cell h 0
    | i + 1, hu => simp at hu
  | j + 1, hp => simp at hp
theorem keI' : KEnc Try.prog 3 kI okI := kencI Try.underlying3
theorem zero102 (w : World) : (zeroValue 102).run Try.prog w = .ok (.slice none 0 0) w := Try.zeroValue102 w
set_option maxHeartbeats 2000000 in
set_option maxRecDepth 100000 in
theorem dnew_ok (n sz : Nat) (w : World) (h1 : 1 ≤ n) (h2 : n ≤ 65536) (h3 : 1 ≤ sz) (h4 : sz ≤ 8192) :
    Calls Try.prog 54 #[.int .i64 n, .int .i64 sz] w fun e w' => (∃ g b, e = .returned (.tuple #[.pointer (some ⟨g, 0, none⟩), .int .i64 0]) ∧ RecIs w' g b n sz (fun _ => False) [] ∧ w.heap.size ≤ g ∧ w.heap.size ≤ b) ∧ Below w.heap.size w w' := by
  have hmm := @run_makeMap Try.prog
  have hu156 := Try.underlying156
  have b1 : decide ((n : Int) < 1) = false := decide_eq_false (by omega)
  have b2 : decide (65536 < (n : Int)) = false := decide_eq_false (by omega)
  have b3 : decide ((sz : Int) < 1) = false := decide_eq_false (by omega)
  have b4 : decide (8192 < (sz : Int)) = false := decide_eq_false (by omega)
  have HM := Lib.hid ((MapIs.new kI okI w).alloc (.cells #[.map (some w.heap.size), .int .i64 n, .int .i64 sz] 158))
  have HB := Lib.hid (((Below.refl w.heap.size w).alloc (Nat.le_refl _) (.map #[] 0)).alloc (by simp) (.cells #[.map (some w.heap.size), .int .i64 n, .int .i64 sz] 158))
  have HK := Lib.hid (blk_new (w.alloc (.map #[] 0)) (.cells #[.map (some w.heap.size), .int .i64 n, .int .i64 sz] 158))
  go_enter Try.func54, Try.ntmps54
  go_wp2_with fail
  go_ret2
  refine ⟨⟨_, w.heap.size, rfl, ⟨?_, ⟨[], HM.out, trivial⟩, fun _ h => h.elim, fun p hp => by simp at hp, h2, h4⟩, by omega, Nat.le_refl _⟩, HB.out⟩
  have h := HK.out
  rw [World.size_alloc] at h
  exact h
set_option maxHeartbeats 2000000 in
set_option maxRecDepth 100000 in
theorem dnew_bad (n sz : Int) (w : World) (h : n < 1 ∨ 65536 < n ∨ sz < 1 ∨ 8192 < sz) :
    Calls Try.prog 54 #[.int .i64 n, .int .i64 sz] w fun e w' => e = .returned (.tuple #[.pointer none, .int .i64 2]) ∧ w' = w := by
  by_cases h1 : n < 1
  · clear h
    go_enter Try.func54, Try.ntmps54
    go_wp2_with fail
    go_ret2
    exact ⟨rfl, rfl⟩
  · by_cases h2 : 65536 < n
    · clear h
      go_enter Try.func54, Try.ntmps54
      go_wp2_with fail
      go_ret2
      exact ⟨rfl, rfl⟩
    · by_cases h3 : sz < 1
      · clear h
        go_enter Try.func54, Try.ntmps54
        go_wp2_with fail
        go_ret2
        exact ⟨rfl, rfl⟩
      · have h4 : 8192 < sz := by omega
        clear h
        go_enter Try.func54, Try.ntmps54
        go_wp2_with fail
        go_ret2
        exact ⟨rfl, rfl⟩
/-- Is there a sector? 0, or why not. -/
def mayE (n : Nat) (s : Int) : Int := if 0 ≤ s ∧ s < n then 0 else 2
set_option maxHeartbeats 2000000 in
set_option maxRecDepth 100000 in
theorem may_ok {w : World} {g b n sz : Nat} {F : Nat → Prop} {l : Rec} (s : Int) (h : RecIs w g b n sz F l) : Calls Try.prog 99 #[.pointer (some ⟨g, 0, none⟩), .int .i64 s] w fun e w' => e = .returned (.int .i64 (mayE n s)) ∧ w' = w := by
  have c0 := h.cell
  have c1 : w.cell? ⟨g, 1, none⟩ = some (.int .i64 n) := blk_cell h.blk 1
  have hq := fun W => run_eql_map_nil W 156 3 102 (some b) Try.underlying156
  clear h
  unfold mayE
  by_cases h1 : s < 0
  · rw [if_neg (by omega)]
    go_enter Try.func99, Try.ntmps99
    go_wp2_with fail
    go_ret
    exact ⟨rfl, rfl⟩
  · by_cases h2 : (n : Int) ≤ s
    · rw [if_neg (by omega)]
      go_enter Try.func99, Try.ntmps99
      go_wp2_with fail
      go_ret
      exact ⟨rfl, rfl⟩
    · rw [if_pos (by omega)]
      go_enter Try.func99, Try.ntmps99
      go_wp2_with fail
      go_ret
      exact ⟨rfl, rfl⟩
set_option maxHeartbeats 2000000 in
set_option maxRecDepth 100000 in
theorem may_nil (w : World) (s : Int) : Calls Try.prog 99 #[.pointer none, .int .i64 s] w fun e w' => e = .returned (.int .i64 1) ∧ w' = w := by
  go_enter Try.func99, Try.ntmps99
  go_wp2_with fail
  go_ret
  exact ⟨rfl, rfl⟩
set_option maxHeartbeats 2000000 in
set_option maxRecDepth 100000 in
theorem of_ok {w : World} {g b n sz : Nat} {F : Nat → Prop} {l : Rec} (s : Int) (h : RecIs w g b n sz F l) (hs : okI s) : Calls Try.prog 101 #[.pointer (some ⟨g, 0, none⟩), .int .i64 s] w fun e w' => (∃ v, e = .returned v ∧ VSt w' (Fp F w w') v (ofV l sz s)) ∧ Below w.heap.size w w' := by
  have c0 := h.cell
  have c2 : w.cell? ⟨g, 2, none⟩ = some (.int .i64 sz) := blk_cell h.blk 2
  obtain ⟨vs, hm, hst⟩ := h.map
  have HM := Lib.hid hm
  have HS := Lib.hid hs
  have hfoot := h.foot
  have hsm := h.small
  unfold ofV
  rcases hst.look s with ⟨h1, h2⟩ | ⟨rows, v, h1, h2, h3⟩
  · rw [h1]
    have HL := Lib.hid h2
    clear h hm hst h1 h2 hs
    go_enter Try.func101, Try.ntmps101
    go_wp2_with (first | (at_lookup; refine wp_look rfl (.tmp 11) (.tmp 12) 156 true rfl keI' Try.underlying156 (zero102 _) rfl HM.out s HS.out rfl ?_; rw [if_pos rfl, HL.out]) | (at_make; refine Kd.R_make kB (w0 := w) w.heap.size 5 rfl rfl 52 (.tmp 21) (.tmp 21) rfl (sz : Int) rfl rfl Try.underlying52 (.int .u8 0) 1 info5 rfl (by decide) (by decide) 0 (ok := fun _ => True) (okp := fun _ => True) rfl (fun _ h => h) trivial (by omega) (by have := hsm.2; simp; omega) (Below.refl _ _) (Nat.le_refl _) ?_; intro v1 w1 hr1 hb1 hg1 hat1; obtain ⟨A1, c1, rfl, hc1, hk1⟩ := r_keep (F := F) hr1; rw [Int.toNat_natCast] at hc1 hk1 ⊢; rw [List.length_replicate] at hc1 hk1 ⊢; have HC1 := Lib.hid hc1; have HK1 := Lib.hid hk1; have HB1 := Lib.hid hb1; clear hr1 hb1 hg1 hat1 hc1 hk1))
    go_ret
    have hs1 := HB1.out.size
    refine ⟨⟨_, rfl, some ⟨w1.heap.size, 0, none⟩, 1, [(A1, sz, c1)], rfl, Nat.le_refl _, fun w' hk => ?_, ⟨⟨by unfold zeros; simp, by unfold zeros; rw [List.length_replicate]; exact HC1.out, fun w' hk => ?_⟩, trivial⟩⟩, HB1.out.alloc hs1 _⟩
    · exact c_one1 (enc := vH) (h1 := fun _ => rfl) (x := (A1, sz, c1)) ((hk w1.heap.size (.inr ⟨hs1, by simp⟩)).trans (blk_new w1 _))
    · show kB.C w' A1 (zeros sz).length (zeros sz)
      unfold zeros
      rw [List.length_replicate]
      refine HK1.out w' (fun k hF => ?_)
      refine (hk k ?_).trans (Below.heap_alloc w1 _ k ?_)
      · rcases hF with hF | hF
        · exact .inl hF
        · exact .inr ⟨hF.1, by simp; omega⟩
      · rcases hF with hF | hF
        · exact Nat.lt_of_lt_of_le (hfoot k hF).1 hs1
        · exact hF.2
  · rw [h1]
    obtain ⟨A, c, hh, rfl, h4, h5, h6⟩ := h3
    have HL := Lib.hid h2
    clear h hm hst hfoot h1 h2 hs
    go_enter Try.func101, Try.ntmps101
    go_wp2_with (at_lookup; refine wp_look rfl (.tmp 11) (.tmp 12) 156 true rfl keI' Try.underlying156 (zero102 _) rfl HM.out s HS.out rfl ?_; rw [if_pos rfl, HL.out])
    go_ret
    exact ⟨⟨_, rfl, A, c, hh, rfl, h4, fun w' hk => h5 w' (fun k hF => hk k (.inl hF)), HSt.move h6 (fun _ _ => rfl) (fun k hF => .inl hF)⟩, Below.refl _ _⟩
end Go.Proofs.Ytnkgbnipcjgjeaa
