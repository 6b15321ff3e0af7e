import Derived.Test.YtnkgbnipcjgjeaaBs
import Derived.Test.YtnkgbnipcjgjeaaWShare
import Derived.Test.YtnkgbnipcjgjeaaProg
import Derived.Deep.RegionHeld3
import Derived.Deep.QuietTactic
import Derived.BigQuiet
import Derived.WalkSpells
namespace Go.Proofs.Ytnkgbnipcjgjeaa
open Go.RowKit Go.Lib Go.Proofs.YtnkgbnipcjgjeaaW.PrintWords Go.Proofs.YtnkgbnipcjgjeaaW.PrintLast Go.Proofs.YtnkgbnipcjgjeaaW.PrintMore
set_option linter.unusedVariables false
abbrev kB : Kd Int := Kd.int .u8
abbrev Hdr := Option Addr × Nat × Nat
def vH (h : Hdr) : Value := .slice h.1 h.2.1 h.2.2
def kH : Kd Hdr := Kd.scalar vH (fun _ => rfl)
theorem info5 : (Try.prog.info? 5).map (fun i => (i.zero, i.size, i.bytes)) = some (some (.int .u8 0), 1, 1) := by kernel_rfl
theorem info54 : (Try.prog.info? 54).map (fun i => (i.zero, i.size, i.bytes)) = some (some (.agg #[.int .i64 0, .int .i64 0, .slice none 0 0]), 3, 40) := by kernel_rfl
theorem R_empty {α : Type} (enc : α → Value) {h1 : ∀ x : α, (enc x).oneCell' = true} (e : Nat) (w : World) (ok : Nat → Prop) (hok : ∀ k, w.heap.size ≤ k → ok k) :
    (Kd.scalar enc h1).R e (w.alloc (.cells #[] e)) w.heap.size ok (.slice (some ⟨w.heap.size, 0, none⟩) 0 0) [] := by
  refine ⟨fun k hk => hok k (by simp [Value.ownBlock] at hk; omega), [], ⟨rfl, .inr ⟨w.heap.size, 0, #[], rfl, Nat.le_refl _, blk_new w _, Nat.le_refl _, Nat.zero_le _, rfl, rfl⟩⟩, Reps.none _ _⟩
/-! Lists in step. -/
def All2 {α β : Type} (R : α → β → Prop) : List α → List β → Prop
  | [], [] => True
  | a :: us, b :: ws => R a b ∧ All2 R us ws
  | _, _ => False
section
variable {α β : Type} {R R' : α → β → Prop}
theorem All2.imp (hR : ∀ a b, R a b → R' a b) : ∀ {us : List α} {ws : List β}, All2 R us ws → All2 R' us ws
  | [], [], _ => trivial
  | _ :: _, _ :: _, h => ⟨hR _ _ h.1, All2.imp hR h.2⟩
  | [], _ :: _, h => h.elim
  | _ :: _, [], h => h.elim
theorem All2.len : ∀ {us : List α} {ws : List β}, All2 R us ws → us.length = ws.length
  | [], [], _ => rfl
  | _ :: _, _ :: _, h => by rw [List.length_cons, List.length_cons, All2.len h.2]
  | [], _ :: _, h => h.elim
  | _ :: _, [], h => h.elim
theorem All2.app : ∀ {us us2 : List α} {ws ws2 : List β}, All2 R us ws → All2 R us2 ws2 → All2 R (us ++ us2) (ws ++ ws2)
  | [], _, [], _, _, h => h
  | _ :: _, _, _ :: _, _, h, h2 => ⟨h.1, All2.app h.2 h2⟩
  | [], _, _ :: _, _, h, _ => h.elim
  | _ :: _, _, [], _, h, _ => h.elim
theorem All2.snoc {a : α} {b : β} (hab : R a b) {us : List α} {ws : List β} (h : All2 R us ws) : All2 R (us ++ [a]) (ws ++ [b]) := All2.app h ⟨hab, trivial⟩
theorem All2.get : ∀ {us : List α} {ws : List β} {i : Nat} {a : α}, All2 R us ws → us[i]? = some a → ∃ b, ws[i]? = some b ∧ R a b
  | a :: us, b :: ws, 0, x, h, e => ⟨b, rfl, by obtain rfl := Option.some.inj e; exact h.1⟩
  | a :: us, b :: ws, i + 1, x, h, e => All2.get (i := i) h.2 e
  | [], [], _, _, _, e => by simp at e
  | [], _ :: _, _, _, h, _ => h.elim
  | _ :: _, [], _, _, h, _ => h.elim
theorem All2.get' : ∀ {us : List α} {ws : List β} {i : Nat} {b : β}, All2 R us ws → ws[i]? = some b → ∃ a, us[i]? = some a ∧ R a b
  | a :: us, b :: ws, 0, x, h, e => ⟨a, rfl, by obtain rfl := Option.some.inj e; exact h.1⟩
  | a :: us, b :: ws, i + 1, x, h, e => All2.get' (i := i) h.2 e
  | [], [], _, _, _, e => by simp at e
  | [], _ :: _, _, _, h, _ => h.elim
  | _ :: _, [], _, _, h, _ => h.elim
theorem All2.set {a : α} {b : β} (hab : R a b) : ∀ {us : List α} {ws : List β} {i : Nat}, All2 R us ws → All2 R (us.set i a) (ws.set i b)
  | [], [], _, _ => trivial
  | _ :: _, _ :: _, 0, h => ⟨hab, h.2⟩
  | _ :: _, _ :: _, i + 1, h => ⟨h.1, All2.set hab h.2⟩
  | [], _ :: _, _, h => h.elim
  | _ :: _, [], _, h => h.elim
theorem All2.drop : ∀ {us : List α} {ws : List β} (i : Nat), All2 R us ws → All2 R (us.drop i) (ws.drop i)
  | _, _, 0, h => by rw [List.drop_zero, List.drop_zero]; exact h
  | [], [], i + 1, h => trivial
  | _ :: _, _ :: _, i + 1, h => All2.drop i h.2
  | [], _ :: _, _ + 1, h => h.elim
  | _ :: _, [], _ + 1, h => h.elim
theorem All2.take : ∀ {us : List α} {ws : List β} (i : Nat), All2 R us ws → All2 R (us.take i) (ws.take i)
  | _, _, 0, h => by rw [List.take_zero, List.take_zero]; trivial
  | [], [], i + 1, h => trivial
  | _ :: _, _ :: _, i + 1, h => ⟨h.1, All2.take i h.2⟩
  | [], _ :: _, _ + 1, h => h.elim
  | _ :: _, [], _ + 1, h => h.elim
end
/-! What is read, and stays: what came in, and rows of bytes. -/
def Keep (F : Nat → Prop) (w w' : World) : Prop := ∀ k, F k → w'.heap[k]? = w.heap[k]?
def Bt (N0 : Nat) (w : World) : Nat → Prop := fun k => k < N0 ∨ ∃ cs fr, w.heap[k]? = some (.cells cs 5 fr)
theorem Bt.keep {N0 : Nat} {w w' : World} (h : Keep (Bt N0 w) w w') : ∀ k, Bt N0 w k → Bt N0 w' k := fun k hk => by
  rcases hk with h1 | ⟨cs, fr, h1⟩
  · exact .inl h1
  · exact .inr ⟨cs, fr, (h k (.inr ⟨cs, fr, h1⟩)).trans h1⟩
theorem Bt.lt {N0 : Nat} {w : World} (hN : N0 ≤ w.heap.size) {k : Nat} (h : Bt N0 w k) : k < w.heap.size := by
  rcases h with h | ⟨cs, fr, h⟩
  · omega
  · exact blk_lt h
theorem Bt.below {N0 : Nat} {w w' : World} (hN : N0 ≤ w.heap.size) (hb : Below w.heap.size w w') : Keep (Bt N0 w) w w' := fun k hk => hb.block k (Bt.lt hN hk)
theorem Bt.mods {N0 : Nat} {w w' : World} {S : Nat → Prop} (hN : N0 ≤ w.heap.size) (hm : Mods w w' S) (hS : ∀ k, S k → ¬ Bt N0 w k) : Keep (Bt N0 w) w w' := fun k hk => hm.block k (Bt.lt hN hk) (fun h => hS k h hk)
/-- Bytes that a header reads. -/
def DatF (w : World) (N0 : Nat) (h : Hdr) (xs : List Int) : Prop := h.2.1 = xs.length ∧ xs.length ≤ h.2.2 ∧ Kd.F kB w (Bt N0 w) h.1 xs.length xs
theorem DatF.move {w w' : World} {N0 : Nat} {h : Hdr} {xs : List Int} (hd : DatF w N0 h xs) (hk : Keep (Bt N0 w) w w') : DatF w' N0 h xs :=
  ⟨hd.1, hd.2.1, Kd.F_mono (Kd.F_step hd.2.2 (fun k ho _ => hk k ho)) (Bt.keep hk)⟩
theorem DatF.c {w : World} {N0 : Nat} {h : Hdr} {xs : List Int} (hd : DatF w N0 h xs) : Kd.C kB w h.1 xs.length xs := Kd.F_now hd.2.2
theorem DatF.nil (w : World) (N0 c : Nat) (A : Option Addr) : DatF w N0 (A, 0, c) [] := ⟨rfl, Nat.zero_le _, fun W' _ => ⟨rfl, by decide, fun h => absurd h (Nat.lt_irrefl _)⟩⟩
/-- A row of bytes of one's own. -/
theorem DatF.own {w : World} {N0 base : Nat} {ok : Nat → Prop} {A : Option Addr} {m c : Nat} {xs : List Int} (h : Kd.R kB 5 w base ok (.slice A m c) xs) : DatF w N0 (A, m, c) xs := by
  obtain ⟨A2, c2, he, hc, hC⟩ := Kd.R_reads h
  injection he with e1 e2 e3
  subst e1 e2 e3
  refine ⟨rfl, hc, fun W' hW => ?_⟩
  have hb := Kd.R_bound h
  have h2 := Kd.R_move (w1 := W') hb (fun k hk => by
    obtain ⟨_, _, hlt, q, hq, cs, hc⟩ := hk
    have : q ∈ [5] := hq
    rw [List.mem_singleton.1 this] at hc
    exact hW k (.inr ⟨cs, _, hc⟩) hlt)
  obtain ⟨A3, c3, he, hc3, hC3⟩ := Kd.R_reads h2
  injection he with e1 _ _
  rw [e1]; exact hC3
/-- Bytes that came in. -/
theorem DatF.came {w0 w : World} {A : Option Addr} {n c : Nat} {xs : List Int} (hn : n = xs.length) (hc : n ≤ c) (h : Kd.C kB w0 A xs.length xs) (hb : Below w0.heap.size w0 w) : DatF w w0.heap.size (A, n, c) xs := by
  refine ⟨hn, hn ▸ hc, fun W' hW => ⟨h.1, h.2.1, fun hp => ?_⟩⟩
  obtain ⟨ad, e, hc⟩ := h.2.2 hp
  refine ⟨ad, e, fun j p hj => ?_⟩
  obtain ⟨c, hs, hr, hcell⟩ := hc j p hj
  refine ⟨c, hs, hr, fun i u hu => ?_⟩
  have h1 := hcell i u hu
  have hlt := World.block_lt_of_cell? w0 _ h1
  refine (World.cell?_of_block (w := w0) ?_).trans h1
  exact (hW _ (.inl hlt) (Nat.lt_of_lt_of_le hlt hb.size)).trans (hb.block _ hlt)
/-! Entries: as headers, and what they read as. -/
abbrev Eh := Int × Int × Hdr
abbrev Ent := Int × Int × List Int
abbrev kEh : Kd Eh := Kd.pair (Kd.int .i64) (Kd.pair (Kd.int .i64) kH)
def ehV (h : Eh) : Value := .agg #[.int .i64 h.1, .int .i64 h.2.1, .slice h.2.2.1 h.2.2.2.1 h.2.2.2.2]
def ehC (h : Eh) : List Value := [.int .i64 h.1, .int .i64 h.2.1, .slice h.2.2.1 h.2.2.2.1 h.2.2.2.2]
def EntF (w : World) (N0 : Nat) (h : Eh) (e : Ent) : Prop := h.1 = e.1 ∧ h.2.1 = e.2.1 ∧ DatF w N0 h.2.2 e.2.2
def EAll (w : World) (N0 : Nat) (hs : List Eh) (es : List Ent) : Prop := All2 (EntF w N0) hs es
theorem EntF.move {w w' : World} {N0 : Nat} {h : Eh} {x : Ent} (he : EntF w N0 h x) (hk : Keep (Bt N0 w) w w') : EntF w' N0 h x := ⟨he.1, he.2.1, he.2.2.move hk⟩
theorem EAll.move {w w' : World} {N0 : Nat} {hs : List Eh} {es : List Ent} (h : EAll w N0 hs es) (hk : Keep (Bt N0 w) w w') : EAll w' N0 hs es := All2.imp (fun _ _ h => h.move hk) h
theorem kEh_K {w : World} {h : Eh} {c : List Value} (hK : kEh.K w h c) : c = ehC h := by
  obtain ⟨_, _, rfl, rfl, ⟨_, _, rfl, rfl, rfl⟩⟩ := hK
  rfl
theorem kEh_mk (w : World) (h : Eh) : kEh.K w h (ehC h) := ⟨[_], _, rfl, rfl, ⟨[_], [_], rfl, rfl, rfl⟩⟩
/-- A row of headers that is read: its cells. -/
theorem rowE_of_C {A : Option Addr} {hs : List Eh} {w : World} (hr : Kd.C kEh w A hs.length hs) (hp : 0 < hs.length) :
    ∃ b off, A = some ⟨b, off, none⟩ ∧ b < w.heap.size ∧ ∀ j h, hs[j]? = some h → w.cell? ⟨b, off + j * 3, none⟩ = some (.int .i64 h.1) ∧ w.cell? ⟨b, off + j * 3 + 1, none⟩ = some (.int .i64 h.2.1) ∧ w.cell? ⟨b, off + j * 3 + 2, none⟩ = some (.slice h.2.2.1 h.2.2.2.1 h.2.2.2.2) := by
  obtain ⟨ad, rfl, hc⟩ := hr.2.2 hp
  have hcells : ∀ j h, hs[j]? = some h → ∀ i u, (ehC h)[i]? = some u → w.cell? (ad.add (j * 3 + i)) = some u := fun j h hj i u hu => by
    obtain ⟨c, _, hK, hcell⟩ := hc j h hj
    rw [kEh_K hK] at hcell
    exact hcell i u hu
  have h0 := hcells 0 _ (List.getElem?_eq_getElem hp) 0 _ rfl
  rw [Nat.zero_mul, Nat.zero_add] at h0
  have e : ad = ⟨ad.block, ad.off, none⟩ := spotless (show w.cell? ad = some _ from h0)
  refine ⟨ad.block, ad.off, by rw [← e], ?_, fun j h hj => ?_⟩
  · have := World.block_lt_of_cell? w _ h0
    rw [e, add_plain] at this
    exact this
  · have hx := hcells j h hj
    have a0 := hx 0 _ rfl
    have a1 := hx 1 _ rfl
    have a2 := hx 2 _ rfl
    rw [e, add_plain] at a0 a1 a2
    exact ⟨a0, a1, a2⟩
end Go.Proofs.Ytnkgbnipcjgjeaa
