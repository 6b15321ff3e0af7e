import Derived.Test.YtfmogmgdpamfgaaWWords
import Derived.ProofKit
import Derived.OpenShut
import Derived.Deep.Slices
namespace Go.Proofs.Ytfmogmgdpamfgaa
open Go.RowKit Go.Deep Go.Proofs.YtfmogmgdpamfgaaW.PrintWords

/-- What reads at type t is of kind kd, and its value meets Wf. -/
def Opens {α : Type} (P : Program) (t : TypeId) (kd : Kd α) (Wf : α → Prop) : Prop :=
  P.cellsOf t = kd.sz ∧ ∀ {H : Type} (enc : TypeId × Value → H) (W : World) (base : Nat) (spare : Nat → Bool) (held : Bool) (fuel : Nat) (cs : List Value) (y : DataW H × List MemPlace),
    DataW.trod enc P W base spare held fuel t cs = some y → ∃ x, kd.K W x cs ∧ Wf x

theorem opens_int {P : Program} {t : TypeId} {k : IntKind} (ht : P.underlying t = some (.int k)) (hc : P.cellsOf t = 1) : Opens P t (Kd.int k) (fun n => (Lit.int k n).wf = true) := by
  refine ⟨hc, fun enc W base spare held fuel cs y h => ?_⟩
  obtain ⟨n, rfl, _, hw⟩ := DataW.trod_int ht h
  exact ⟨n, rfl, hw⟩
theorem opens_bool {P : Program} {t : TypeId} (ht : P.underlying t = some .bool) (hc : P.cellsOf t = 1) : Opens P t Kd.bool (fun _ => True) := by
  refine ⟨hc, fun enc W base spare held fuel cs y h => ?_⟩
  obtain ⟨n, rfl, _⟩ := DataW.trod_bool ht h
  exact ⟨n, rfl, trivial⟩
theorem opens_slice {α : Type} {P : Program} {t e : TypeId} {kd : Kd α} {Wf : α → Prop} (ht : P.underlying t = some (.slice e)) (hc : P.cellsOf t = 1) (he : Opens P e kd Wf) : Opens P t (Kd.slice e kd) (fun xs => ∀ x ∈ xs, Wf x) := by
  refine ⟨hc, fun enc W base spare held fuel cs y h => ?_⟩
  rcases open_slice ht h with ⟨rfl, _⟩ | ⟨a, len, cap, m, n, D, Pl, rfl, _, hl, hm, hme, _, hel⟩
  · exact ⟨[], ⟨none, 0, rfl, by simp, Kd.C_nil kd W⟩, fun x hx => by simp at hx⟩
  · have hlm : len ≤ m := by rw [hme]; split <;> omega
    have hx : ∀ i, i < len → ∃ x, (∃ cs', W.cells? base (a.add (i * P.cellsOf e)) (P.cellsOf e) = some cs' ∧ kd.K W x cs') ∧ Wf x := by
      intro i hi
      obtain ⟨cs', h1, h2⟩ := hel i (by omega)
      obtain ⟨x, hk, hw⟩ := he.2 enc W base spare held n cs' _ h2
      exact ⟨x, ⟨cs', h1, hk⟩, hw⟩
    obtain ⟨f, hf⟩ : ∃ f : Nat → Option α, ∀ i, i < len → ∃ x, f i = some x ∧ (∃ cs', W.cells? base (a.add (i * P.cellsOf e)) (P.cellsOf e) = some cs' ∧ kd.K W x cs') ∧ Wf x := by
      refine ⟨fun i => if h : i < len then some (Classical.choose (hx i h)) else none, fun i hi => ⟨_, dif_pos hi, Classical.choose_spec (hx i hi)⟩⟩
    obtain ⟨xs, hxl, hxs⟩ : ∃ xs : List α, xs.length = len ∧ ∀ i, i < len → xs[i]? = f i := by
      clear hel hx
      have : ∀ m, m ≤ len → ∃ xs : List α, xs.length = m ∧ ∀ i, i < m → xs[i]? = f i := by
        intro m
        induction m with
        | zero => exact fun _ => ⟨[], rfl, fun i hi => by omega⟩
        | succ m ih =>
          intro hm
          obtain ⟨xs, h1, h2⟩ := ih (by omega)
          obtain ⟨x, hx, _⟩ := hf m (by omega)
          refine ⟨xs ++ [x], by simp [h1], fun i hi => ?_⟩
          rcases Nat.lt_or_ge i m with hlt | hge
          · rw [List.getElem?_append_left (by omega)]; exact h2 i hlt
          · obtain rfl : i = m := by omega
            rw [List.getElem?_append_right (by omega), h1]; simp [hx]
      exact this len (Nat.le_refl _)
    refine ⟨xs, ⟨some a, cap, by rw [hxl], by omega, ?_⟩, ?_⟩
    · refine ⟨rfl, by unfold maxLen at hm; omega, fun hn => ⟨a, rfl, fun j p hj => ?_⟩⟩
      have hj' : j < len := by have := (List.getElem?_eq_some_iff.1 hj).1; omega
      obtain ⟨x, h1, ⟨cs', h2, h3⟩, _⟩ := hf j hj'
      have hp : x = p := by rw [hxs j hj', h1] at hj; exact Option.some.inj hj
      subst hp
      refine ⟨cs', kd.K_len h3, h3, fun i u hu => ?_⟩
      obtain ⟨_, h4, h5⟩ := World.cells?_some h2
      have hi : i < P.cellsOf e := by have := (List.getElem?_eq_some_iff.1 hu).1; omega
      have h6 := h5 i hi
      rw [hu, Addr.add_add, he.1] at h6
      exact h6
    · intro x hx
      obtain ⟨j, hj, rfl⟩ := List.getElem_of_mem hx
      obtain ⟨x', h1, _, h4⟩ := hf j (by omega)
      have := hxs j (by omega)
      rw [List.getElem?_eq_getElem hj, h1] at this
      rw [Option.some.inj this]; exact h4
/-- Fields in line, from a place on. -/
structure OpensFs {α : Type} (P : Program) (fs : List Field) (off : Nat) (kd : Kd α) (Wf : α → Prop) : Prop where
  out : ∀ {H : Type} (enc : TypeId × Value → H) (W : World) (base : Nat) (spare : Nat → Bool) (held : Bool) (n : Nat) (cs : List Value), off + kd.sz ≤ cs.length →
    (∀ (i : Nat) (f : Field), fs[i]? = some f → ∃ y, DataW.trod enc P W base spare held n f.type ((cs.drop f.offset).take (P.cellsOf f.type)) = some y) → ∃ x, kd.K W x ((cs.drop off).take kd.sz) ∧ Wf x
theorem opens_one {α : Type} {P : Program} {f : Field} {off : Nat} {kd : Kd α} {Wf : α → Prop} (ho : f.offset = off) (h : Opens P f.type kd Wf) : OpensFs P [f] off kd Wf := by
  constructor
  intro H enc W base spare held n cs _ hf
  obtain ⟨y, hy⟩ := hf 0 f rfl
  rw [ho, h.1] at hy
  exact h.2 enc W base spare held n _ y hy
theorem opens_more {α β : Type} {P : Program} {f : Field} {fs : List Field} {off : Nat} {kd : Kd α} {kd' : Kd β} {Wf : α → Prop} {Wf' : β → Prop} (ho : f.offset = off) (h : Opens P f.type kd Wf) (h' : OpensFs P fs (off + kd.sz) kd' Wf') :
    OpensFs P (f :: fs) off (Kd.pair kd kd') (fun x => Wf x.1 ∧ Wf' x.2) := by
  constructor
  intro H enc W base spare held n cs hlen hf
  have hsz : (Kd.pair kd kd').sz = kd.sz + kd'.sz := rfl
  rw [hsz] at hlen ⊢
  obtain ⟨y, hy⟩ := hf 0 f rfl
  rw [ho, h.1] at hy
  obtain ⟨x, hx, hw⟩ := h.2 enc W base spare held n _ y hy
  obtain ⟨x', hx', hw'⟩ := h'.out enc W base spare held n cs (by omega) (fun i g hg => hf (i + 1) g (by simpa using hg))
  refine ⟨(x, x'), ⟨_, _, ?_, hx, hx'⟩, hw, hw'⟩
  rw [List.take_add, List.drop_drop]
theorem opens_struct {α β : Type} {P : Program} {t : TypeId} {fs : Array Field} {kd : Kd α} {Wf : α → Prop} {f : β → α} (g : α → β) (hg : ∀ x, f (g x) = x) (ht : P.underlying t = some (.struct fs)) (hc : P.cellsOf t = kd.sz) (h : OpensFs P fs.toList 0 kd Wf) :
    Opens P t (Kd.iso kd f) (fun x => Wf (f x)) := by
  refine ⟨hc, fun enc W base spare held fuel cs y hy => ?_⟩
  obtain ⟨xs, n, _, _, hl, hsz, hf⟩ := DataW.trod_struct ht hy
  obtain ⟨x, hx, hw⟩ := h.out enc W base spare held n cs (by omega) (fun i f hfi => by
    rw [Array.getElem?_toList] at hfi
    have h1 := hf i f hfi
    have h2 : i < xs.length := by have := (Array.getElem?_eq_some_iff.1 hfi).1; omega
    rw [List.getElem?_eq_getElem h2] at h1
    exact ⟨_, h1⟩)
  refine ⟨g x, ?_, by show Wf (f (g x)); rw [hg]; exact hw⟩
  rw [List.drop_zero, List.take_of_length_le (by omega)] at hx
  show kd.K W (f (g x)) cs
  rw [hg]; exact hx
theorem opens_struct' {α : Type} {P : Program} {t : TypeId} {fs : Array Field} {kd : Kd α} {Wf : α → Prop} (ht : P.underlying t = some (.struct fs)) (hc : P.cellsOf t = kd.sz) (h : OpensFs P fs.toList 0 kd Wf) : Opens P t kd Wf :=
  ⟨hc, (opens_struct (f := id) id (fun _ => rfl) ht hc h).2⟩
/-- An array of n as fields in line. -/
theorem opens_array {α β : Type} {P : Program} {t e : TypeId} {n : Nat} {kd : Kd α} {Wf : α → Prop} {f : β → α} (g : α → β) (hg : ∀ x, f (g x) = x) (ht : P.underlying t = some (.array n e)) (hc : P.cellsOf t = kd.sz) (fs : List Field) (hn : fs.length = n) (hfs : ∀ (i : Nat) (x : Field), fs[i]? = some x → x.type = e ∧ x.offset = i * P.cellsOf e) (h : OpensFs P fs 0 kd Wf) :
    Opens P t (Kd.iso kd f) (fun x => Wf (f x)) := by
  refine ⟨hc, fun enc W base spare held fuel cs y hy => ?_⟩
  obtain ⟨xs, m, _, _, hl, hsz, hf⟩ := DataW.trod_array ht hy
  obtain ⟨x, hx, hw⟩ := h.out enc W base spare held m cs (by omega) (fun i f hfi => by
    have h2 : i < n := by have := (List.getElem?_eq_some_iff.1 hfi).1; omega
    have h1 := hf i h2
    obtain ⟨h3, h4⟩ := hfs i f hfi
    rw [List.getElem?_eq_getElem (by omega)] at h1
    rw [h3, h4]
    exact ⟨_, h1⟩)
  refine ⟨g x, ?_, by show Wf (f (g x)); rw [hg]; exact hw⟩
  rw [List.drop_zero, List.take_of_length_le (by omega)] at hx
  show kd.K W (f (g x)) cs
  rw [hg]; exact hx
theorem opens_array' {α : Type} {P : Program} {t e : TypeId} {n : Nat} {kd : Kd α} {Wf : α → Prop} (ht : P.underlying t = some (.array n e)) (hc : P.cellsOf t = kd.sz) (fs : List Field) (hn : fs.length = n) (hfs : ∀ (i : Nat) (x : Field), fs[i]? = some x → x.type = e ∧ x.offset = i * P.cellsOf e) (h : OpensFs P fs 0 kd Wf) : Opens P t kd Wf :=
  ⟨hc, (opens_array (f := id) id (fun _ => rfl) ht hc fs hn hfs h).2⟩
end Go.Proofs.Ytfmogmgdpamfgaa
