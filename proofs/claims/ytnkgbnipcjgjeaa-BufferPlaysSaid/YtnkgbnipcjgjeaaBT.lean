import Derived.Test.YtnkgbnipcjgjeaaBR
namespace Go.Proofs.Ytnkgbnipcjgjeaa
open Go.RowKit Go.Lib Go.Proofs.YtnkgbnipcjgjeaaW.PrintWords Go.Proofs.YtnkgbnipcjgjeaaW.PrintLast Go.Proofs.YtnkgbnipcjgjeaaW.PrintMore
set_option linter.unusedVariables false
/-- The buffer, and the document's. -/
structure Both (w : World) (N0 g : Nat) (v : Value) (gr : Nat) (vr : Value) (es1 es2 : List Ent) (most size : Nat) : Prop where
  b : BufIs w N0 g v es1 most size
  r : RBufIs w N0 gr vr es2 most size
  ne : ∀ k, v.ownBlock = some k → vr.ownBlock ≠ some k
section
variable {w w' : World} {N0 g gr : Nat} {v v' vr vr' : Value} {es1 es2 fs : List Ent} {most size : Nat}
theorem Both.below (h : Both w N0 g v gr vr es1 es2 most size) (hb : Below w.heap.size w w') : Both w' N0 g v gr vr es1 es2 most size := ⟨h.b.below hb, h.r.below hb, h.ne⟩
theorem Both.drewN (h : Both w N0 g v gr vr es1 es2 most size) (q : Nat) : Both (w.drewN q) N0 g v gr vr es1 es2 most size := h.below (pw_below_drewN (Below.refl _ _) q)
theorem Both.gne (h : Both w N0 g v gr vr es1 es2 most size) : ∀ k, BufS gr vr k → ¬ BufS g v k := fun k hk hs => by
  rcases hk with rfl | hk <;> rcases hs with hs | hs
  · subst hs
    have := h.r.blk
    rw [h.b.blk] at this; injection this with this; injection this with _ h2 _; cases h2
  · obtain ⟨_, _, _, cs, hc⟩ := h.b.own hs
    rw [h.r.blk] at hc; injection hc with hc; injection hc with _ h2 _; cases h2
  · subst hs
    obtain ⟨_, _, _, cs, hc⟩ := h.r.own hk
    rw [h.b.blk] at hc; injection hc with hc; injection hc with _ h2 _; cases h2
  · exact h.ne k hs hk
theorem Both.putB (h : Both w N0 g v gr vr es1 es2 most size) (hB : BufIs w' N0 g v' fs most size) (hm : Mods w w' (BufS g v)) (hv : v'.ownBlock = v.ownBlock ∨ ∃ k, v'.ownBlock = some k ∧ w.heap.size ≤ k) : Both w' N0 g v' gr vr fs es2 most size := by
  refine ⟨hB, h.r.mods hm (h.gne gr (.inl rfl)) (fun k hk => h.gne k (.inr hk)) h.b.notBt, fun k hk hr => ?_⟩
  rcases hv with hv | ⟨q, h1, h2⟩
  · rw [hv] at hk; exact h.ne k hk hr
  · rw [h1] at hk; injection hk with hk
    have := (h.r.own hr).1
    omega
theorem Both.putR (h : Both w N0 g v gr vr es1 es2 most size) (hB : RBufIs w' N0 gr vr' fs most size) (hm : Mods w w' (fun q => q = gr)) (hv : vr'.ownBlock = vr.ownBlock ∨ vr'.ownBlock = none ∨ ∃ k, vr'.ownBlock = some k ∧ w.heap.size ≤ k) : Both w' N0 g v gr vr' es1 fs most size := by
  refine ⟨h.b.mods hm (fun e => h.gne gr (.inl rfl) (.inl e.symm)) (fun k hk e => h.gne gr (.inl rfl) (.inr (by rw [← e]; exact hk))) (fun k e => h.r.notBt k (.inl e)), hB, fun k hk hr => ?_⟩
  rcases hv with hv | hv | ⟨q, h1, h2⟩
  · rw [hv] at hr; exact h.ne k hk hr
  · rw [hv] at hr; cases hr
  · rw [h1] at hr; injection hr with hr
    have := (h.b.own hk).1
    omega
end
abbrev Dof := Int × Ent × List Int
abbrev kDf : Kd Dof := Kd.pair (Kd.int .i64) (Kd.pair kEn (Kd.slice 3 (Kd.int .i64)))
/-- What is done, as it came in. -/
theorem rowD {w : World} {A : Option Addr} {l : List Dof} (h : Kd.C kDf w A l.length l) {j : Nat} (hj : j < l.length) :
    ∃ b off A1 c1 A2 c2, A = some ⟨b, off, none⟩ ∧ w.cell? ⟨b, off + j * 5, none⟩ = some (.int .i64 l[j].1) ∧ w.cell? ⟨b, off + j * 5 + 1, none⟩ = some (.int .i64 l[j].2.1.1) ∧ w.cell? ⟨b, off + j * 5 + 2, none⟩ = some (.int .i64 l[j].2.1.2.1) ∧
      w.cell? ⟨b, off + j * 5 + 3, none⟩ = some (.slice A1 l[j].2.1.2.2.length c1) ∧ w.cell? ⟨b, off + j * 5 + 4, none⟩ = some (.slice A2 l[j].2.2.length c2) ∧ DatF w w.heap.size (A1, l[j].2.1.2.2.length, c1) l[j].2.1.2.2 ∧ Kd.C (Kd.int .i64) w A2 l[j].2.2.length l[j].2.2 := by
  obtain ⟨ad, rfl, hc⟩ := h.2.2 (by omega)
  obtain ⟨c, hcl, hK, hcell⟩ := hc j _ (List.getElem?_eq_getElem hj)
  obtain ⟨_, _, rfl, rfl, ⟨_, _, rfl, ⟨_, _, rfl, rfl, ⟨_, _, rfl, rfl, ⟨A1, c1, rfl, hl1, hC1⟩⟩⟩, ⟨A2, c2, rfl, hl2, hC2⟩⟩⟩ := hK
  have h0 := hcell 0 _ rfl
  obtain ⟨c0, _, hK0, hcell0⟩ := hc 0 _ (List.getElem?_eq_getElem (show 0 < l.length by omega))
  obtain ⟨_, _, rfl, rfl, _⟩ := hK0
  have h00 := hcell0 0 _ rfl
  rw [Nat.zero_mul, Nat.zero_add] at h00
  have e : ad = ⟨ad.block, ad.off, none⟩ := spotless (show w.cell? ad = some _ from h00)
  have a1 := hcell 1 _ rfl
  have a2 := hcell 2 _ rfl
  have a3 := hcell 3 _ rfl
  have a4 := hcell 4 _ rfl
  rw [e, add_plain] at h0 a1 a2 a3 a4
  exact ⟨ad.block, ad.off, A1, c1, A2, c2, by rw [← e], h0, a1, a2, a3, a4, DatF.came rfl hl1 hC1 (Below.refl _ _), hC2⟩
end Go.Proofs.Ytnkgbnipcjgjeaa
