import Derived.Test.YtnkgbnipcjgjeaaFP1
import Derived.Shelf.SlIterI.Collect
import Derived.Shelf.SlIterI.Keys
namespace Go.Proofs.Ytnkgbnipcjgjeaa
open Go.RowKit Go.Shelf Go.Sort Go.Lib Go.Maps Go.MapKept Go.ChangeMaps Go.Proofs.YtnkgbnipcjgjeaaW.PrintWords Go.Proofs.YtnkgbnipcjgjeaaW.PrintLast Go.Proofs.YtnkgbnipcjgjeaaW.PrintMore
set_option linter.unusedVariables false
def mapII (l : List (Int × Int)) : List (Int × Value) := l.map fun p => (p.1, Value.int .i64 p.2)
theorem pairs_eq {es : List MapEntry} {l : List (Int × Int)} (he : es.map (fun e => (e.key, e.val)) = (mapII l).map (fun p => (kI p.1, p.2))) : ∀ e ∈ es, ∃ p ∈ l, e.key = .int .i64 p.1 ∧ e.val = .int .i64 p.2 := fun e hm => by
  have : (e.key, e.val) ∈ (mapII l).map (fun p => (kI p.1, p.2)) := by rw [← he]; exact List.mem_map.2 ⟨e, hm, rfl⟩
  obtain ⟨q, hq, h⟩ := List.mem_map.1 this
  obtain ⟨p, hp, rfl⟩ := List.mem_map.1 hq
  injection h with h1 h2
  exact ⟨p, hp, h1.symm, h2.symm⟩
/-- A map of ints to ints, in the library's own word. -/
theorem MapIs.owns {H : Type} {P : Program} {k e : TypeId} {w : World} {b : Nat} {l : List (Int × Int)} (h : MapIs kI okI w b (mapII l)) (hk : P.underlying k = some (.int .i64)) (he : P.underlying e = some (.int .i64)) (hv : ∀ p ∈ l, okI p.2) (hl : l.length ≤ maxLen) :
    ∃ D : DataW H, w.ownsMap P k (plainElem P e) b l.length D ∧ (intKeys D).Perm (l.map (·.1)) ∧ Maps.size D = l.length := by
  obtain ⟨es, clock, hb, hs, hes, hok⟩ := h
  have hp := pairs_eq hes
  have hok' : ∀ p ∈ l, okI p.1 := fun p hp => hok (p.1, Value.int .i64 p.2) (List.mem_map.2 ⟨p, hp, rfl⟩)
  have hrd : ∀ x ∈ es.toList, ∃ p ∈ l, x.key = .int .i64 p.1 ∧ Go.WideElems.rd (H := H) P k (plainElem P e) x = some (.int .i64 p.1, .lit (.int .i64 p.2)) := fun x hx => by
    obtain ⟨p, hpl, h1, h2⟩ := hp x hx
    refine ⟨p, hpl, h1, ?_⟩
    have e1 : keyOf P k x.key = some (.int .i64 p.1) := by rw [h1]; exact keyOf_int_mk hk (hok' p hpl)
    have e2 : plainElem (H := H) P e x.val = some (.lit (.int .i64 p.2), []) := by rw [h2]; exact plainElem_int he (hv p hpl)
    exact Go.WideElems.rd_mk (born := x.born) e1 e2
  have hsz : es.size = l.length := by
    have := congrArg List.length hes
    simpa [mapII] using this
  refine ⟨.map ((es.toList.map (Go.WideElems.rg P k (plainElem P e))).foldr DataW.insert []), ⟨es, clock, hb, ⟨by omega, hs, fun x hx => ?_⟩, by omega, rfl⟩, ?_, ?_⟩
  · obtain ⟨p, _, _, h⟩ := hrd x hx
    exact ⟨_, h⟩
  · show ((((es.toList.map (Go.WideElems.rg P k (plainElem P e))).foldr DataW.insert [])).map fun p => _root_.Go.intOf p.1).Perm _
    refine ((Go.WideShapes.sorted_perm _).map _).trans ?_
    rw [List.map_map]
    have e1 : es.toList.map ((fun p : Lit × DataW H => _root_.Go.intOf p.1) ∘ Go.WideElems.rg P k (plainElem P e)) = es.toList.map (fun x => match x.key with | .int _ n => n | _ => 0) := List.map_congr_left fun x hx => by
      obtain ⟨p, hpl, h1, h⟩ := hrd x hx
      show _root_.Go.intOf (Go.WideElems.rg P k (plainElem P e) x).1 = _
      unfold Go.WideElems.rg
      rw [h, h1]; rfl
    rw [e1]
    have e2 : es.toList.map (fun x => match x.key with | .int _ n => n | _ => 0) = (es.toList.map (fun e => (e.key, e.val))).map (fun q => match q.1 with | .int _ n => n | _ => 0) := by rw [List.map_map]; rfl
    rw [e2, hes]
    unfold mapII
    rw [List.map_map, List.map_map]
    exact List.Perm.refl _
  · have e1 := (Go.WideShapes.sorted_perm (es.toList.map (Go.WideElems.rg (H := H) P k (plainElem P e)))).length_eq
    show List.length _ = _
    rw [e1, List.length_map, ← hsz]; simp
end Go.Proofs.Ytnkgbnipcjgjeaa
