import Derived.Test.YtnkgbnipcjgjeaaMp
import Derived.WideKeyEntry
namespace Go.Proofs.Ytnkgbnipcjgjeaa
open Go.RowKit Go.Maps Go.MapKept Go.ChangeMaps Go.WideElems
set_option linter.unusedVariables false
section
variable {κ : Type} {P : Program} {k t e : TypeId} {kv : κ → Value} {ok : κ → Prop} {w : World} {b : Nat} {l : List (κ × Value)}
/-- 'm[x] = f(m[x])': the entry first, then the store behind whatever leaves the map's block. -/
theorem MapIs.entry [DecidableEq κ] (h : MapIs kv ok w b l) (K : KEnc P k kv ok) (ht : P.underlying t = some (.map k e)) {z : Value} (hz : ∀ u : World, (zeroValue e).run P u = .ok z u) {x : κ} (hx : ok x) :
    ∃ (st : Nat) (w1 : World), (Instr.mapEntry t (.map (some b)) (kv x)).run P w = .ok (.tuple #[(mget l x).getD z, goInt st]) w1 ∧ w.grownBy w1 (some b) ∧ w1.heap.size = w.heap.size ∧ (∃ es c, w1.heap[b]? = some (.map es c)) ∧
      ∀ (w2 : World) (val : Value), w2.heap[b]? = w1.heap[b]? → ∃ w3, (Instr.entryStore t (.map (some b)) (goInt st) val).run P w2 = .ok () w3 ∧ MapIs kv ok w3 b (mput l x val) ∧ w2.grownBy w3 (some b) ∧ w3.heap.size = w2.heap.size := by
  have hn := h.nodup
  obtain ⟨es, clock, hb, hs, he, hok⟩ := h
  obtain ⟨lx, hlx⟩ := K.lit x hx
  have hg : ∀ (w : World) (es0 : Array MapEntry) (c0 : Nat) (o : Obj), w.heap[b]? = some (.map es0 c0) → w.grownBy (setBlock w b o) (some b) := fun w es0 c0 o hb => ⟨rfl, rfl, rfl, by simp [setBlock], fun i _ hi => heap_setBlock_other hb _ (fun e => hi (by rw [e]))⟩
  obtain ⟨s1, s2, _⟩ := id hs
  rcases find_l K w he hok hx with ⟨h1, h2, h3⟩ | ⟨j, v0, h1, h2, e0, h3, h4, h5⟩
  · refine ⟨clock, setBlock w b (.map (es.push ⟨kv x, z, clock⟩) (clock + 1)), ?_, hg w _ _ _ hb, by simp [setBlock], ⟨_, _, heap_setBlock_same hb _⟩, fun w2 val hw2 => ?_⟩
    · rw [mget_none h2]
      simp [Instr.mapEntry, run_underlying ht, MapKept.run_getObj_map hb, K.keyed.check w false hlx, h1, hz, MapKept.run_setObj_map _ hb, Result.andThen, setBlock]
    · have hw3 : w2.heap[b]? = some (.map (es.push ⟨kv x, z, clock⟩) (clock + 1)) := hw2.trans (heap_setBlock_same hb _)
      have hidx : (es.push ⟨kv x, z, clock⟩).findIdx? (fun e => ((e.born : Nat) : Int) == ((clock : Nat) : Int)) = some es.size := by
        rw [findIdx_arr]
        have := findIdx_born (l := (es.push ⟨kv x, z, clock⟩).toList) (j := es.size) (e0 := ⟨kv x, z, clock⟩) (by
          simp only [Array.toList_push, List.map_append, List.map_cons, List.map_nil]
          refine List.nodup_append.2 ⟨s2, by simp, fun a ha c hc e1 => ?_⟩
          simp only [List.mem_singleton] at hc
          obtain ⟨x, hx, rfl⟩ := List.mem_map.1 ha
          have := s1 x hx
          omega) (by simp)
        exact this
      have hmod : (es.push ⟨kv x, z, clock⟩).modify es.size (fun e => { e with val := val }) = es.push ⟨kv x, val, clock⟩ := by
        apply Array.ext'
        rw [Array.toList_modify, Array.toList_push, Array.toList_push, ← Array.length_toList, modify_last]
      refine ⟨setBlock w2 b (.map (es.push ⟨kv x, val, clock⟩) (clock + 1)), ?_, ⟨_, _, heap_setBlock_same hw3 _, stamped_push hs h3, ?_, ?_⟩, hg w2 _ _ _ hw3, by simp [setBlock]⟩
      · simp [Instr.entryStore, MapKept.run_getObj_map hw3, asInt, asIntOf, goInt, hidx, hmod, MapKept.run_setObj_map _ hw3, Result.andThen, setBlock]
      · rw [mput_none val h2, Array.toList_push, List.map_append, he, List.map_append]; rfl
      · rw [mput_none val h2]
        intro p hp
        rcases List.mem_append.1 hp with hp | hp
        · exact hok p hp
        · obtain rfl : p = (x, val) := by simpa using hp
          exact hx
  · have hsame : es.modify j (fun e => { e with key := kv x }) = es := by
      apply Array.ext'
      have h2' : es.toList[j]? = some e0 := by simpa using h3
      rw [Array.toList_modify, modify_eq_set _ _ _ _ h2']
      have : ({ e0 with key := kv x } : MapEntry) = e0 := by rw [← h4]
      rw [this]
      exact set_self _ _ _ h2'
    refine ⟨e0.born, setBlock w b (.map es clock), ?_, hg w _ _ _ hb, by simp [setBlock], ⟨_, _, heap_setBlock_same hb _⟩, fun w2 val hw2 => ?_⟩
    · rw [(m_some hn h2).1]
      simp [Instr.mapEntry, run_underlying ht, MapKept.run_getObj_map hb, K.keyed.check w false hlx, h1, h3, h4, K.keyed.stays w hlx, hsame, MapKept.run_setObj_map _ hb, Result.andThen, setBlock]
    · have hw3 : w2.heap[b]? = some (.map es clock) := hw2.trans (heap_setBlock_same hb _)
      have h2' : es.toList[j]? = some e0 := by simpa using h3
      have hidx : es.findIdx? (fun e => ((e.born : Nat) : Int) == ((e0.born : Nat) : Int)) = some j := by
        rw [findIdx_arr]
        exact findIdx_born s2 h2'
      refine ⟨setBlock w2 b (.map (es.modify j fun e => { e with val := val }) clock), ?_, ⟨_, _, heap_setBlock_same hw3 _, stamped_modify hs j _ (fun _ _ => rfl) (fun e' _ _ => rfl), ?_, ?_⟩, hg w2 _ _ _ hw3, by simp [setBlock]⟩
      · simp [Instr.entryStore, MapKept.run_getObj_map hw3, asInt, asIntOf, goInt, hidx, MapKept.run_setObj_map _ hw3, Result.andThen, setBlock]
      · rw [(m_some hn h2).2.1 val]
        apply List.ext_getElem?
        intro i
        have hi := congrArg (fun l => l[i]?) he
        simp only [List.getElem?_map, Array.getElem?_toList] at hi
        simp only [List.getElem?_map, Array.getElem?_toList, Array.getElem?_modify, List.getElem?_set]
        by_cases hij : j = i
        · subst hij
          have hl : j < l.length := (List.getElem?_eq_some_iff.1 h2).1
          rw [if_pos rfl, if_pos rfl, if_pos hl, h3]
          show some (e0.key, val) = some (kv x, val)
          rw [h4]
        · rw [if_neg hij, if_neg hij]
          exact hi
      · rw [(m_some hn h2).2.1 val]
        intro p hp
        rcases List.mem_or_eq_of_mem_set hp with hp | rfl
        · exact hok p hp
        · exact hx
end
end Go.Proofs.Ytnkgbnipcjgjeaa
