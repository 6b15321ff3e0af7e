import Derived.Test.YtnkgbnipcjgjeaaBJ
namespace Go.Proofs.Ytnkgbnipcjgjeaa
open Go.RowKit Go.Lib Go.Proofs.YtnkgbnipcjgjeaaW.PrintWords Go.Proofs.YtnkgbnipcjgjeaaW.PrintLast Go.Proofs.YtnkgbnipcjgjeaaW.PrintMore
set_option linter.unusedVariables false
/-- What a put comes to. -/
def putR (most size : Nat) (es : List Ent) (x : Ent) : Int × List Ent :=
  if RightP size x.1 x.2.1 x.2.2.length then (if 0 ≤ plc x.1 es 0 then (0, es.set (plc x.1 es 0).toNat x) else if es.length = most then (3, es) else (0, es ++ [x])) else (2, es)
def putL (most size : Nat) (es : List Ent) (x : Ent) : List Ent := (putR most size es x).2
section
variable {w : World} {N0 g : Nat} {v : Value} {es : List Ent} {most size : Nat}
theorem BufIs.lowS (h : BufIs w N0 g v es most size) : ∀ k, BufS g v k → N0 ≤ k := fun k hk => hk.elim (fun e => e ▸ h.lo) (fun e => (h.own e).2.1)
theorem BufIs.belowS {w0 w' : World} (h : BufIs w N0 g v es most size) (hb : Below N0 w0 w) (hm : Mods w w' (BufS g v)) : Below N0 w0 w' := Mods.toBelow hb hm h.hN h.lowS
theorem bput_any (h : BufIs w N0 g v es most size) (s k : Int) (hd : Hdr) (xs : List Int) (hx : DatF w N0 hd xs) (hxl : xs.length ≤ 100000) :
    Calls Try.prog 32 #[.pointer (some ⟨g, 0, none⟩), .agg #[.int .i64 s, .int .i64 k, .slice hd.1 hd.2.1 hd.2.2]] w fun e w' => e = .returned (.int .i64 (putR most size es (s, k, xs)).1) ∧ ∃ v', BufIs w' N0 g v' (putL most size es (s, k, xs)) most size ∧ Mods w w' (BufS g v) ∧ (v'.ownBlock = v.ownBlock ∨ ∃ k, v'.ownBlock = some k ∧ w.heap.size ≤ k) := by
  have hn : hd.2.1 = xs.length := hx.1
  unfold putL putR
  by_cases hr : RightP size s k xs.length
  · rw [if_pos hr]
    by_cases hp : 0 ≤ plc s es 0
    · rw [if_pos hp]
      obtain ⟨i, hi⟩ := Int.eq_ofNat_of_zero_le hp
      have hil : i < es.length := by have := plc_lt s es 0; omega
      refine (bput_set h s k hd xs hx hxl hr i hi hil).mono ?_
      rintro e w' ⟨rfl, h1, h2⟩
      rw [hi, Int.toNat_natCast]
      exact ⟨rfl, v, h1, h2, .inl rfl⟩
    · rw [if_neg hp]
      by_cases hf : es.length = most
      · rw [if_pos hf]
        have := bput_full h s k hd.1 hd.2.1 hd.2.2 (hn ▸ hr) (by omega) hf
        refine this.mono ?_
        rintro e w' ⟨rfl, h1⟩
        exact ⟨rfl, v, h.below h1, Mods.of_below h1 _, .inl rfl⟩
      · rw [if_neg hf]
        refine (bput_more h s k hd xs hx hxl hr (by omega) (by have := h.fit; omega)).mono ?_
        rintro e w' ⟨rfl, v', h1, h2, h3⟩
        exact ⟨rfl, v', h1, h2, h3⟩
  · rw [if_neg hr]
    have := bput_bad h s k hd.1 hd.2.1 hd.2.2 (hn ▸ hr)
    refine this.mono ?_
    rintro e w' ⟨rfl, h1⟩
    exact ⟨rfl, v, h.below h1, Mods.of_below h1 _, .inl rfl⟩
end
/-! The plain law. -/
def sec (es : List Ent) : List Int := es.map (·.1)
/-- Entries of a buffer: right ones, of sectors of their own. -/
def Good (size : Nat) (es : List Ent) : Prop := (sec es).Nodup ∧ ∀ e ∈ es, RightP size e.1 e.2.1 e.2.2.length
theorem plc_neg {s : Int} : ∀ {es : List Ent} {k : Nat}, plc s es k < 0 → ∀ e ∈ es, e.1 ≠ s
  | [], _, _, e, he => by simp at he
  | x :: r, k, h, e, he => by
    rw [plc] at h
    split at h
    · omega
    · rename_i hne
      rcases List.mem_cons.1 he with rfl | he
      · exact hne
      · exact plc_neg h e he
theorem plc_sec {s : Int} : ∀ {es : List Ent} {k i : Nat}, plc s es k = ((k + i : Nat) : Int) → (sec es)[i]? = some s
  | [], k, i, h => by rw [plc] at h; omega
  | x :: r, k, i, h => by
    rw [plc] at h
    split at h
    · rename_i e
      obtain rfl : i = 0 := by omega
      rw [← e]; rfl
    · match i with
      | 0 => have := plc_lt s r (k + 1); omega
      | i + 1 =>
        have := plc_sec (es := r) (k := k + 1) (i := i) (by rw [h]; omega)
        exact this
theorem plc_at {s : Int} : ∀ {es : List Ent} {k i : Nat}, (sec es).Nodup → (sec es)[i]? = some s → plc s es k = ((k + i : Nat) : Int)
  | [], k, i, _, h => by simp [sec] at h
  | x :: r, k, 0, hn, h => by
    have : x.1 = s := by simpa [sec] using h
    rw [plc, if_pos this]; rfl
  | x :: r, k, i + 1, hn, h => by
    have hn' := List.nodup_cons.1 hn
    have h' : (sec r)[i]? = some s := h
    have hne : x.1 ≠ s := fun e => hn'.1 (by show x.1 ∈ sec r; rw [e]; exact List.mem_of_getElem? h')
    rw [plc, if_neg hne, plc_at (k := k + 1) hn'.2 h']
    omega
theorem good_put {most size : Nat} {es : List Ent} (x : Ent) (h : Good size es) : Good size (putL most size es x) := by
  unfold putL putR
  split
  · rename_i hr
    split
    · rename_i hp
      obtain ⟨i, hi⟩ := Int.eq_ofNat_of_zero_le hp
      have hs := plc_sec (es := es) (k := 0) (i := i) (by rw [hi]; omega)
      have e : sec (es.set (plc x.1 es 0).toNat x) = sec es := by
        unfold sec at hs ⊢
        rw [hi, Int.toNat_natCast, List.map_set]
        apply List.ext_getElem?
        intro j
        rw [List.getElem?_set]
        by_cases e : i = j
        · subst e
          rw [if_pos rfl, if_pos (List.getElem?_eq_some_iff.1 hs).1, hs]
        · rw [if_neg e]
      refine ⟨by rw [e]; exact h.1, fun y hy => ?_⟩
      rcases List.mem_or_eq_of_mem_set hy with hy | rfl
      · exact h.2 y hy
      · exact hr
    · rename_i hp
      split
      · exact h
      · refine ⟨?_, fun y hy => ?_⟩
        · have hne := plc_neg (s := x.1) (es := es) (k := 0) (by omega)
          unfold sec
          rw [List.map_append]
          refine List.nodup_append.2 ⟨h.1, by simp, fun a ha b hb => ?_⟩
          have hb' : b = x.1 := by simpa using hb
          obtain ⟨y, hy, rfl⟩ := List.mem_map.1 ha
          rw [hb']; exact hne y hy
        · rcases List.mem_append.1 hy with hy | hy
          · exact h.2 y hy
          · rw [List.mem_singleton.1 hy]; exact hr
  · exact h
theorem dropL_head : ∀ (j : Nat) (es : List Ent), dropL es ((sec es).take j) = es.drop j
  | 0, es => by rw [List.take_zero, List.drop_zero]; rfl
  | j + 1, [] => by rfl
  | j + 1, e :: r => by
    have : drop1 (e :: r) e.1 = r := by unfold drop1; rw [plc, if_pos rfl]; rfl
    show dropL (drop1 (e :: r) e.1) ((sec r).take j) = r.drop j
    rw [this]
    exact dropL_head j r
theorem oldN_all (n : Int) (m : Nat) (h : (m : Int) ≤ n) : oldN n m = m := by
  unfold oldN
  rw [if_neg (by omega)]
  split
  · rfl
  · omega
end Go.Proofs.Ytnkgbnipcjgjeaa
