import Derived.Test.YtfmogmgdpamfgaaJp0
import Derived.Test.YtfmogmgdpamfgaaJwd
namespace Go.Proofs.Ytfmogmgdpamfgaa.Jd
open Go.RowKit
set_option linter.unusedVariables false
/-- Behind a start: nothing is listed. -/
structure Rk (g : Ge) (s : JS) (r : RS) : Prop where
  br : BR g s.blocks r.er r.la r.pr
  no : r.no = false
  po : r.polls = s.polls
  be : r.behind = s.behind
  da : r.data = s.data
  ch : s.behind = true → r.chain = s.chain
  co : s.data = true → r.col = s.column
  ro : r.rows = s.rows
  bl : r.blks = s.erases
  er : r.ers = s.doing
  hb : ∀ b ∈ s.erases, 0 ≤ b ∧ b < g.bl
theorem Rk.start {g : Ge} {s : JS} {r : RS} (h : Rk g s r) : Rl g (startP s) (startR r) :=
  ⟨h.br, h.no, by simp [startP], rfl, rfl, rfl, h.po, rfl, h.be, h.da, h.ch, fun hc => h.co (hc.elim id (fun h2 => by simp [startP] at h2)), h.ro, h.bl, h.er, fun _ => rfl, fun h2 => by simp [startP] at h2, fun h2 => by simp [startP] at h2, h.hb, fun h2 => by simp [startP] at h2, fun h2 => by simp [startP] at h2, fun x hx => by simp [startP] at hx⟩
theorem rows_same (g : Ge) (rows : List Int) (row : Int) : (rows.all fun o => (o % g.pg == row % g.pg) && !(o / g.pg % g.pl == row / g.pg % g.pl)) = rowsOk g rows (row / g.pg) (row % g.pg) := rfl
theorem BR.prog' {g : Ge} (hg : g.ok) {bs : List Blk} {er : List Bool} {la pr : List Int} (h : BR g bs er la pr) {row : Int} (h0 : 0 ≤ row) (h1 : row < g.bl * g.pg) :
    BR g (progB bs (row / g.pg) (row % g.pg)) er (la.set (row / g.pg).toNat (row % g.pg)) (pr.set row.toNat (wrap64 (pr.getD row.toNat 0 + 1))) := by
  obtain ⟨b1, b2, b3, b4, b5, _⟩ := row_split hg h0 h1
  have h2 := h.prog _ _ b1 b2
  rw [← b3, Int.toNat_of_nonneg b5] at h2
  exact h2
theorem load_rel {g : Ge} (hg : g.ok) {s : JS} {r : RS} (h : Rl g s r) (h8 : s.op = 8) (hl : s.listed.length = 4) (c : Int) : T g (loadedP g s c) (loadR g r c) := by
  have hin := h.h4 h8 hl
  obtain ⟨i0, i1⟩ := (inR_iff g _).1 hin
  have hcan : ∀ {s' : JS} {r' : RS}, s'.blocks = s.blocks → r'.er = r.er → r'.la = r.la → r'.pr = r.pr → ∀ row, canR g r' row = canP g s' row := fun e1 e2 e3 e4 row => (BR.can hg (by rw [e1, e2, e3, e4]; exact h.br) row).symm
  have hcan := hcan (s' := s) (r' := r) rfl rfl rfl rfl (num s.listed 2)
  obtain ⟨bs, op, li, wr, po, bu, be, ch, co, da, ro, er, doi⟩ := s
  obtain ⟨e', l', p', op', li', cn', po', bu', be', ch', da', co', ro', bl', er', no'⟩ := r
  obtain ⟨hbr, hno, h10, hop', hli, hcn, hpo, hbu, hbe, hda, hch, hco, hro, hbl, her, hwz, hoda, hod, hhb, hh4, hh2, hlb⟩ := h
  simp only at *
  subst hno hop' hli hcn hpo hbu hbe hda hro hbl her
  have hpr := hbr.prog' hg i0 i1
  unfold loadedP loadR
  simp only
  rw [hcan, rows_same]
  generalize num li' 2 = row at *
  have rc : Rc g ⟨bs, op', li', cn', po', bu', be', ch, co, da', ro', bl', er'⟩ ⟨e', l', p', op', li', cn', po', bu', be', ch', da', co', ro', bl', er', false⟩ := ⟨hbr, rfl, rfl⟩
  generalize hR : rowsOk g ro' (row / g.pg) (row % g.pg) = R
  generalize hC : canP g _ row = C
  have key : ∀ (b2 : Bool) (ro2 : List Int) (c2 : Int) (c2' : Int), (b2 = true → c2' = c2) → Rl g (doneP ⟨bs, op', li', cn', po', bu', b2, c2, co, da', ro2, bl', er'⟩ (row / g.pg) (row % g.pg)) (startR ⟨e', l'.set (row / g.pg).toNat (row % g.pg), p'.set row.toNat (wrap64 (p'.getD row.toNat 0 + 1)), op', li', cn', po', bu', b2, c2', false, co', ro2, bl', er', false⟩) := fun b2 ro2 c2 c2' hcc =>
    Rk.start (s := ⟨progB bs (row / g.pg) (row % g.pg), op', li', cn', po', bu', b2, c2, co, false, ro2, bl', er'⟩) ⟨hpr, rfl, rfl, rfl, rfl, hcc, fun h => by simp at h, rfl, rfl, rfl, hhb⟩
  cases R with
  | false =>
    rw [if_pos (by rfl)]
    by_cases h1 : (c ≠ 16 ∧ c ≠ 17 ∧ c ≠ 21) ∨ C = false
    · rw [if_pos h1]; exact T.no_ rc
    · rw [if_neg h1, if_pos (by rfl)]; exact T.no_ rc
  | true =>
    rw [if_neg (by decide)]
    cases C with
    | false =>
      rw [if_pos (by simp), if_pos (.inr rfl)]
      exact T.no_ rc
    | true =>
      by_cases hbc : be' = true ∧ row / g.pg ≠ ch
      · have e1 : ((!true) || (be' && row / g.pg != ch)) = true := by simp [hbc.1, hbc.2]
        rw [if_pos e1]
        by_cases h1 : (c ≠ 16 ∧ c ≠ 17 ∧ c ≠ 21) ∨ true = false
        · rw [if_pos h1]; exact T.no_ rc
        · rw [if_neg h1, if_neg (by decide), if_pos (.inl ⟨hbc.1, .inl (by rw [hch hbc.1]; exact hbc.2)⟩)]
          exact T.no_ rc
      · have e1 : ¬ (((!true) || (be' && row / g.pg != ch)) = true) := by
          intro h
          simp at h
          exact hbc h
        rw [if_neg e1]
        have nt : ¬ ((!true) = true) := by decide
        by_cases c1 : c = 21
        · subst c1
          have n0 : ¬ (((21 : Int) ≠ 16 ∧ (21 : Int) ≠ 17 ∧ (21 : Int) ≠ 21) ∨ true = false) := by simp
          rw [if_pos rfl, if_neg n0, if_neg nt]
          cases ro' with
          | nil =>
            have n3 : ¬ ((be' = true ∧ (row / g.pg ≠ ch' ∨ (21 : Int) = 17)) ∨ ((21 : Int) = 21 ∧ ([] : List Int) ≠ [])) := by
              intro h
              rcases h with h | h
              · rcases h.2 with h2 | h2
                · rw [hch h.1] at h2; exact hbc ⟨h.1, h2⟩
                · exact absurd h2 (by decide)
              · exact h.2 rfl
            rw [if_pos (show ([] : List Int).isEmpty = true from rfl), if_neg n3]
            exact T.yes (key true [] (row / g.pg) (row / g.pg) (fun _ => rfl))
          | cons a t =>
            have n1 : ¬ ((a :: t).isEmpty = true) := by simp
            rw [if_neg n1, if_pos (.inr ⟨rfl, by simp⟩)]
            exact T.no_ rc
        · by_cases c2 : c = 17
          · subst c2
            have n0 : ¬ (((17 : Int) ≠ 16 ∧ (17 : Int) ≠ 17 ∧ (17 : Int) ≠ 21) ∨ true = false) := by simp
            have n1 : ¬ ((17 : Int) = 21) := by decide
            rw [if_neg n1, if_pos rfl, if_neg n0, if_neg nt]
            cases be' with
            | true =>
              rw [if_pos rfl, if_pos (.inl ⟨rfl, .inr rfl⟩)]
              exact T.no_ rc
            | false =>
              have n2 : ¬ (false = true) := by decide
              rw [if_neg n2, if_neg (by simp)]
              exact T.yes (key false _ _ _ (fun h => by cases h))
          · by_cases c3 : c = 16
            · subst c3
              have n0 : ¬ (((16 : Int) ≠ 16 ∧ (16 : Int) ≠ 17 ∧ (16 : Int) ≠ 21) ∨ true = false) := by simp
              rw [if_neg c1, if_neg c2, if_pos rfl, if_neg n0, if_neg nt, if_neg (by
                intro h
                rcases h with h | h
                · rcases h.2 with h2 | h2
                  · rw [hch h.1] at h2; exact hbc ⟨h.1, h2⟩
                  · exact absurd h2 (by decide)
                · exact absurd h.1 (by decide))]
              exact T.yes (key be' [] _ _ hch)
            · rw [if_neg c1, if_neg c2, if_neg c3, if_pos (.inl ⟨c3, c2, c1⟩)]
              exact T.no_ rc
theorem erase_rel {g : Ge} (hg : g.ok) {s : JS} {r : RS} (h : Rl g s r) (h9 : s.op = 9) (hl : s.listed.length = 2) (c : Int) : T g (erasedP g s c) (eraseR g r c) := by
  have hin := h.h2 h9 hl
  obtain ⟨i0, i1⟩ := (inR_iff g _).1 hin
  obtain ⟨_, _, _, b4, _, b6⟩ := row_split hg i0 i1
  obtain ⟨bs, op, li, wr, po, bu, be, ch, co, da, ro, er, doi⟩ := s
  obtain ⟨e', l', p', op', li', cn', po', bu', be', ch', da', co', ro', bl', er', no'⟩ := r
  obtain ⟨hbr, hno, h10, hop', hli, hcn, hpo, hbu, hbe, hda, hch, hco, hro, hbl, her, hwz, hoda, hod, hhb, hh4, hh2, hlb⟩ := h
  simp only at *
  subst hno hop' hli hcn hpo hbu hbe hda hro hbl her
  have rc : Rc g ⟨bs, op', li', cn', po', bu', be', ch, co, da', ro', bl', er'⟩ ⟨e', l', p', op', li', cn', po', bu', be', ch', da', co', ro', bl', er', false⟩ := ⟨hbr, rfl, rfl⟩
  have hb2 : ∀ b ∈ bl' ++ [num li' 0 / g.pg], 0 ≤ b ∧ b < g.bl := fun b hb => by
    rcases List.mem_append.1 hb with hb | hb
    · exact hhb b hb
    · obtain rfl : b = num li' 0 / g.pg := by simpa using hb
      exact ⟨b4, b6⟩
  unfold erasedP eraseR
  simp only
  rw [hin]
  by_cases hc : c ≠ 208 ∧ c ≠ 209
  · rw [if_pos (by simp [hc.1, hc.2]), if_pos hc]; exact T.no_ rc
  · rw [if_neg (by simp; omega), if_neg hc]
    generalize planesOk g bl' (num li' 0 / g.pg) = P
    cases P with
    | false => rw [if_pos (by rfl), if_pos (by rfl)]; exact T.no_ rc
    | true =>
      have nt : ¬ ((!true) = true) := by decide
      rw [if_neg nt, if_neg nt]
      by_cases c9 : c = 209
      · rw [if_pos c9, if_pos c9]
        exact T.yes (Rk.start (s := ⟨bs, op', li', cn', po', bu', be', ch, co, false, ro', bl' ++ [num li' 0 / g.pg], er'⟩) (r := ⟨e', l', p', op', li', cn', po', bu', be', ch', false, co', ro', bl' ++ [num li' 0 / g.pg], er', false⟩) ⟨hbr, rfl, rfl, rfl, rfl, hch, fun h => by simp at h, rfl, rfl, rfl, hb2⟩)
      · rw [if_neg c9, if_neg c9]
        have hf := BR.fresh hg (bl' ++ [num li' 0 / g.pg]) hb2 (bs := bs) (x := (e', l', p')) hbr
        refine T.yes ?_
        exact Rk.start (s := ⟨freshB g bs (bl' ++ [num li' 0 / g.pg]), op', li', cn', po', bu', be', ch, co, false, ro', [], bl' ++ [num li' 0 / g.pg]⟩) (r := ⟨((bl' ++ [num li' 0 / g.pg]).foldl (eraseF g) (e', l', p')).1, ((bl' ++ [num li' 0 / g.pg]).foldl (eraseF g) (e', l', p')).2.1, ((bl' ++ [num li' 0 / g.pg]).foldl (eraseF g) (e', l', p')).2.2, op', li', cn', po', bu', be', ch', false, co', ro', [], bl' ++ [num li' 0 / g.pg], false⟩) ⟨hf, rfl, rfl, rfl, rfl, hch, fun h => by simp at h, rfl, rfl, rfl, fun b hb => by simp at hb⟩
end Go.Proofs.Ytfmogmgdpamfgaa.Jd

namespace Go.Proofs.Ytfmogmgdpamfgaa.Jd
open Go.RowKit
set_option linter.unusedVariables false
theorem command_rel {g : Ge} (hg : g.ok) {s : JS} {r : RS} (h : Rl g s r) (c : Int) : T g (commandP g s c) (commandR g r c) := by
  unfold commandP commandR
  simp only
  rw [h.op, h.li, h.cn, h.da]
  by_cases h8 : s.op = 8
  · rw [if_pos h8]
    by_cases h4 : s.listed.length = 4 ∧ 0 < s.writes
    · rw [if_pos ⟨h8, h4⟩, if_pos h4]
      exact load_rel hg h h8 h4.1 c
    · rw [if_neg (fun h => h4 h.2), if_neg h4, if_neg (by omega), if_neg (by omega), if_neg (by omega), if_neg (by omega)]
      exact T.no_ h.rc
  rw [if_neg h8, if_neg (fun h => h8 h.1)]
  by_cases h9 : s.op = 9
  · rw [if_pos h9]
    by_cases h2 : s.listed.length = 2
    · rw [if_pos ⟨h9, h2⟩, if_pos h2]
      exact erase_rel hg h h9 h2 c
    · rw [if_neg (fun h => h2 h.2), if_neg h2, if_neg (by omega), if_neg (by omega), if_neg (by omega)]
      exact T.no_ h.rc
  rw [if_neg h9, if_neg (fun h => h9 h.1)]
  by_cases h5 : s.op = 5 ∧ s.listed.length = 4
  · rw [if_pos h5, if_pos h5]
    by_cases hc : c = 48
    · rw [if_pos hc, if_pos hc]
      have hk : Rk g { s with column := num s.listed 0, data := true } { r with col := num s.listed 0, data := true } := ⟨h.br, h.no, h.po, h.be, rfl, h.ch, fun _ => rfl, h.ro, h.bl, h.er, h.hb⟩
      exact T.yes hk.start
    · rw [if_neg hc, if_neg hc]
      exact T.no_ h.rc
  rw [if_neg h5, if_neg h5]
  by_cases h7 : s.op = 7
  · rw [if_pos h7]
    by_cases h2 : s.listed.length = 2
    · rw [if_pos ⟨h7, h2⟩]
      by_cases hc : c = 224
      · rw [if_pos hc, if_pos ⟨h2, hc⟩]
        refine T.yes ⟨h.br, h.no, by simp, rfl, rfl, (h.wz h7).symm, h.po, h.bu, h.be, rfl, h.ch, fun _ => rfl, h.ro, h.bl, h.er, by simp, fun _ => h.od h7, by simp, h.hb, by simp, by simp, by simp⟩
      · rw [if_neg hc, if_neg (fun h => hc h.2)]
        exact T.no_ h.rc
    · rw [if_neg (fun h => h2 h.2), if_neg (by omega), if_neg (fun h => h2 h.1)]
      exact T.no_ h.rc
  rw [if_neg h7, if_neg (fun h => h7 h.1)]
  by_cases hb : s.op = 1 ∨ s.op = 6 ∨ (s.op = 2 ∧ s.listed.length = 1) ∨ (s.op = 5 ∧ s.listed.length = 0 ∧ s.data = true)
  · rw [if_pos hb, if_pos hb]
    exact begin_rel h h7 c
  · rw [if_neg hb, if_neg hb]
    exact T.no_ h.rc
theorem num_pos {l : List Int} (h : ∀ x ∈ l, 0 ≤ x) (i : Nat) : 0 ≤ num l i := by
  have hd : ∀ j, 0 ≤ l.getD j 0 := fun j => by
    rw [List.getD_eq_getElem?_getD]
    cases hj : l[j]? with
    | none => exact Int.le_refl _
    | some x => exact h x (List.mem_of_getElem? hj)
  unfold num
  have := hd i
  have := hd (i + 1)
  omega
theorem lb_app {l : List Int} {b : Int} (h : ∀ x ∈ l, 0 ≤ x) (hb : 0 ≤ b) : ∀ x ∈ l ++ [b], 0 ≤ x := fun x hx => by
  rcases List.mem_append.1 hx with hx | hx
  · exact h x hx
  · have : x = b := by simpa using hx
    omega
theorem BR.prlen {g : Ge} (hg : g.ok) {bs : List Blk} {er : List Bool} {la pr : List Int} (h : BR g bs er la pr) : (pr.length : Int) = g.bl * g.pg := by
  obtain ⟨_, g2, g4, _, _⟩ := ok_pos hg
  rw [h.np, Int.natCast_mul, Int.toNat_of_nonneg (by omega), Int.toNat_of_nonneg (by omega)]
theorem inR_dec (g : Ge) {x : Int} (h : 0 ≤ x) : inR g x = decide (x < g.bl * g.pg) := by unfold inR; rw [decide_eq_true h, Bool.true_and]
theorem T.dec {g : Ge} {s : JS} {r : RS} {b c : Bool} (h : b = true → Rl g s r) (hc : Rc g s r) (e : b = c) : T g (s, b) (r, c) := by
  subst e
  cases b
  · exact T.no_ hc
  · exact T.yes (h rfl)
theorem T.both_no {g : Ge} {s : JS} {r : RS} {b c : Bool} (hc : Rc g s r) (e1 : b = false) (e2 : c = false) : T g (s, b) (r, c) := by
  subst e1 e2
  exact T.no_ hc
theorem len_app (l : List Int) (b : Int) : (l ++ [b]).length = l.length + 1 := by simp
theorem address_rel {g : Ge} (hg : g.ok) {s : JS} {r : RS} (h : Rl g s r) (b : Int) (hb : 0 ≤ b) : T g (addressP g s b) (addressR g r b) := by
  have hlen := h.br.prlen hg
  have hn := num_pos (lb_app h.lb hb)
  have hla := lb_app h.lb hb
  obtain ⟨bs, op, li, wr, po, bu, be, ch, co, da, ro, er, doi⟩ := s
  obtain ⟨e', l', p', op', li', cn', po', bu', be', ch', da', co', ro', bl', er', no'⟩ := r
  obtain ⟨hbr, hno, h10, hop', hli, hcn, hpo, hbu, hbe, hda, hch, hco, hro, hbl, her, hwz, hoda, hod, hhb, hh4, hh2, hlb⟩ := h
  simp only at *
  subst hno hop' hli hcn hpo hbu hbe hda hro hbl her
  have rc : ∀ (op1 : Int) (li1 li2 : List Int) (d1 d2 : Bool) (co1 co2 : Int), Rc g ⟨bs, op1, li1, cn', po', bu', be', ch, co1, d1, ro', bl', er'⟩ ⟨e', l', p', op', li2, cn', po', bu', be', ch', d2, co2, ro', bl', er', false⟩ := fun _ _ _ _ _ _ _ => ⟨hbr, rfl, rfl⟩
  -- idents, features: one address
  have one : ∀ (o : Int), o ≠ 10 → o ≠ 8 → o ≠ 7 → o ≠ 6 → o ≠ 9 → (da' = true → co' = co) → Rl g ⟨bs, o, li' ++ [b], cn', po', bu', be', ch, co, da', ro', bl', er'⟩ ⟨e', l', p', o, li' ++ [b], cn', po', bu', be', ch', da', co', ro', bl', er', false⟩ := fun o q10 q8 q7 q6 q9 hcc =>
    ⟨hbr, rfl, q10, rfl, rfl, rfl, rfl, rfl, rfl, rfl, hch, fun h => hcc (h.elim id (fun h => absurd h.1 q8)), rfl, rfl, rfl, fun h => absurd h q7, fun h => absurd h q6, fun h => absurd h q7, hhb, fun h => absurd h q8, fun h => absurd h q9, hla⟩
  by_cases o2 : op' = 2
  · subst o2
    have eP : addressP g ⟨bs, 2, li', cn', po', bu', be', ch, co, da', ro', bl', er'⟩ b = if 1 ≤ li'.length then (⟨bs, 2, li', cn', po', bu', be', ch, co, da', ro', bl', er'⟩, false) else if (1 : Nat) = 1 ∧ b ≠ 0 then (⟨bs, 2, li', cn', po', bu', be', ch, co, da', ro', bl', er'⟩, false) else (⟨bs, 2, li' ++ [b], cn', po', bu', be', ch, co, da', ro', bl', er'⟩, true) := rfl
    have eR : addressR g ⟨e', l', p', 2, li', cn', po', bu', be', ch', da', co', ro', bl', er', false⟩ b = (⟨e', l', p', 2, li' ++ [b], cn', po', bu', be', ch', da', co', ro', bl', er', false⟩, decide (li'.length = 0 ∧ b = 0)) := rfl
    rw [eP, eR]
    by_cases n1 : 1 ≤ li'.length
    · rw [if_pos n1]; exact T.both_no (rc _ _ _ _ _ _ _) rfl (decide_eq_false (by omega))
    · rw [if_neg n1]
      by_cases b0 : b = 0
      · rw [if_neg (fun h => h.2 b0)]
        exact T.dec (fun _ => one 2 (by decide) (by decide) (by decide) (by decide) (by decide) (fun h => hco (.inl h))) (rc _ _ _ _ _ _ _) (decide_eq_true ⟨by omega, b0⟩).symm
      · rw [if_pos ⟨rfl, b0⟩]; exact T.both_no (rc _ _ _ _ _ _ _) rfl (decide_eq_false (fun h => b0 h.2))
  by_cases o4 : op' = 4
  · subst o4
    have eP : addressP g ⟨bs, 4, li', cn', po', bu', be', ch, co, da', ro', bl', er'⟩ b = if 1 ≤ li'.length then (⟨bs, 4, li', cn', po', bu', be', ch, co, da', ro', bl', er'⟩, false) else if (1 : Nat) = 1 ∧ b ≠ 137 then (⟨bs, 4, li', cn', po', bu', be', ch, co, da', ro', bl', er'⟩, false) else (⟨bs, 4, li' ++ [b], cn', po', bu', be', ch, co, da', ro', bl', er'⟩, true) := rfl
    have eR : addressR g ⟨e', l', p', 4, li', cn', po', bu', be', ch', da', co', ro', bl', er', false⟩ b = (⟨e', l', p', 4, li' ++ [b], cn', po', bu', be', ch', da', co', ro', bl', er', false⟩, decide (li'.length = 0 ∧ b = 137)) := rfl
    rw [eP, eR]
    by_cases n1 : 1 ≤ li'.length
    · rw [if_pos n1]; exact T.both_no (rc _ _ _ _ _ _ _) rfl (decide_eq_false (by omega))
    · rw [if_neg n1]
      by_cases b0 : b = 137
      · rw [if_neg (fun h => h.2 b0)]
        exact T.dec (fun _ => one 4 (by decide) (by decide) (by decide) (by decide) (by decide) (fun h => hco (.inl h))) (rc _ _ _ _ _ _ _) (decide_eq_true ⟨by omega, b0⟩).symm
      · rw [if_pos ⟨rfl, b0⟩]; exact T.both_no (rc _ _ _ _ _ _ _) rfl (decide_eq_false (fun h => b0 h.2))
  by_cases o3 : op' = 3
  · subst o3
    have eP : addressP g ⟨bs, 3, li', cn', po', bu', be', ch, co, da', ro', bl', er'⟩ b = if 1 ≤ li'.length then (⟨bs, 3, li', cn', po', bu', be', ch, co, da', ro', bl', er'⟩, false) else if (1 : Nat) = 1 ∧ b ≠ 0 then (⟨bs, 3, li', cn', po', bu', be', ch, co, da', ro', bl', er'⟩, false) else (startP ⟨bs, 3, li' ++ [b], cn', po', bu', be', ch, 0, true, ro', bl', er'⟩, true) := rfl
    have eR : addressR g ⟨e', l', p', 3, li', cn', po', bu', be', ch', da', co', ro', bl', er', false⟩ b = if 0 < li'.length ∨ b ≠ 0 then (⟨e', l', p', 3, li' ++ [b], cn', po', bu', be', ch', da', co', ro', bl', er', false⟩, false) else (startR ⟨e', l', p', 3, li' ++ [b], cn', po', bu', be', ch', true, 0, ro', bl', er', false⟩, true) := rfl
    rw [eP, eR]
    by_cases n1 : 1 ≤ li'.length
    · rw [if_pos n1, if_pos (.inl (by omega))]; exact T.no_ (rc _ _ _ _ _ _ _)
    · rw [if_neg n1]
      by_cases b0 : b = 0
      · rw [if_neg (fun h => h.2 b0), if_neg (by omega)]
        exact T.yes (Rk.start ⟨hbr, rfl, rfl, rfl, rfl, hch, fun _ => rfl, rfl, rfl, rfl, hhb⟩)
      · rw [if_pos ⟨rfl, b0⟩, if_pos (.inr b0)]; exact T.no_ (rc _ _ _ _ _ _ _)
  by_cases o7 : op' = 7
  · subst o7
    have eP : addressP g ⟨bs, 7, li', cn', po', bu', be', ch, co, da', ro', bl', er'⟩ b = if 2 ≤ li'.length then (⟨bs, 7, li', cn', po', bu', be', ch, co, da', ro', bl', er'⟩, false) else if (7 : Int) = 7 ∧ (li' ++ [b]).length = 2 then (⟨bs, 7, li' ++ [b], cn', po', bu', be', ch, co, da', ro', bl', er'⟩, decide (num (li' ++ [b]) 0 < g.raw)) else (⟨bs, 7, li' ++ [b], cn', po', bu', be', ch, co, da', ro', bl', er'⟩, true) := rfl
    have eR : addressR g ⟨e', l', p', 7, li', cn', po', bu', be', ch', da', co', ro', bl', er', false⟩ b = (⟨e', l', p', 7, li' ++ [b], cn', po', bu', be', ch', da', co', ro', bl', er', false⟩, decide (li'.length = 0 ∨ (li'.length = 1 ∧ num (li' ++ [b]) 0 < g.raw))) := rfl
    rw [eP, eR, len_app]
    by_cases n2 : 2 ≤ li'.length
    · rw [if_pos n2]; exact T.both_no (rc _ _ _ _ _ _ _) rfl (decide_eq_false (by omega))
    · rw [if_neg n2]
      have rl : Rl g ⟨bs, 7, li' ++ [b], cn', po', bu', be', ch, co, da', ro', bl', er'⟩ ⟨e', l', p', 7, li' ++ [b], cn', po', bu', be', ch', da', co', ro', bl', er', false⟩ := ⟨hbr, rfl, h10, rfl, rfl, rfl, rfl, rfl, rfl, rfl, hch, fun h => hco (h.elim .inl (fun h => by simp at h)), rfl, rfl, rfl, hwz, fun h => by simp at h, hod, hhb, fun h => by simp at h, fun h => by simp at h, hla⟩
      by_cases n1 : li'.length + 1 = 2
      · rw [if_pos ⟨rfl, n1⟩]
        exact T.if_ rl (decide_eq_decide.2 ⟨fun h => .inr ⟨by omega, h⟩, fun h => by
          rcases h with h | h
          · omega
          · exact h.2⟩)
      · rw [if_neg (fun h => n1 h.2)]
        exact T.if_ rl (decide_eq_true (.inl (by omega))).symm
  by_cases o9 : op' = 9
  · subst o9
    have eP : addressP g ⟨bs, 9, li', cn', po', bu', be', ch, co, da', ro', bl', er'⟩ b = if 2 ≤ li'.length then (⟨bs, 9, li', cn', po', bu', be', ch, co, da', ro', bl', er'⟩, false) else if (9 : Int) = 9 ∧ (li' ++ [b]).length = 2 then (⟨bs, 9, li' ++ [b], cn', po', bu', be', ch, co, da', ro', bl', er'⟩, inR g (num (li' ++ [b]) 0)) else (⟨bs, 9, li' ++ [b], cn', po', bu', be', ch, co, da', ro', bl', er'⟩, true) := rfl
    have eR : addressR g ⟨e', l', p', 9, li', cn', po', bu', be', ch', da', co', ro', bl', er', false⟩ b = (⟨e', l', p', 9, li' ++ [b], cn', po', bu', be', ch', da', co', ro', bl', er', false⟩, decide (li'.length = 0 ∨ (li'.length = 1 ∧ num (li' ++ [b]) 0 < p'.length))) := rfl
    rw [eP, eR, hlen, len_app]
    by_cases n2 : 2 ≤ li'.length
    · rw [if_pos n2]; exact T.both_no (rc _ _ _ _ _ _ _) rfl (decide_eq_false (by omega))
    · rw [if_neg n2]
      have rl : (li'.length + 1 = 2 → inR g (num (li' ++ [b]) 0) = true) → Rl g ⟨bs, 9, li' ++ [b], cn', po', bu', be', ch, co, da', ro', bl', er'⟩ ⟨e', l', p', 9, li' ++ [b], cn', po', bu', be', ch', da', co', ro', bl', er', false⟩ := fun hin => ⟨hbr, rfl, h10, rfl, rfl, rfl, rfl, rfl, rfl, rfl, hch, fun h => hco (h.elim .inl (fun h => by simp at h)), rfl, rfl, rfl, hwz, fun h => by simp at h, hod, hhb, fun h => by simp at h, fun _ hl2 => hin (by rw [← len_app li' b]; exact hl2), hla⟩
      by_cases n1 : li'.length + 1 = 2
      · rw [if_pos ⟨rfl, n1⟩]
        exact T.dec (fun h => rl (fun _ => h)) (rc _ _ _ _ _ _ _) (by
          rw [inR_dec g (hn 0)]
          exact decide_eq_decide.2 ⟨fun h => .inr ⟨by omega, h⟩, fun h => by
            rcases h with h | h
            · omega
            · exact h.2⟩)
      · rw [if_neg (fun h => n1 h.2)]
        exact T.if_ (rl (fun h => absurd h n1)) (decide_eq_true (.inl (by omega))).symm
  by_cases o5 : op' = 5
  · subst o5
    have eP : addressP g ⟨bs, 5, li', cn', po', bu', be', ch, co, da', ro', bl', er'⟩ b = if 4 ≤ li'.length then (⟨bs, 5, li', cn', po', bu', be', ch, co, da', ro', bl', er'⟩, false) else if ((5 : Int) = 8 ∨ (5 : Int) = 5) ∧ (li' ++ [b]).length = 4 then (if inR g (num (li' ++ [b]) 2) = true then (⟨bs, 5, (li' ++ [b]), cn', po', bu', be', ch, (num (li' ++ [b]) 0), false, ro', bl', er'⟩, decide (num (li' ++ [b]) 0 < g.raw)) else (⟨bs, 5, (li' ++ [b]), cn', po', bu', be', ch, co, false, ro', bl', er'⟩, false)) else (⟨bs, 5, (li' ++ [b]), cn', po', bu', be', ch, co, false, ro', bl', er'⟩, true) := rfl
    have eR : addressR g ⟨e', l', p', 5, li', cn', po', bu', be', ch', da', co', ro', bl', er', false⟩ b = if li'.length = 3 then (⟨e', l', p', 5, (li' ++ [b]), cn', po', bu', be', ch', false, (num (li' ++ [b]) 0), ro', bl', er', false⟩, decide (num (li' ++ [b]) 2 < p'.length ∧ num (li' ++ [b]) 0 < g.raw)) else (⟨e', l', p', 5, (li' ++ [b]), cn', po', bu', be', ch', false, co', ro', bl', er', false⟩, decide (li'.length < 3)) := rfl
    rw [eP, eR, hlen, len_app]
    by_cases n4 : 4 ≤ li'.length
    · rw [if_pos n4, if_neg (by omega)]; exact T.both_no (rc _ _ _ _ _ _ _) rfl (decide_eq_false (by omega))
    · rw [if_neg n4]
      by_cases n3 : li'.length = 3
      · rw [if_pos ⟨by simp, by omega⟩, if_pos n3, inR_dec g (hn 2)]
        by_cases hi : num (li' ++ [b]) 2 < g.bl * g.pg
        · rw [if_pos (decide_eq_true hi)]
          refine T.dec (fun _ => ?_) (rc _ _ _ _ _ _ _) (decide_eq_decide.2 ⟨fun h => ⟨hi, h⟩, fun h => h.2⟩)
          exact ⟨hbr, rfl, h10, rfl, rfl, rfl, rfl, rfl, rfl, rfl, hch, fun _ => rfl, rfl, rfl, rfl, hwz, fun h => by simp at h, fun h => by simp at h, hhb, fun _ _ => by rw [inR_dec g (hn 2)]; exact decide_eq_true hi, fun h => by simp at h, hla⟩
        · rw [if_neg (by rw [decide_eq_false hi]; decide)]
          exact T.both_no (rc _ _ _ _ _ _ _) rfl (decide_eq_false (fun h => hi h.1))
      · rw [if_neg (fun h => n3 (by omega)), if_neg n3]
        refine T.if_ ?_ (decide_eq_true (by omega)).symm
        exact ⟨hbr, rfl, h10, rfl, rfl, rfl, rfl, rfl, rfl, rfl, hch, fun h => absurd h (by simp), rfl, rfl, rfl, hwz, fun h => by simp at h, fun h => by simp at h, hhb, fun h h4 => by simp at h, fun h => by simp at h, hla⟩
  by_cases o8 : op' = 8
  · subst o8
    have eP : addressP g ⟨bs, 8, li', cn', po', bu', be', ch, co, da', ro', bl', er'⟩ b = if 4 ≤ li'.length then (⟨bs, 8, li', cn', po', bu', be', ch, co, da', ro', bl', er'⟩, false) else if ((8 : Int) = 8 ∨ (8 : Int) = 5) ∧ (li' ++ [b]).length = 4 then (if inR g (num (li' ++ [b]) 2) = true then (⟨bs, 8, (li' ++ [b]), cn', po', bu', be', ch, (num (li' ++ [b]) 0), da', ro', bl', er'⟩, decide (num (li' ++ [b]) 0 < g.raw)) else (⟨bs, 8, (li' ++ [b]), cn', po', bu', be', ch, co, da', ro', bl', er'⟩, false)) else (⟨bs, 8, (li' ++ [b]), cn', po', bu', be', ch, co, da', ro', bl', er'⟩, true) := rfl
    have eR : addressR g ⟨e', l', p', 8, li', cn', po', bu', be', ch', da', co', ro', bl', er', false⟩ b = if li'.length = 3 then (⟨e', l', p', 8, (li' ++ [b]), cn', po', bu', be', ch', da', (num (li' ++ [b]) 0), ro', bl', er', false⟩, decide (num (li' ++ [b]) 2 < p'.length ∧ num (li' ++ [b]) 0 < g.raw)) else (⟨e', l', p', 8, (li' ++ [b]), cn', po', bu', be', ch', da', co', ro', bl', er', false⟩, decide (li'.length < 3)) := rfl
    rw [eP, eR, hlen, len_app]
    by_cases n4 : 4 ≤ li'.length
    · rw [if_pos n4, if_neg (by omega)]; exact T.both_no (rc _ _ _ _ _ _ _) rfl (decide_eq_false (by omega))
    · rw [if_neg n4]
      by_cases n3 : li'.length = 3
      · rw [if_pos ⟨by simp, by omega⟩, if_pos n3, inR_dec g (hn 2)]
        by_cases hi : num (li' ++ [b]) 2 < g.bl * g.pg
        · rw [if_pos (decide_eq_true hi)]
          refine T.dec (fun _ => ?_) (rc _ _ _ _ _ _ _) (decide_eq_decide.2 ⟨fun h => ⟨hi, h⟩, fun h => h.2⟩)
          exact ⟨hbr, rfl, h10, rfl, rfl, rfl, rfl, rfl, rfl, rfl, hch, fun _ => rfl, rfl, rfl, rfl, hwz, fun h => by simp at h, fun h => by simp at h, hhb, fun _ _ => by rw [inR_dec g (hn 2)]; exact decide_eq_true hi, fun h => by simp at h, hla⟩
        · rw [if_neg (by rw [decide_eq_false hi]; decide)]
          exact T.both_no (rc _ _ _ _ _ _ _) rfl (decide_eq_false (fun h => hi h.1))
      · rw [if_neg (fun h => n3 (by omega)), if_neg n3]
        refine T.if_ ?_ (decide_eq_true (by omega)).symm
        exact ⟨hbr, rfl, h10, rfl, rfl, rfl, rfl, rfl, rfl, rfl, hch, fun h => hco (h.elim .inl (fun h => absurd (show (li' ++ [b]).length = 4 from h.2) (by rw [len_app]; omega))), rfl, rfl, rfl, hwz, fun h => by simp at h, fun h => by simp at h, hhb, fun h h4 => absurd (show (li' ++ [b]).length = 4 from h4) (by rw [len_app]; omega), fun h => by simp at h, hla⟩
  have eM : mostP op' = 0 := by unfold mostP; rw [if_neg (by omega), if_neg (by omega), if_neg (by omega)]
  have eP : addressP g ⟨bs, op', li', cn', po', bu', be', ch, co, da', ro', bl', er'⟩ b = (⟨bs, op', li', cn', po', bu', be', ch, co, da', ro', bl', er'⟩, false) := by
    unfold addressP
    simp only [eM]
    rw [if_pos (Nat.zero_le _)]
  have eR : addressR g ⟨e', l', p', op', li', cn', po', bu', be', ch', da', co', ro', bl', er', false⟩ b = (⟨e', l', p', op', li' ++ [b], cn', po', bu', be', ch', da', co', ro', bl', er', false⟩, false) := by
    unfold addressR
    simp only
    rw [if_neg o2, if_neg o4, if_neg o3, if_neg (by omega), if_neg o7, if_neg o9]
  rw [eP, eR]
  exact T.no_ (rc _ _ _ _ _ _ _)
end Go.Proofs.Ytfmogmgdpamfgaa.Jd

namespace Go.Proofs.Ytfmogmgdpamfgaa.Jd
open Go.RowKit
set_option linter.unusedVariables false
theorem write_rel {g : Ge} {s : JS} {r : RS} (h : Rl g s r) : T g (writeP g s) (writeR g r) := by
  obtain ⟨bs, op, li, wr, po, bu, be, ch, co, da, ro, er, doi⟩ := s
  obtain ⟨e', l', p', op', li', cn', po', bu', be', ch', da', co', ro', bl', er', no'⟩ := r
  obtain ⟨hbr, hno, h10, hop', hli, hcn, hpo, hbu, hbe, hda, hch, hco, hro, hbl, her, hwz, hoda, hod, hhb, hh4, hh2, hlb⟩ := h
  simp only at *
  subst hno hop' hli hcn hpo hbu hbe hda hro hbl her
  unfold writeP writeR
  simp only
  generalize wrap64 (cn' + 1) = w1
  have rc : Rc g ⟨bs, op', li', w1, po', bu', be', ch, co, da', ro', bl', er'⟩ ⟨e', l', p', op', li', w1, po', bu', be', ch', da', co', ro', bl', er', false⟩ := ⟨hbr, rfl, rfl⟩
  have rl : op' ≠ 7 → Rl g ⟨bs, op', li', w1, po', bu', be', ch, co, da', ro', bl', er'⟩ ⟨e', l', p', op', li', w1, po', bu', be', ch', da', co', ro', bl', er', false⟩ := fun h7 =>
    ⟨hbr, rfl, h10, rfl, rfl, rfl, rfl, rfl, rfl, rfl, hch, hco, rfl, rfl, rfl, fun h => absurd h h7, hoda, hod, hhb, hh4, hh2, hlb⟩
  by_cases h4 : op' = 4 ∧ li'.length = 1
  · rw [if_pos h4, if_pos h4]
    by_cases hw : w1 = 4
    · rw [if_pos hw, if_pos hw]
      exact T.yes (Rk.start ⟨hbr, rfl, rfl, rfl, rfl, hch, fun h => hco (.inl h), rfl, rfl, rfl, hhb⟩)
    · rw [if_neg hw, if_neg hw]
      exact T.yes (rl (by omega))
  · rw [if_neg h4, if_neg h4]
    by_cases h8 : op' = 8 ∧ li'.length = 4
    · rw [if_pos h8, hco (.inr h8)]
      exact T.if_ (by have := rl (by omega); rw [hco (.inr h8)] at this; exact this) (decide_eq_decide.2 ⟨fun h => ⟨h8.1, h8.2, h⟩, fun h => h.2.2⟩)
    · rw [if_neg h8]
      exact T.both_no rc rfl (decide_eq_false (fun h => h8 ⟨h.1, h.2.1⟩))
theorem read_rel {g : Ge} {s : JS} {r : RS} (h : Rl g s r) : T g (readP g s) (readR g r) := by
  obtain ⟨bs, op, li, wr, po, bu, be, ch, co, da, ro, er, doi⟩ := s
  obtain ⟨e', l', p', op', li', cn', po', bu', be', ch', da', co', ro', bl', er', no'⟩ := r
  obtain ⟨hbr, hno, h10, hop', hli, hcn, hpo, hbu, hbe, hda, hch, hco, hro, hbl, her, hwz, hoda, hod, hhb, hh4, hh2, hlb⟩ := h
  simp only at *
  subst hno hop' hli hcn hpo hbu hbe hda hro hbl her
  unfold readP readR
  simp only
  by_cases h2 : op' = 2 ∧ li'.length = 1
  · rw [if_pos h2, if_pos h2]
    exact T.if_ ⟨hbr, rfl, h10, rfl, rfl, rfl, rfl, rfl, rfl, rfl, hch, hco, rfl, rfl, rfl, fun h => absurd (show op' = 7 from h) (by omega), hoda, hod, hhb, hh4, hh2, hlb⟩ rfl
  rw [if_neg h2, if_neg h2]
  by_cases h5 : op' = 5 ∧ li'.length = 0 ∧ da' = true
  · rw [if_pos h5, if_pos h5]
    simp only
    rw [hco (.inl h5.2.2)]
    exact T.if_ ⟨hbr, rfl, by simp, rfl, rfl, rfl, rfl, rfl, rfl, rfl, hch, fun _ => rfl, rfl, rfl, rfl, by simp, fun _ => h5.2.2, by simp, hhb, by simp, by simp, hlb⟩ (decide_eq_decide.2 ⟨fun h => ⟨trivial, h⟩, fun h => h.2⟩)
  rw [if_neg h5, if_neg h5]
  simp only
  by_cases h6 : op' = 6
  · rw [if_pos h6, hco (.inl (hoda h6))]
    exact T.if_ ⟨hbr, rfl, h10, rfl, rfl, rfl, rfl, rfl, rfl, rfl, hch, fun _ => rfl, rfl, rfl, rfl, hwz, hoda, hod, hhb, hh4, hh2, hlb⟩ (decide_eq_decide.2 ⟨fun h => ⟨h6, h⟩, fun h => h.2⟩)
  · rw [if_neg h6]
    exact T.both_no ⟨hbr, rfl, rfl⟩ rfl (decide_eq_false (fun h => h6 h.1))
theorem lost_rc {g : Ge} {s : JS} {r : RS} (h : Rc g s r) : BR g (lostP s).blocks (lostR r).er (lostR r).la (lostR r).pr := by
  have := h.br.lost s.doing
  unfold lostP lostR
  rw [h.er]
  exact this
theorem poll_rel {g : Ge} {s : JS} {r : RS} (h : Rl g s r) (b : Int) : Rl g (pollP s b) (pollR r b) := by
  have hlost := lost_rc h.rc
  obtain ⟨bs, op, li, wr, po, bu, be, ch, co, da, ro, er, doi⟩ := s
  obtain ⟨e', l', p', op', li', cn', po', bu', be', ch', da', co', ro', bl', er', no'⟩ := r
  obtain ⟨hbr, hno, h10, hop', hli, hcn, hpo, hbu, hbe, hda, hch, hco, hro, hbl, her, hwz, hoda, hod, hhb, hh4, hh2, hlb⟩ := h
  simp only at *
  subst hno hop' hli hcn hpo hbu hbe hda hro hbl her
  have fin : ∀ (bs2 : List Blk) (e2 : List Bool) (l2 p2 : List Int), BR g bs2 e2 l2 p2 → Rl g ⟨bs2, op', li', cn', po', false, if bit5 b = true then false else be', ch, co, da', ro', bl', []⟩ ⟨e2, l2, p2, op', li', cn', po', false, if bit5 b = true then false else be', ch', da', co', ro', bl', [], false⟩ := fun bs2 e2 l2 p2 hb2 =>
    ⟨hb2, rfl, h10, rfl, rfl, rfl, rfl, rfl, rfl, rfl, fun h => hch (by
      have h' : (if bit5 b = true then false else be') = true := h
      split at h'
      · cases h'
      · exact h'), hco, rfl, rfl, rfl, hwz, hoda, hod, hhb, hh4, hh2, hlb⟩
  unfold pollP pollR bit6
  by_cases h6 : b / 64 % 2 = 1
  · have n6 : ¬ (b / 64 % 2 = 0) := by omega
    rw [if_pos (by simpa using h6), if_neg n6]
    simp only
    by_cases hb0 : (bu' && bit0 b) = true
    · rw [if_pos hb0, if_pos hb0]
      exact fin _ _ _ _ hlost
    · rw [if_neg hb0, if_neg hb0]
      exact fin _ _ _ _ hbr
  · have n6 : b / 64 % 2 = 0 := by omega
    rw [if_neg (by simpa using h6), if_pos n6]
    exact ⟨hbr, rfl, h10, rfl, rfl, rfl, rfl, rfl, rfl, rfl, hch, hco, rfl, rfl, rfl, hwz, hoda, hod, hhb, hh4, hh2, hlb⟩
theorem drop_rk {g : Ge} {s : JS} {r : RS} (h : Rc g s r) (hp : r.polls = false) (hn : r.no = false) : Rk g (dropP s) { lostR r with rows := [], blks := [], behind := false, data := false } :=
  ⟨lost_rc h, hn, hp, rfl, rfl, fun h => by simp [dropP] at h, fun h => by simp [dropP] at h, rfl, rfl, rfl, fun b hb => by simp [dropP] at hb⟩
/-- The power goes: all is as at first. -/
theorem power_rel {g : Ge} {s : JS} {r : RS} (h : Rc g s r) : Rl g (powerP s) (powerR r) :=
  ⟨lost_rc h, rfl, by simp [powerP], rfl, rfl, rfl, rfl, rfl, rfl, rfl, fun h => by simp [powerP, dropP] at h, fun h => by simp [powerP, dropP] at h, rfl, rfl, rfl, by simp [powerP], by simp [powerP], by simp [powerP], fun b hb => by simp [powerP, dropP] at hb, by simp [powerP], by simp [powerP], fun x hx => by simp [powerP, dropP] at hx⟩
theorem see_rel {g : Ge} (hg : g.ok) {s : JS} {r : RS} (h : Rl g s r) (k b : Int) (hb : 0 ≤ b) : T g (seeP g s k b) (takesR g r k b) := by
  obtain ⟨bs, op, li, wr, po, bu, be, ch, co, da, ro, er, doi⟩ := s
  obtain ⟨e', l', p', op', li', cn', po', bu', be', ch', da', co', ro', bl', er', no'⟩ := r
  have h0 := h
  obtain ⟨hbr, hno, h10, hop', hli, hcn, hpo, hbu, hbe, hda, hch, hco, hro, hbl, her, hwz, hoda, hod, hhb, hh4, hh2, hlb⟩ := h
  simp only at *
  subst hno hop' hli hcn hpo hbu hbe hda hro hbl her
  unfold seeP takesR
  simp only
  have hpe : (po' && k == 4 || (k == 1 && b == 112)) = ((k == 1 && b == 112) || (po' && k == 4)) := Bool.or_comm _ _
  rw [hpe]
  generalize hP : ((k == 1 && b == 112) || (po' && k == 4)) = P
  have h1 : Rl g ⟨bs, op', li', cn', P, bu', be', ch, co, da', ro', bl', er'⟩ ⟨e', l', p', op', li', cn', P, bu', be', ch', da', co', ro', bl', er', false⟩ := ⟨hbr, rfl, h10, rfl, rfl, rfl, rfl, rfl, rfl, rfl, hch, hco, rfl, rfl, rfl, hwz, hoda, hod, hhb, hh4, hh2, hlb⟩
  by_cases c1 : k = 1 ∧ b = 255
  · rw [if_pos c1, if_pos c1]
    have hPf : P = false := by rw [← hP, c1.1, c1.2]; simp
    exact T.yes (drop_rk h1.rc hPf rfl).start
  rw [if_neg c1, if_neg c1]
  by_cases c2 : op' = 0
  · rw [if_pos c2, if_pos c2]; exact T.no_ h1.rc
  rw [if_neg c2, if_neg c2]
  by_cases c3 : k = 1 ∧ b = 112
  · rw [if_pos c3, if_pos c3]
    cases bu' with
    | true => exact T.yes h1
    | false => exact T.yes ⟨hbr, rfl, by simp [leftP], rfl, rfl, rfl, rfl, rfl, rfl, rfl, hch, fun hc => hco (hc.elim .inl (fun h2 => by simp [leftP] at h2)), rfl, rfl, rfl, by simp [leftP], by simp [leftP], by simp [leftP], hhb, by simp [leftP], by simp [leftP], by simp [leftP]⟩
  rw [if_neg c3, if_neg c3]
  by_cases c4 : po' = true ∧ k = 4
  · rw [if_pos c4, if_pos (by simp [c4.1, c4.2])]
    exact T.yes (poll_rel h1 b)
  have n4 : ¬ ((po' && k == 4) = true) := by simpa using c4
  rw [if_neg c4, if_neg n4]
  cases bu' with
  | true => exact T.no_ h1.rc
  | false =>
    have nf : ¬ (false = true) := by decide
    rw [if_neg nf, if_neg nf]
    by_cases k1 : k = 1
    · rw [if_pos k1, if_pos k1]; exact command_rel hg h1 b
    rw [if_neg k1, if_neg k1]
    by_cases k2 : k = 2
    · rw [if_pos k2, if_pos k2]; exact address_rel hg h1 b hb
    rw [if_neg k2, if_neg k2]
    by_cases k3 : k = 3
    · rw [if_pos k3, if_pos k3]; exact write_rel h1
    rw [if_neg k3, if_neg k3]
    by_cases k4 : k = 4
    · rw [if_pos k4, if_pos k4]; exact read_rel h1
    rw [if_neg k4, if_neg k4]
    exact T.no_ h1.rc
/-- What is refused. -/
structure Rn (g : Ge) (s : JS) (r : RS) : Prop where
  rc : Rc g s r
  op : s.op = 10
  no : r.no = true
def Rj (g : Ge) (s : JS) (r : RS) : Prop := Rl g s r ∨ Rn g s r
theorem Rj.rc {g : Ge} {s : JS} {r : RS} (h : Rj g s r) : Rc g s r := h.elim (fun h => h.rc) (fun h => h.rc)
/-- A cycle is taken by both, or by none. -/
theorem step_rel {g : Ge} (hg : g.ok) {s : JS} {r : RS} (h : Rj g s r) (k b : Int) (hb : 0 ≤ b) : (stepP g s k b).2 = (stepR g r k b).2 ∧ Rj g (stepP g s k b).1 (stepR g r k b).1 ∧ ((stepP g s k b).2 = true → Rl g (stepP g s k b).1 (stepR g r k b).1) := by
  unfold stepP stepR
  rcases h with h | h
  · have hno := h.no
    have hnr : ¬ (r.no = true) := by rw [hno]; decide
    simp only [if_neg h.op10, if_neg hnr]
    obtain ⟨t1, t2, t3⟩ := see_rel hg h k b hb
    cases hv : (seeP g s k b).2 with
    | true =>
      rw [hv] at t1
      simp only [if_pos t1.symm, if_true]
      exact ⟨trivial, .inl (t2 hv), fun _ => t2 hv⟩
    | false =>
      rw [hv] at t1
      have nr : ¬ ((takesR g r k b).2 = true) := by rw [← t1]; decide
      simp only [if_neg nr, Bool.false_eq_true, if_false]
      have hc := t3 hv
      exact ⟨trivial, .inr ⟨⟨hc.br, hc.bu, hc.er⟩, rfl, rfl⟩, fun h => absurd h (by simp)⟩
  · rw [if_pos h.op, if_pos h.no]
    exact ⟨rfl, .inr h, fun h => absurd h (by simp)⟩
theorem new_rel {g : Ge} (hg : g.ok) : Rl g (newP g) (newR g) :=
  ⟨BR.new hg, rfl, by simp [newP], rfl, rfl, rfl, rfl, rfl, rfl, rfl, fun h => by simp [newP] at h, fun h => by simp [newP] at h, rfl, rfl, rfl, by simp [newP], by simp [newP], by simp [newP], fun b hb => by simp [newP] at hb, by simp [newP], by simp [newP], fun x hx => by simp [newP] at hx⟩
end Go.Proofs.Ytfmogmgdpamfgaa.Jd

namespace Go.Proofs.Ytfmogmgdpamfgaa.Jd
open Go.RowKit
set_option linter.unusedVariables false
/-! What JudgeFits says of one judge. -/
theorem polls_of {g : Ge} {s : JS} {k b : Int} : ∀ {x : JS}, x.polls = (((k == 1 && b == 112) || (s.polls && k == 4)) : Bool) → x.polls = true → (k = 1 ∧ b = 112) ∨ k = 4 := fun e h => by
  rw [e] at h
  simp only [Bool.or_eq_true, Bool.and_eq_true, beq_iff_eq] at h
  rcases h with h | h
  · exact .inl h
  · exact .inr h.2
theorem start_polls (s : JS) : (startP s).polls = s.polls := rfl
theorem loaded_polls (g : Ge) (s : JS) (c : Int) : (loadedP g s c).1.polls = s.polls := by
  unfold loadedP
  simp only
  split
  · rfl
  · split
    · rfl
    · split
      · split <;> rfl
      · split
        · split <;> rfl
        · split <;> rfl
theorem erased_polls (g : Ge) (s : JS) (c : Int) : (erasedP g s c).1.polls = s.polls := by
  unfold erasedP
  simp only
  split
  · rfl
  · split
    · rfl
    · split <;> rfl
theorem begin_polls (s : JS) (c : Int) : (beginP s c).1.polls = s.polls := by
  unfold beginP
  simp only
  repeat' split
  all_goals rfl
theorem command_polls (g : Ge) (s : JS) (c : Int) : (commandP g s c).1.polls = s.polls := by
  unfold commandP
  simp only
  split
  · exact loaded_polls g s c
  · split
    · exact erased_polls g s c
    · split
      · split <;> rfl
      · split
        · split <;> rfl
        · split
          · exact begin_polls s c
          · rfl
theorem fits_polls (g : Ge) (s : JS) : (fitsP g s).1.polls = s.polls := by
  unfold fitsP
  simp only
  repeat' split
  all_goals rfl
theorem address_polls (g : Ge) (s : JS) (b : Int) : (addressP g s b).1.polls = s.polls := by
  unfold addressP
  simp only
  generalize hw : (if s.op = 4 then (137 : Int) else 0) = w1
  by_cases h1 : mostP s.op ≤ s.listed.length
  · rw [if_pos h1]
  · rw [if_neg h1]
    by_cases h2 : mostP s.op = 1 ∧ b ≠ w1
    · rw [if_pos h2]
    · rw [if_neg h2, fits_polls]
      by_cases o5 : s.op = 5 <;> by_cases o3 : s.op = 3 <;> simp [o5, o3, startP]
theorem write_polls (g : Ge) (s : JS) : (writeP g s).1.polls = s.polls := by
  unfold writeP
  simp only
  repeat' split
  all_goals rfl
theorem read_polls (g : Ge) (s : JS) : (readP g s).1.polls = s.polls := by
  unfold readP
  simp only
  repeat' split
  all_goals rfl
theorem poll_polls (s : JS) (b : Int) : (pollP s b).polls = s.polls := by
  unfold pollP
  simp only
  repeat' split
  all_goals rfl
/-- A status is told behind Command 70 or another one alone. -/
theorem see_polls (g : Ge) (s : JS) (k b : Int) (h : (seeP g s k b).1.polls = true) : (k = 1 ∧ b = 112) ∨ k = 4 := by
  unfold seeP at h
  simp only at h
  split at h
  · rename_i c
    simp [startP, dropP] at h
  · split at h
    · exact polls_of (g := g) (s := s) (x := { s with polls := _ }) rfl h
    · split at h
      · rename_i c3
        exact .inl c3
      · split at h
        · rename_i c4
          exact .inr c4.2
        · split at h
          · exact polls_of (g := g) (s := s) (x := { s with polls := _ }) rfl h
          · split at h
            · rw [command_polls] at h; exact polls_of (g := g) (s := s) (x := { s with polls := _ }) rfl h
            · split at h
              · rw [address_polls] at h; exact polls_of (g := g) (s := s) (x := { s with polls := _ }) rfl h
              · split at h
                · rw [write_polls] at h; exact polls_of (g := g) (s := s) (x := { s with polls := _ }) rfl h
                · split at h
                  · rw [read_polls] at h; exact polls_of (g := g) (s := s) (x := { s with polls := _ }) rfl h
                  · exact polls_of (g := g) (s := s) (x := { s with polls := _ }) rfl h
theorem step_polls (g : Ge) (s : JS) (k b : Int) (hp : s.polls = true → s.op ≠ 10 → True) (h : (stepP g s k b).2 = true) : (stepP g s k b).1.polls = true → (k = 1 ∧ b = 112) ∨ k = 4 := by
  unfold stepP at h ⊢
  split at h
  · cases h
  · rename_i h10
    rw [if_neg h10]
    split at h
    · rename_i hv
      rw [if_pos hv]
      exact see_polls g s k b
    · cases h
/-- While it is busy: 70, ff and polls alone. -/
theorem step_busy (g : Ge) (s : JS) (k b : Int) (hb : s.busy = true) (h : (stepP g s k b).2 = true) : (k = 1 ∧ (b = 112 ∨ b = 255)) ∨ (k = 4 ∧ s.polls = true) := by
  unfold stepP at h
  split at h
  · cases h
  · split at h
    · rename_i hv
      unfold seeP at hv
      simp only at hv
      by_cases c1 : k = 1 ∧ b = 255
      · exact .inl ⟨c1.1, .inr c1.2⟩
      by_cases c3 : k = 1 ∧ b = 112
      · exact .inl ⟨c3.1, .inl c3.2⟩
      by_cases c4 : s.polls = true ∧ k = 4
      · exact .inr ⟨c4.2, c4.1⟩
      rw [if_neg c1, if_neg c3, if_neg c4, if_pos hb] at hv
      split at hv <;> cases hv
    · cases h
theorem step_refused (g : Ge) (s : JS) (k b : Int) (h : (stepP g s k b).2 = false) (k2 b2 : Int) : (stepP g (stepP g s k b).1 k2 b2) = ((stepP g s k b).1, false) := by
  have h10 : (stepP g s k b).1.op = 10 := by
    unfold stepP at h ⊢
    split at h
    · rename_i e; rw [if_pos e]; exact e
    · rename_i e
      split at h
      · cases h
      · rename_i hv; rw [if_neg e, if_neg hv]
  generalize (stepP g s k b).1 = t at h10 ⊢
  unfold stepP
  rw [if_pos h10]
theorem power_ff (g : Ge) (s : JS) : (stepP g (powerP s) 1 255).2 = true ∧ (stepP g (powerP s) 1 255).1.busy = true ∧ (powerP s).busy = false := by
  refine ⟨?_, ?_, rfl⟩ <;> simp [stepP, seeP, powerP, startP]
/-- How many cycles are taken. -/
def takeN (g : Ge) : JS → List (Int × Int) → Nat
  | _, [] => 0
  | s, x :: xs => if (stepP g s x.1 x.2).2 then takeN g (stepP g s x.1 x.2).1 xs + 1 else 0
theorem takeN_le (g : Ge) : ∀ (l : List (Int × Int)) (s : JS), takeN g s l ≤ l.length
  | [], _ => Nat.le_refl _
  | x :: xs, s => by
    unfold takeN
    have := takeN_le g xs (stepP g s x.1 x.2).1
    rw [List.length_cons]
    split <;> omega
/-- A begin of what is taken is taken. -/
theorem takeN_take (g : Ge) : ∀ (l : List (Int × Int)) (s : JS) (m : Nat), m ≤ takeN g s l → takeN g s (l.take m) = m
  | [], s, m, h => by
    have : m = 0 := by unfold takeN at h; omega
    subst this; rfl
  | x :: xs, s, 0, h => rfl
  | x :: xs, s, m + 1, h => by
    unfold takeN at h
    rw [List.take_succ_cons]
    unfold takeN
    split at h
    · rename_i hv
      rw [if_pos hv, takeN_take g xs _ m (by omega)]
    · omega
end Go.Proofs.Ytfmogmgdpamfgaa.Jd


namespace Go.Proofs.Ytfmogmgdpamfgaa.Jd
open Go.RowKit
set_option linter.unusedVariables false
set_option linter.unusedSimpArgs false
/-! What a walk asks of a judge stays. -/
theorem noX {α : Type} {P : α → Prop} : ∀ x ∈ ([] : List α), P x := fun x hx => nomatch hx
structure WfC (g : Ge) (n : Nat) (s : JS) : Prop where
  sh : Shape g s
  lb : IsB s.listed
  l4 : s.listed.length ≤ 4
  ro : s.rows.length ≤ n ∧ ∀ x ∈ s.rows, inR g x = true
  er : s.erases.length ≤ n ∧ ∀ x ∈ s.erases, 0 ≤ x ∧ x < g.bl
  dn : s.doing.length ≤ n ∧ ∀ x ∈ s.doing, 0 ≤ x ∧ x < g.bl
def InL (g : Ge) (s : JS) : Prop := (s.op = 8 → s.listed.length = 4 → inR g (num s.listed 2) = true) ∧ (s.op = 9 → s.listed.length = 2 → inR g (num s.listed 0) = true)
theorem Shape.set {g : Ge} {bs : List Blk} (h : bs.length = g.bl.toNat ∧ ∀ b ∈ bs, b.pr.length = g.pg.toNat) (i : Nat) (b : Blk) (hb : b.pr.length = g.pg.toNat) : (bs.set i b).length = g.bl.toNat ∧ ∀ x ∈ bs.set i b, x.pr.length = g.pg.toNat :=
  ⟨by rw [List.length_set]; exact h.1, fun x hx => (List.mem_or_eq_of_mem_set hx).elim (h.2 x) (fun e => by rw [e]; exact hb)⟩
theorem bB_pr {g : Ge} {bs : List Blk} (h : bs.length = g.bl.toNat ∧ ∀ b ∈ bs, b.pr.length = g.pg.toNat) {b : Int} (h0 : 0 ≤ b) (h1 : b < g.bl) : (bB bs b).pr.length = g.pg.toNat := by
  obtain ⟨n, rfl⟩ := Int.eq_ofNat_of_zero_le h0
  exact h.2 _ (List.mem_of_getElem? (bB_get (bs := bs) (i := n) (by rw [h.1]; omega)))
theorem lostB_shape {g : Ge} : ∀ (d : List Int), (∀ x ∈ d, 0 ≤ x ∧ x < g.bl) → ∀ {bs : List Blk}, (bs.length = g.bl.toNat ∧ ∀ b ∈ bs, b.pr.length = g.pg.toNat) → ((lostB bs d).length = g.bl.toNat ∧ ∀ b ∈ lostB bs d, b.pr.length = g.pg.toNat)
  | [], _, bs, h => h
  | x :: d, hd, bs, h => lostB_shape d (fun y hy => hd y (List.mem_cons_of_mem _ hy)) (bs := bs.set x.toNat { bB bs x with er := false }) (Shape.set h x.toNat { bB bs x with er := false } (bB_pr h (hd x List.mem_cons_self).1 (hd x List.mem_cons_self).2))
theorem freshB_shape {g : Ge} : ∀ (d : List Int) {bs : List Blk}, (bs.length = g.bl.toNat ∧ ∀ b ∈ bs, b.pr.length = g.pg.toNat) → ((freshB g bs d).length = g.bl.toNat ∧ ∀ b ∈ freshB g bs d, b.pr.length = g.pg.toNat)
  | [], bs, h => h
  | x :: d, bs, h => freshB_shape d (bs := bs.set x.toNat ⟨true, -1, List.replicate g.pg.toNat 0⟩) (Shape.set h x.toNat ⟨true, -1, List.replicate g.pg.toNat 0⟩ (List.length_replicate ..))
section
variable {g : Ge} {n : Nat} {s : JS}
theorem WfC.mono (h : WfC g n s) {m : Nat} (hm : n ≤ m) : WfC g m s := ⟨h.sh, h.lb, h.l4, ⟨Nat.le_trans h.ro.1 hm, h.ro.2⟩, ⟨Nat.le_trans h.er.1 hm, h.er.2⟩, ⟨Nat.le_trans h.dn.1 hm, h.dn.2⟩⟩
/-- Blocks, listed, rows, erases and doing alone count. -/
theorem WfC.re {s' : JS} (h : WfC g n s) (e1 : s'.blocks = s.blocks) (e2 : s'.listed = s.listed ∨ s'.listed = []) (e3 : s'.rows = s.rows ∨ s'.rows = []) (e4 : s'.erases = s.erases ∨ s'.erases = []) (e5 : s'.doing = s.doing ∨ s'.doing = []) : WfC g n s' := by
  refine ⟨?_, ?_, ?_, ?_, ?_, ?_⟩
  · unfold Shape; rw [e1]; exact h.sh
  · rcases e2 with e | e <;> rw [e]
    · exact h.lb
    · intro x hx; cases hx
  · rcases e2 with e | e <;> rw [e]
    · exact h.l4
    · exact Nat.zero_le _
  · rcases e3 with e | e <;> rw [e]
    · exact h.ro
    · exact ⟨Nat.zero_le _, noX⟩
  · rcases e4 with e | e <;> rw [e]
    · exact h.er
    · exact ⟨Nat.zero_le _, noX⟩
  · rcases e5 with e | e <;> rw [e]
    · exact h.dn
    · exact ⟨Nat.zero_le _, noX⟩
theorem WfC.re1 {s' : JS} (h : WfC g n s) (e1 : s'.blocks = s.blocks) (e2 : s'.listed = s.listed ∨ s'.listed = []) (e3 : s'.rows = s.rows ∨ s'.rows = []) (e4 : s'.erases = s.erases ∨ s'.erases = []) (e5 : s'.doing = s.doing ∨ s'.doing = []) : WfC g (n + 1) s' := (h.re e1 e2 e3 e4 e5).mono (Nat.le_succ n)
theorem WfC.lost (h : WfC g n s) : WfC g n (lostP s) := ⟨lostB_shape s.doing h.dn.2 h.sh, h.lb, h.l4, h.ro, h.er, ⟨Nat.zero_le _, noX⟩⟩
theorem WfC.drop (h : WfC g n s) : WfC g n (dropP s) := h.lost.re rfl (.inr rfl) (.inr rfl) (.inr rfl) (.inl rfl)
theorem WfC.start (h : WfC g n s) : WfC g n (startP s) := h.re rfl (.inr rfl) (.inl rfl) (.inl rfl) (.inl rfl)
theorem WfC.poll (h : WfC g n s) (b : Int) : WfC g n (pollP s b) := by
  unfold pollP
  split
  · split
    · exact h.lost.re rfl (.inl rfl) (.inl rfl) (.inl rfl) (.inr rfl)
    · exact h.re rfl (.inl rfl) (.inl rfl) (.inl rfl) (.inr rfl)
  · exact h
theorem WfC.prog (hg : g.ok) (h : WfC g n s) {r : Int} (hr : inR g r = true) (s' : JS) (e1 : s'.blocks = s.blocks) (e2 : s'.listed = s.listed) (e3 : s'.rows = s.rows ∨ s'.rows = [] ∨ s'.rows = s.rows ++ [r]) (e4 : s'.erases = s.erases) (e5 : s'.doing = s.doing) : WfC g (n + 1) (doneP s' (r / g.pg) (r % g.pg)) := by
  obtain ⟨_, _, _, r4, _, r6⟩ := row_split hg ((inR_iff g r).1 hr).1 ((inR_iff g r).1 hr).2
  refine ⟨?_, noX, Nat.zero_le _, ?_, ?_, ?_⟩
  · show (progB s'.blocks (r / g.pg) (r % g.pg)).length = g.bl.toNat ∧ ∀ b ∈ progB s'.blocks (r / g.pg) (r % g.pg), b.pr.length = g.pg.toNat
    rw [e1]
    refine Shape.set h.sh _ _ ?_
    show ((bB s.blocks (r / g.pg)).pr.set _ _).length = g.pg.toNat
    rw [List.length_set]; exact bB_pr h.sh r4 r6
  · show s'.rows.length ≤ n + 1 ∧ ∀ x ∈ s'.rows, inR g x = true
    rcases e3 with e | e | e <;> rw [e]
    · exact ⟨by have := h.ro.1; omega, h.ro.2⟩
    · exact ⟨Nat.zero_le _, noX⟩
    · refine ⟨by rw [List.length_append, List.length_singleton]; have := h.ro.1; omega, fun x hx => ?_⟩
      rcases List.mem_append.1 hx with h2 | h2
      · exact h.ro.2 x h2
      · rw [List.mem_singleton.1 h2]; exact hr
  · show s'.erases.length ≤ n + 1 ∧ ∀ x ∈ s'.erases, 0 ≤ x ∧ x < g.bl
    rw [e4]
    exact ⟨by have := h.er.1; omega, h.er.2⟩
  · show s'.doing.length ≤ n + 1 ∧ ∀ x ∈ s'.doing, 0 ≤ x ∧ x < g.bl
    rw [e5]
    exact ⟨by have := h.dn.1; omega, h.dn.2⟩
theorem loaded_wf (hg : g.ok) (h : WfC g n s) (hin : inR g (num s.listed 2) = true) (c : Int) : WfC g (n + 1) (loadedP g s c).1 ∧ ((loadedP g s c).2 = true → (loadedP g s c).1.op = 1) := by
  unfold loadedP
  simp only
  split
  · exact ⟨h.mono (Nat.le_succ n), fun h => by cases h⟩
  split
  · exact ⟨h.mono (Nat.le_succ n), fun h => by cases h⟩
  split
  · split
    · exact ⟨h.prog hg hin _ rfl rfl (.inr (.inl rfl)) rfl rfl, fun _ => rfl⟩
    · exact ⟨h.mono (Nat.le_succ n), fun h => by cases h⟩
  split
  · split
    · exact ⟨h.mono (Nat.le_succ n), fun h => by cases h⟩
    · exact ⟨h.prog hg hin _ rfl rfl (.inr (.inr rfl)) rfl rfl, fun _ => rfl⟩
  split
  · exact ⟨h.prog hg hin _ rfl rfl (.inr (.inl rfl)) rfl rfl, fun _ => rfl⟩
  · exact ⟨h.mono (Nat.le_succ n), fun h => by cases h⟩
theorem erased_wf (hg : g.ok) (h : WfC g n s) (hin : inR g (num s.listed 0) = true) (c : Int) : WfC g (n + 1) (erasedP g s c).1 ∧ ((erasedP g s c).2 = true → (erasedP g s c).1.op = 1) := by
  obtain ⟨_, _, _, r4, _, r6⟩ := row_split hg ((inR_iff g _).1 hin).1 ((inR_iff g _).1 hin).2
  have her : (s.erases ++ [num s.listed 0 / g.pg]).length ≤ n + 1 ∧ ∀ x ∈ s.erases ++ [num s.listed 0 / g.pg], 0 ≤ x ∧ x < g.bl := by
    refine ⟨by rw [List.length_append, List.length_singleton]; have := h.er.1; omega, fun x hx => ?_⟩
    rcases List.mem_append.1 hx with h2 | h2
    · exact h.er.2 x h2
    · rw [List.mem_singleton.1 h2]; exact ⟨r4, r6⟩
  have hro : s.rows.length ≤ n + 1 ∧ ∀ x ∈ s.rows, inR g x = true := ⟨by have := h.ro.1; omega, h.ro.2⟩
  have hdn : s.doing.length ≤ n + 1 ∧ ∀ x ∈ s.doing, 0 ≤ x ∧ x < g.bl := ⟨by have := h.dn.1; omega, h.dn.2⟩
  unfold erasedP
  simp only
  split
  · exact ⟨h.mono (Nat.le_succ n), fun h => by cases h⟩
  split
  · exact ⟨h.mono (Nat.le_succ n), fun h => by cases h⟩
  split
  · exact ⟨⟨h.sh, noX, Nat.zero_le _, hro, her, hdn⟩, fun _ => rfl⟩
  · exact ⟨⟨freshB_shape _ h.sh, noX, Nat.zero_le _, hro, ⟨Nat.zero_le _, noX⟩, her⟩, fun _ => rfl⟩
theorem begin_wf (h : WfC g n s) (c : Int) : WfC g n (beginP s c).1 ∧ ((beginP s c).2 = true → (beginP s c).1.listed = []) := by
  unfold beginP
  simp only
  split
  · exact ⟨h, fun h => by cases h⟩
  · have h2 : ∀ s' : JS, s'.blocks = s.blocks → s'.listed = [] → s'.rows = s.rows → s'.erases = s.erases → s'.doing = s.doing → WfC g n s' := fun s' e1 e2 e3 e4 e5 => h.re e1 (.inr e2) (.inl e3) (.inl e4) (.inl e5)
    repeat' split
    all_goals exact ⟨h2 _ rfl rfl rfl rfl rfl, fun _ => rfl⟩
theorem command_wf (hg : g.ok) (h : WfC g n s) (hin : InL g s) (c : Int) : WfC g (n + 1) (commandP g s c).1 ∧ ((commandP g s c).2 = true → InL g (commandP g s c).1) := by
  have one : ∀ s' : JS, s'.op = 1 → InL g s' := fun s' e => ⟨fun h => (by omega), fun h => (by omega)⟩
  have nil : ∀ s' : JS, s'.listed = [] → InL g s' := fun s' e => ⟨fun _ h => (by rw [e] at h; cases h), fun _ h => (by rw [e] at h; cases h)⟩
  unfold commandP
  simp only
  split
  · rename_i c1
    have := loaded_wf hg h (hin.1 c1.1 c1.2.1) c
    exact ⟨this.1, fun h2 => one _ (this.2 h2)⟩
  split
  · rename_i c1
    have := erased_wf hg h (hin.2 c1.1 c1.2) c
    exact ⟨this.1, fun h2 => one _ (this.2 h2)⟩
  split
  · split
    · exact ⟨h.re1 rfl (.inr rfl) (.inl rfl) (.inl rfl) (.inl rfl), fun _ => one _ rfl⟩
    · exact ⟨h.mono (Nat.le_succ n), fun h => by cases h⟩
  split
  · split
    · exact ⟨h.re1 rfl (.inr rfl) (.inl rfl) (.inl rfl) (.inl rfl), fun _ => nil _ rfl⟩
    · exact ⟨h.mono (Nat.le_succ n), fun h => by cases h⟩
  split
  · have := begin_wf h c
    exact ⟨this.1.mono (Nat.le_succ n), fun h2 => nil _ (this.2 h2)⟩
  · exact ⟨h.mono (Nat.le_succ n), fun h => by cases h⟩
theorem fits_wf (h : WfC g n s) : WfC g n (fitsP g s).1 ∧ ((fitsP g s).2 = true → InL g (fitsP g s).1) := by
  unfold fitsP
  simp only
  split
  · rename_i c1
    split
    · rename_i c2
      refine ⟨h.re rfl (.inl rfl) (.inl rfl) (.inl rfl) (.inl rfl), fun _ => ⟨fun _ _ => c2, fun h9 => ?_⟩⟩
      have h9' : s.op = 9 := h9
      omega
    · exact ⟨h, fun h => by cases h⟩
  split
  · rename_i c1 c2
    exact ⟨h, fun _ => ⟨fun h8 => (by have h8' : s.op = 8 := h8; omega), fun h9 => (by have h9' : s.op = 9 := h9; omega)⟩⟩
  split
  · rename_i c1 c2 c3
    exact ⟨h, fun h2 => ⟨fun h8 => (by have h8' : s.op = 8 := h8; omega), fun _ _ => h2⟩⟩
  · rename_i c1 c2 c3
    exact ⟨h, fun _ => ⟨fun h8 h4 => absurd ⟨.inl h8, h4⟩ c1, fun h9 h2 => absurd ⟨h9, h2⟩ c3⟩⟩
theorem address_wf (h : WfC g n s) (b : Int) (hb : 0 ≤ b ∧ b ≤ 255) : WfC g n (addressP g s b).1 ∧ ((addressP g s b).2 = true → InL g (addressP g s b).1) := by
  unfold addressP
  generalize hw : (if s.op = 4 then (137 : Int) else 0) = w1
  by_cases c1 : mostP s.op ≤ s.listed.length
  · rw [if_pos c1]; exact ⟨h, fun h => by cases h⟩
  rw [if_neg c1]
  by_cases c2 : mostP s.op = 1 ∧ b ≠ w1
  · rw [if_pos c2]; exact ⟨h, fun h => by cases h⟩
  rw [if_neg c2]
  simp only
  have hm : mostP s.op ≤ 4 := by unfold mostP; repeat' split
                                 all_goals omega
  have hl : (s.listed ++ [b]).length ≤ 4 := by rw [List.length_append, List.length_singleton]; omega
  have hbb : IsB (s.listed ++ [b]) := fun x hx => by
    rcases List.mem_append.1 hx with h2 | h2
    · exact h.lb x h2
    · rw [List.mem_singleton.1 h2]; exact hb
  have key : ∀ s' : JS, s'.blocks = s.blocks → s'.listed = s.listed ++ [b] ∨ s'.listed = [] → s'.rows = s.rows → s'.erases = s.erases → s'.doing = s.doing → WfC g n s' := fun s' e1 e2 e3 e4 e5 => by
    refine ⟨by unfold Shape; rw [e1]; exact h.sh, ?_, ?_, by rw [e3]; exact h.ro, by rw [e4]; exact h.er, by rw [e5]; exact h.dn⟩
    · rcases e2 with e | e <;> rw [e]
      · exact hbb
      · intro x hx; cases hx
    · rcases e2 with e | e <;> rw [e]
      · exact hl
      · exact Nat.zero_le _
  refine fits_wf (key _ ?_ ?_ ?_ ?_ ?_)
  all_goals
    by_cases o5 : s.op = 5 <;> by_cases o3 : s.op = 3 <;> simp [o5, o3, startP]
theorem write_wf (h : WfC g n s) (hin : InL g s) : WfC g n (writeP g s).1 ∧ ((writeP g s).2 = true → InL g (writeP g s).1) := by
  unfold writeP
  simp only
  split
  · split
    · exact ⟨h.re rfl (.inr rfl) (.inl rfl) (.inl rfl) (.inl rfl), fun _ => ⟨fun h8 => (by cases h8), fun h9 => (by cases h9)⟩⟩
    · exact ⟨h.re rfl (.inl rfl) (.inl rfl) (.inl rfl) (.inl rfl), fun _ => hin⟩
  split
  · exact ⟨h.re rfl (.inl rfl) (.inl rfl) (.inl rfl) (.inl rfl), fun _ => hin⟩
  · exact ⟨h.re rfl (.inl rfl) (.inl rfl) (.inl rfl) (.inl rfl), fun h => by cases h⟩
theorem read_wf (h : WfC g n s) (hin : InL g s) : WfC g n (readP g s).1 ∧ ((readP g s).2 = true → InL g (readP g s).1) := by
  unfold readP
  simp only
  split
  · exact ⟨h.re rfl (.inl rfl) (.inl rfl) (.inl rfl) (.inl rfl), fun _ => hin⟩
  split
  · exact ⟨h.re rfl (.inl rfl) (.inl rfl) (.inl rfl) (.inl rfl), fun _ => ⟨fun h8 => (by cases h8), fun h9 => (by cases h9)⟩⟩
  split
  · rename_i c3
    exact ⟨h.re rfl (.inl rfl) (.inl rfl) (.inl rfl) (.inl rfl), fun _ => ⟨fun h8 => (by have h8' : s.op = 8 := h8; omega), fun h9 => (by have h9' : s.op = 9 := h9; omega)⟩⟩
  · exact ⟨h, fun h => by cases h⟩
theorem see_wf (hg : g.ok) (h : WfC g n s) (hin : InL g s) (k b : Int) (hb : 0 ≤ b ∧ b ≤ 255) : WfC g (n + 1) (seeP g s k b).1 ∧ ((seeP g s k b).2 = true → InL g (seeP g s k b).1) := by
  unfold seeP
  simp only
  generalize ((k == 1 && b == 112) || (s.polls && k == 4)) = pv
  have h1 : WfC g n { s with polls := pv } := h.re rfl (.inl rfl) (.inl rfl) (.inl rfl) (.inl rfl)
  have hin1 : InL g { s with polls := pv } := hin
  split
  · exact ⟨(h1.drop.start).mono (Nat.le_succ n), fun _ => ⟨fun h8 => (by cases h8), fun h9 => (by cases h9)⟩⟩
  split
  · exact ⟨h1.mono (Nat.le_succ n), fun h => by cases h⟩
  split
  · split
    · exact ⟨h1.mono (Nat.le_succ n), fun _ => hin1⟩
    · exact ⟨h1.re1 rfl (.inr rfl) (.inl rfl) (.inl rfl) (.inl rfl), fun _ => ⟨fun h8 => (by cases h8), fun h9 => (by cases h9)⟩⟩
  split
  · refine ⟨(h1.poll b).mono (Nat.le_succ n), fun _ => ?_⟩
    have e1 : (pollP { s with polls := pv } b).op = s.op ∧ (pollP { s with polls := pv } b).listed = s.listed := by
      unfold pollP
      split
      · split <;> exact ⟨rfl, rfl⟩
      · exact ⟨rfl, rfl⟩
    unfold InL
    rw [e1.1, e1.2]
    exact hin
  split
  · exact ⟨h1.mono (Nat.le_succ n), fun h => by cases h⟩
  split
  · exact command_wf hg h1 hin1 b
  split
  · have := address_wf h1 b hb; exact ⟨this.1.mono (Nat.le_succ n), this.2⟩
  split
  · have := write_wf h1 hin1; exact ⟨this.1.mono (Nat.le_succ n), this.2⟩
  split
  · have := read_wf h1 hin1; exact ⟨this.1.mono (Nat.le_succ n), this.2⟩
  · exact ⟨h1.mono (Nat.le_succ n), fun h => by cases h⟩
/-- After n cycles. -/
structure WfN (g : Ge) (n : Nat) (s : JS) : Prop where
  hg : g.ok
  c : WfC g n s
  i : InL g s
theorem WfN.wf (h : WfN g n s) (hn : n ≤ 900000) : Wf g s :=
  ⟨h.hg, h.c.sh, h.c.lb, by have := h.c.l4; omega, h.i.1, h.i.2, ⟨by have := h.c.ro.1; omega, h.c.ro.2⟩, ⟨by have := h.c.er.1; omega, h.c.er.2⟩, ⟨fun x hx => by have := h.c.dn.2 x hx; rw [h.c.sh.1]; have := h.hg.2.1.1; omega, by have := h.c.dn.1; omega⟩⟩
theorem WfN.mono (h : WfN g n s) {m : Nat} (hm : n ≤ m) : WfN g m s := ⟨h.hg, h.c.mono hm, h.i⟩
theorem WfN.step (h : WfN g n s) (k b : Int) (hb : 0 ≤ b ∧ b ≤ 255) : WfN g (n + 1) (stepP g s k b).1 := by
  unfold stepP
  split
  · exact ⟨h.hg, h.c.mono (Nat.le_succ n), h.i⟩
  have h2 := see_wf h.hg h.c h.i k b hb
  split
  · rename_i c2
    exact ⟨h.hg, h2.1, h2.2 c2⟩
  · exact ⟨h.hg, h2.1.re rfl (.inl rfl) (.inl rfl) (.inl rfl) (.inl rfl), ⟨fun h8 => (by cases h8), fun h9 => (by cases h9)⟩⟩
theorem WfN.power (h : WfN g n s) : WfN g n (powerP s) := ⟨h.hg, h.c.drop.re rfl (.inl rfl) (.inl rfl) (.inl rfl) (.inl rfl), ⟨fun h8 => (by cases h8), fun h9 => (by cases h9)⟩⟩
theorem WfN.new (hg : g.ok) : WfN g 0 (newP g) :=
  ⟨hg, ⟨⟨by show (List.replicate _ _).length = _; simp, fun b hb => by
    have : b ∈ List.replicate g.bl.toNat (⟨false, -1, List.replicate g.pg.toNat 0⟩ : Blk) := hb
    rw [(List.mem_replicate.1 this).2]
    simp⟩, noX, Nat.zero_le _, ⟨Nat.le_refl _, noX⟩, ⟨Nat.le_refl _, noX⟩, ⟨Nat.le_refl _, noX⟩⟩, ⟨fun h8 => (by cases h8), fun h9 => (by cases h9)⟩⟩
end
end Go.Proofs.Ytfmogmgdpamfgaa.Jd

