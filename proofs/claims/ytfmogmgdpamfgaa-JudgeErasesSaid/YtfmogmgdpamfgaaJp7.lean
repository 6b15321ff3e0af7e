import Derived.Test.YtfmogmgdpamfgaaJwd
import Derived.Test.YtfmogmgdpamfgaaJp6
namespace Go.Proofs.Ytfmogmgdpamfgaa.Jd
open Go.RowKit
set_option linter.unusedVariables false
set_option linter.unusedSimpArgs false
/-! What a walk asks of a judge stays. -/
theorem noX {α : Type} {P : α → Prop} : ∀ x ∈ ([] : List α), P x := fun x hx => nomatch hx
structure WfC (g : Ge) (n : Nat) (s : JS) : Prop where
  sh : Shape g s
  lb : IsB s.listed
  l4 : s.listed.length ≤ 4
  ro : s.rows.length ≤ n ∧ ∀ x ∈ s.rows, inR g x = true
  er : s.erases.length ≤ n ∧ ∀ x ∈ s.erases, 0 ≤ x ∧ x < g.bl
  dn : s.doing.length ≤ n ∧ ∀ x ∈ s.doing, 0 ≤ x ∧ x < g.bl
def InL (g : Ge) (s : JS) : Prop := (s.op = 8 → s.listed.length = 4 → inR g (num s.listed 2) = true) ∧ (s.op = 9 → s.listed.length = 2 → inR g (num s.listed 0) = true)
theorem Shape.set {g : Ge} {bs : List Blk} (h : bs.length = g.bl.toNat ∧ ∀ b ∈ bs, b.pr.length = g.pg.toNat) (i : Nat) (b : Blk) (hb : b.pr.length = g.pg.toNat) : (bs.set i b).length = g.bl.toNat ∧ ∀ x ∈ bs.set i b, x.pr.length = g.pg.toNat :=
  ⟨by rw [List.length_set]; exact h.1, fun x hx => (List.mem_or_eq_of_mem_set hx).elim (h.2 x) (fun e => by rw [e]; exact hb)⟩
theorem bB_pr {g : Ge} {bs : List Blk} (h : bs.length = g.bl.toNat ∧ ∀ b ∈ bs, b.pr.length = g.pg.toNat) {b : Int} (h0 : 0 ≤ b) (h1 : b < g.bl) : (bB bs b).pr.length = g.pg.toNat := by
  obtain ⟨n, rfl⟩ := Int.eq_ofNat_of_zero_le h0
  exact h.2 _ (List.mem_of_getElem? (bB_get (bs := bs) (i := n) (by rw [h.1]; omega)))
theorem lostB_shape {g : Ge} : ∀ (d : List Int), (∀ x ∈ d, 0 ≤ x ∧ x < g.bl) → ∀ {bs : List Blk}, (bs.length = g.bl.toNat ∧ ∀ b ∈ bs, b.pr.length = g.pg.toNat) → ((lostB bs d).length = g.bl.toNat ∧ ∀ b ∈ lostB bs d, b.pr.length = g.pg.toNat)
  | [], _, bs, h => h
  | x :: d, hd, bs, h => lostB_shape d (fun y hy => hd y (List.mem_cons_of_mem _ hy)) (bs := bs.set x.toNat { bB bs x with er := false }) (Shape.set h x.toNat { bB bs x with er := false } (bB_pr h (hd x List.mem_cons_self).1 (hd x List.mem_cons_self).2))
theorem freshB_shape {g : Ge} : ∀ (d : List Int) {bs : List Blk}, (bs.length = g.bl.toNat ∧ ∀ b ∈ bs, b.pr.length = g.pg.toNat) → ((freshB g bs d).length = g.bl.toNat ∧ ∀ b ∈ freshB g bs d, b.pr.length = g.pg.toNat)
  | [], bs, h => h
  | x :: d, bs, h => freshB_shape d (bs := bs.set x.toNat ⟨true, -1, List.replicate g.pg.toNat 0⟩) (Shape.set h x.toNat ⟨true, -1, List.replicate g.pg.toNat 0⟩ (List.length_replicate ..))
section
variable {g : Ge} {n : Nat} {s : JS}
theorem WfC.mono (h : WfC g n s) {m : Nat} (hm : n ≤ m) : WfC g m s := ⟨h.sh, h.lb, h.l4, ⟨Nat.le_trans h.ro.1 hm, h.ro.2⟩, ⟨Nat.le_trans h.er.1 hm, h.er.2⟩, ⟨Nat.le_trans h.dn.1 hm, h.dn.2⟩⟩
/-- Blocks, listed, rows, erases and doing alone count. -/
theorem WfC.re {s' : JS} (h : WfC g n s) (e1 : s'.blocks = s.blocks) (e2 : s'.listed = s.listed ∨ s'.listed = []) (e3 : s'.rows = s.rows ∨ s'.rows = []) (e4 : s'.erases = s.erases ∨ s'.erases = []) (e5 : s'.doing = s.doing ∨ s'.doing = []) : WfC g n s' := by
  refine ⟨?_, ?_, ?_, ?_, ?_, ?_⟩
  · unfold Shape; rw [e1]; exact h.sh
  · rcases e2 with e | e <;> rw [e]
    · exact h.lb
    · intro x hx; cases hx
  · rcases e2 with e | e <;> rw [e]
    · exact h.l4
    · exact Nat.zero_le _
  · rcases e3 with e | e <;> rw [e]
    · exact h.ro
    · exact ⟨Nat.zero_le _, noX⟩
  · rcases e4 with e | e <;> rw [e]
    · exact h.er
    · exact ⟨Nat.zero_le _, noX⟩
  · rcases e5 with e | e <;> rw [e]
    · exact h.dn
    · exact ⟨Nat.zero_le _, noX⟩
theorem WfC.re1 {s' : JS} (h : WfC g n s) (e1 : s'.blocks = s.blocks) (e2 : s'.listed = s.listed ∨ s'.listed = []) (e3 : s'.rows = s.rows ∨ s'.rows = []) (e4 : s'.erases = s.erases ∨ s'.erases = []) (e5 : s'.doing = s.doing ∨ s'.doing = []) : WfC g (n + 1) s' := (h.re e1 e2 e3 e4 e5).mono (Nat.le_succ n)
theorem WfC.lost (h : WfC g n s) : WfC g n (lostP s) := ⟨lostB_shape s.doing h.dn.2 h.sh, h.lb, h.l4, h.ro, h.er, ⟨Nat.zero_le _, noX⟩⟩
theorem WfC.drop (h : WfC g n s) : WfC g n (dropP s) := h.lost.re rfl (.inr rfl) (.inr rfl) (.inr rfl) (.inl rfl)
theorem WfC.start (h : WfC g n s) : WfC g n (startP s) := h.re rfl (.inr rfl) (.inl rfl) (.inl rfl) (.inl rfl)
theorem WfC.poll (h : WfC g n s) (b : Int) : WfC g n (pollP s b) := by
  unfold pollP
  split
  · split
    · exact h.lost.re rfl (.inl rfl) (.inl rfl) (.inl rfl) (.inr rfl)
    · exact h.re rfl (.inl rfl) (.inl rfl) (.inl rfl) (.inr rfl)
  · exact h
theorem WfC.prog (hg : g.ok) (h : WfC g n s) {r : Int} (hr : inR g r = true) (s' : JS) (e1 : s'.blocks = s.blocks) (e2 : s'.listed = s.listed) (e3 : s'.rows = s.rows ∨ s'.rows = [] ∨ s'.rows = s.rows ++ [r]) (e4 : s'.erases = s.erases) (e5 : s'.doing = s.doing) : WfC g (n + 1) (doneP s' (r / g.pg) (r % g.pg)) := by
  obtain ⟨_, _, _, r4, _, r6⟩ := row_split hg ((inR_iff g r).1 hr).1 ((inR_iff g r).1 hr).2
  refine ⟨?_, noX, Nat.zero_le _, ?_, ?_, ?_⟩
  · show (progB s'.blocks (r / g.pg) (r % g.pg)).length = g.bl.toNat ∧ ∀ b ∈ progB s'.blocks (r / g.pg) (r % g.pg), b.pr.length = g.pg.toNat
    rw [e1]
    refine Shape.set h.sh _ _ ?_
    show ((bB s.blocks (r / g.pg)).pr.set _ _).length = g.pg.toNat
    rw [List.length_set]; exact bB_pr h.sh r4 r6
  · show s'.rows.length ≤ n + 1 ∧ ∀ x ∈ s'.rows, inR g x = true
    rcases e3 with e | e | e <;> rw [e]
    · exact ⟨by have := h.ro.1; omega, h.ro.2⟩
    · exact ⟨Nat.zero_le _, noX⟩
    · refine ⟨by rw [List.length_append, List.length_singleton]; have := h.ro.1; omega, fun x hx => ?_⟩
      rcases List.mem_append.1 hx with h2 | h2
      · exact h.ro.2 x h2
      · rw [List.mem_singleton.1 h2]; exact hr
  · show s'.erases.length ≤ n + 1 ∧ ∀ x ∈ s'.erases, 0 ≤ x ∧ x < g.bl
    rw [e4]
    exact ⟨by have := h.er.1; omega, h.er.2⟩
  · show s'.doing.length ≤ n + 1 ∧ ∀ x ∈ s'.doing, 0 ≤ x ∧ x < g.bl
    rw [e5]
    exact ⟨by have := h.dn.1; omega, h.dn.2⟩
theorem loaded_wf (hg : g.ok) (h : WfC g n s) (hin : inR g (num s.listed 2) = true) (c : Int) : WfC g (n + 1) (loadedP g s c).1 ∧ ((loadedP g s c).2 = true → (loadedP g s c).1.op = 1) := by
  unfold loadedP
  simp only
  split
  · exact ⟨h.mono (Nat.le_succ n), fun h => by cases h⟩
  split
  · exact ⟨h.mono (Nat.le_succ n), fun h => by cases h⟩
  split
  · split
    · exact ⟨h.prog hg hin _ rfl rfl (.inr (.inl rfl)) rfl rfl, fun _ => rfl⟩
    · exact ⟨h.mono (Nat.le_succ n), fun h => by cases h⟩
  split
  · split
    · exact ⟨h.mono (Nat.le_succ n), fun h => by cases h⟩
    · exact ⟨h.prog hg hin _ rfl rfl (.inr (.inr rfl)) rfl rfl, fun _ => rfl⟩
  split
  · exact ⟨h.prog hg hin _ rfl rfl (.inr (.inl rfl)) rfl rfl, fun _ => rfl⟩
  · exact ⟨h.mono (Nat.le_succ n), fun h => by cases h⟩
theorem erased_wf (hg : g.ok) (h : WfC g n s) (hin : inR g (num s.listed 0) = true) (c : Int) : WfC g (n + 1) (erasedP g s c).1 ∧ ((erasedP g s c).2 = true → (erasedP g s c).1.op = 1) := by
  obtain ⟨_, _, _, r4, _, r6⟩ := row_split hg ((inR_iff g _).1 hin).1 ((inR_iff g _).1 hin).2
  have her : (s.erases ++ [num s.listed 0 / g.pg]).length ≤ n + 1 ∧ ∀ x ∈ s.erases ++ [num s.listed 0 / g.pg], 0 ≤ x ∧ x < g.bl := by
    refine ⟨by rw [List.length_append, List.length_singleton]; have := h.er.1; omega, fun x hx => ?_⟩
    rcases List.mem_append.1 hx with h2 | h2
    · exact h.er.2 x h2
    · rw [List.mem_singleton.1 h2]; exact ⟨r4, r6⟩
  have hro : s.rows.length ≤ n + 1 ∧ ∀ x ∈ s.rows, inR g x = true := ⟨by have := h.ro.1; omega, h.ro.2⟩
  have hdn : s.doing.length ≤ n + 1 ∧ ∀ x ∈ s.doing, 0 ≤ x ∧ x < g.bl := ⟨by have := h.dn.1; omega, h.dn.2⟩
  unfold erasedP
  simp only
  split
  · exact ⟨h.mono (Nat.le_succ n), fun h => by cases h⟩
  split
  · exact ⟨h.mono (Nat.le_succ n), fun h => by cases h⟩
  split
  · exact ⟨⟨h.sh, noX, Nat.zero_le _, hro, her, hdn⟩, fun _ => rfl⟩
  · exact ⟨⟨freshB_shape _ h.sh, noX, Nat.zero_le _, hro, ⟨Nat.zero_le _, noX⟩, her⟩, fun _ => rfl⟩
theorem begin_wf (h : WfC g n s) (c : Int) : WfC g n (beginP s c).1 ∧ ((beginP s c).2 = true → (beginP s c).1.listed = []) := by
  unfold beginP
  simp only
  split
  · exact ⟨h, fun h => by cases h⟩
  · have h2 : ∀ s' : JS, s'.blocks = s.blocks → s'.listed = [] → s'.rows = s.rows → s'.erases = s.erases → s'.doing = s.doing → WfC g n s' := fun s' e1 e2 e3 e4 e5 => h.re e1 (.inr e2) (.inl e3) (.inl e4) (.inl e5)
    repeat' split
    all_goals exact ⟨h2 _ rfl rfl rfl rfl rfl, fun _ => rfl⟩
theorem command_wf (hg : g.ok) (h : WfC g n s) (hin : InL g s) (c : Int) : WfC g (n + 1) (commandP g s c).1 ∧ ((commandP g s c).2 = true → InL g (commandP g s c).1) := by
  have one : ∀ s' : JS, s'.op = 1 → InL g s' := fun s' e => ⟨fun h => (by omega), fun h => (by omega)⟩
  have nil : ∀ s' : JS, s'.listed = [] → InL g s' := fun s' e => ⟨fun _ h => (by rw [e] at h; cases h), fun _ h => (by rw [e] at h; cases h)⟩
  unfold commandP
  simp only
  split
  · rename_i c1
    have := loaded_wf hg h (hin.1 c1.1 c1.2.1) c
    exact ⟨this.1, fun h2 => one _ (this.2 h2)⟩
  split
  · rename_i c1
    have := erased_wf hg h (hin.2 c1.1 c1.2) c
    exact ⟨this.1, fun h2 => one _ (this.2 h2)⟩
  split
  · split
    · exact ⟨h.re1 rfl (.inr rfl) (.inl rfl) (.inl rfl) (.inl rfl), fun _ => one _ rfl⟩
    · exact ⟨h.mono (Nat.le_succ n), fun h => by cases h⟩
  split
  · split
    · exact ⟨h.re1 rfl (.inr rfl) (.inl rfl) (.inl rfl) (.inl rfl), fun _ => nil _ rfl⟩
    · exact ⟨h.mono (Nat.le_succ n), fun h => by cases h⟩
  split
  · have := begin_wf h c
    exact ⟨this.1.mono (Nat.le_succ n), fun h2 => nil _ (this.2 h2)⟩
  · exact ⟨h.mono (Nat.le_succ n), fun h => by cases h⟩
theorem fits_wf (h : WfC g n s) : WfC g n (fitsP g s).1 ∧ ((fitsP g s).2 = true → InL g (fitsP g s).1) := by
  unfold fitsP
  simp only
  split
  · rename_i c1
    split
    · rename_i c2
      refine ⟨h.re rfl (.inl rfl) (.inl rfl) (.inl rfl) (.inl rfl), fun _ => ⟨fun _ _ => c2, fun h9 => ?_⟩⟩
      have h9' : s.op = 9 := h9
      omega
    · exact ⟨h, fun h => by cases h⟩
  split
  · rename_i c1 c2
    exact ⟨h, fun _ => ⟨fun h8 => (by have h8' : s.op = 8 := h8; omega), fun h9 => (by have h9' : s.op = 9 := h9; omega)⟩⟩
  split
  · rename_i c1 c2 c3
    exact ⟨h, fun h2 => ⟨fun h8 => (by have h8' : s.op = 8 := h8; omega), fun _ _ => h2⟩⟩
  · rename_i c1 c2 c3
    exact ⟨h, fun _ => ⟨fun h8 h4 => absurd ⟨.inl h8, h4⟩ c1, fun h9 h2 => absurd ⟨h9, h2⟩ c3⟩⟩
theorem address_wf (h : WfC g n s) (b : Int) (hb : 0 ≤ b ∧ b ≤ 255) : WfC g n (addressP g s b).1 ∧ ((addressP g s b).2 = true → InL g (addressP g s b).1) := by
  unfold addressP
  generalize hw : (if s.op = 4 then (137 : Int) else 0) = w1
  by_cases c1 : mostP s.op ≤ s.listed.length
  · rw [if_pos c1]; exact ⟨h, fun h => by cases h⟩
  rw [if_neg c1]
  by_cases c2 : mostP s.op = 1 ∧ b ≠ w1
  · rw [if_pos c2]; exact ⟨h, fun h => by cases h⟩
  rw [if_neg c2]
  simp only
  have hm : mostP s.op ≤ 4 := by unfold mostP; repeat' split
                                 all_goals omega
  have hl : (s.listed ++ [b]).length ≤ 4 := by rw [List.length_append, List.length_singleton]; omega
  have hbb : IsB (s.listed ++ [b]) := fun x hx => by
    rcases List.mem_append.1 hx with h2 | h2
    · exact h.lb x h2
    · rw [List.mem_singleton.1 h2]; exact hb
  have key : ∀ s' : JS, s'.blocks = s.blocks → s'.listed = s.listed ++ [b] ∨ s'.listed = [] → s'.rows = s.rows → s'.erases = s.erases → s'.doing = s.doing → WfC g n s' := fun s' e1 e2 e3 e4 e5 => by
    refine ⟨by unfold Shape; rw [e1]; exact h.sh, ?_, ?_, by rw [e3]; exact h.ro, by rw [e4]; exact h.er, by rw [e5]; exact h.dn⟩
    · rcases e2 with e | e <;> rw [e]
      · exact hbb
      · intro x hx; cases hx
    · rcases e2 with e | e <;> rw [e]
      · exact hl
      · exact Nat.zero_le _
  refine fits_wf (key _ ?_ ?_ ?_ ?_ ?_)
  all_goals
    by_cases o5 : s.op = 5 <;> by_cases o3 : s.op = 3 <;> simp [o5, o3, startP]
theorem write_wf (h : WfC g n s) (hin : InL g s) : WfC g n (writeP g s).1 ∧ ((writeP g s).2 = true → InL g (writeP g s).1) := by
  unfold writeP
  simp only
  split
  · split
    · exact ⟨h.re rfl (.inr rfl) (.inl rfl) (.inl rfl) (.inl rfl), fun _ => ⟨fun h8 => (by cases h8), fun h9 => (by cases h9)⟩⟩
    · exact ⟨h.re rfl (.inl rfl) (.inl rfl) (.inl rfl) (.inl rfl), fun _ => hin⟩
  split
  · exact ⟨h.re rfl (.inl rfl) (.inl rfl) (.inl rfl) (.inl rfl), fun _ => hin⟩
  · exact ⟨h.re rfl (.inl rfl) (.inl rfl) (.inl rfl) (.inl rfl), fun h => by cases h⟩
theorem read_wf (h : WfC g n s) (hin : InL g s) : WfC g n (readP g s).1 ∧ ((readP g s).2 = true → InL g (readP g s).1) := by
  unfold readP
  simp only
  split
  · exact ⟨h.re rfl (.inl rfl) (.inl rfl) (.inl rfl) (.inl rfl), fun _ => hin⟩
  split
  · exact ⟨h.re rfl (.inl rfl) (.inl rfl) (.inl rfl) (.inl rfl), fun _ => ⟨fun h8 => (by cases h8), fun h9 => (by cases h9)⟩⟩
  split
  · rename_i c3
    exact ⟨h.re rfl (.inl rfl) (.inl rfl) (.inl rfl) (.inl rfl), fun _ => ⟨fun h8 => (by have h8' : s.op = 8 := h8; omega), fun h9 => (by have h9' : s.op = 9 := h9; omega)⟩⟩
  · exact ⟨h, fun h => by cases h⟩
theorem see_wf (hg : g.ok) (h : WfC g n s) (hin : InL g s) (k b : Int) (hb : 0 ≤ b ∧ b ≤ 255) : WfC g (n + 1) (seeP g s k b).1 ∧ ((seeP g s k b).2 = true → InL g (seeP g s k b).1) := by
  unfold seeP
  simp only
  generalize ((k == 1 && b == 112) || (s.polls && k == 4)) = pv
  have h1 : WfC g n { s with polls := pv } := h.re rfl (.inl rfl) (.inl rfl) (.inl rfl) (.inl rfl)
  have hin1 : InL g { s with polls := pv } := hin
  split
  · exact ⟨(h1.drop.start).mono (Nat.le_succ n), fun _ => ⟨fun h8 => (by cases h8), fun h9 => (by cases h9)⟩⟩
  split
  · exact ⟨h1.mono (Nat.le_succ n), fun h => by cases h⟩
  split
  · split
    · exact ⟨h1.mono (Nat.le_succ n), fun _ => hin1⟩
    · exact ⟨h1.re1 rfl (.inr rfl) (.inl rfl) (.inl rfl) (.inl rfl), fun _ => ⟨fun h8 => (by cases h8), fun h9 => (by cases h9)⟩⟩
  split
  · refine ⟨(h1.poll b).mono (Nat.le_succ n), fun _ => ?_⟩
    have e1 : (pollP { s with polls := pv } b).op = s.op ∧ (pollP { s with polls := pv } b).listed = s.listed := by
      unfold pollP
      split
      · split <;> exact ⟨rfl, rfl⟩
      · exact ⟨rfl, rfl⟩
    unfold InL
    rw [e1.1, e1.2]
    exact hin
  split
  · exact ⟨h1.mono (Nat.le_succ n), fun h => by cases h⟩
  split
  · exact command_wf hg h1 hin1 b
  split
  · have := address_wf h1 b hb; exact ⟨this.1.mono (Nat.le_succ n), this.2⟩
  split
  · have := write_wf h1 hin1; exact ⟨this.1.mono (Nat.le_succ n), this.2⟩
  split
  · have := read_wf h1 hin1; exact ⟨this.1.mono (Nat.le_succ n), this.2⟩
  · exact ⟨h1.mono (Nat.le_succ n), fun h => by cases h⟩
/-- After n cycles. -/
structure WfN (g : Ge) (n : Nat) (s : JS) : Prop where
  hg : g.ok
  c : WfC g n s
  i : InL g s
theorem WfN.wf (h : WfN g n s) (hn : n ≤ 900000) : Wf g s :=
  ⟨h.hg, h.c.sh, h.c.lb, by have := h.c.l4; omega, h.i.1, h.i.2, ⟨by have := h.c.ro.1; omega, h.c.ro.2⟩, ⟨by have := h.c.er.1; omega, h.c.er.2⟩, ⟨fun x hx => by have := h.c.dn.2 x hx; rw [h.c.sh.1]; have := h.hg.2.1.1; omega, by have := h.c.dn.1; omega⟩⟩
theorem WfN.mono (h : WfN g n s) {m : Nat} (hm : n ≤ m) : WfN g m s := ⟨h.hg, h.c.mono hm, h.i⟩
theorem WfN.step (h : WfN g n s) (k b : Int) (hb : 0 ≤ b ∧ b ≤ 255) : WfN g (n + 1) (stepP g s k b).1 := by
  unfold stepP
  split
  · exact ⟨h.hg, h.c.mono (Nat.le_succ n), h.i⟩
  have h2 := see_wf h.hg h.c h.i k b hb
  split
  · rename_i c2
    exact ⟨h.hg, h2.1, h2.2 c2⟩
  · exact ⟨h.hg, h2.1.re rfl (.inl rfl) (.inl rfl) (.inl rfl) (.inl rfl), ⟨fun h8 => (by cases h8), fun h9 => (by cases h9)⟩⟩
theorem WfN.power (h : WfN g n s) : WfN g n (powerP s) := ⟨h.hg, h.c.drop.re rfl (.inl rfl) (.inl rfl) (.inl rfl) (.inl rfl), ⟨fun h8 => (by cases h8), fun h9 => (by cases h9)⟩⟩
theorem WfN.new (hg : g.ok) : WfN g 0 (newP g) :=
  ⟨hg, ⟨⟨by show (List.replicate _ _).length = _; simp, fun b hb => by
    have : b ∈ List.replicate g.bl.toNat (⟨false, -1, List.replicate g.pg.toNat 0⟩ : Blk) := hb
    rw [(List.mem_replicate.1 this).2]
    simp⟩, noX, Nat.zero_le _, ⟨Nat.le_refl _, noX⟩, ⟨Nat.le_refl _, noX⟩, ⟨Nat.le_refl _, noX⟩⟩, ⟨fun h8 => (by cases h8), fun h9 => (by cases h9)⟩⟩
end
end Go.Proofs.Ytfmogmgdpamfgaa.Jd
