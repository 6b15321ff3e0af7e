import Derived.Test.YtfmogmgdpamfgaaJw7
namespace Go.Proofs.Ytfmogmgdpamfgaa.Jd
open Go.RowKit Go.Proofs.YtfmogmgdpamfgaaW.PrintWords Go.Proofs.YtfmogmgdpamfgaaW.PrintLast Go.Proofs.YtfmogmgdpamfgaaW.PrintMore
set_option linter.unusedVariables false
theorem op_cases (op : Int) : op = 5 ∨ op = 8 ∨ op = 7 ∨ op = 9 ∨ op = 2 ∨ op = 3 ∨ op = 4 ∨ ((op == 5) = false ∧ (op == 8) = false ∧ (op == 7) = false ∧ (op == 9) = false ∧ (op == 2) = false ∧ (op == 3) = false ∧ (op == 4) = false) := by
  by_cases h1 : op = 5; exact .inl h1
  by_cases h2 : op = 8; exact .inr (.inl h2)
  by_cases h3 : op = 7; exact .inr (.inr (.inl h3))
  by_cases h4 : op = 9; exact .inr (.inr (.inr (.inl h4)))
  by_cases h5 : op = 2; exact .inr (.inr (.inr (.inr (.inl h5))))
  by_cases h6 : op = 3; exact .inr (.inr (.inr (.inr (.inr (.inl h6)))))
  by_cases h7 : op = 4; exact .inr (.inr (.inr (.inr (.inr (.inr (.inl h7))))))
  exact .inr (.inr (.inr (.inr (.inr (.inr (.inr ⟨beq_f h1, beq_f h2, beq_f h3, beq_f h4, beq_f h5, beq_f h6, beq_f h7⟩))))))
section
variable {w : World} {p : Nat} {g : Ge} {t : Nat → Nat} {s : JS} {gb : Nat} {hl hr he hd : Value}
set_option maxHeartbeats 8000000 in
set_option maxRecDepth 100000 in
theorem address_no (b : Int) (hm : s.listed.length ≤ 900) (h : JAt w p g t s gb hl hr he hd) (hno : mostP s.op ≤ s.listed.length ∨ (mostP s.op = 1 ∧ b ≠ (if s.op = 4 then 137 else 0))) : Calls Try.prog 90 #[.pointer (some ⟨p, 0, none⟩), .int .u8 b] w fun e w' => e = .returned (.bool false) ∧ w' = w := by
  have c8 := h.c8
  obtain ⟨⟨A9, m9, rfl⟩, _⟩ := h.slices
  have c9 := h.c9
  generalize s.listed.length = n at *
  generalize s.op = op at *
  clear h
  rcases op_cases op with rfl | rfl | rfl | rfl | rfl | rfl | rfl | ⟨o5, o8, o7, o9, o2, o3, o4⟩
  · have e : decide ((4 : Int) ≤ (n : Int)) = true := decide_eq_true (by rcases hno with h | h; (have : (4 : Nat) ≤ n := h); omega; (have : (4 : Nat) = 1 := h.1); omega)
    clear hno hm
    go_enter Try.func90, Try.ntmps90
    go_wp2_with fail
    go_ret
    exact ⟨rfl, rfl⟩
  · have e : decide ((4 : Int) ≤ (n : Int)) = true := decide_eq_true (by rcases hno with h | h; (have : (4 : Nat) ≤ n := h); omega; (have : (4 : Nat) = 1 := h.1); omega)
    clear hno hm
    go_enter Try.func90, Try.ntmps90
    go_wp2_with fail
    go_ret
    exact ⟨rfl, rfl⟩
  · have e : decide ((2 : Int) ≤ (n : Int)) = true := decide_eq_true (by rcases hno with h | h; (have : (2 : Nat) ≤ n := h); omega; (have : (2 : Nat) = 1 := h.1); omega)
    clear hno hm
    go_enter Try.func90, Try.ntmps90
    go_wp2_with fail
    go_ret
    exact ⟨rfl, rfl⟩
  · have e : decide ((2 : Int) ≤ (n : Int)) = true := decide_eq_true (by rcases hno with h | h; (have : (2 : Nat) ≤ n := h); omega; (have : (2 : Nat) = 1 := h.1); omega)
    clear hno hm
    go_enter Try.func90, Try.ntmps90
    go_wp2_with fail
    go_ret
    exact ⟨rfl, rfl⟩
  all_goals
    first
    | (have hno2 : (1 : Nat) ≤ n ∨ b ≠ 0 := hno.imp id (fun h => h.2)
       clear hno
       rcases Nat.lt_or_ge n 1 with hlt | hge
       · have e : decide ((1 : Int) ≤ (n : Int)) = false := decide_eq_false (by omega)
         have e2 : (b != 0) = true := by rw [bne_iff_ne]; rcases hno2 with h | h; omega; exact h
         clear hno2 hm hlt
         go_enter Try.func90, Try.ntmps90
         go_wp2_with fail
         go_ret
         exact ⟨rfl, rfl⟩
       · have e : decide ((1 : Int) ≤ (n : Int)) = true := decide_eq_true (by omega)
         clear hno2 hm hge
         go_enter Try.func90, Try.ntmps90
         go_wp2_with fail
         go_ret
         exact ⟨rfl, rfl⟩)
    | (have hno2 : (1 : Nat) ≤ n ∨ b ≠ 137 := hno.imp id (fun h => h.2)
       clear hno
       rcases Nat.lt_or_ge n 1 with hlt | hge
       · have e : decide ((1 : Int) ≤ (n : Int)) = false := decide_eq_false (by omega)
         have e2 : (b != 137) = true := by rw [bne_iff_ne]; rcases hno2 with h | h; omega; exact h
         clear hno2 hm hlt
         go_enter Try.func90, Try.ntmps90
         go_wp2_with fail
         go_ret
         exact ⟨rfl, rfl⟩
       · have e : decide ((1 : Int) ≤ (n : Int)) = true := decide_eq_true (by omega)
         clear hno2 hm hge
         go_enter Try.func90, Try.ntmps90
         go_wp2_with fail
         go_ret
         exact ⟨rfl, rfl⟩)
    | (have e : decide ((0 : Int) ≤ (n : Int)) = true := decide_eq_true (by omega)
       clear hno hm
       go_enter Try.func90, Try.ntmps90
       go_wp2_with fail
       go_ret
       exact ⟨rfl, rfl⟩)
end
end Go.Proofs.Ytfmogmgdpamfgaa.Jd

namespace Go.Proofs.Ytfmogmgdpamfgaa.Jd
open Go.RowKit Go.Proofs.YtfmogmgdpamfgaaW.PrintWords Go.Proofs.YtfmogmgdpamfgaaW.PrintLast Go.Proofs.YtfmogmgdpamfgaaW.PrintMore
set_option linter.unusedVariables false
section
variable {w : World} {p : Nat} {g : Ge} {t : Nat → Nat} {s : JS} {gb : Nat} {hl hr he hd : Value}
set_option maxHeartbeats 16000000 in
set_option maxRecDepth 100000 in
theorem address_yes (b : Int) (hb1 : 0 ≤ b ∧ b ≤ 255) (hg : g.ok) (hb : IsB s.listed) (hm : s.listed.length ≤ 900) (h : JAt w p g t s gb hl hr he hd) (hyes : ¬ mostP s.op ≤ s.listed.length ∧ ¬ (mostP s.op = 1 ∧ b ≠ (if s.op = 4 then 137 else 0))) : Calls Try.prog 90 #[.pointer (some ⟨p, 0, none⟩), .int .u8 b] w fun e w' => e = .returned (.bool (addressP g s b).2) ∧ ∃ t' hl', JAt w' p g t' (addressP g s b).1 gb hl' hr he hd ∧ Nxt w w' t t' := by
  have c8 := h.c8
  obtain ⟨⟨A9, m9, rfl⟩, _⟩ := h.slices
  obtain ⟨n, hn⟩ : ∃ n, n = s.listed.length := ⟨_, rfl⟩
  obtain ⟨op, hop⟩ : ∃ op, op = s.op := ⟨_, rfl⟩
  rw [← hn] at h hyes
  rw [← hop] at hyes c8
  have c9 := h.c9
  have HJ := Lib.hid h
  have HG := Lib.hid hg
  have HB2 : Hid (IsB (s.listed ++ [b])) := Lib.hid (fun x hx => by
    rcases List.mem_append.1 hx with h2 | h2
    · exact hb x h2
    · rw [List.mem_singleton.1 h2]; exact hb1)
  have HM2 : Hid ((s.listed ++ [b]).length ≤ 1000) := Lib.hid (by rw [List.length_append, List.length_singleton]; omega)
  have HZ : Hid ((s.listed.length + 1) * 1 ≤ 140737488355328) := Lib.hid (by omega)
  clear h hg hb hb1 hm
  rcases op_cases op with rfl | rfl | rfl | rfl | rfl | rfl | rfl | ⟨o5, o8, o7, o9, o2, o3, o4⟩
  · as_aux_lemma =>
    have e : decide ((4 : Int) ≤ (n : Int)) = false := decide_eq_false (by have : ¬ (4 : Nat) ≤ n := hyes.1; omega)
    have h5 : s.op = 5 := hop.symm
    have h3 : ¬ s.op = 3 := by rw [← hop]; decide
    have HE := Lib.hid (show addressP g s b = fitsP g { { s with data := false } with listed := s.listed ++ [b] } from by unfold addressP; rw [if_neg (by rw [← hop, ← hn]; exact hyes.1), if_neg (by rw [← hop]; exact hyes.2)]; simp only [if_pos h5]; rw [if_neg h3])
    have HOP := Lib.hid hop
    clear hyes h5 h3 hop hn
    go_enter Try.func90, Try.ntmps90
    have HWJ := Lib.hid (HJ.out.s16 false)
    have HX := Lib.hid (HJ.out.n [(16, .bool false)])
    simp only [sets] at HX
    have hz := HJ.out.z
    have c16 := HJ.out.c16
    go_upto_region 23 with fail
    generalize w.setCell ⟨p, 16, none⟩ (.bool false) = ww at HWJ HX ⊢
    clear c8 c9 hz c16
    have c8 := HWJ.out.c8
    have c9 := HWJ.out.c9
    have HR9 := Lib.hid HWJ.out.r9
    obtain ⟨vv, hv⟩ : ∃ vv, vv = Value.slice A9 n m9 := ⟨_, rfl⟩
    rw [← hv] at c9 HWJ HR9
    clear hv HJ
    go_upto_region 24 with (at_builtin; refine Kd.R_append (Kd.int .u8) 0 rfl (.tmp 50) (.tmp 52) 30 5 _ 1 rfl Try.underlying30 info5 rfl (by decide) (by decide) vv s.listed b [.int .u8 b] _ (fun _ => False) rfl rfl rfl (fun _ h => h.elim) (fun _ _ => trivial) HR9.out (Below.refl _ _) (Nat.zero_le _) HZ.out ?_; intro v1 w2 hr1 _ hg1 hat1; obtain ⟨A1, c1, rfl⟩ := Kd.R_slice hr1; generalize (s.listed ++ [b]).length = n1 at hr1 hg1 hat1 ⊢; obtain ⟨d9, hz2, hj2, hn2⟩ := HWJ.out.app9 hr1 hg1 hat1; have HJ2 := Lib.hid hj2; have HN2 := Lib.hid hn2; clear hr1 hg1 hat1 hj2 hn2)
    have HX2 := Lib.hid (HX.out.trans HN2.out)
    generalize w2.setCell ⟨p, 9, none⟩ (.slice A1 n1 c1) = w3 at HJ2 HX2 ⊢
    clear c8 c9 d9 hz2 HR9 HWJ HX HN2
    have c8 : w3.cell? ⟨p, 8, none⟩ = some (.int .i64 5) := by rw [HJ2.out.c8, ← HOP.out]
    have HF := Lib.hid (fits_ok HG.out (HB2.out) HM2.out HJ2.out)
    go_wp2_with (go_at_call 130; refine (HF.out).mono ?_; rintro e w4 ⟨rfl, hj4, hn4⟩; have HJ4 := Lib.hid hj4; have HN4 := Lib.hid (HX2.out.trans hn4); clear hj4 hn4)
    go_ret
    exact ⟨by rw [HE.out]; rfl, _, _, by rw [HE.out]; exact HJ4.out, HN4.out⟩
  · as_aux_lemma =>
    have e : decide ((4 : Int) ≤ (n : Int)) = false := decide_eq_false (by have : ¬ (4 : Nat) ≤ n := hyes.1; omega)
    have h5 : ¬ s.op = 5 := by rw [← hop]; decide
    have h3 : ¬ s.op = 3 := by rw [← hop]; decide
    have HE := Lib.hid (show addressP g s b = fitsP g { s with listed := s.listed ++ [b] } from by unfold addressP; rw [if_neg (by rw [← hop, ← hn]; exact hyes.1), if_neg (by rw [← hop]; exact hyes.2)]; simp only [if_neg h5]; rw [if_neg h3])
    have HOP := Lib.hid hop
    clear hyes h5 h3 hop hn
    go_enter Try.func90, Try.ntmps90
    go_upto_region 23 with fail
    have HWJ := HJ
    have HX := Lib.hid (Nxt.refl w t)
    have HR9 := Lib.hid HWJ.out.r9
    obtain ⟨vv, hv⟩ : ∃ vv, vv = Value.slice A9 n m9 := ⟨_, rfl⟩
    rw [← hv] at c9 HWJ HR9
    clear hv HJ
    go_upto_region 24 with (at_builtin; refine Kd.R_append (Kd.int .u8) 0 rfl (.tmp 50) (.tmp 52) 30 5 _ 1 rfl Try.underlying30 info5 rfl (by decide) (by decide) vv s.listed b [.int .u8 b] _ (fun _ => False) rfl rfl rfl (fun _ h => h.elim) (fun _ _ => trivial) HR9.out (Below.refl _ _) (Nat.zero_le _) HZ.out ?_; intro v1 w2 hr1 _ hg1 hat1; obtain ⟨A1, c1, rfl⟩ := Kd.R_slice hr1; generalize (s.listed ++ [b]).length = n1 at hr1 hg1 hat1 ⊢; obtain ⟨d9, hz2, hj2, hn2⟩ := HWJ.out.app9 hr1 hg1 hat1; have HJ2 := Lib.hid hj2; have HN2 := Lib.hid hn2; clear hr1 hg1 hat1 hj2 hn2)
    have HX2 := Lib.hid (HX.out.trans HN2.out)
    generalize w2.setCell ⟨p, 9, none⟩ (.slice A1 n1 c1) = w3 at HJ2 HX2 ⊢
    clear c8 c9 d9 hz2 HR9 HWJ HX HN2
    have c8 : w3.cell? ⟨p, 8, none⟩ = some (.int .i64 8) := by rw [HJ2.out.c8, ← HOP.out]
    have HF := Lib.hid (fits_ok HG.out (HB2.out) HM2.out HJ2.out)
    go_wp2_with (go_at_call 130; refine (HF.out).mono ?_; rintro e w4 ⟨rfl, hj4, hn4⟩; have HJ4 := Lib.hid hj4; have HN4 := Lib.hid (HX2.out.trans hn4); clear hj4 hn4)
    go_ret
    exact ⟨by rw [HE.out]; rfl, _, _, by rw [HE.out]; exact HJ4.out, HN4.out⟩
  · as_aux_lemma =>
    have e : decide ((2 : Int) ≤ (n : Int)) = false := decide_eq_false (by have : ¬ (2 : Nat) ≤ n := hyes.1; omega)
    have h5 : ¬ s.op = 5 := by rw [← hop]; decide
    have h3 : ¬ s.op = 3 := by rw [← hop]; decide
    have HE := Lib.hid (show addressP g s b = fitsP g { s with listed := s.listed ++ [b] } from by unfold addressP; rw [if_neg (by rw [← hop, ← hn]; exact hyes.1), if_neg (by rw [← hop]; exact hyes.2)]; simp only [if_neg h5]; rw [if_neg h3])
    have HOP := Lib.hid hop
    clear hyes h5 h3 hop hn
    go_enter Try.func90, Try.ntmps90
    go_upto_region 23 with fail
    have HWJ := HJ
    have HX := Lib.hid (Nxt.refl w t)
    have HR9 := Lib.hid HWJ.out.r9
    obtain ⟨vv, hv⟩ : ∃ vv, vv = Value.slice A9 n m9 := ⟨_, rfl⟩
    rw [← hv] at c9 HWJ HR9
    clear hv HJ
    go_upto_region 24 with (at_builtin; refine Kd.R_append (Kd.int .u8) 0 rfl (.tmp 50) (.tmp 52) 30 5 _ 1 rfl Try.underlying30 info5 rfl (by decide) (by decide) vv s.listed b [.int .u8 b] _ (fun _ => False) rfl rfl rfl (fun _ h => h.elim) (fun _ _ => trivial) HR9.out (Below.refl _ _) (Nat.zero_le _) HZ.out ?_; intro v1 w2 hr1 _ hg1 hat1; obtain ⟨A1, c1, rfl⟩ := Kd.R_slice hr1; generalize (s.listed ++ [b]).length = n1 at hr1 hg1 hat1 ⊢; obtain ⟨d9, hz2, hj2, hn2⟩ := HWJ.out.app9 hr1 hg1 hat1; have HJ2 := Lib.hid hj2; have HN2 := Lib.hid hn2; clear hr1 hg1 hat1 hj2 hn2)
    have HX2 := Lib.hid (HX.out.trans HN2.out)
    generalize w2.setCell ⟨p, 9, none⟩ (.slice A1 n1 c1) = w3 at HJ2 HX2 ⊢
    clear c8 c9 d9 hz2 HR9 HWJ HX HN2
    have c8 : w3.cell? ⟨p, 8, none⟩ = some (.int .i64 7) := by rw [HJ2.out.c8, ← HOP.out]
    have HF := Lib.hid (fits_ok HG.out (HB2.out) HM2.out HJ2.out)
    go_wp2_with (go_at_call 130; refine (HF.out).mono ?_; rintro e w4 ⟨rfl, hj4, hn4⟩; have HJ4 := Lib.hid hj4; have HN4 := Lib.hid (HX2.out.trans hn4); clear hj4 hn4)
    go_ret
    exact ⟨by rw [HE.out]; rfl, _, _, by rw [HE.out]; exact HJ4.out, HN4.out⟩
  · as_aux_lemma =>
    have e : decide ((2 : Int) ≤ (n : Int)) = false := decide_eq_false (by have : ¬ (2 : Nat) ≤ n := hyes.1; omega)
    have h5 : ¬ s.op = 5 := by rw [← hop]; decide
    have h3 : ¬ s.op = 3 := by rw [← hop]; decide
    have HE := Lib.hid (show addressP g s b = fitsP g { s with listed := s.listed ++ [b] } from by unfold addressP; rw [if_neg (by rw [← hop, ← hn]; exact hyes.1), if_neg (by rw [← hop]; exact hyes.2)]; simp only [if_neg h5]; rw [if_neg h3])
    have HOP := Lib.hid hop
    clear hyes h5 h3 hop hn
    go_enter Try.func90, Try.ntmps90
    go_upto_region 23 with fail
    have HWJ := HJ
    have HX := Lib.hid (Nxt.refl w t)
    have HR9 := Lib.hid HWJ.out.r9
    obtain ⟨vv, hv⟩ : ∃ vv, vv = Value.slice A9 n m9 := ⟨_, rfl⟩
    rw [← hv] at c9 HWJ HR9
    clear hv HJ
    go_upto_region 24 with (at_builtin; refine Kd.R_append (Kd.int .u8) 0 rfl (.tmp 50) (.tmp 52) 30 5 _ 1 rfl Try.underlying30 info5 rfl (by decide) (by decide) vv s.listed b [.int .u8 b] _ (fun _ => False) rfl rfl rfl (fun _ h => h.elim) (fun _ _ => trivial) HR9.out (Below.refl _ _) (Nat.zero_le _) HZ.out ?_; intro v1 w2 hr1 _ hg1 hat1; obtain ⟨A1, c1, rfl⟩ := Kd.R_slice hr1; generalize (s.listed ++ [b]).length = n1 at hr1 hg1 hat1 ⊢; obtain ⟨d9, hz2, hj2, hn2⟩ := HWJ.out.app9 hr1 hg1 hat1; have HJ2 := Lib.hid hj2; have HN2 := Lib.hid hn2; clear hr1 hg1 hat1 hj2 hn2)
    have HX2 := Lib.hid (HX.out.trans HN2.out)
    generalize w2.setCell ⟨p, 9, none⟩ (.slice A1 n1 c1) = w3 at HJ2 HX2 ⊢
    clear c8 c9 d9 hz2 HR9 HWJ HX HN2
    have c8 : w3.cell? ⟨p, 8, none⟩ = some (.int .i64 9) := by rw [HJ2.out.c8, ← HOP.out]
    have HF := Lib.hid (fits_ok HG.out (HB2.out) HM2.out HJ2.out)
    go_wp2_with (go_at_call 130; refine (HF.out).mono ?_; rintro e w4 ⟨rfl, hj4, hn4⟩; have HJ4 := Lib.hid hj4; have HN4 := Lib.hid (HX2.out.trans hn4); clear hj4 hn4)
    go_ret
    exact ⟨by rw [HE.out]; rfl, _, _, by rw [HE.out]; exact HJ4.out, HN4.out⟩
  · as_aux_lemma =>
    have e : decide ((1 : Int) ≤ (n : Int)) = false := decide_eq_false (by have : ¬ (1 : Nat) ≤ n := hyes.1; omega)
    have e2 : b = 0 := by by_cases hb : b = 0; exact hb; exact absurd ⟨rfl, hb⟩ hyes.2
    have e3 : (b != 0) = false := by rw [e2]; rfl
    clear e2
    have h5 : ¬ s.op = 5 := by rw [← hop]; decide
    have h3 : ¬ s.op = 3 := by rw [← hop]; decide
    have HE := Lib.hid (show addressP g s b = fitsP g { s with listed := s.listed ++ [b] } from by unfold addressP; rw [if_neg (by rw [← hop, ← hn]; exact hyes.1), if_neg (by rw [← hop]; exact hyes.2)]; simp only [if_neg h5]; rw [if_neg h3])
    have HOP := Lib.hid hop
    clear hyes h5 h3 hop hn
    go_enter Try.func90, Try.ntmps90
    go_upto_region 23 with fail
    have HWJ := HJ
    have HX := Lib.hid (Nxt.refl w t)
    have HR9 := Lib.hid HWJ.out.r9
    obtain ⟨vv, hv⟩ : ∃ vv, vv = Value.slice A9 n m9 := ⟨_, rfl⟩
    rw [← hv] at c9 HWJ HR9
    clear hv HJ
    go_upto_region 24 with (at_builtin; refine Kd.R_append (Kd.int .u8) 0 rfl (.tmp 50) (.tmp 52) 30 5 _ 1 rfl Try.underlying30 info5 rfl (by decide) (by decide) vv s.listed b [.int .u8 b] _ (fun _ => False) rfl rfl rfl (fun _ h => h.elim) (fun _ _ => trivial) HR9.out (Below.refl _ _) (Nat.zero_le _) HZ.out ?_; intro v1 w2 hr1 _ hg1 hat1; obtain ⟨A1, c1, rfl⟩ := Kd.R_slice hr1; generalize (s.listed ++ [b]).length = n1 at hr1 hg1 hat1 ⊢; obtain ⟨d9, hz2, hj2, hn2⟩ := HWJ.out.app9 hr1 hg1 hat1; have HJ2 := Lib.hid hj2; have HN2 := Lib.hid hn2; clear hr1 hg1 hat1 hj2 hn2)
    have HX2 := Lib.hid (HX.out.trans HN2.out)
    generalize w2.setCell ⟨p, 9, none⟩ (.slice A1 n1 c1) = w3 at HJ2 HX2 ⊢
    clear c8 c9 d9 hz2 HR9 HWJ HX HN2
    have c8 : w3.cell? ⟨p, 8, none⟩ = some (.int .i64 2) := by rw [HJ2.out.c8, ← HOP.out]
    have HF := Lib.hid (fits_ok HG.out (HB2.out) HM2.out HJ2.out)
    go_wp2_with (go_at_call 130; refine (HF.out).mono ?_; rintro e w4 ⟨rfl, hj4, hn4⟩; have HJ4 := Lib.hid hj4; have HN4 := Lib.hid (HX2.out.trans hn4); clear hj4 hn4)
    go_ret
    exact ⟨by rw [HE.out]; rfl, _, _, by rw [HE.out]; exact HJ4.out, HN4.out⟩
  · as_aux_lemma =>
    have e : decide ((1 : Int) ≤ (n : Int)) = false := decide_eq_false (by have : ¬ (1 : Nat) ≤ n := hyes.1; omega)
    have e2 : b = 0 := by by_cases hb : b = 0; exact hb; exact absurd ⟨rfl, hb⟩ hyes.2
    have e3 : (b != 0) = false := by rw [e2]; rfl
    clear e2
    have h5 : ¬ s.op = 5 := by rw [← hop]; decide
    have h3 : s.op = 3 := hop.symm
    have HE := Lib.hid (show addressP g s b = fitsP g (startP { { s with listed := s.listed ++ [b] } with column := 0, data := true }) from by unfold addressP; rw [if_neg (by rw [← hop, ← hn]; exact hyes.1), if_neg (by rw [← hop]; exact hyes.2)]; simp only [if_neg h5]; rw [if_pos h3])
    have HOP := Lib.hid hop
    clear hyes h5 h3 hop hn
    go_enter Try.func90, Try.ntmps90
    go_upto_region 23 with fail
    have HWJ := HJ
    have HX := Lib.hid (Nxt.refl w t)
    have HR9 := Lib.hid HWJ.out.r9
    obtain ⟨vv, hv⟩ : ∃ vv, vv = Value.slice A9 n m9 := ⟨_, rfl⟩
    rw [← hv] at c9 HWJ HR9
    clear hv HJ
    go_upto_region 24 with (at_builtin; refine Kd.R_append (Kd.int .u8) 0 rfl (.tmp 50) (.tmp 52) 30 5 _ 1 rfl Try.underlying30 info5 rfl (by decide) (by decide) vv s.listed b [.int .u8 b] _ (fun _ => False) rfl rfl rfl (fun _ h => h.elim) (fun _ _ => trivial) HR9.out (Below.refl _ _) (Nat.zero_le _) HZ.out ?_; intro v1 w2 hr1 _ hg1 hat1; obtain ⟨A1, c1, rfl⟩ := Kd.R_slice hr1; generalize (s.listed ++ [b]).length = n1 at hr1 hg1 hat1 ⊢; obtain ⟨d9, hz2, hj2, hn2⟩ := HWJ.out.app9 hr1 hg1 hat1; have HJ2 := Lib.hid hj2; have HN2 := Lib.hid hn2; clear hr1 hg1 hat1 hj2 hn2)
    have HX2 := Lib.hid (HX.out.trans HN2.out)
    generalize w2.setCell ⟨p, 9, none⟩ (.slice A1 n1 c1) = w3 at HJ2 HX2 ⊢
    clear c8 c9 d9 hz2 HR9 HWJ HX HN2
    have c8 : w3.cell? ⟨p, 8, none⟩ = some (.int .i64 3) := by rw [HJ2.out.c8, ← HOP.out]
    have HJ3 := Lib.hid ((HJ2.out.s15 0).s16 true)
    have HX3 := Lib.hid (HX2.out.trans (HJ2.out.n [(15, .int .i64 0), (16, .bool true)]))
    simp only [sets] at HX3
    have hz3 := HJ2.out.z
    have b15 := HJ2.out.c15
    have b16 := HJ2.out.c16
    go_upto_region 26 with fail
    generalize (w3.setCell ⟨p, 15, none⟩ (.int .i64 0)).setCell ⟨p, 16, none⟩ (.bool true) = w5 at HJ3 HX3 ⊢
    clear c8 hz3 b15 b16 HJ2 HX2
    have HS := Lib.hid (start_ok HJ3.out)
    go_upto_region 27 with (go_at_call 86; refine (HS.out).mono ?_; rintro e w6 ⟨rfl, hj6, hn6⟩; have HJ6 := Lib.hid hj6; have HX6 := Lib.hid (HX3.out.trans hn6); clear hj6 hn6)
    have HF := Lib.hid (fits_ok HG.out (fun _ h => by cases h) (Nat.zero_le _) HJ6.out)
    go_wp2_with (go_at_call 130; refine (HF.out).mono ?_; rintro e w4 ⟨rfl, hj4, hn4⟩; have HJ4 := Lib.hid hj4; have HN4 := Lib.hid (HX6.out.trans hn4); clear hj4 hn4)
    go_ret
    exact ⟨by rw [HE.out]; rfl, _, _, by rw [HE.out]; exact HJ4.out, HN4.out⟩
  · as_aux_lemma =>
    have e : decide ((1 : Int) ≤ (n : Int)) = false := decide_eq_false (by have : ¬ (1 : Nat) ≤ n := hyes.1; omega)
    have e2 : b = 137 := by by_cases hb : b = 137; exact hb; exact absurd ⟨rfl, hb⟩ hyes.2
    have e3 : (b != 137) = false := by rw [e2]; rfl
    clear e2
    have h5 : ¬ s.op = 5 := by rw [← hop]; decide
    have h3 : ¬ s.op = 3 := by rw [← hop]; decide
    have HE := Lib.hid (show addressP g s b = fitsP g { s with listed := s.listed ++ [b] } from by unfold addressP; rw [if_neg (by rw [← hop, ← hn]; exact hyes.1), if_neg (by rw [← hop]; exact hyes.2)]; simp only [if_neg h5]; rw [if_neg h3])
    have HOP := Lib.hid hop
    clear hyes h5 h3 hop hn
    go_enter Try.func90, Try.ntmps90
    go_upto_region 23 with fail
    have HWJ := HJ
    have HX := Lib.hid (Nxt.refl w t)
    have HR9 := Lib.hid HWJ.out.r9
    obtain ⟨vv, hv⟩ : ∃ vv, vv = Value.slice A9 n m9 := ⟨_, rfl⟩
    rw [← hv] at c9 HWJ HR9
    clear hv HJ
    go_upto_region 24 with (at_builtin; refine Kd.R_append (Kd.int .u8) 0 rfl (.tmp 50) (.tmp 52) 30 5 _ 1 rfl Try.underlying30 info5 rfl (by decide) (by decide) vv s.listed b [.int .u8 b] _ (fun _ => False) rfl rfl rfl (fun _ h => h.elim) (fun _ _ => trivial) HR9.out (Below.refl _ _) (Nat.zero_le _) HZ.out ?_; intro v1 w2 hr1 _ hg1 hat1; obtain ⟨A1, c1, rfl⟩ := Kd.R_slice hr1; generalize (s.listed ++ [b]).length = n1 at hr1 hg1 hat1 ⊢; obtain ⟨d9, hz2, hj2, hn2⟩ := HWJ.out.app9 hr1 hg1 hat1; have HJ2 := Lib.hid hj2; have HN2 := Lib.hid hn2; clear hr1 hg1 hat1 hj2 hn2)
    have HX2 := Lib.hid (HX.out.trans HN2.out)
    generalize w2.setCell ⟨p, 9, none⟩ (.slice A1 n1 c1) = w3 at HJ2 HX2 ⊢
    clear c8 c9 d9 hz2 HR9 HWJ HX HN2
    have c8 : w3.cell? ⟨p, 8, none⟩ = some (.int .i64 4) := by rw [HJ2.out.c8, ← HOP.out]
    have HF := Lib.hid (fits_ok HG.out (HB2.out) HM2.out HJ2.out)
    go_wp2_with (go_at_call 130; refine (HF.out).mono ?_; rintro e w4 ⟨rfl, hj4, hn4⟩; have HJ4 := Lib.hid hj4; have HN4 := Lib.hid (HX2.out.trans hn4); clear hj4 hn4)
    go_ret
    exact ⟨by rw [HE.out]; rfl, _, _, by rw [HE.out]; exact HJ4.out, HN4.out⟩
  · exfalso
    refine hyes.1 ?_
    unfold mostP
    have h5 := beq_eq_false_iff_ne.1 o5
    have h8 := beq_eq_false_iff_ne.1 o8
    have h7 := beq_eq_false_iff_ne.1 o7
    have h9 := beq_eq_false_iff_ne.1 o9
    have h2 := beq_eq_false_iff_ne.1 o2
    have h3 := beq_eq_false_iff_ne.1 o3
    have h4 := beq_eq_false_iff_ne.1 o4
    rw [if_neg (by omega), if_neg (by omega), if_neg (by omega)]
    exact Nat.zero_le _
end
end Go.Proofs.Ytfmogmgdpamfgaa.Jd

