import Derived.Test.YtfmogmgdpamfgaaJw9
namespace Go.Proofs.Ytfmogmgdpamfgaa.Jd
open Go.RowKit Go.Proofs.YtfmogmgdpamfgaaW.PrintWords Go.Proofs.YtfmogmgdpamfgaaW.PrintLast Go.Proofs.YtfmogmgdpamfgaaW.PrintMore
set_option linter.unusedVariables false
theorem c_cases (c : Int) : c = 144 ∨ c = 236 ∨ c = 239 ∨ c = 0 ∨ c = 5 ∨ c = 128 ∨ c = 96 ∨ (c ≠ 144 ∧ c ≠ 236 ∧ c ≠ 239 ∧ c ≠ 0 ∧ c ≠ 5 ∧ c ≠ 128 ∧ c ≠ 96) := by omega
section
variable {w : World} {p : Nat} {g : Ge} {t : Nat → Nat} {s : JS} {gb : Nat} {hl hr he hd : Value}
/-- What must go on. -/
theorem must_cases (s : JS) : (s.behind = true ∧ mustP s = 128) ∨ (s.behind = false ∧ 0 < s.rows.length ∧ mustP s = 128) ∨ (s.behind = false ∧ s.rows.length = 0 ∧ 0 < s.erases.length ∧ mustP s = 96) ∨ (s.behind = false ∧ s.rows.length = 0 ∧ s.erases.length = 0 ∧ mustP s = 0) := by
  unfold mustP
  cases s.behind <;> cases s.rows <;> cases s.erases <;> simp
set_option maxHeartbeats 16000000 in
set_option maxRecDepth 100000 in
theorem begin_ok (c : Int) (h : JAt w p g t s gb hl hr he hd) (hm : s.rows.length ≤ 1000000 ∧ s.erases.length ≤ 1000000) : Calls Try.prog 129 #[.pointer (some ⟨p, 0, none⟩), .int .u8 c] w fun e w' => e = .returned (.bool (beginP s c).2) ∧ (∃ hl', JAt w' p g t (beginP s c).1 gb hl' hr he hd) ∧ Nxt w w' t t := by
  have c8 := h.c8; have c10 := h.c10; have c13 := h.c13; have c16 := h.c16
  have hz := h.z
  obtain ⟨⟨A9, m9, rfl⟩, ⟨A17, m17, rfl⟩, ⟨A18, m18, rfl⟩, _⟩ := h.slices
  have c9 := h.c9
  have c17 := h.c17
  have c18 := h.c18
  rcases must_cases s with ⟨hb, hmu⟩ | ⟨hb, hro, hmu⟩ | ⟨hb, hro, her, hmu⟩ | ⟨hb, hro, her, hmu⟩
  · rw [hb] at c13
    by_cases hc : c = 128
    · subst hc
      have HE := Lib.hid (show beginP s 128 = ({ { { s with listed := [], writes := 0 } with op := 8 } with data := false }, true) from by unfold beginP; rw [hmu]; rfl)
      have HF := Lib.hid ((((h.s9).s10 0).s8 8).s16 false)
      have HX := Lib.hid (h.n [(9, .slice none 0 0), (10, .int .i64 0), (8, .int .i64 8), (16, .bool false)])
      clear h hmu hm hb
      go_enter Try.func129, Try.ntmps129
      go_wp2_with fail
      all_goals
        go_ret
        exact ⟨by rw [HE.out]; rfl, ⟨_, by rw [HE.out]; exact HF.out⟩, HX.out⟩
    · have o1 := (bne_iff_ne.2 hc : (c != 128) = true)
      have HE := Lib.hid (show beginP s c = (s, false) from by unfold beginP; rw [hmu, o1]; rfl)
      have HF := Lib.hid h
      have HX := Lib.hid (Nxt.refl w t)
      clear h hmu hm hb hc
      go_enter Try.func129, Try.ntmps129
      go_wp2_with fail
      go_ret
      exact ⟨by rw [HE.out]; rfl, ⟨_, by rw [HE.out]; exact HF.out⟩, HX.out⟩
  · rw [hb] at c13
    have o2 : decide (0 < s.rows.length) = true := decide_eq_true (by omega)
    by_cases hc : c = 128
    · subst hc
      have HE := Lib.hid (show beginP s 128 = ({ { { s with listed := [], writes := 0 } with op := 8 } with data := false }, true) from by unfold beginP; rw [hmu]; rfl)
      have HF := Lib.hid ((((h.s9).s10 0).s8 8).s16 false)
      have HX := Lib.hid (h.n [(9, .slice none 0 0), (10, .int .i64 0), (8, .int .i64 8), (16, .bool false)])
      clear h hmu hm hb hro
      go_enter Try.func129, Try.ntmps129
      go_wp2_with fail
      all_goals
        go_ret
        exact ⟨by rw [HE.out]; rfl, ⟨_, by rw [HE.out]; exact HF.out⟩, HX.out⟩
    · have o1 := (bne_iff_ne.2 hc : (c != 128) = true)
      have HE := Lib.hid (show beginP s c = (s, false) from by unfold beginP; rw [hmu, o1]; rfl)
      have HF := Lib.hid h
      have HX := Lib.hid (Nxt.refl w t)
      clear h hmu hm hb hro hc
      go_enter Try.func129, Try.ntmps129
      go_wp2_with fail
      go_ret
      exact ⟨by rw [HE.out]; rfl, ⟨_, by rw [HE.out]; exact HF.out⟩, HX.out⟩
  · rw [hb] at c13
    have o2 : decide (0 < s.rows.length) = false := decide_eq_false (by omega)
    have o3 : decide (0 < s.erases.length) = true := decide_eq_true (by omega)
    by_cases hc : c = 96
    · subst hc
      have HE := Lib.hid (show beginP s 96 = ({ { { s with listed := [], writes := 0 } with op := 9 } with data := false }, true) from by unfold beginP; rw [hmu]; rfl)
      have HF := Lib.hid ((((h.s9).s10 0).s8 9).s16 false)
      have HX := Lib.hid (h.n [(9, .slice none 0 0), (10, .int .i64 0), (8, .int .i64 9), (16, .bool false)])
      clear h hmu hm hb hro her
      go_enter Try.func129, Try.ntmps129
      go_wp2_with fail
      all_goals
        go_ret
        exact ⟨by rw [HE.out]; rfl, ⟨_, by rw [HE.out]; exact HF.out⟩, HX.out⟩
    · have o1 := (bne_iff_ne.2 hc : (c != 96) = true)
      have HE := Lib.hid (show beginP s c = (s, false) from by unfold beginP; rw [hmu, o1]; rfl)
      have HF := Lib.hid h
      have HX := Lib.hid (Nxt.refl w t)
      clear h hmu hm hb hro her hc
      go_enter Try.func129, Try.ntmps129
      go_wp2_with fail
      go_ret
      exact ⟨by rw [HE.out]; rfl, ⟨_, by rw [HE.out]; exact HF.out⟩, HX.out⟩
  · rw [hb] at c13
    have o2 : decide (0 < s.rows.length) = false := decide_eq_false (by omega)
    have o3 : decide (0 < s.erases.length) = false := decide_eq_false (by omega)
    rcases c_cases c with rfl | rfl | rfl | rfl | rfl | rfl | rfl | ⟨n1, n2, n3, n4, n5, n6, n7⟩
    · have HE := Lib.hid (show beginP s 144 = ({ { { s with listed := [], writes := 0 } with op := 2 } with data := false }, true) from by unfold beginP; rw [hmu]; rfl)
      have HF := Lib.hid ((((h.s9).s10 0).s8 2).s16 false)
      have HX := Lib.hid (h.n [(9, .slice none 0 0), (10, .int .i64 0), (8, .int .i64 2), (16, .bool false)])
      clear h hmu hm hb hro her
      go_enter Try.func129, Try.ntmps129
      go_wp2_with fail
      all_goals
        go_ret
        exact ⟨by rw [HE.out]; rfl, ⟨_, by rw [HE.out]; exact HF.out⟩, HX.out⟩
    · have HE := Lib.hid (show beginP s 236 = ({ { { s with listed := [], writes := 0 } with op := 3 } with data := false }, true) from by unfold beginP; rw [hmu]; rfl)
      have HF := Lib.hid ((((h.s9).s10 0).s8 3).s16 false)
      have HX := Lib.hid (h.n [(9, .slice none 0 0), (10, .int .i64 0), (8, .int .i64 3), (16, .bool false)])
      clear h hmu hm hb hro her
      go_enter Try.func129, Try.ntmps129
      go_wp2_with fail
      all_goals
        go_ret
        exact ⟨by rw [HE.out]; rfl, ⟨_, by rw [HE.out]; exact HF.out⟩, HX.out⟩
    · have HE := Lib.hid (show beginP s 239 = ({ { { s with listed := [], writes := 0 } with op := 4 } with data := false }, true) from by unfold beginP; rw [hmu]; rfl)
      have HF := Lib.hid ((((h.s9).s10 0).s8 4).s16 false)
      have HX := Lib.hid (h.n [(9, .slice none 0 0), (10, .int .i64 0), (8, .int .i64 4), (16, .bool false)])
      clear h hmu hm hb hro her
      go_enter Try.func129, Try.ntmps129
      go_wp2_with fail
      all_goals
        go_ret
        exact ⟨by rw [HE.out]; rfl, ⟨_, by rw [HE.out]; exact HF.out⟩, HX.out⟩
    · have HE := Lib.hid (show beginP s 0 = ({ { s with listed := [], writes := 0 } with op := 5 }, true) from by unfold beginP; rw [hmu]; rfl)
      have HF := Lib.hid (((h.s9).s10 0).s8 5)
      have HX := Lib.hid (h.n [(9, .slice none 0 0), (10, .int .i64 0), (8, .int .i64 5)])
      clear h hmu hm hb hro her
      go_enter Try.func129, Try.ntmps129
      go_wp2_with fail
      all_goals
        go_ret
        exact ⟨by rw [HE.out]; rfl, ⟨_, by rw [HE.out]; exact HF.out⟩, HX.out⟩
    · cases hda : s.data with
      | true =>
        rw [hda] at c16
        have HE := Lib.hid (show beginP s 5 = ({ { s with listed := [], writes := 0 } with op := 7 }, true) from by unfold beginP; rw [hmu]; simp [hda])
        have HF := Lib.hid (((h.s9).s10 0).s8 7)
        have HX := Lib.hid (h.n [(9, .slice none 0 0), (10, .int .i64 0), (8, .int .i64 7)])
        clear h hmu hm hb hro her hda
        go_enter Try.func129, Try.ntmps129
        go_wp2_with fail
        all_goals
          go_ret
          exact ⟨by rw [HE.out]; rfl, ⟨_, by rw [HE.out]; exact HF.out⟩, HX.out⟩
      | false =>
        rw [hda] at c16
        have HE := Lib.hid (show beginP s 5 = ({ s with listed := [], writes := 0 }, false) from by unfold beginP; rw [hmu]; simp [hda])
        have HF := Lib.hid ((h.s9).s10 0)
        have HX := Lib.hid (h.n [(9, .slice none 0 0), (10, .int .i64 0)])
        clear h hmu hm hb hro her hda
        go_enter Try.func129, Try.ntmps129
        go_wp2_with fail
        all_goals
          go_ret
          exact ⟨by rw [HE.out]; rfl, ⟨_, by rw [HE.out]; exact HF.out⟩, HX.out⟩
    · have HE := Lib.hid (show beginP s 128 = ({ { { s with listed := [], writes := 0 } with op := 8 } with data := false }, true) from by unfold beginP; rw [hmu]; rfl)
      have HF := Lib.hid ((((h.s9).s10 0).s8 8).s16 false)
      have HX := Lib.hid (h.n [(9, .slice none 0 0), (10, .int .i64 0), (8, .int .i64 8), (16, .bool false)])
      clear h hmu hm hb hro her
      go_enter Try.func129, Try.ntmps129
      go_wp2_with fail
      all_goals
        go_ret
        exact ⟨by rw [HE.out]; rfl, ⟨_, by rw [HE.out]; exact HF.out⟩, HX.out⟩
    · have HE := Lib.hid (show beginP s 96 = ({ { { s with listed := [], writes := 0 } with op := 9 } with data := false }, true) from by unfold beginP; rw [hmu]; rfl)
      have HF := Lib.hid ((((h.s9).s10 0).s8 9).s16 false)
      have HX := Lib.hid (h.n [(9, .slice none 0 0), (10, .int .i64 0), (8, .int .i64 9), (16, .bool false)])
      clear h hmu hm hb hro her
      go_enter Try.func129, Try.ntmps129
      go_wp2_with fail
      all_goals
        go_ret
        exact ⟨by rw [HE.out]; rfl, ⟨_, by rw [HE.out]; exact HF.out⟩, HX.out⟩
    · have HE := Lib.hid (show beginP s c = ({ s with listed := [], writes := 0 }, false) from by unfold beginP; rw [hmu]; simp [n1, n2, n3, n4, n5, n6, n7])
      have q1 := beq_f n1
      have q2 := beq_f n2
      have q3 := beq_f n3
      have q4 := beq_f n4
      have q5 := beq_f n5
      have q6 := beq_f n6
      have q7 := beq_f n7
      clear n1 n2 n3 n4 n5 n6 n7
      have HF := Lib.hid ((h.s9).s10 0)
      have HX := Lib.hid (h.n [(9, .slice none 0 0), (10, .int .i64 0)])
      clear h hmu hm hb hro her
      go_enter Try.func129, Try.ntmps129
      go_wp2_with fail
      all_goals
        go_ret
        exact ⟨by rw [HE.out]; rfl, ⟨_, by rw [HE.out]; exact HF.out⟩, HX.out⟩
end
end Go.Proofs.Ytfmogmgdpamfgaa.Jd

namespace Go.Proofs.Ytfmogmgdpamfgaa.Jd
open Go.RowKit Go.Proofs.YtfmogmgdpamfgaaW.PrintWords Go.Proofs.YtfmogmgdpamfgaaW.PrintLast Go.Proofs.YtfmogmgdpamfgaaW.PrintMore
set_option linter.unusedVariables false
theorem bch {BE c1 : Bool} (h : ¬ (BE = true ∧ c1 = true)) : (!true || (BE && c1)) = false ∧ (BE = false ∨ (BE = true ∧ c1 = false)) := by cases BE <;> cases c1 <;> simp_all
theorem info3 : (Try.prog.info? 3).map (fun i => (i.zero, i.size, i.bytes)) = some (some (.int .i64 0), 1, 8) := by kernel_rfl
section
variable {w : World} {p : Nat} {g : Ge} {t : Nat → Nat} {s : JS} {gb : Nat} {hl hr he hd : Value}
set_option maxHeartbeats 8000000 in
set_option maxRecDepth 100000 in
theorem loaded_ok (c : Int) (hg : g.ok) (hsh : Shape g s) (hb : IsB s.listed) (hm : s.listed.length ≤ 1000) (h4 : s.listed.length = 4) (hin : inR g (num s.listed 2) = true) (hro : s.rows.length ≤ 1000000 ∧ ∀ x ∈ s.rows, inR g x = true) (h : JAt w p g t s gb hl hr he hd) : Calls Try.prog 126 #[.pointer (some ⟨p, 0, none⟩), .int .u8 c] w fun e w' => e = .returned (.bool (loadedP g s c).2) ∧ ∃ t' hl' hr', JAt w' p g t' (loadedP g s c).1 gb hl' hr' he hd ∧ Nxt w w' t t' := by
  have HN2 : Hid (∀ (W : World) (s1 : JS), s1.listed = s.listed → JAt W p g t s1 gb hl hr he hd → Calls Try.prog 128 #[.pointer (some ⟨p, 0, none⟩), .int .i64 2] W fun e w' => e = .returned (.int .i64 (num s.listed 2)) ∧ Below W.heap.size W w') := Lib.hid (num_at 2 (by omega) hm hb)
  obtain ⟨r, hr2⟩ : ∃ r, r = num s.listed 2 := ⟨_, rfl⟩
  rw [← hr2] at HN2
  have HS := Lib.hid (fun W => gsplit_in (row := r) hg (by rw [hr2]; exact hin) W)
  have HJ := Lib.hid h
  have HG := Lib.hid hg
  have HRO := Lib.hid hro
  obtain ⟨_, ⟨A17, m17, rfl⟩, _⟩ := h.slices
  obtain ⟨n, hn⟩ : ∃ n, n = s.rows.length := ⟨_, rfl⟩
  have HNN := Lib.hid hn
  have hin2 : inR g r = true := by rw [hr2]; exact hin
  have HIN := Lib.hid hin2
  obtain ⟨r1, r2, r3, r4, r5, r6⟩ := row_split hg ((inR_iff g r).1 hin2).1 ((inR_iff g r).1 hin2).2
  obtain ⟨b, hbb⟩ := Int.eq_ofNat_of_zero_le r4
  obtain ⟨q, hpp⟩ := Int.eq_ofNat_of_zero_le r5
  obtain ⟨bb, hb2⟩ : ∃ bb : Int, bb = (b : Int) := ⟨_, rfl⟩
  obtain ⟨qq, hq2⟩ : ∃ qq : Int, qq = (q : Int) := ⟨_, rfl⟩
  have HBB := Lib.hid hb2
  have HQQ := Lib.hid hq2
  rw [hbb, hpp, ← hb2, ← hq2] at HS
  rw [hbb] at r1
  rw [hpp] at r2
  simp only [Int.toNat_natCast] at r1 r2
  have hbl : b < s.blocks.length := by rw [hsh.1]; exact r1
  have HBL := Lib.hid hbl
  have HQL : Hid (q < (bB s.blocks b).pr.length) := Lib.hid (by rw [hsh.pr hbl]; exact r2)
  have HSH := Lib.hid hsh
  have HLD : Hid (loadedP g s c = (if !rowsOk g s.rows bb qq then (s, false) else if !canP g s r || (s.behind && bb != s.chain) then (s, false)
    else if c = 21 then (if s.rows.isEmpty then (doneP { s with behind := true, chain := bb, rows := [] } bb qq, true) else (s, false))
    else if c = 17 then (if s.behind then (s, false) else (doneP { s with rows := s.rows ++ [r] } bb qq, true))
    else if c = 16 then (doneP { s with rows := [] } bb qq, true) else (s, false))) := Lib.hid (by unfold loadedP; simp only; rw [← hr2, hbb, hpp, ← hb2, ← hq2])
  have hro1 : n ≤ 1000000 := by rw [hn]; exact hro.1
  clear h hro hn hm hb hin hbb hpp hr2 hin2 hb2 hq2 r1 r2 r3 r4 r5 r6 hbl hsh hg h4
  go_enter Try.func126, Try.ntmps126
  go_upto_region 2 with (go_at_call 128; refine (HN2.out _ s rfl HJ.out).mono ?_; rintro e w1 ⟨rfl, hb1⟩; have HJ1 := Lib.hid (HJ.out.below hb1); have HX1 := Lib.hid ((Nxt.refl w t).below hb1); clear hb1)
  have c0 := HJ1.out.c0; have c1 := HJ1.out.c1; have c2 := HJ1.out.c2; have c3 := HJ1.out.c3; have c4 := HJ1.out.c4; have c5 := HJ1.out.c5; have c6 := HJ1.out.c6
  go_upto_region 4 with (go_at_call 59; refine (HS.out _).mono ?_; rintro e w2 ⟨rfl, hb1⟩; have HJ2 := Lib.hid (HJ1.out.below hb1); have HX2 := Lib.hid (HX1.out.below hb1); clear hb1)
  clear c0 c1 c2 c3 c4 c5 c6 HJ1 HX1
  have c17 := HJ2.out.c17
  rw [← HNN.out] at c17
  go_wp2_with fail
  go_loopw [32, 9] (fun i v9 wr => ∃ k : Nat, k ≤ n ∧ i = .int .i64 k ∧ v9 = .bool (decide (k = 0)) ∧ Hid (rowsOk g (s.rows.take k) bb qq = true) ∧ Hid (JAt wr p g t s gb hl (.slice A17 s.rows.length m17) he hd) ∧ Hid (Nxt w wr t t)) (fun i _ _ => n - (intOf i).toNat)
  case atStart => exact ⟨0, by omega, rfl, rfl, Lib.hid (by rw [List.take_zero]; rfl), HJ2, HX2⟩
  case round =>
    clear HJ2 HX2
    obtain ⟨k, hk, rfl, rfl, HOK, HJ, HX⟩ := hrel
    by_cases hkn : k < n
    · have hk0 : (k : Int) < (n : Int) := by omega
      have hlen : k < s.rows.length := by rw [← HNN.out]; exact hkn
      obtain ⟨_, _, e1, _, hC⟩ := Kd.R_reads (Ob.rowAt HJ.out 2 rfl)
      injection e1 with e1 _ e3
      subst e1
      subst e3
      obtain ⟨b5, o5, rfl, _, hc5⟩ := row_of_C hC (by omega)
      have e5 := hc5 k hlen
      have hx := HRO.out.2 (s.rows.getD k 0) (by rw [List.getD_eq_getElem?_getD, List.getElem?_eq_getElem hlen]; exact List.getElem_mem hlen)
      have htake : s.rows.take (k + 1) = s.rows.take k ++ [s.rows.getD k 0] := by
        rw [List.take_succ_eq_append_getElem hlen, List.getD_eq_getElem?_getD, List.getElem?_eq_getElem hlen]; rfl
      have hge : s.rows.getD k 0 = s.rows[k] := by rw [List.getD_eq_getElem?_getD, List.getElem?_eq_getElem hlen]; rfl
      rw [hge] at e5 hx htake
      obtain ⟨x, hxe⟩ : ∃ x, s.rows[k] = x := ⟨_, rfl⟩
      rw [hxe] at e5 hx htake
      clear hge
      have HT := Lib.hid htake
      have HXX := Lib.hid ((inR_iff g x).1 hx)
      have HSPL : Hid (s.rows = s.rows.take k ++ x :: s.rows.drop (k + 1)) := Lib.hid (by rw [← hxe, ← List.drop_eq_getElem_cons hlen, List.take_append_drop])
      have HS2 := Lib.hid (fun W => gsplit_in (row := x) HG.out hx W)
      obtain ⟨ob, hob⟩ : ∃ ob, ob = x / g.pg := ⟨_, rfl⟩
      obtain ⟨oq, hoq⟩ : ∃ oq, oq = x % g.pg := ⟨_, rfl⟩
      rw [← hob, ← hoq] at HS2
      have HOB := Lib.hid hob
      have HOQ := Lib.hid hoq
      have c0 := HJ.out.c0; have c1 := HJ.out.c1; have c2 := HJ.out.c2; have c3 := HJ.out.c3; have c4 := HJ.out.c4; have c5 := HJ.out.c5; have c6 := HJ.out.c6
      clear hC hc5 hx htake hob hoq hxe hlen
      go_upto_region 8 with (go_at_call 59; refine (HS2.out _).mono ?_; rintro e w2 ⟨rfl, hb1⟩; have HJ2 := Lib.hid (HJ.out.below hb1); have HX2 := Lib.hid (HX.out.below hb1); clear hb1)
      clear c0 c1 c2 c3 c4 c5 c6
      have c0 := HJ2.out.c0
      have hpl : ¬ g.pl = 0 := by have := HG.out.1.1; omega
      have hob0 : 0 ≤ ob := by rw [HOB.out]; exact Int.ediv_nonneg HXX.out.1 (by have := HG.out.2.2.1.1; omega)
      have hrem : (ob.tmod g.pl == bb.tmod g.pl) = (ob % g.pl == bb % g.pl) := by rw [Int.tmod_eq_emod_of_nonneg hob0, Int.tmod_eq_emod_of_nonneg (a := bb) ((by rw [HBB.out]; exact Int.natCast_nonneg b))]
      clear hob0
      by_cases hne : oq = qq
      · have e3 : (oq != qq) = false := by rw [hne]; simp
        cases hpq : (ob % g.pl == bb % g.pl) with
        | true =>
          rw [hpq] at hrem
          have HNO : Hid (rowsOk g s.rows bb qq = false) := Lib.hid (by
            rw [HSPL.out]
            unfold rowsOk
            rw [List.all_append, List.all_cons, ← HOB.out, hpq]
            simp)
          have HE : Hid (loadedP g s c = (s, false)) := Lib.hid (by rw [HLD.out, HNO.out]; rfl)
          clear hne hpq
          go_quiet (fail)
          go_wp2_with fail
          go_ret
          exact ⟨by rw [HE.out]; rfl, _, _, _, by rw [HE.out]; exact HJ2.out.drewN _, HX2.out.drewN _⟩
        | false =>
          rw [hpq] at hrem
          have HOK2 : Hid (rowsOk g (s.rows.take (k + 1)) bb qq = true) := Lib.hid (by
            rw [HT.out]
            unfold rowsOk at *
            rw [List.all_append, HOK.out, List.all_cons, ← HOB.out, ← HOQ.out, hpq, hne]
            simp)
          clear hne hpq
          go_quiet (fail)
          go_wp2_with fail
          go_roundw
          case rel =>
            exact ⟨k + 1, hkn, by go_num, (show Value.bool false = .bool (decide (k + 1 = 0)) from by rw [decide_eq_false (by omega)]), HOK2, Lib.hid (HJ2.out.drewN _), Lib.hid (HX2.out.drewN _)⟩
          case measure => exact step_measure hkn
      · have e3 : (oq != qq) = true := by rw [bne_iff_ne]; exact hne
        have HNO : Hid (rowsOk g s.rows bb qq = false) := Lib.hid (by
          rw [HSPL.out]
          unfold rowsOk
          rw [List.all_append, List.all_cons, ← HOQ.out, beq_f hne]
          simp)
        have HE : Hid (loadedP g s c = (s, false)) := Lib.hid (by rw [HLD.out, HNO.out]; rfl)
        clear hne
        go_quiet (fail)
        go_wp2_with fail
        go_ret
        exact ⟨by rw [HE.out]; rfl, _, _, _, by rw [HE.out]; exact HJ2.out.drewN _, HX2.out.drewN _⟩
    · have hke : n = k := by omega
      have hta : s.rows.take k = s.rows := List.take_of_length_le (by rw [← HNN.out]; omega)
      rw [hta] at HOK
      subst hke
      clear hta hkn hk
      have HLD2 : Hid (loadedP g s c = (if !canP g s r || (s.behind && bb != s.chain) then (s, false)
    else if c = 21 then (if s.rows.isEmpty then (doneP { s with behind := true, chain := bb, rows := [] } bb qq, true) else (s, false))
    else if c = 17 then (if s.behind then (s, false) else (doneP { s with rows := s.rows ++ [r] } bb qq, true))
    else if c = 16 then (doneP { s with rows := [] } bb qq, true) else (s, false))) := Lib.hid (by rw [HLD.out, HOK.out]; rfl)
      have hC := can_ok r HG.out HSH.out HJ.out
      obtain ⟨BE, hBE⟩ : ∃ BE, BE = s.behind := ⟨_, rfl⟩
      obtain ⟨CH, hCH⟩ : ∃ CH, CH = s.chain := ⟨_, rfl⟩
      obtain ⟨CN, hCN⟩ : ∃ CN, CN = canP g s r := ⟨_, rfl⟩
      have HBE : Hid (s.behind = BE) := Lib.hid hBE.symm
      rw [← hCN] at hC
      have HC := Lib.hid hC
      clear hC HOK HLD HS HN2
      cases CN with
      | false =>
        have HE : Hid (loadedP g s c = (s, false)) := Lib.hid (by rw [HLD2.out, ← hCN]; rfl)
        clear hCN hBE hCH
        go_wp2_with (go_at_call 18; refine (HC.out).mono ?_; rintro e w3 ⟨rfl, hb3⟩; have HJ3 := Lib.hid (HJ.out.below hb3); have HX3 := Lib.hid (HX.out.below hb3); clear hb3; have hz3 := HJ3.out.z; have d13 := HJ3.out.c13; have d14 := HJ3.out.c14; have d16 := HJ3.out.c16; have d17 := HJ3.out.c17; rw [HBE.out] at d13)
        all_goals
          go_ret
          exact ⟨by rw [HE.out]; rfl, _, _, _, by rw [HE.out]; exact HJ3.out, HX3.out⟩
      | true =>
        have hch2 : (BE = true ∧ (bb != CH) = true) ∨ ¬ (BE = true ∧ (bb != CH) = true) := Classical.em _
        rcases hch2 with ⟨q1, q2⟩ | hno
        · subst q1
          have HE : Hid (loadedP g s c = (s, false)) := Lib.hid (by rw [HLD2.out, ← hCN, ← hBE, ← hCH, q2]; rfl)
          clear hCN hBE
          subst hCH
          go_wp2_with (go_at_call 18; refine (HC.out).mono ?_; rintro e w3 ⟨rfl, hb3⟩; have HJ3 := Lib.hid (HJ.out.below hb3); have HX3 := Lib.hid (HX.out.below hb3); clear hb3; have hz3 := HJ3.out.z; have d13 := HJ3.out.c13; have d14 := HJ3.out.c14; have d16 := HJ3.out.c16; have d17 := HJ3.out.c17; rw [HBE.out] at d13)
          all_goals
            go_ret
            exact ⟨by rw [HE.out]; rfl, _, _, _, by rw [HE.out]; exact HJ3.out, HX3.out⟩
        · have hpass : (!canP g s r || (s.behind && bb != s.chain)) = false := by
            rw [← hCN, ← hBE, ← hCH]
            exact (bch hno).1
          have HL3 : Hid (loadedP g s c = (if c = 21 then (if s.rows.isEmpty then (doneP { s with behind := true, chain := bb, rows := [] } bb qq, true) else (s, false))
    else if c = 17 then (if s.behind then (s, false) else (doneP { s with rows := s.rows ++ [r] } bb qq, true))
    else if c = 16 then (doneP { s with rows := [] } bb qq, true) else (s, false))) := Lib.hid (by rw [HLD2.out, hpass]; rfl)
          have hch3 := (bch hno).2
          clear hpass hno hCN HLD2
          by_cases h21 : c = 21
          · subst h21
            by_cases hn0 : n = 0
            · have hem : s.rows.isEmpty = true := by rw [List.isEmpty_iff, ← List.length_eq_zero_iff, ← HNN.out]; exact hn0
              have hd0 : decide (n = 0) = true := decide_eq_true hn0
              have HEM := Lib.hid hem
              clear hem hn0
              rcases hch3 with q1 | ⟨q1, q2⟩
              · subst q1
                have HE : Hid (loadedP g s 21 = (doneP { s with behind := true, chain := bb, rows := [] } bb qq, true)) := Lib.hid (by rw [HL3.out, if_pos rfl, if_pos HEM.out])
                clear hBE; subst hCH
                go_upto_region 27 with (go_at_call 18; refine (HC.out).mono ?_; rintro e w3 ⟨rfl, hb3⟩; have HJ3 := Lib.hid (HJ.out.below hb3); have HX3 := Lib.hid (HX.out.below hb3); clear hb3; have hz3 := HJ3.out.z; have d13 := HJ3.out.c13; have d14 := HJ3.out.c14; have d16 := HJ3.out.c16; have d17 := HJ3.out.c17; rw [HBE.out] at d13)
                have HJ5 := Lib.hid ((((HJ3.out.s13 true).s14 bb).s17).s16 false)
                have HX5 := Lib.hid (HX3.out.trans (HJ3.out.n [(13, .bool true), (14, .int .i64 bb), (17, .slice none 0 0), (16, .bool false)]))
                simp only [sets] at HX5
                generalize ((((w3.setCell ⟨p, 13, none⟩ (.bool true)).setCell ⟨p, 14, none⟩ (.int .i64 bb)).setCell ⟨p, 17, none⟩ (.slice none 0 0)).setCell ⟨p, 16, none⟩ (.bool false)) = w5 at HJ5 HX5 ⊢
                clear hz3 d13 d14 d16 d17
                have hP := program_ok b q HJ5.out HBL.out HQL.out
                rw [← HBB.out, ← HQQ.out] at hP
                have HP := Lib.hid hP
                clear hP
                go_wp2_with (first | (go_at_call 158; refine (HP.out).mono ?_; rintro e w7 ⟨rfl, hj7, hn7⟩; have HST := Lib.hid (start_ok hj7); have HX7 := Lib.hid (HX5.out.trans hn7); clear hj7 hn7) | (go_at_call 86; (refine (HST.out).mono ?_; rintro e w8 ⟨rfl, hj8, hn8⟩; have HJ8 := Lib.hid hj8; have HX8 := Lib.hid (HX7.out.trans hn8); clear hj8 hn8)))
                go_ret
                exact ⟨by rw [HE.out]; rfl, _, _, _, by rw [HE.out]; exact HJ8.out, HX8.out⟩
              · subst q1
                have HE : Hid (loadedP g s 21 = (doneP { s with behind := true, chain := bb, rows := [] } bb qq, true)) := Lib.hid (by rw [HL3.out, if_pos rfl, if_pos HEM.out])
                clear hBE; subst hCH
                go_upto_region 27 with (go_at_call 18; refine (HC.out).mono ?_; rintro e w3 ⟨rfl, hb3⟩; have HJ3 := Lib.hid (HJ.out.below hb3); have HX3 := Lib.hid (HX.out.below hb3); clear hb3; have hz3 := HJ3.out.z; have d13 := HJ3.out.c13; have d14 := HJ3.out.c14; have d16 := HJ3.out.c16; have d17 := HJ3.out.c17; rw [HBE.out] at d13)
                have HJ5 := Lib.hid ((((HJ3.out.s13 true).s14 bb).s17).s16 false)
                have HX5 := Lib.hid (HX3.out.trans (HJ3.out.n [(13, .bool true), (14, .int .i64 bb), (17, .slice none 0 0), (16, .bool false)]))
                simp only [sets] at HX5
                generalize ((((w3.setCell ⟨p, 13, none⟩ (.bool true)).setCell ⟨p, 14, none⟩ (.int .i64 bb)).setCell ⟨p, 17, none⟩ (.slice none 0 0)).setCell ⟨p, 16, none⟩ (.bool false)) = w5 at HJ5 HX5 ⊢
                clear hz3 d13 d14 d16 d17
                have hP := program_ok b q HJ5.out HBL.out HQL.out
                rw [← HBB.out, ← HQQ.out] at hP
                have HP := Lib.hid hP
                clear hP
                go_wp2_with (first | (go_at_call 158; refine (HP.out).mono ?_; rintro e w7 ⟨rfl, hj7, hn7⟩; have HST := Lib.hid (start_ok hj7); have HX7 := Lib.hid (HX5.out.trans hn7); clear hj7 hn7) | (go_at_call 86; (refine (HST.out).mono ?_; rintro e w8 ⟨rfl, hj8, hn8⟩; have HJ8 := Lib.hid hj8; have HX8 := Lib.hid (HX7.out.trans hn8); clear hj8 hn8)))
                go_ret
                exact ⟨by rw [HE.out]; rfl, _, _, _, by rw [HE.out]; exact HJ8.out, HX8.out⟩
            · have hem : ¬ s.rows.isEmpty = true := by rw [List.isEmpty_iff, ← List.length_eq_zero_iff, ← HNN.out]; exact hn0
              have hd0 : decide (n = 0) = false := decide_eq_false hn0
              have HEM := Lib.hid hem
              clear hem hn0
              rcases hch3 with q1 | ⟨q1, q2⟩
              · subst q1
                have HE : Hid (loadedP g s 21 = (s, false)) := Lib.hid (by rw [HL3.out, if_pos rfl, if_neg HEM.out])
                clear hBE; subst hCH
                go_wp2_with (go_at_call 18; refine (HC.out).mono ?_; rintro e w3 ⟨rfl, hb3⟩; have HJ3 := Lib.hid (HJ.out.below hb3); have HX3 := Lib.hid (HX.out.below hb3); clear hb3; have hz3 := HJ3.out.z; have d13 := HJ3.out.c13; have d14 := HJ3.out.c14; have d16 := HJ3.out.c16; have d17 := HJ3.out.c17; rw [HBE.out] at d13)
                all_goals
                  go_ret
                  exact ⟨by rw [HE.out]; rfl, _, _, _, by rw [HE.out]; exact HJ3.out, HX3.out⟩
              · subst q1
                have HE : Hid (loadedP g s 21 = (s, false)) := Lib.hid (by rw [HL3.out, if_pos rfl, if_neg HEM.out])
                clear hBE; subst hCH
                go_wp2_with (go_at_call 18; refine (HC.out).mono ?_; rintro e w3 ⟨rfl, hb3⟩; have HJ3 := Lib.hid (HJ.out.below hb3); have HX3 := Lib.hid (HX.out.below hb3); clear hb3; have hz3 := HJ3.out.z; have d13 := HJ3.out.c13; have d14 := HJ3.out.c14; have d16 := HJ3.out.c16; have d17 := HJ3.out.c17; rw [HBE.out] at d13)
                all_goals
                  go_ret
                  exact ⟨by rw [HE.out]; rfl, _, _, _, by rw [HE.out]; exact HJ3.out, HX3.out⟩
          · have o21 := beq_f h21
            by_cases h17 : c = 17
            · subst h17
              rcases hch3 with q1 | ⟨q1, q2⟩
              · subst q1
                have HE : Hid (loadedP g s 17 = (doneP { s with rows := s.rows ++ [r] } bb qq, true)) := Lib.hid (by rw [HL3.out, if_neg h21, if_pos rfl, ← hBE]; rfl)
                clear hBE h21; subst hCH
                have HZ : Hid ((s.rows.length + 1) * 8 ≤ 140737488355328) := Lib.hid (by have := HRO.out.1; omega)
                go_upto_region 26 with (first | (go_at_call 18; refine (HC.out).mono ?_; rintro e w3 ⟨rfl, hb3⟩; have HJ3 := Lib.hid (HJ.out.below hb3); have HX3 := Lib.hid (HX.out.below hb3); clear hb3; have hz3 := HJ3.out.z; have d13 := HJ3.out.c13; have d14 := HJ3.out.c14; have d16 := HJ3.out.c16; have d17 := HJ3.out.c17; rw [HBE.out] at d13) | (at_builtin; refine Kd.R_append (Kd.int .i64) 0 rfl (.tmp 110) (.tmp 112) 44 3 _ 8 rfl Try.underlying44 info3 rfl (by decide) (by decide) (.slice A17 s.rows.length m17) s.rows r [.int .i64 r] _ (fun _ => False) rfl rfl rfl (fun _ h => h.elim) (fun _ _ => trivial) HJ3.out.r17 (Below.refl _ _) (Nat.zero_le _) HZ.out ?_; intro v1 w4 hr1 _ hg1 hat1; obtain ⟨A1, c1, rfl⟩ := Kd.R_slice hr1; generalize (s.rows ++ [r]).length = n1 at hr1 hg1 hat1 ⊢; obtain ⟨e17, hz4, hj4, hn4⟩ := HJ3.out.app17 hr1 hg1 hat1; have HJ4 := Lib.hid hj4; have HN4 := Lib.hid hn4; clear hr1 hg1 hat1 hj4 hn4))
                have HX4 := Lib.hid (HX3.out.trans HN4.out)
                generalize w4.setCell ⟨p, 17, none⟩ (.slice A1 n1 c1) = w6 at HJ4 HX4 ⊢
                clear hz3 d13 d14 d16 d17 e17 hz4 HN4
                have hz3 := HJ4.out.z
                have d16 := HJ4.out.c16
                go_upto_region 27 with fail
                have HJ5 := Lib.hid (HJ4.out.s16 false)
                have HX5 := Lib.hid (HX4.out.trans (HJ4.out.n [(16, .bool false)]))
                simp only [sets] at HX5
                generalize w6.setCell ⟨p, 16, none⟩ (.bool false) = w5 at HJ5 HX5 ⊢
                clear hz3 d16
                have hP := program_ok b q HJ5.out HBL.out HQL.out
                rw [← HBB.out, ← HQQ.out] at hP
                have HP := Lib.hid hP
                clear hP
                go_wp2_with (first | (go_at_call 158; refine (HP.out).mono ?_; rintro e w7 ⟨rfl, hj7, hn7⟩; have HST := Lib.hid (start_ok hj7); have HX7 := Lib.hid (HX5.out.trans hn7); clear hj7 hn7) | (go_at_call 86; (refine (HST.out).mono ?_; rintro e w8 ⟨rfl, hj8, hn8⟩; have HJ8 := Lib.hid hj8; have HX8 := Lib.hid (HX7.out.trans hn8); clear hj8 hn8)))
                go_ret
                exact ⟨by rw [HE.out]; rfl, _, _, _, by rw [HE.out]; exact HJ8.out, HX8.out⟩
              · subst q1
                have HE : Hid (loadedP g s 17 = (s, false)) := Lib.hid (by rw [HL3.out, if_neg h21, if_pos rfl, ← hBE]; rfl)
                clear hBE h21; subst hCH
                go_wp2_with (go_at_call 18; refine (HC.out).mono ?_; rintro e w3 ⟨rfl, hb3⟩; have HJ3 := Lib.hid (HJ.out.below hb3); have HX3 := Lib.hid (HX.out.below hb3); clear hb3; have hz3 := HJ3.out.z; have d13 := HJ3.out.c13; have d14 := HJ3.out.c14; have d16 := HJ3.out.c16; have d17 := HJ3.out.c17; rw [HBE.out] at d13)
                all_goals
                  go_ret
                  exact ⟨by rw [HE.out]; rfl, _, _, _, by rw [HE.out]; exact HJ3.out, HX3.out⟩
            · have o17 := beq_f h17
              by_cases h16 : c = 16
              · subst h16
                rcases hch3 with q1 | ⟨q1, q2⟩
                · subst q1
                  have HE : Hid (loadedP g s 16 = (doneP { s with rows := [] } bb qq, true)) := Lib.hid (by rw [HL3.out, if_neg h21, if_neg h17, if_pos rfl])
                  clear hBE h21 h17; subst hCH
                  go_upto_region 27 with (go_at_call 18; refine (HC.out).mono ?_; rintro e w3 ⟨rfl, hb3⟩; have HJ3 := Lib.hid (HJ.out.below hb3); have HX3 := Lib.hid (HX.out.below hb3); clear hb3; have hz3 := HJ3.out.z; have d13 := HJ3.out.c13; have d14 := HJ3.out.c14; have d16 := HJ3.out.c16; have d17 := HJ3.out.c17; rw [HBE.out] at d13)
                  have HJ5 := Lib.hid ((HJ3.out.s17).s16 false)
                  have HX5 := Lib.hid (HX3.out.trans (HJ3.out.n [(17, .slice none 0 0), (16, .bool false)]))
                  simp only [sets] at HX5
                  generalize ((w3.setCell ⟨p, 17, none⟩ (.slice none 0 0)).setCell ⟨p, 16, none⟩ (.bool false)) = w5 at HJ5 HX5 ⊢
                  clear hz3 d13 d14 d16 d17
                  have hP := program_ok b q HJ5.out HBL.out HQL.out
                  rw [← HBB.out, ← HQQ.out] at hP
                  have HP := Lib.hid hP
                  clear hP
                  go_wp2_with (first | (go_at_call 158; refine (HP.out).mono ?_; rintro e w7 ⟨rfl, hj7, hn7⟩; have HST := Lib.hid (start_ok hj7); have HX7 := Lib.hid (HX5.out.trans hn7); clear hj7 hn7) | (go_at_call 86; (refine (HST.out).mono ?_; rintro e w8 ⟨rfl, hj8, hn8⟩; have HJ8 := Lib.hid hj8; have HX8 := Lib.hid (HX7.out.trans hn8); clear hj8 hn8)))
                  go_ret
                  exact ⟨by rw [HE.out]; rfl, _, _, _, by rw [HE.out]; exact HJ8.out, HX8.out⟩
                · subst q1
                  have HE : Hid (loadedP g s 16 = (doneP { s with rows := [] } bb qq, true)) := Lib.hid (by rw [HL3.out, if_neg h21, if_neg h17, if_pos rfl])
                  clear hBE h21 h17; subst hCH
                  go_upto_region 27 with (go_at_call 18; refine (HC.out).mono ?_; rintro e w3 ⟨rfl, hb3⟩; have HJ3 := Lib.hid (HJ.out.below hb3); have HX3 := Lib.hid (HX.out.below hb3); clear hb3; have hz3 := HJ3.out.z; have d13 := HJ3.out.c13; have d14 := HJ3.out.c14; have d16 := HJ3.out.c16; have d17 := HJ3.out.c17; rw [HBE.out] at d13)
                  have HJ5 := Lib.hid ((HJ3.out.s17).s16 false)
                  have HX5 := Lib.hid (HX3.out.trans (HJ3.out.n [(17, .slice none 0 0), (16, .bool false)]))
                  simp only [sets] at HX5
                  generalize ((w3.setCell ⟨p, 17, none⟩ (.slice none 0 0)).setCell ⟨p, 16, none⟩ (.bool false)) = w5 at HJ5 HX5 ⊢
                  clear hz3 d13 d14 d16 d17
                  have hP := program_ok b q HJ5.out HBL.out HQL.out
                  rw [← HBB.out, ← HQQ.out] at hP
                  have HP := Lib.hid hP
                  clear hP
                  go_wp2_with (first | (go_at_call 158; refine (HP.out).mono ?_; rintro e w7 ⟨rfl, hj7, hn7⟩; have HST := Lib.hid (start_ok hj7); have HX7 := Lib.hid (HX5.out.trans hn7); clear hj7 hn7) | (go_at_call 86; (refine (HST.out).mono ?_; rintro e w8 ⟨rfl, hj8, hn8⟩; have HJ8 := Lib.hid hj8; have HX8 := Lib.hid (HX7.out.trans hn8); clear hj8 hn8)))
                  go_ret
                  exact ⟨by rw [HE.out]; rfl, _, _, _, by rw [HE.out]; exact HJ8.out, HX8.out⟩
              · have o16 := beq_f h16
                rcases hch3 with q1 | ⟨q1, q2⟩
                · subst q1
                  have HE : Hid (loadedP g s c = (s, false)) := Lib.hid (by rw [HL3.out, if_neg h21, if_neg h17, if_neg h16])
                  clear hBE h21 h17 h16; subst hCH
                  go_wp2_with (go_at_call 18; refine (HC.out).mono ?_; rintro e w3 ⟨rfl, hb3⟩; have HJ3 := Lib.hid (HJ.out.below hb3); have HX3 := Lib.hid (HX.out.below hb3); clear hb3; have hz3 := HJ3.out.z; have d13 := HJ3.out.c13; have d14 := HJ3.out.c14; have d16 := HJ3.out.c16; have d17 := HJ3.out.c17; rw [HBE.out] at d13)
                  all_goals
                    go_ret
                    exact ⟨by rw [HE.out]; rfl, _, _, _, by rw [HE.out]; exact HJ3.out, HX3.out⟩
                · subst q1
                  have HE : Hid (loadedP g s c = (s, false)) := Lib.hid (by rw [HL3.out, if_neg h21, if_neg h17, if_neg h16])
                  clear hBE h21 h17 h16; subst hCH
                  go_wp2_with (go_at_call 18; refine (HC.out).mono ?_; rintro e w3 ⟨rfl, hb3⟩; have HJ3 := Lib.hid (HJ.out.below hb3); have HX3 := Lib.hid (HX.out.below hb3); clear hb3; have hz3 := HJ3.out.z; have d13 := HJ3.out.c13; have d14 := HJ3.out.c14; have d16 := HJ3.out.c16; have d17 := HJ3.out.c17; rw [HBE.out] at d13)
                  all_goals
                    go_ret
                    exact ⟨by rw [HE.out]; rfl, _, _, _, by rw [HE.out]; exact HJ3.out, HX3.out⟩
end
end Go.Proofs.Ytfmogmgdpamfgaa.Jd

