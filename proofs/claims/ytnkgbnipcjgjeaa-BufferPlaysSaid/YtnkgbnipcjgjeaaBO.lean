import Derived.Test.YtnkgbnipcjgjeaaBN
namespace Go.Proofs.Ytnkgbnipcjgjeaa
open Go.RowKit Go.Lib Go.Proofs.YtnkgbnipcjgjeaaW.PrintWords Go.Proofs.YtnkgbnipcjgjeaaW.PrintLast Go.Proofs.YtnkgbnipcjgjeaaW.PrintMore
set_option linter.unusedVariables false
theorem keep_drewN (w : World) (q : Nat) (F : Nat → Prop) : Keep F w (w.drewN q) := fun _ _ => rfl
set_option maxHeartbeats 8000000 in
set_option maxRecDepth 100000 in
/-- Are two lists of entries one? -/
theorem rsame_ok (w : World) (N0 N1 : Nat) (A : Option Addr) (c : Nat) (hs : List Eh) (es : List Ent) (B : Option Addr) (d : Nat) (ks : List Eh) (fs : List Ent) (hC : Kd.C kEh w A hs.length hs) (hE : EAll w N0 hs es) (hD : Kd.C kEh w B ks.length ks) (hF : EAll w N1 ks fs) (hl : es.length ≤ 100000) (hx : ∀ e ∈ es, e.2.2.length ≤ 100000) :
    Calls Try.prog 40 #[.slice A es.length c, .slice B fs.length d] w fun e w' => e = .returned (.bool (decide (es = fs))) ∧ ∃ q, w' = w.drewN q := by
  have HC := Lib.hid hC
  have HE := Lib.hid hE
  have HD := Lib.hid hD
  have HF := Lib.hid hF
  have HX := Lib.hid hx
  by_cases hlen : es.length = fs.length
  · have HT : Hid (decide (es = fs) = decide (es.drop 0 = fs.drop 0)) := Lib.hid (by rw [List.drop_zero, List.drop_zero])
    obtain ⟨T, hT⟩ : ∃ T, T = decide (es = fs) := ⟨_, rfl⟩
    rw [← hT] at HT ⊢
    have HL := Lib.hid hlen
    rw [← hlen]
    obtain ⟨m, hm⟩ : ∃ m, m = es.length := ⟨_, rfl⟩
    rw [← hm] at hl ⊢
    have HM := Lib.hid hm
    have hm2 : (m : Int) ≤ 100000 := by omega
    have hmm : ((m : Int) != (m : Int)) = false := by simp
    clear hC hE hD hF hx hlen hT hm
    go_enter Try.func40, Try.ntmps40
    go_wp2_with fail
    go_loopw [5] (fun i wr => ∃ (k : Nat), k ≤ m ∧ i = .int .i64 k ∧ Hid (T = decide (es.drop k = fs.drop k)) ∧ Hid (∃ q, wr = w.drewN q)) (fun i _ => m - (intOf i).toNat)
    case atStart => exact ⟨0, by omega, rfl, HT, Lib.hid ⟨0, rfl⟩⟩
    case round =>
      clear HT
      obtain ⟨k, hk, rfl, HG, HQ⟩ := hrel
      by_cases hkn : k < m
      · have hke : k < es.length := by rw [← HM.out]; exact hkn
        have hkf : k < fs.length := by rw [← HL.out, ← HM.out]; exact hkn
        obtain ⟨b, off, x, rfl, e0, e1, e2, hd⟩ := erow_at (w := wr) (by obtain ⟨q, rfl⟩ := HQ.out; exact Kd.C_drewN HC.out q) (by obtain ⟨q, rfl⟩ := HQ.out; exact HE.out.move (keep_drewN w q _)) hke
        obtain ⟨b', off', x', rfl, a0, a1, a2, hd'⟩ := erow_at (w := wr) (by obtain ⟨q, rfl⟩ := HQ.out; exact Kd.C_drewN HD.out q) (by obtain ⟨q, rfl⟩ := HQ.out; exact HF.out.move (keep_drewN w q _)) hkf
        have hg := HG.out
        rw [List.drop_eq_getElem_cons hke, List.drop_eq_getElem_cons hkf] at hg
        have hxl := HX.out _ (List.getElem_mem hke)
        obtain ⟨xA, xn, xc⟩ := x
        obtain ⟨yA, yn, yc⟩ := x'
        generalize es[k] = e at e0 e1 e2 hd hg hxl
        generalize fs[k] = f at a0 a1 a2 hd' hg
        obtain ⟨s1, k1, d1⟩ := e
        obtain ⟨s2, k2, d2⟩ := f
        have hn1 : xn = d1.length := hd.1
        have hn2 : yn = d2.length := hd'.1
        subst hn1 hn2
        have HSM := Lib.hid (fun r => same_call xA xc d1 yA yc d2 (wr.drewN r) (Kd.C_drewN hd.c r) hd.2.1 (Kd.C_drewN hd'.c r) hd'.2.1 hxl)
        have hk0 : (k : Int) < (m : Int) := by omega
        clear hd hd' hke hkf hxl
        by_cases h1 : s1 = s2
        · have bb1 : (s1 != s2) = false := by rw [h1]; simp
          by_cases h2 : k1 = k2
          · have bb2 : (k1 != k2) = false := by rw [h2]; simp
            by_cases h3 : d1 = d2
            · have HG2 : Hid (T = decide (es.drop (k + 1) = fs.drop (k + 1))) := Lib.hid (by
                rw [hg, h1, h2, h3]
                refine decide_eq_decide.2 ⟨fun h => ?_, fun h => ?_⟩
                · injection h
                · rw [h])
              have hsm := HSM.out
              rw [decide_eq_true h3] at hsm
              replace HSM := Lib.hid hsm
              clear hsm hg h1 h2 h3
              go_wp2_with fail
              go_quiet ((go_at_call 52; exact Calls.quiet_of (HSM.out _)))
              go_wp2_with fail
              go_roundw
              case rel => exact ⟨k + 1, hkn, by go_num, HG2, Lib.hid (by obtain ⟨q, rfl⟩ := HQ.out; exact ⟨_, World.drewN_drewN _ _ _⟩)⟩
              case measure => exact step_measure hkn
            · have hT1 : T = false := by
                rw [hg]
                refine decide_eq_false (fun h => h3 ?_)
                injection h with h _
                injection h with _ h
                injection h
              subst hT1
              have hsm := HSM.out
              rw [decide_eq_false h3] at hsm
              replace HSM := Lib.hid hsm
              clear hsm hg h1 h2 h3
              go_wp2_with fail
              go_quiet ((go_at_call 52; exact Calls.quiet_of (HSM.out _)))
              go_wp2_with fail
              go_ret
              exact ⟨rfl, by obtain ⟨q, rfl⟩ := HQ.out; exact ⟨_, World.drewN_drewN _ _ _⟩⟩
          · have bb2 : (k1 != k2) = true := by rw [bne_iff_ne]; exact h2
            have hT1 : T = false := by
              rw [hg]
              refine decide_eq_false (fun h => h2 ?_)
              injection h with h _
              injection h with _ h
              injection h
            subst hT1
            clear hg h1 h2
            go_wp2_with fail
            go_quiet (fail)
            go_wp2_with fail
            go_ret
            exact ⟨rfl, by obtain ⟨q, rfl⟩ := HQ.out; exact ⟨_, World.drewN_drewN _ _ _⟩⟩
        · have bb1 : (s1 != s2) = true := by rw [bne_iff_ne]; exact h1
          have hT1 : T = false := by
            rw [hg]
            refine decide_eq_false (fun h => h1 ?_)
            injection h with h _
            injection h
          subst hT1
          clear hg h1
          go_wp2_with fail
          go_quiet (fail)
          go_wp2_with fail
          go_ret
          exact ⟨rfl, by obtain ⟨q, rfl⟩ := HQ.out; exact ⟨_, World.drewN_drewN _ _ _⟩⟩
      · have hk2 : k = m := by omega
        subst hk2
        have hg := HG.out
        rw [HM.out, List.drop_length, HL.out, List.drop_length] at hg
        have : T = true := hg
        subst this
        clear hg hkn
        go_wp2_with fail
        go_ret
        exact ⟨rfl, HQ.out⟩
  · rw [decide_eq_false (fun h => hlen (by rw [h]))]
    have hmm : ((es.length : Int) != (fs.length : Int)) = true := by rw [bne_iff_ne]; omega
    clear hC hE hD hF hx hlen hl HC HE HD HF HX
    generalize es.length = m at hmm ⊢
    generalize fs.length = n at hmm ⊢
    go_enter Try.func40, Try.ntmps40
    go_wp2_with fail
    go_ret
    exact ⟨rfl, 0, rfl⟩
end Go.Proofs.Ytnkgbnipcjgjeaa
