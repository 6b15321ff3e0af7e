import Derived.Test.YtfmogmgdpamfgaaRw11
import Derived.Test.YtfmogmgdpamfgaaJwj
namespace Go.Proofs.Ytfmogmgdpamfgaa.Jd
open Go.RowKit Go.Proofs.YtfmogmgdpamfgaaW.PrintWords Go.Proofs.YtfmogmgdpamfgaaW.PrintLast Go.Proofs.YtfmogmgdpamfgaaW.PrintMore
set_option linter.unusedVariables false
set_option linter.unusedSimpArgs false
theorem info4r : (Try.prog.info? 4).map (fun i => (i.zero, i.size, i.bytes)) = some (some (.bool false), 1, 1) := by kernel_rfl
/-- A judge of the document that is being made: what is its is new since w0; the geometry's block. -/
structure NR (w0 w : World) (p b0 : Nat) (g : Ge) (t : Nat → Nat) (s : RS) (H : HR) : Prop where
  j : RAt w p g t s H
  b : Below w0.heap.size w0 w
  n : ∀ k, t k ≠ 0 → w0.heap.size ≤ k
  gb : GBox w b0 g
  tb : t b0 = 0
section
variable {w0 w w' : World} {p b0 : Nat} {g : Ge} {t t' : Nat → Nat} {s s' : RS} {H H' : HR}
theorem NR.next (h : NR w0 w p b0 g t s H) (hj : RAt w' p g t' s' H') (hx : Nxt w w' t t') : NR w0 w' p b0 g t' s' H' := by
  have h2 := nxt_keep hx h.gb h.tb
  exact ⟨hj, nxt_below hx h.b h.n h.b.size, nxt_low hx h.n h.b.size, h2.1, h2.2⟩
def r0R : RS := ⟨[], [], [], 0, [], 0, false, false, false, 0, false, 0, [], [], [], false⟩
def h0R : HR := ⟨.slice none 0 0, .slice none 0 0, .slice none 0 0, .slice none 0 0, .slice none 0 0, .slice none 0 0, .slice none 0 0⟩
theorem RAt.made (w : World) (g : Ge) : RAt (w.alloc (.cells (cellsR g r0R h0R) 46)) w.heap.size g (fun k => if k = w.heap.size then 1 else 0) r0R h0R := by
  refine ⟨blk_new w _, if_pos rfl, fun k hk => ?_, fun c r hc => ?_, by show 7 ≤ 13; decide⟩
  · by_cases e : k = w.heap.size
    · rw [e]; simp
    · rw [if_neg e] at hk; exact absurd rfl hk
  · match c, hc with
    | 0, hc => obtain rfl := Option.some.inj hc; exact Kd.R_nil _ _ _ _ _
    | 1, hc => obtain rfl := Option.some.inj hc; exact Kd.R_nil _ _ _ _ _
    | 2, hc => obtain rfl := Option.some.inj hc; exact Kd.R_nil _ _ _ _ _
    | 3, hc => obtain rfl := Option.some.inj hc; exact Kd.R_nil _ _ _ _ _
    | 4, hc => obtain rfl := Option.some.inj hc; exact Kd.R_nil _ _ _ _ _
    | 5, hc => obtain rfl := Option.some.inj hc; exact Kd.R_nil _ _ _ _ _
    | 6, hc => obtain rfl := Option.some.inj hc; exact Kd.R_nil _ _ _ _ _
    | n + 7, hc => simp [rowsR] at hc
set_option maxHeartbeats 8000000 in
set_option maxRecDepth 100000 in
theorem rnew_ok (hg : g.ok) (w : World) : Calls Try.prog 20 #[g.v] w fun e w' => ∃ p, e = .returned (.pointer (some ⟨p, 0, none⟩)) ∧ Below w.heap.size w w' ∧ ∃ t, (∃ H, RAt w' p g t (newR g) H) ∧ ∀ k, t k ≠ 0 → w.heap.size ≤ k := by
  obtain ⟨m, hm⟩ := Int.eq_ofNat_of_zero_le (show 0 ≤ g.bl by have := hg.2.1.1; omega)
  obtain ⟨q, hq⟩ := Int.eq_ofNat_of_zero_le (show 0 ≤ g.pg by have := hg.2.2.1.1; omega)
  have hm256 : m ≤ 256 := by have := hg.2.1.2; omega
  have hq64 : q ≤ 64 := by have := hg.2.2.1.2; omega
  have hmq : m * q ≤ 16384 := Nat.le_trans (Nat.mul_le_mul hm256 hq64) (by decide)
  have HME : Hid (newR g = { r0R with er := List.replicate m false, la := List.replicate m (-1), pr := List.replicate (m * q) 0 }) := Lib.hid (by unfold newR r0R; rw [hm, hq, ← Int.natCast_mul, Int.toNat_natCast, Int.toNat_natCast])
  have HM := Lib.hid hm
  have HQ := Lib.hid hq
  have HMQ := Lib.hid hmq
  have hab := alloc_below w (.cells #[.int .i64 g.pl, .int .i64 g.bl, .int .i64 g.pg, .int .i64 g.ch, .int .i64 g.ck, .int .i64 g.ru, .int .i64 g.pa] 23)
  have hgb := GBox.new w g
  have h2 := RAt.made (w.alloc (.cells #[.int .i64 g.pl, .int .i64 g.bl, .int .i64 g.pg, .int .i64 g.ch, .int .i64 g.ck, .int .i64 g.ru, .int .i64 g.pa] 23)) g
  have hb2 := alloc_below (w.alloc (.cells #[.int .i64 g.pl, .int .i64 g.bl, .int .i64 g.pg, .int .i64 g.ch, .int .i64 g.ck, .int .i64 g.ru, .int .i64 g.pa] 23)) (.cells (cellsR g r0R h0R) 46)
  have hNR : NR w ((w.alloc (.cells #[.int .i64 g.pl, .int .i64 g.bl, .int .i64 g.pg, .int .i64 g.ch, .int .i64 g.ck, .int .i64 g.ru, .int .i64 g.pa] 23)).alloc (.cells (cellsR g r0R h0R) 46)) (w.heap.size + 1) w.heap.size g (fun k => if k = w.heap.size + 1 then 1 else 0) r0R h0R := by
    have hs : (w.alloc (.cells #[.int .i64 g.pl, .int .i64 g.bl, .int .i64 g.pg, .int .i64 g.ch, .int .i64 g.ck, .int .i64 g.ru, .int .i64 g.pa] 23)).heap.size = w.heap.size + 1 := by simp
    rw [hs] at h2
    refine ⟨h2, chainC (Nat.le_refl _) hab hb2, fun k hk => ?_, hgb.below hb2, by rw [if_neg (by omega)]⟩
    by_cases e : k = w.heap.size + 1
    · omega
    · rw [if_neg e] at hk; exact absurd rfl hk
  have HNR := Lib.hid hNR
  have HG0 := Lib.hid hgb
  clear hab hgb h2 hb2 hNR hg hm hq hmq
  unfold Ge.v
  go_enter Try.func20, Try.ntmps20
  obtain ⟨c0, c1, c2, c3, c4, c5, c6⟩ := HG0.out.c
  go_upto_region 2 with fail
  clear c0 c1 c2 c3 c4 c5 c6 HG0
  generalize hw2 : World.alloc (World.alloc w _) _ = w2
  have HN2 : Hid (NR w w2 (w.heap.size + 1) w.heap.size g (fun k => if k = w.heap.size + 1 then 1 else 0) r0R h0R) := Lib.hid (by rw [← hw2]; exact HNR.out)
  clear hw2 HNR
  try simp only [World.size_alloc]
  generalize hp : w.heap.size + 1 = p at HN2 ⊢
  generalize hb0 : w.heap.size = b0 at HN2 ⊢
  clear hp hb0
  go_wp2_with fail
  go_loopw [4] (fun i wr => ∃ k : Nat, k ≤ m ∧ i = .int .i64 k ∧ Hid (∃ t H, NR w wr p b0 g t { r0R with er := List.replicate k false, la := List.replicate k (-1) } H)) (fun i _ => m - (intOf i).toNat)
  case atStart => exact ⟨0, by omega, rfl, Lib.hid ⟨_, _, HN2.out⟩⟩
  case round =>
    clear HN2
    obtain ⟨k, hk, rfl, HK⟩ := hrel
    obtain ⟨t, H, hN⟩ := HK.out
    have HJ := Lib.hid hN
    clear hN HK
    obtain ⟨_, d1, d2, _, _, _, _⟩ := HJ.out.gb.c
    rw [HM.out] at d1
    by_cases hkm : k < m
    · as_aux_lemma =>
      have hk0 : (k : Int) < (m : Int) := by omega
      have c7 := HJ.out.j.c7
      have hz := HJ.out.j.z
      have HZ : Hid (((List.replicate k false).length + 1) * 1 ≤ 140737488355328) := Lib.hid (by rw [List.length_replicate]; omega)
      have HR := Lib.hid HJ.out.j.r7
      go_upto_region 6 with (at_builtin; refine Kd.R_append Kd.bool 0 rfl (.tmp 19) (.tmp 20) 43 4 _ 1 rfl Try.underlying43 info4r rfl (by decide) (by decide) H.e (List.replicate k false) false [.bool false] _ (fun _ => False) rfl rfl rfl (fun _ h => h.elim) (fun _ _ => trivial) HR.out (Below.refl _ _) (Nat.zero_le _) HZ.out ?_; intro v1 w6 hr1 _ hg1 hat1; obtain ⟨A1, c1, rfl⟩ := Kd.R_slice hr1; generalize (List.replicate k false ++ [false]).length = n1 at hr1 hg1 hat1 ⊢; obtain ⟨e7, hz6, hj6, hn6⟩ := HJ.out.j.app7 hr1 hg1 hat1; have HJ6 := Lib.hid (HJ.out.next hj6 hn6); clear hr1 hg1 hat1 hj6 hn6)
      generalize hw7 : World.setCell _ ⟨p, 7, none⟩ _ = w7 at HJ6 ⊢
      clear hw7 e7 hz6 c7 hz HR HZ HJ d1 d2
      generalize hT7 : retag t 0 _ = t7 at HJ6
      clear hT7
      have c8 := HJ6.out.j.c8
      have hz := HJ6.out.j.z
      have HZ : Hid (((List.replicate k (-1 : Int)).length + 1) * 8 ≤ 140737488355328) := Lib.hid (by rw [List.length_replicate]; omega)
      have HR := Lib.hid HJ6.out.j.r8
      go_wp2_with (at_builtin; refine Kd.R_append (Kd.int .i64) 0 rfl (.tmp 28) (.tmp 29) 44 3 _ 8 rfl Try.underlying44 info3r rfl (by decide) (by decide) H.l (List.replicate k (-1)) (-1) [.int .i64 (-1)] _ (fun _ => False) rfl rfl rfl (fun _ h => h.elim) (fun _ _ => trivial) HR.out (Below.refl _ _) (Nat.zero_le _) HZ.out ?_; intro v2 w8 hr1 _ hg1 hat1; obtain ⟨A2, c2, rfl⟩ := Kd.R_slice hr1; generalize (List.replicate k (-1) ++ [(-1 : Int)]).length = n2 at hr1 hg1 hat1 ⊢; obtain ⟨e8, hz8, hj8, hn8⟩ := HJ6.out.j.app8 hr1 hg1 hat1; have HJ8 := Lib.hid (HJ6.out.next hj8 hn8); clear hr1 hg1 hat1 hj8 hn8)
      go_roundw
      case rel => exact ⟨k + 1, hkm, by go_num, Lib.hid ⟨_, _, by rw [List.replicate_succ', List.replicate_succ']; exact HJ8.out⟩⟩
      case measure => exact step_measure hkm
    · as_aux_lemma =>
      have hke : m = k := by omega
      subst hke
      clear hkm hk
      rw [HQ.out] at d2
      have mq : wrap64 ((m : Int) * (q : Int)) = ((m * q : Nat) : Int) := by rw [w64i _ (by rw [← Int.natCast_mul]; omega) (by rw [← Int.natCast_mul]; have := HMQ.out; omega)]; rfl
      obtain ⟨mm, hmm⟩ : ∃ mm, mm = m * q := ⟨_, rfl⟩
      have hb16 : mm ≤ 16384 := by rw [hmm]; exact HMQ.out
      rw [← hmm] at mq HME
      clear hmm
      go_wp2_with fail
      go_loopw [5] (fun i wr => ∃ k : Nat, k ≤ mm ∧ i = .int .i64 k ∧ Hid (∃ t H, NR w wr p b0 g t { r0R with er := List.replicate m false, la := List.replicate m (-1), pr := List.replicate k 0 } H)) (fun i _ => mm - (intOf i).toNat)
      case atStart => exact ⟨0, by omega, rfl, Lib.hid ⟨_, _, HJ.out⟩⟩
      case round =>
        clear HJ d1 d2
        obtain ⟨k, hk, rfl, HK⟩ := hrel
        obtain ⟨t, H, hN⟩ := HK.out
        have HJ := Lib.hid hN
        clear hN HK
        obtain ⟨_, d1, d2, _, _, _, _⟩ := HJ.out.gb.c
        rw [HM.out] at d1
        rw [HQ.out] at d2
        by_cases hkm : k < mm
        · as_aux_lemma =>
          have hk0 : (k : Int) < (mm : Int) := by omega
          have c9 := HJ.out.j.c9
          have hz := HJ.out.j.z
          have HZ : Hid (((List.replicate k (0 : Int)).length + 1) * 8 ≤ 140737488355328) := Lib.hid (by rw [List.length_replicate]; omega)
          have HR := Lib.hid HJ.out.j.r9
          go_wp2_with (at_builtin; refine Kd.R_append (Kd.int .i64) 0 rfl (.tmp 46) (.tmp 47) 44 3 _ 8 rfl Try.underlying44 info3r rfl (by decide) (by decide) H.p (List.replicate k 0) 0 [.int .i64 0] _ (fun _ => False) rfl rfl rfl (fun _ h => h.elim) (fun _ _ => trivial) HR.out (Below.refl _ _) (Nat.zero_le _) HZ.out ?_; intro v2 w8 hr1 _ hg1 hat1; obtain ⟨A2, c2, rfl⟩ := Kd.R_slice hr1; generalize (List.replicate k 0 ++ [(0 : Int)]).length = n2 at hr1 hg1 hat1 ⊢; obtain ⟨e9, hz8, hj8, hn8⟩ := HJ.out.j.app9 hr1 hg1 hat1; have HJ8 := Lib.hid (HJ.out.next hj8 hn8); clear hr1 hg1 hat1 hj8 hn8)
          go_roundw
          case rel => exact ⟨k + 1, hkm, by go_num, Lib.hid ⟨_, _, by rw [List.replicate_succ']; exact HJ8.out⟩⟩
          case measure => exact step_measure hkm
        · as_aux_lemma =>
          have hke : mm = k := by omega
          subst hke
          have HF : Hid (RAt wr p g t (newR g) H) := Lib.hid (by rw [HME.out]; exact HJ.out.j)
          clear hk
          go_wp2_with fail
          go_ret
          exact ⟨p, rfl, HJ.out.b, t, ⟨_, HF.out⟩, HJ.out.n⟩
end
end Go.Proofs.Ytfmogmgdpamfgaa.Jd

namespace Go.Proofs.Ytfmogmgdpamfgaa.Jd
open Go.RowKit Go.Proofs.YtfmogmgdpamfgaaW.PrintWords Go.Proofs.YtfmogmgdpamfgaaW.PrintLast Go.Proofs.YtfmogmgdpamfgaaW.PrintMore
set_option linter.unusedVariables false
set_option linter.unusedSimpArgs false
/-! JudgeSteps: the program's judge and two of the document's beside each other. -/
theorem wr_of {g : Ge} {s : JS} {r : RS} {n : Nat} (hr : Rl g s r) (hw : WfN g n s) (hn : n ≤ 900000) : Wr g r := by
  have hp := hr.br.prlen hw.hg
  refine ⟨hw.hg, hr.br.ne, hr.br.nl, hp, by rw [hr.li]; exact hw.c.lb, by rw [hr.li]; have := hw.c.l4; omega, fun h9 h2 => ?_, ?_, ?_, ?_⟩
  · rw [hr.li, hp]
    rw [hr.op] at h9
    rw [hr.li] at h2
    exact ((inR_iff g _).1 (hw.i.2 h9 h2)).2
  · rw [hr.ro]
    exact ⟨by have := hw.c.ro.1; omega, fun x hx => (inR_iff g x).1 (hw.c.ro.2 x hx)⟩
  · rw [hr.bl]
    exact ⟨by have := hw.c.er.1; omega, hw.c.er.2⟩
  · rw [hr.er]
    exact ⟨by have := hw.c.dn.1; omega, hw.c.dn.2⟩
theorem wr_of' {g : Ge} {s : JS} {r : RS} {n : Nat} (hr : Rj g s r) (hw : WfN g n s) (hn : n ≤ 900000) : r.no = false → Wr g r := fun h => by
  rcases hr with hr | hr
  · exact wr_of hr hw hn
  · rw [hr.no] at h; cases h
theorem ine_of {g : Ge} {s : JS} {r : RS} {n : Nat} (hr : Rc g s r) (hw : WfN g n s) (hn : n ≤ 900000) : InE r := by
  refine ⟨fun x hx => ?_, by rw [hr.er]; have := hw.c.dn.1; omega⟩
  rw [hr.er] at hx
  have h1 := hw.c.dn.2 x hx
  rw [hr.br.ne]
  have := hw.hg.2.1.1
  omega
/-- For a walk of Can the shape alone counts. -/
theorem wr_can {g : Ge} {s : JS} {r : RS} {n : Nat} (hr : Rc g s r) (hw : WfN g n s) (hn : n ≤ 900000) : Wr g { r with listed := [], op := 0, rows := [], blks := [], ers := [] } :=
  ⟨hw.hg, hr.br.ne, hr.br.nl, hr.br.prlen hw.hg, noX, Nat.zero_le _, fun h => (by cases h), ⟨Nat.zero_le _, noX⟩, ⟨Nat.zero_le _, noX⟩, ⟨Nat.zero_le _, noX⟩⟩
/-- What the second judge of the document has seen. -/
def VS (g : Ge) (l : List (Int × Int)) (G : Bool) (F i : Nat) (r : RS) : Prop :=
  (G = true ∧ F = i ∧ ∃ sv, Rl g sv r ∧ WfN g i sv ∧ takeN g (newP g) l = i + takeN g sv (l.drop i)) ∨ (G = false ∧ F = takeN g (newP g) l ∧ takeN g (newP g) l < l.length)
theorem VS.new {g : Ge} (hg : g.ok) (l : List (Int × Int)) : VS g l true 0 0 (newR g) := .inl ⟨rfl, rfl, newP g, new_rel hg, WfN.new hg, by rw [List.drop_zero, Nat.zero_add]⟩
theorem VS.step {g : Ge} (hg : g.ok) {l : List (Int × Int)} {F i : Nat} {r : RS} (h : VS g l true F i r) {x : Int × Int} (hi : l[i]? = some x) (hb : 0 ≤ x.2 ∧ x.2 ≤ 255) :
    VS g l (stepR g r x.1 x.2).2 (if (stepR g r x.1 x.2).2 = true then i + 1 else i) (i + 1) (stepR g r x.1 x.2).1 := by
  rcases h with ⟨_, rfl, sv, hr, hw, ht⟩ | ⟨h, _⟩
  · have hs := step_rel hg (.inl hr) x.1 x.2 hb.1
    have hlt := (List.getElem?_eq_some_iff.1 hi).1
    have hd : l.drop F = x :: l.drop (F + 1) := by
      rw [List.drop_eq_getElem_cons hlt]
      congr 1
      exact (List.getElem?_eq_some_iff.1 hi).2
    rw [hd] at ht
    have ht2 : takeN g sv (x :: l.drop (F + 1)) = if (stepP g sv x.1 x.2).2 then takeN g (stepP g sv x.1 x.2).1 (l.drop (F + 1)) + 1 else 0 := rfl
    cases ho : (stepR g r x.1 x.2).2 with
    | true =>
      rw [ho] at hs
      rw [if_pos rfl]
      refine .inl ⟨rfl, rfl, _, hs.2.2 hs.1, hw.step x.1 x.2 hb, ?_⟩
      rw [ht, ht2, hs.1, if_pos rfl]
      omega
    | false =>
      rw [ho] at hs
      rw [if_neg (by decide)]
      have h0 : takeN g (newP g) l = F := by rw [ht, ht2, hs.1]; rfl
      exact .inr ⟨rfl, h0.symm, by omega⟩
  · cases h
theorem VS.off {g : Ge} {l : List (Int × Int)} {F i : Nat} {r : RS} (h : VS g l false F i r) (i' : Nat) (r' : RS) : VS g l false F i' r' := by
  rcases h with ⟨h, _⟩ | h
  · cases h
  · exact .inr h
theorem VS.last {g : Ge} {l : List (Int × Int)} {G : Bool} {F : Nat} {r : RS} (h : VS g l G F l.length r) : F = takeN g (newP g) l ∧ G = decide (takeN g (newP g) l = l.length) := by
  rcases h with ⟨rfl, rfl, sv, _, _, ht⟩ | ⟨rfl, h1, h2⟩
  · have h0 : takeN g (newP g) l = l.length := by rw [ht, List.drop_length]; rfl
    rw [h0]
    exact ⟨rfl, (decide_eq_true rfl).symm⟩
  · exact ⟨h1, (decide_eq_false (by omega)).symm⟩
structure T3 (w0 w : World) (N0 p p1 p2 b0 gb : Nat) (g : Ge) (t t1 t2 : Nat → Nat) (s : JS) (r1 r2 : RS) : Prop where
  jj : JG w p g t s gb
  ww : ∃ H, RAt w p1 g t1 r1 H
  vv : ∃ H, RAt w p2 g t2 r2 H
  b : Below N0 w0 w
  z : N0 ≤ w.heap.size
  n : (∀ k, t k ≠ 0 → N0 ≤ k) ∧ (∀ k, t1 k ≠ 0 → N0 ≤ k) ∧ (∀ k, t2 k ≠ 0 → N0 ≤ k)
  d1 : ∀ k, t k = 0 ∨ t1 k = 0
  d2 : ∀ k, t k = 0 ∨ t2 k = 0
  d3 : ∀ k, t1 k = 0 ∨ t2 k = 0
/-- A block that is none of theirs. -/
structure Kp (w : World) (t t1 t2 : Nat → Nat) (q : Nat) (o : Obj) : Prop where
  h : w.heap[q]? = some o
  f : t q = 0
  f1 : t1 q = 0
  f2 : t2 q = 0
section
variable {w0 w w' : World} {N0 p p1 p2 b0 gb q n : Nat} {g : Ge} {t t1 t2 t' : Nat → Nat} {s s' : JS} {r1 r2 r' : RS} {o : Obj}
theorem comm_or {t t1 : Nat → Nat} (h : ∀ k, t k = 0 ∨ t1 k = 0) : ∀ k, t1 k = 0 ∨ t k = 0 := fun k => (h k).symm
theorem rat_lt {t1 : Nat → Nat} {r1 : RS} (h : ∃ H, RAt w p1 g t1 r1 H) : ∀ k, t1 k ≠ 0 → k < w.heap.size := by
  obtain ⟨H, h⟩ := h
  exact Ob.lt h
theorem T3.below (h : T3 w0 w N0 p p1 p2 b0 gb g t t1 t2 s r1 r2) (hb : Below w.heap.size w w') : T3 w0 w' N0 p p1 p2 b0 gb g t t1 t2 s r1 r2 :=
  ⟨h.jj.below hb, h.ww.imp fun H x => x.below hb, h.vv.imp fun H x => x.below hb, h.b.trans (hb.mono h.z), Nat.le_trans h.z hb.size, h.n, h.d1, h.d2, h.d3⟩
theorem T3.setJ (h : T3 w0 w N0 p p1 p2 b0 gb g t t1 t2 s r1 r2) (hj : JG w' p g t' s' gb) (hx : Nxt w w' t t') : T3 w0 w' N0 p p1 p2 b0 gb g t' t1 t2 s' r1 r2 :=
  ⟨hj, h.ww.imp fun H x => x.nxt hx h.d1, h.vv.imp fun H x => x.nxt hx h.d2, nxt_below hx h.b h.n.1 h.z, Nat.le_trans h.z hx.m.size, ⟨nxt_low hx h.n.1 h.z, h.n.2⟩, hx.apart h.d1 (rat_lt h.ww), hx.apart h.d2 (rat_lt h.vv), h.d3⟩
theorem T3.setW (h : T3 w0 w N0 p p1 p2 b0 gb g t t1 t2 s r1 r2) (hj : ∃ H, RAt w' p1 g t' r' H) (hx : Nxt w w' t1 t') : T3 w0 w' N0 p p1 p2 b0 gb g t t' t2 s r' r2 :=
  ⟨h.jj.nxt hx (comm_or h.d1), hj, h.vv.imp fun H x => x.nxt hx h.d3, nxt_below hx h.b h.n.2.1 h.z, Nat.le_trans h.z hx.m.size, ⟨h.n.1, nxt_low hx h.n.2.1 h.z, h.n.2.2⟩, comm_or (hx.apart (comm_or h.d1) (JG.lt h.jj)), h.d2, hx.apart h.d3 (rat_lt h.vv)⟩
theorem T3.setV (h : T3 w0 w N0 p p1 p2 b0 gb g t t1 t2 s r1 r2) (hj : ∃ H, RAt w' p2 g t' r' H) (hx : Nxt w w' t2 t') : T3 w0 w' N0 p p1 p2 b0 gb g t t1 t' s r1 r' :=
  ⟨h.jj.nxt hx (comm_or h.d2), h.ww.imp fun H x => x.nxt hx (comm_or h.d3), hj, nxt_below hx h.b h.n.2.2 h.z, Nat.le_trans h.z hx.m.size, ⟨h.n.1, h.n.2.1, nxt_low hx h.n.2.2 h.z⟩, h.d1, comm_or (hx.apart (comm_or h.d2) (JG.lt h.jj)), comm_or (hx.apart (comm_or h.d3) (rat_lt h.ww))⟩
theorem T3.fresh (h : T3 w0 w N0 p p1 p2 b0 gb g t t1 t2 s r1 r2) (o : Obj) : T3 w0 (w.alloc o) N0 p p1 p2 b0 gb g t t1 t2 s r1 r2 := h.below (alloc_below w o)
theorem z_of {t : Nat → Nat} (h : ∀ k, t k ≠ 0 → k < w.heap.size) : t w.heap.size = 0 := by
  by_cases e : t w.heap.size = 0
  · exact e
  · exact absurd (h _ e) (Nat.lt_irrefl _)
theorem T3.kp (h : T3 w0 w N0 p p1 p2 b0 gb g t t1 t2 s r1 r2) (cs : Array Value) (ty : Nat) : Kp (w.alloc (.cells cs ty)) t t1 t2 w.heap.size (.cells cs ty (0, 0)) :=
  ⟨blk_new w _, z_of (JG.lt h.jj), z_of (rat_lt h.ww), z_of (rat_lt h.vv)⟩
theorem Kp.below (h : Kp w t t1 t2 q o) (hb : Below w.heap.size w w') : Kp w' t t1 t2 q o := ⟨(hb.block q (blk_lt h.h)).trans h.h, h.f, h.f1, h.f2⟩
theorem Kp.setJ (h : Kp w t t1 t2 q o) (hx : Nxt w w' t t') : Kp w' t' t1 t2 q o := ⟨(nxt_keep hx h.h h.f).1, (nxt_keep hx h.h h.f).2, h.f1, h.f2⟩
theorem Kp.setW (h : Kp w t t1 t2 q o) (hx : Nxt w w' t1 t') : Kp w' t t' t2 q o := ⟨(nxt_keep hx h.h h.f1).1, h.f, (nxt_keep hx h.h h.f1).2, h.f2⟩
theorem Kp.setV (h : Kp w t t1 t2 q o) (hx : Nxt w w' t2 t') : Kp w' t t1 t' q o := ⟨(nxt_keep hx h.h h.f2).1, h.f, h.f1, (nxt_keep hx h.h h.f2).2⟩
/-! the calls of the law -/
theorem T3.jstep (h : T3 w0 w N0 p p1 p2 b0 gb g t t1 t2 s r1 r2) (k b : Int) (hb : 0 ≤ b ∧ b ≤ 255) (hw : WfN g n s) (hn : n ≤ 800000) : Calls Try.prog 16 #[.pointer (some ⟨p, 0, none⟩), .agg #[.int .i64 k, .int .u8 b]] w fun e w' => e = .returned (.bool (stepP g s k b).2) ∧ ∃ t', T3 w0 w' N0 p p1 p2 b0 gb g t' t1 t2 (stepP g s k b).1 r1 r2 ∧ Nxt w w' t t' := by
  obtain ⟨l1, x1, e1, d1, hj⟩ := h.jj
  refine (step_ok k b hb (hw.wf (by omega)) hj).mono ?_
  rintro e w2 ⟨rfl, t', hj2, hx⟩
  exact ⟨rfl, t', h.setJ hj2 hx, hx⟩
theorem T3.wstep (h : T3 w0 w N0 p p1 p2 b0 gb g t t1 t2 s r1 r2) (k b : Int) (hb : 0 ≤ b ∧ b ≤ 255) (hw : r1.no = false → Wr g r1) : Calls Try.prog 21 #[.pointer (some ⟨p1, 0, none⟩), .agg #[.int .i64 k, .int .u8 b]] w fun e w' => e = .returned (.bool (stepR g r1 k b).2) ∧ ∃ t', T3 w0 w' N0 p p1 p2 b0 gb g t t' t2 s (stepR g r1 k b).1 r2 ∧ Nxt w w' t1 t' := by
  obtain ⟨H, hj⟩ := h.ww
  refine (rstep_ok k b hb hw hj).mono ?_
  rintro e w2 ⟨rfl, t', hj2, hx⟩
  exact ⟨rfl, t', h.setW hj2 hx, hx⟩
theorem T3.vstep (h : T3 w0 w N0 p p1 p2 b0 gb g t t1 t2 s r1 r2) (k b : Int) (hb : 0 ≤ b ∧ b ≤ 255) (hw : r2.no = false → Wr g r2) : Calls Try.prog 21 #[.pointer (some ⟨p2, 0, none⟩), .agg #[.int .i64 k, .int .u8 b]] w fun e w' => e = .returned (.bool (stepR g r2 k b).2) ∧ ∃ t', T3 w0 w' N0 p p1 p2 b0 gb g t t1 t' s r1 (stepR g r2 k b).1 ∧ Nxt w w' t2 t' := by
  obtain ⟨H, hj⟩ := h.vv
  refine (rstep_ok k b hb hw hj).mono ?_
  rintro e w2 ⟨rfl, t', hj2, hx⟩
  exact ⟨rfl, t', h.setV hj2 hx, hx⟩
theorem T3.jpow (h : T3 w0 w N0 p p1 p2 b0 gb g t t1 t2 s r1 r2) (hw : WfN g n s) (hn : n ≤ 800000) : Calls Try.prog 22 #[.pointer (some ⟨p, 0, none⟩)] w fun e w' => e = .returned (.tuple #[]) ∧ T3 w0 w' N0 p p1 p2 b0 gb g t t1 t2 (powerP s) r1 r2 ∧ Nxt w w' t t := by
  obtain ⟨l1, x1, e1, d1, hj⟩ := h.jj
  have hpos : 0 < s.blocks.length := by rw [hw.c.sh.1]; have := hw.hg.2.1.1; omega
  refine (power_ok hj hpos (hw.wf (by omega)).dn).mono ?_
  rintro e w2 ⟨rfl, hj2, hx⟩
  exact ⟨rfl, h.setJ ⟨_, _, _, _, hj2⟩ hx, hx⟩
theorem T3.wpow (h : T3 w0 w N0 p p1 p2 b0 gb g t t1 t2 s r1 r2) (hi : InE r1) : Calls Try.prog 23 #[.pointer (some ⟨p1, 0, none⟩)] w fun e w' => e = .returned (.tuple #[]) ∧ T3 w0 w' N0 p p1 p2 b0 gb g t t1 t2 s (powerR r1) r2 ∧ Nxt w w' t1 t1 := by
  obtain ⟨H, hj⟩ := h.ww
  refine (rpower_ok hj hi).mono ?_
  rintro e w2 ⟨rfl, hj2, hx⟩
  exact ⟨rfl, h.setW hj2 hx, hx⟩
theorem T3.jbusy (h : T3 w0 w N0 p p1 p2 b0 gb g t t1 t2 s r1 r2) (hw : WfN g n s) : Calls Try.prog 17 #[.pointer (some ⟨p, 0, none⟩)] w fun e w' => e = .returned (.bool s.busy) ∧ w' = w := by
  obtain ⟨l1, x1, e1, d1, hj⟩ := h.jj
  exact busy_ok hj (by rw [hw.c.sh.1]; have := hw.hg.2.1.1; omega)
theorem T3.wbusy (h : T3 w0 w N0 p p1 p2 b0 gb g t t1 t2 s r1 r2) : w.cell? ⟨p1, 14, none⟩ = some (.bool r1.busy) := by
  obtain ⟨H, hj⟩ := h.ww
  exact hj.c14
theorem T3.jcan (h : T3 w0 w N0 p p1 p2 b0 gb g t t1 t2 s r1 r2) (hw : WfN g n s) (row : Int) : Calls Try.prog 18 #[.pointer (some ⟨p, 0, none⟩), .int .i64 row] w fun e w' => e = .returned (.bool (canP g s row)) ∧ Below w.heap.size w w' := by
  obtain ⟨l1, x1, e1, d1, hj⟩ := h.jj
  exact can_ok row hw.hg hw.c.sh hj
end
end Go.Proofs.Ytfmogmgdpamfgaa.Jd

namespace Go.Proofs.Ytfmogmgdpamfgaa.Jd
open Go.RowKit Go.Proofs.YtfmogmgdpamfgaaW.PrintWords Go.Proofs.YtfmogmgdpamfgaaW.PrintLast Go.Proofs.YtfmogmgdpamfgaaW.PrintMore
set_option linter.unusedVariables false
set_option linter.unusedSimpArgs false
section
variable {g : Ge}
set_option maxHeartbeats 8000000 in
set_option maxRecDepth 100000 in
theorem jst_much (w : World) (l : List (Int × Int)) {A : Option Addr} {c : Nat} (B : Bool) (hsm : ∀ w, Calls Try.prog 12 #[g.v] w fun e w' => e = .returned (.bool B) ∧ Below w.heap.size w w') (hno : B = false ∨ 800 < l.length) : Calls Try.prog 4 #[g.v, .slice A l.length c] w fun e w' => e = .returned (.bool true) ∧ Below w.heap.size w w' := by
  have HSM := Lib.hid hsm
  clear hsm
  have hab := alloc_below w (.cells #[.int .i64 g.pl, .int .i64 g.bl, .int .i64 g.pg, .int .i64 g.ch, .int .i64 g.ck, .int .i64 g.ru, .int .i64 g.pa] 23)
  have hgb := GBox.new w g
  have HB0 := Lib.hid hab
  have HG0 := Lib.hid hgb
  obtain ⟨m, hm⟩ : ∃ m, m = l.length := ⟨_, rfl⟩
  have HM := Lib.hid hm
  rw [← hm]
  clear hab hgb hm
  unfold Ge.v
  go_enter Try.func4, Try.ntmps4
  go_upto_region 1 with fail
  generalize w.alloc (.cells #[.int .i64 g.pl, .int .i64 g.bl, .int .i64 g.pg, .int .i64 g.ch, .int .i64 g.ck, .int .i64 g.ru, .int .i64 g.pa] 23) = w0 at HB0 HG0 ⊢
  generalize hb0 : w.heap.size = b0 at HG0 ⊢
  have HBE := Lib.hid hb0
  clear hb0
  go_upto_region 3 with (go_at_call 11; refine (awake_ok _).mono ?_; rintro e w1 ⟨rfl, hb1⟩; have HB1 := Lib.hid (chainC (Nat.le_refl _) HB0.out hb1); have HG1 := Lib.hid (HG0.out.below hb1); clear hb1)
  clear HB0 HG0
  obtain ⟨c0, c1, c2, c3, c4, c5, c6⟩ := HG1.out.c
  cases B with
  | false =>
    clear hno
    go_wp2_with (go_at_call 12; refine (HSM.out _).mono ?_; rintro e w3 ⟨rfl, hb3⟩; have HB3 := Lib.hid (chainC (Nat.le_refl _) HB1.out hb3); clear hb3)
    go_ret
    exact ⟨rfl, HBE.out ▸ HB3.out⟩
  | true =>
    have hlong : decide ((800 : Int) < (m : Int)) = true := decide_eq_true (by rcases hno with h | h; cases h; have := HM.out; omega)
    clear hno
    go_wp2_with (go_at_call 12; refine (HSM.out _).mono ?_; rintro e w3 ⟨rfl, hb3⟩; have HB3 := Lib.hid (chainC (Nat.le_refl _) HB1.out hb3); clear hb3)
    go_ret
    exact ⟨rfl, HBE.out ▸ HB3.out⟩
set_option maxHeartbeats 8000000 in
set_option maxRecDepth 100000 in
theorem jst_bad (hg : ¬ g.ok) (w : World) (l : List (Int × Int)) {A : Option Addr} {c : Nat} (hsm : ∀ w, Calls Try.prog 12 #[g.v] w fun e w' => e = .returned (.bool true) ∧ Below w.heap.size w w') (hll : l.length ≤ 800) : Calls Try.prog 4 #[g.v, .slice A l.length c] w fun e w' => e = .returned (.bool true) ∧ Below w.heap.size w w' := by
  have HRI := Lib.hid (gright_no hg)
  have HNW := Lib.hid (jnew_bad hg)
  have HRU := Lib.hid (run_bad hg)
  have HLL := Lib.hid hll
  clear hg hll
  have HSM := Lib.hid hsm
  clear hsm
  have hab := alloc_below w (.cells #[.int .i64 g.pl, .int .i64 g.bl, .int .i64 g.pg, .int .i64 g.ch, .int .i64 g.ck, .int .i64 g.ru, .int .i64 g.pa] 23)
  have hgb := GBox.new w g
  have HB0 := Lib.hid hab
  have HG0 := Lib.hid hgb
  obtain ⟨m, hm⟩ : ∃ m, m = l.length := ⟨_, rfl⟩
  have HM := Lib.hid hm
  rw [← hm]
  clear hab hgb hm
  unfold Ge.v
  go_enter Try.func4, Try.ntmps4
  go_upto_region 1 with fail
  generalize w.alloc (.cells #[.int .i64 g.pl, .int .i64 g.bl, .int .i64 g.pg, .int .i64 g.ch, .int .i64 g.ck, .int .i64 g.ru, .int .i64 g.pa] 23) = w0 at HB0 HG0 ⊢
  generalize hb0 : w.heap.size = b0 at HG0 ⊢
  have HBE := Lib.hid hb0
  clear hb0
  go_upto_region 3 with (go_at_call 11; refine (awake_ok _).mono ?_; rintro e w1 ⟨rfl, hb1⟩; have HB1 := Lib.hid (chainC (Nat.le_refl _) HB0.out hb1); have HG1 := Lib.hid (HG0.out.below hb1); clear hb1)
  clear HB0 HG0
  obtain ⟨c0, c1, c2, c3, c4, c5, c6⟩ := HG1.out.c
  have hlong : decide ((800 : Int) < (m : Int)) = false := decide_eq_false (by have := HLL.out; have := HM.out; omega)
  go_upto_region 5 with (go_at_call 12; refine (HSM.out _).mono ?_; rintro e w3 ⟨rfl, hb3⟩; have HB3 := Lib.hid (chainC (Nat.le_refl _) HB1.out hb3); have HG3 := Lib.hid (HG1.out.below hb3); clear hb3)
  clear c0 c1 c2 c3 c4 c5 c6
  obtain ⟨c0, c1, c2, c3, c4, c5, c6⟩ := HG3.out.c
  go_upto_region 6 with (go_at_call 14; refine (HNW.out _).mono ?_; rintro e w4 ⟨rfl, hb4⟩; have HB4 := Lib.hid (chainC (Nat.le_refl _) HB3.out hb4); have HG4 := Lib.hid (HG3.out.below hb4); clear hb4)
  clear c0 c1 c2 c3 c4 c5 c6
  obtain ⟨c0, c1, c2, c3, c4, c5, c6⟩ := HG4.out.c
  go_upto_region 7 with (go_at_call 19; refine (HRU.out _ _ _ _).mono ?_; rintro e w5 ⟨rfl, hb5⟩; have HB5 := Lib.hid (chainC (Nat.le_refl _) HB4.out hb5); have HG5 := Lib.hid (HG4.out.below hb5); clear hb5)
  clear c0 c1 c2 c3 c4 c5 c6
  obtain ⟨c0, c1, c2, c3, c4, c5, c6⟩ := HG5.out.c
  go_wp2_with (go_at_call 13; refine (HRI.out _).mono ?_; rintro e w6 ⟨rfl, hb6⟩; have HB6 := Lib.hid (chainC (Nat.le_refl _) HB5.out hb6); have HG6 := Lib.hid (HG5.out.below hb6); clear hb6)
  go_ret
  exact ⟨rfl, HBE.out ▸ HB6.out⟩
end
end Go.Proofs.Ytfmogmgdpamfgaa.Jd

namespace Go.Proofs.Ytfmogmgdpamfgaa.Jd
open Go.RowKit Go.Proofs.YtfmogmgdpamfgaaW.PrintWords Go.Proofs.YtfmogmgdpamfgaaW.PrintLast Go.Proofs.YtfmogmgdpamfgaaW.PrintMore
set_option linter.unusedVariables false
set_option linter.unusedSimpArgs false
/-- The shape of the document's judge. -/
structure Wc (g : Ge) (s : RS) : Prop where
  hg : g.ok
  ne : s.er.length = g.bl.toNat
  nl : s.la.length = g.bl.toNat
  np : (s.pr.length : Int) = g.bl * g.pg
section
variable {w w' : World} {p : Nat} {g : Ge} {t t' : Nat → Nat} {s : RS} {H : HR}
set_option maxHeartbeats 4000000 in
set_option maxRecDepth 100000 in
theorem rcan2_ok (row : Int) (hw : Wc g s) (h : RAt w p g t s H) : Calls Try.prog 24 #[.pointer (some ⟨p, 0, none⟩), .int .i64 row] w fun e w' => e = .returned (.bool (canR g s row)) ∧ Below w.heap.size w w' := by
  have c0 := h.c0
  have c1 := h.c1
  have c2 := h.c2
  have c6 := h.c6
  have c7 := h.c7
  have c8 := h.c8
  have c9 := h.c9
  have hg := hw.hg
  have hnp := hw.np
  by_cases hlo : row < 0
  · have e1 : decide (row < 0) = true := decide_eq_true hlo
    rw [show canR g s row = false from by unfold canR; rw [if_pos (.inl hlo)]]
    clear h hw hg hnp hlo
    go_enter Try.func24, Try.ntmps24
    go_wp2_with fail
    go_ret
    exact ⟨rfl, Below.refl _ _⟩
  have e1 : decide (row < 0) = false := decide_eq_false hlo
  obtain ⟨A, m, hA⟩ := h.l9
  by_cases hhi : (s.pr.length : Int) ≤ row
  · have e2 : decide ((s.pr.length : Int) ≤ row) = true := decide_eq_true hhi
    rw [show canR g s row = false from by unfold canR; rw [if_pos (.inr hhi)]]
    rw [hA] at c9
    clear h hw hg hnp hlo hA hhi
    generalize s.pr.length = n at *
    go_enter Try.func24, Try.ntmps24
    go_wp2_with fail
    go_ret
    exact ⟨rfl, Below.refl _ _⟩
  have e2 : decide ((s.pr.length : Int) ≤ row) = false := decide_eq_false hhi
  have ⟨b4, b5, b6⟩ : 0 ≤ row / g.pg ∧ 0 ≤ row % g.pg ∧ row / g.pg < g.bl := (row_split hg (show 0 ≤ row by omega) (show row < g.bl * g.pg by omega)).2.2.2
  have hE : Hid (canR g s row = (s.er.getD (row / g.pg).toNat false && decide (s.la.getD (row / g.pg).toNat 0 ≤ row % g.pg) && decide (s.pr.getD row.toNat 0 < g.pa))) := Lib.hid (by unfold canR; rw [if_neg (by omega)])
  rw [hE.out]
  clear hE
  obtain ⟨b, hb⟩ := Int.eq_ofNat_of_zero_le b4
  obtain ⟨r, hr⟩ := Int.eq_ofNat_of_zero_le (show 0 ≤ row by omega)
  subst hr
  rw [hb, Int.toNat_natCast, Int.toNat_natCast]
  rw [hb] at b6
  have hbn : b < s.er.length := by rw [hw.ne]; omega
  have hbl : b < s.la.length := by rw [hw.nl]; omega
  have hrn : r < s.pr.length := by omega
  obtain ⟨g1, k1, q1, x1, _, _⟩ := h.e7 b hbn
  obtain ⟨g2, k2, q2, x2, _, _⟩ := h.e8 b hbl
  obtain ⟨g3, k3, q3, x3, _, _⟩ := h.e9 r hrn
  rw [q1] at c7
  rw [q2] at c8
  rw [q3] at c9
  have i1 : (b : Int) < (s.er.length : Int) := by omega
  have i2 : (b : Int) < (s.la.length : Int) := by omega
  have i3 : (r : Int) < (s.pr.length : Int) := by omega
  have hb256 : b ≤ 256 := by have := hg.2.1.2; omega
  have hp0 : ¬ g.pg = 0 := by have := hg.2.2.1.1; omega
  have t1 : (r : Int).tdiv g.pg = (b : Int) := by rw [Int.tdiv_eq_ediv_of_nonneg (by omega)]; exact hb
  have t2 : (r : Int).tmod g.pg = (r : Int) % g.pg := Int.tmod_eq_emod_of_nonneg (by omega)
  have hr6 : r ≤ 1000000 := by
    have h1 : g.bl * g.pg ≤ 256 * 64 := Int.mul_le_mul hg.2.1.2 hg.2.2.1.2 (by have := hg.2.2.1.1; omega) (by decide)
    omega
  clear h hw hnp hhi hlo hA q1 q2 q3 b4 b6 hbn hbl hrn
  generalize s.er.getD b false = er at *
  generalize s.la.getD b 0 = la at *
  generalize s.pr.getD r 0 = pr at *
  generalize s.er.length = n1 at *
  generalize s.la.length = n2 at *
  generalize s.pr.length = n3 at *
  have hpw : IntKind.i64.wrap (b : Int) = b := by rw [IntWalk.i64_in _ (by omega)]
  clear hb hg b5
  go_enter Try.func24, Try.ntmps24
  go_upto_region 4 with fail
  cases er with
  | false =>
    go_quiet (fail)
    go_wp2
    go_ret
    exact ⟨rfl, pw_below_drewN (Below.refl _ _) _⟩
  | true =>
    by_cases hle : la ≤ (r : Int) % g.pg
    · have hle1 : decide (la ≤ (r : Int) % g.pg) = true := decide_eq_true hle
      go_quiet (fail)
      go_wp2
      go_ret
      exact ⟨by first | rfl | (rw [hle1]; rfl), pw_below_drewN (Below.refl _ _) _⟩
    · have hle2 : decide (la ≤ (r : Int) % g.pg) = false := decide_eq_false hle
      go_quiet (fail)
      go_wp2
      go_ret
      exact ⟨by first | rfl | (rw [hle2]; rfl), pw_below_drewN (Below.refl _ _) _⟩
end
section
variable {w0 w w' : World} {N0 p p1 p2 b0 gb q n : Nat} {g : Ge} {t t1 t2 t' : Nat → Nat} {s s' : JS} {r1 r2 r' : RS} {o : Obj}
theorem T3.wcan (h : T3 w0 w N0 p p1 p2 b0 gb g t t1 t2 s r1 r2) (hg : g.ok) (hr : Rc g s r1) (row : Int) : Calls Try.prog 24 #[.pointer (some ⟨p1, 0, none⟩), .int .i64 row] w fun e w' => e = .returned (.bool (canP g s row)) ∧ Below w.heap.size w w' := by
  obtain ⟨H, hj⟩ := h.ww
  have h2 := rcan2_ok row ⟨hg, hr.br.ne, hr.br.nl, hr.br.prlen hg⟩ hj
  rw [← BR.can hg hr.br row] at h2
  exact h2
end
end Go.Proofs.Ytfmogmgdpamfgaa.Jd

