import Derived.Test.YtnkgbnipcjgjeaaQP
import Derived.Test.YtnkgbnipcjgjeaaMB
namespace Go.Proofs.Ytnkgbnipcjgjeaa.Qu
open Go.RowKit Go.Proofs.Ytnkgbnipcjgjeaa.QW Go.Proofs.Ytnkgbnipcjgjeaa.Mo
set_option linter.unusedVariables false
/-! The plain law of QueueSame. -/
theorem mget_put (l : Md) (s t : Int) (v : List Int) : mget (mput l s v) t = if s = t then some v else mget l t := by
  induction l with
  | nil => simp [mget, mput]
  | cons p r ih =>
    unfold mput
    by_cases e : p.1 = s
    · rw [if_pos e]
      simp only [mget]
      by_cases h : s = t
      · rw [if_pos (e.trans h), if_pos h]
      · rw [if_neg (fun h2 => h (e.symm.trans h2)), if_neg h, if_neg (fun h2 => h (e.symm.trans h2))]
    · rw [if_neg e]
      simp only [mget]
      by_cases h : p.1 = t
      · rw [if_pos h, if_pos h, if_neg (fun h2 => e (h.trans h2.symm))]
      · rw [if_neg h, if_neg h, ih]
theorem mem_del {l : Md} {s : Int} : ∀ p ∈ mdel l s, p ∈ l := by
  induction l with
  | nil => intro p hp; exact hp
  | cons q r ih =>
    intro p hp
    unfold mdel at hp
    split at hp
    · exact List.mem_cons_of_mem _ hp
    · rcases List.mem_cons.1 hp with rfl | hp
      · exact List.mem_cons_self
      · exact List.mem_cons_of_mem _ (ih p hp)
theorem mem_put {l : Md} {s : Int} {v : List Int} : ∀ p ∈ mput l s v, p.1 = s ∨ p ∈ l := by
  induction l with
  | nil => intro p hp; simp [mput] at hp; exact .inl (by rw [hp])
  | cons q r ih =>
    intro p hp
    unfold mput at hp
    split at hp
    · rename_i e
      rcases List.mem_cons.1 hp with rfl | hp
      · exact .inl e
      · exact .inr (List.mem_cons_of_mem _ hp)
    · rcases List.mem_cons.1 hp with rfl | hp
      · exact .inr List.mem_cons_self
      · exact (ih p hp).imp id (List.mem_cons_of_mem _)
/-- No key twice. -/
def Nd (l : Md) : Prop := l.Pairwise (fun p q => p.1 ≠ q.1)
theorem Nd.put {l : Md} (h : Nd l) (s : Int) (v : List Int) : Nd (mput l s v) := by
  induction l with
  | nil => simp [mput, Nd]
  | cons q r ih =>
    have h1 := List.pairwise_cons.1 h
    unfold mput
    split
    · exact List.pairwise_cons.2 ⟨fun p hp => h1.1 p hp, h1.2⟩
    · rename_i e
      refine List.pairwise_cons.2 ⟨fun p hp => ?_, ih h1.2⟩
      rcases mem_put p hp with h2 | h2
      · rw [h2]; exact e
      · exact h1.1 p h2
theorem Nd.del {l : Md} (h : Nd l) (s : Int) : Nd (mdel l s) := by
  induction l with
  | nil => exact h
  | cons q r ih =>
    have h1 := List.pairwise_cons.1 h
    unfold mdel
    split
    · exact h1.2
    · exact List.pairwise_cons.2 ⟨fun p hp => h1.1 p (mem_del p hp), ih h1.2⟩
theorem mget_del {l : Md} (h : Nd l) (s t : Int) : mget (mdel l s) t = if s = t then none else mget l t := by
  induction l with
  | nil => simp [mget, mdel]
  | cons p r ih =>
    have h1 := List.pairwise_cons.1 h
    unfold mdel
    by_cases e : p.1 = s
    · rw [if_pos e]
      by_cases h2 : s = t
      · rw [if_pos h2]
        exact mget_none (fun q hq h3 => h1.1 q hq (by rw [e, h2, h3]))
      · rw [if_neg h2]
        conv => rhs; unfold mget
        rw [if_neg (fun h3 => h2 (e.symm.trans h3))]
    · rw [if_neg e]
      simp only [mget]
      by_cases h2 : p.1 = t
      · rw [if_pos h2, if_pos h2, if_neg (fun h3 => e (h2.trans h3.symm))]
      · rw [if_neg h2, if_neg h2, ih h1.2]
/-- Does the op at k change sector s? What has the sector then? -/
def isCh (l : List S116) (s : Int) (k : Nat) : Bool := chg (l.getD k z116).f0 && decide ((l.getD k z116).f1 = s)
def newV (l : List S116) (k : Nat) : List Int := if (l.getD k z116).f0 = 1 then (l.getD k z116).f2 else zeros 2
def askK (l : List S116) (σ : Md) (k : Nat) : Md := askL 16 2 σ (l.getD k z116).f0 (l.getD k z116).f1 (l.getD k z116).f2
def tellK (l : List S116) (σ : Md) (k : Nat) : List Int := askR 16 2 σ (l.getD k z116).f0 (l.getD k z116).f1
def runP (l : List S116) (ks : List Nat) : Md := ks.foldl (askK l) []
theorem chg_iff (a : Int) : chg a = true ↔ a = 1 ∨ a = 2 := by unfold chg; simp
theorem askK_nd (l : List S116) {σ : Md} (h : Nd σ) (k : Nat) : Nd (askK l σ k) := by
  unfold askK askL
  split
  · split
    · exact h.put _ _
    · split
      · exact h.del _
      · exact h
  · exact h
theorem askK_mV (l : List S116) {σ : Md} (h : Nd σ) (k : Nat) (s : Int) (hs : 0 ≤ s ∧ s < 16) : mV (askK l σ k) 2 s = if isCh l s k = true then newV l k else mV σ 2 s := by
  unfold askK askL isCh newV mV
  generalize (l.getD k z116).f0 = a
  generalize (l.getD k z116).f1 = b
  generalize (l.getD k z116).f2 = d
  by_cases hb : b = s
  · subst hb
    rw [if_pos (show 0 ≤ b ∧ b < ((16 : Nat) : Int) from hs), decide_eq_true rfl, Bool.and_true]
    by_cases h1 : a = 1
    · rw [if_pos h1, if_pos ((chg_iff a).2 (.inl h1)), if_pos h1, mget_put, if_pos rfl]; rfl
    · rw [if_neg h1]
      by_cases h2 : a = 2
      · rw [if_pos h2, if_pos ((chg_iff a).2 (.inr h2)), if_neg h1, mget_del h, if_pos rfl]; rfl
      · rw [if_neg h2, if_neg (fun hc => by have := (chg_iff a).1 hc; omega)]
  · rw [decide_eq_false hb, Bool.and_false, if_neg (show ¬ (false = true) by decide)]
    split
    · split
      · rw [mget_put, if_neg hb]
      · split
        · rw [mget_del h, if_neg hb]
        · rfl
    · rfl
theorem run_snoc (l : List S116) (ks : List Nat) (k : Nat) : runP l (ks ++ [k]) = askK l (runP l ks) k := by unfold runP; rw [List.foldl_append]; rfl
theorem run_nd (l : List S116) (ks : List Nat) : Nd (runP l ks) := by
  unfold runP
  suffices h : ∀ (xs : List Nat) (σ : Md), Nd σ → Nd (xs.foldl (askK l) σ) from h ks [] List.Pairwise.nil
  intro xs
  induction xs with
  | nil => intro σ h; exact h
  | cons k r ih => intro σ h; exact ih _ (askK_nd l h k)
/-- What a sector has depends on its last change alone. -/
theorem run_mV (l : List S116) (s : Int) (hs : 0 ≤ s ∧ s < 16) (ks : List Nat) : mV (runP l ks) 2 s = ((ks.filter (isCh l s)).getLast?.map (newV l)).getD (zeros 2) := by
  suffices h : ∀ (xs : List Nat) (σ : Md), Nd σ → mV (xs.foldl (askK l) σ) 2 s = ((xs.filter (isCh l s)).getLast?.map (newV l)).getD (mV σ 2 s) from h ks [] List.Pairwise.nil
  intro xs
  induction xs with
  | nil => intro σ h; rfl
  | cons k r ih =>
    intro σ h
    rw [List.foldl_cons, ih _ (askK_nd l h k), askK_mV l h k s hs, List.filter_cons]
    by_cases hc : isCh l s k = true
    · rw [if_pos hc, if_pos hc, List.getLast?_cons]
      cases (r.filter (isCh l s)).getLast? <;> rfl
    · rw [if_neg hc, if_neg hc]
/-- The same last element. -/
theorem last_eq {A B : List Nat} (hA : A.Pairwise (· < ·)) (hB : B.Pairwise (· < ·)) (hs : ∀ x ∈ A, x ∈ B) (hl : ∀ c, B.getLast? = some c → c ∈ A) : A.getLast? = B.getLast? := by
  have top : ∀ (L : List Nat), L.Pairwise (· < ·) → ∀ c, L.getLast? = some c → ∀ x ∈ L, x ≤ c := by
    intro L hL c hc x hx
    obtain ⟨ys, rfl⟩ := List.getLast?_eq_some_iff.1 hc
    rcases List.mem_append.1 hx with h | h
    · exact Nat.le_of_lt ((List.pairwise_append.1 hL).2.2 x h c (by simp))
    · have : x = c := by simpa using h
      omega
  cases hb : B.getLast? with
  | none =>
    have : B = [] := List.getLast?_eq_none_iff.1 hb
    subst this
    cases A with
    | nil => rfl
    | cons x r => exact absurd (hs x List.mem_cons_self) (by simp)
  | some c =>
    have h1 := hl c hb
    cases ha : A.getLast? with
    | none => rw [List.getLast?_eq_none_iff.1 ha] at h1; simp at h1
    | some d =>
      have h2 := top A hA d ha c h1
      have hd : d ∈ A := List.mem_of_getLast? ha
      have h3 := top B hB c hb d (hs d hd)
      congr 1; omega
theorem bef_iff (l : List S116) {a b : Nat} (h : (l.getD a z116).f1 = (l.getD b z116).f1) : bef l a b ↔ a < b := by
  constructor
  · intro hb
    rcases hb with hb | ⟨_, hb⟩
    · rcases Nat.lt_or_ge a b with h2 | h2
      · exact h2
      · have := segC_mono l b (a - b)
        rw [show b + (a - b) = a by omega] at this
        omega
    · rcases hb with hb | hb
      · exact hb.2
      · rcases hb.2 with h2 | h2
        · omega
        · exact h2.2
  · intro hb
    have := segC_mono l a (b - a)
    rw [show a + (b - a) = b by omega] at this
    by_cases e : segC l a = segC l b
    · refine .inr ⟨e, ?_⟩
      by_cases h4 : (l.getD a z116).f0 = 4 ∨ (l.getD b z116).f0 = 4
      · exact .inl ⟨h4, hb⟩
      · exact .inr ⟨h4, .inr ⟨h, hb⟩⟩
    · exact .inl (by omega)
theorem goV_true (s : Int) (l : List S116) : ∀ (d i : Nat), i + d = l.length → goV s (l.drop i) = true → ∃ e, i ≤ e ∧ e < l.length ∧ isCh l s e = true ∧ ∀ x, i ≤ x → x < e → (l.getD x z116).f1 ≠ s := by
  intro d
  induction d with
  | zero =>
    intro i hi h
    rw [List.drop_eq_nil_of_le (by omega)] at h
    cases h
  | succ d ih =>
    intro i hi h
    rw [goV_step s l i (by omega)] at h
    split at h
    · cases h
    · split at h
      · rename_i hs
        refine ⟨i, Nat.le_refl _, by omega, ?_, fun x h1 h2 => by omega⟩
        unfold isCh
        rw [h, hs, decide_eq_true rfl]; rfl
      · rename_i hs
        obtain ⟨e, h1, h2, h3, h4⟩ := ih (i + 1) (by omega) h
        refine ⟨e, by omega, h2, h3, fun x h5 h6 => ?_⟩
        by_cases hx : x = i
        · rw [hx]; exact hs
        · exact h4 x (by omega) h6
theorem uncov (l : List S116) (s : Int) {c m : Nat} (hc : isCh l s c = true) (hcm : c < m) (hm : m = l.length ∨ m < l.length ∧ (l.getD m z116).f1 = s ∧ chg (l.getD m z116).f0 = false) (hn : ∀ d, c < d → d < m → isCh l s d = false) : covA l c = false := by
  unfold isCh at hc
  simp only [Bool.and_eq_true, decide_eq_true_eq] at hc
  unfold covA covV
  rw [if_pos hc.1, hc.2]
  cases hg : goV s (l.drop (c + 1)) with
  | false => rfl
  | true =>
    obtain ⟨e, h1, h2, h3, h4⟩ := goV_true s l (l.length - (c + 1)) (c + 1) (by omega) hg
    exfalso
    rcases Nat.lt_trichotomy e m with h | h | h
    · rw [hn e (by omega) h] at h3; cases h3
    · rcases hm with hm | hm
      · omega
      · subst h
        unfold isCh at h3
        rw [hm.2.2] at h3
        cases h3
    · rcases hm with hm | hm
      · omega
      · exact h4 m (by omega) h hm.2.1
theorem kept_iff (l : List S116) : ∀ d i j, j ∈ keptL l d i ↔ i ≤ j ∧ j < i + d ∧ covA l j = false
  | 0, i, j => by simp [keptL]; omega
  | d + 1, i, j => by
    unfold keptL
    rw [List.mem_append, kept_iff l d (i + 1) j]
    constructor
    · rintro (h | h)
      · split at h
        · simp at h
        · rename_i hc
          obtain rfl : j = i := by simpa using h
          exact ⟨Nat.le_refl _, by omega, by simpa using hc⟩
      · exact ⟨by omega, by omega, h.2.2⟩
    · rintro ⟨h1, h2, h3⟩
      by_cases e : j = i
      · subst e
        left
        rw [h3]; simp
      · exact .inr ⟨by omega, by omega, h3⟩
theorem cov_count (l : List S116) : ∀ d i, (keptL l d i).length + (covL l d i).length = d
  | 0, _ => rfl
  | d + 1, i => by
    have := cov_count l d (i + 1)
    unfold keptL covL
    rw [List.length_append, List.length_append]
    cases covA l i <;> simp <;> omega
/-- The better order, as places. -/
def ordK (l : List S116) : List Nat := betK l l.length 0 0 []
theorem ord_ok (l : List S116) : (ordK l).Pairwise (bef l) ∧ (ordK l).Perm (keptL l l.length 0) := by
  have h := betK_ok l l.length 0 0 [] (by omega) (Nat.le_refl _) (fun j h1 h2 => by omega) List.Pairwise.nil (fun y hy => by simp at hy)
  exact ⟨h.1, h.2⟩
theorem ord_mem (l : List S116) (j : Nat) : j ∈ ordK l ↔ j < l.length ∧ covA l j = false := by
  rw [(ord_ok l).2.mem_iff, kept_iff, Nat.zero_add]
  exact ⟨fun h => h.2, fun h => ⟨Nat.zero_le _, h⟩⟩
theorem ord_len (l : List S116) : (ordK l).length + (covL l l.length 0).length = l.length := by
  rw [(ord_ok l).2.length_eq]; exact cov_count l l.length 0
theorem bef_irr (l : List S116) (a : Nat) : ¬ bef l a a := fun h => bef_asymm l h h
theorem ord_split (l : List S116) {j k : Nat} (hj : (ordK l)[j]? = some k) : ordK l = (ordK l).take j ++ k :: (ordK l).drop (j + 1) := by
  obtain ⟨h, rfl⟩ := List.getElem?_eq_some_iff.1 hj
  rw [← List.drop_eq_getElem_cons h, List.take_append_drop]
theorem take_iff (l : List S116) {j k : Nat} (hj : (ordK l)[j]? = some k) (c : Nat) : c ∈ (ordK l).take j ↔ c ∈ ordK l ∧ bef l c k := by
  have hp := (ord_ok l).1
  have e := ord_split l hj
  constructor
  · intro h
    refine ⟨List.mem_of_mem_take h, ?_⟩
    rw [e] at hp
    exact (List.pairwise_append.1 hp).2.2 c h k (by simp)
  · rintro ⟨h1, h2⟩
    rw [e] at h1 hp
    rcases List.mem_append.1 h1 with h | h
    · exact h
    · exfalso
      rcases List.mem_cons.1 h with rfl | h
      · exact bef_irr l _ h2
      · exact bef_asymm l h2 ((List.pairwise_cons.1 (List.pairwise_append.1 hp).2.1).1 c h)
theorem range_pw (n : Nat) : (List.range n).Pairwise (· < ·) := List.pairwise_lt_range
theorem ch_f1 {l : List S116} {s : Int} {c : Nat} (h : isCh l s c = true) : (l.getD c z116).f1 = s ∧ chg (l.getD c z116).f0 = true := by
  unfold isCh at h
  simp only [Bool.and_eq_true, decide_eq_true_eq] at h
  exact ⟨h.2, h.1⟩
theorem last_filter {l : List S116} {s : Int} {m c : Nat} (h : ((List.range m).filter (isCh l s)).getLast? = some c) : isCh l s c = true ∧ c < m ∧ ∀ d, c < d → d < m → isCh l s d = false := by
  have hm := List.mem_of_getLast? h
  rw [List.mem_filter, List.mem_range] at hm
  refine ⟨hm.2, hm.1, fun d h1 h2 => ?_⟩
  cases hd : isCh l s d with
  | false => rfl
  | true =>
    exfalso
    have hin : d ∈ (List.range m).filter (isCh l s) := List.mem_filter.2 ⟨List.mem_range.2 h2, hd⟩
    have hp : ((List.range m).filter (isCh l s)).Pairwise (· < ·) := (range_pw m).filter _
    obtain ⟨ys, hy⟩ := List.getLast?_eq_some_iff.1 h
    rw [hy] at hin hp
    rcases List.mem_append.1 hin with h3 | h3
    · have := (List.pairwise_append.1 hp).2.2 d h3 c (by simp)
      omega
    · have : d = c := by simpa using h3
      omega
/-- A read tells the same in both orders. -/
theorem same_read (l : List S116) {j k : Nat} (hj : (ordK l)[j]? = some k) : tellK l (runP l ((ordK l).take j)) k = tellK l (runP l (List.range k)) k := by
  unfold tellK askR
  split
  · rename_i h3
    have hs : 0 ≤ (l.getD k z116).f1 ∧ (l.getD k z116).f1 < 16 := h3.2
    have hk := (ord_mem l k).1 (List.mem_of_getElem? hj)
    rw [run_mV l _ hs, run_mV l _ hs]
    have hp := (ord_ok l).1
    rw [last_eq (B := (List.range k).filter (isCh l (l.getD k z116).f1)) ?_ ((range_pw k).filter _) ?_ ?_]
    · have h1 : (((ordK l).take j).filter (isCh l (l.getD k z116).f1)).Pairwise (bef l) := (hp.sublist (List.take_sublist _ _)).filter _
      refine h1.imp_of_mem (fun {a b} ha hb h => ?_)
      have fa := (ch_f1 (List.mem_filter.1 ha).2).1
      have fb := (ch_f1 (List.mem_filter.1 hb).2).1
      exact (bef_iff l (fa.trans fb.symm)).1 h
    · intro x hx
      have hx2 := List.mem_filter.1 hx
      have h1 := (take_iff l hj x).1 hx2.1
      exact List.mem_filter.2 ⟨List.mem_range.2 ((bef_iff l (ch_f1 hx2.2).1).1 h1.2), hx2.2⟩
    · intro c hc
      obtain ⟨h1, h2, h4⟩ := last_filter hc
      have hu := uncov l _ h1 h2 (.inr ⟨hk.1, rfl, by rw [h3.1]; rfl⟩) h4
      exact List.mem_filter.2 ⟨(take_iff l hj c).2 ⟨(ord_mem l c).2 ⟨by omega, hu⟩, (bef_iff l (ch_f1 h1).1).2 h2⟩, h1⟩
  · rfl
/-- In the end all sectors are the same. -/
theorem same_end (l : List S116) (s : Int) (hs : 0 ≤ s ∧ s < 16) : mV (runP l (ordK l)) 2 s = mV (runP l (List.range l.length)) 2 s := by
  rw [run_mV l _ hs, run_mV l _ hs]
  have hp := (ord_ok l).1
  rw [last_eq (B := (List.range l.length).filter (isCh l s)) ?_ ((range_pw _).filter _) ?_ ?_]
  · refine (hp.filter _).imp_of_mem (fun {a b} ha hb h => ?_)
    have fa := (ch_f1 (List.mem_filter.1 ha).2).1
    have fb := (ch_f1 (List.mem_filter.1 hb).2).1
    exact (bef_iff l (fa.trans fb.symm)).1 h
  · intro x hx
    have hx2 := List.mem_filter.1 hx
    exact List.mem_filter.2 ⟨List.mem_range.2 ((ord_mem l x).1 hx2.1).1, hx2.2⟩
  · intro c hc
    obtain ⟨h1, h2, h4⟩ := last_filter hc
    exact List.mem_filter.2 ⟨(ord_mem l c).2 ⟨h2, uncov l _ h1 h2 (.inl rfl) h4⟩, h1⟩
/-- No flush moves ahead of what was asked ahead of it. -/
theorem flush_met (l : List S116) {j k : Nat} (hj : (ordK l)[j]? = some k) (h4 : (l.getD k z116).f0 = 4) {i : Nat} (hi : i < k) (hc : covA l i = false) : i ∈ (ordK l).take j := by
  have hk := (ord_mem l k).1 (List.mem_of_getElem? hj)
  refine (take_iff l hj i).2 ⟨(ord_mem l i).2 ⟨by omega, hc⟩, ?_⟩
  have := segC_mono l i (k - i)
  rw [show i + (k - i) = k by omega] at this
  by_cases e : segC l i = segC l k
  · exact .inr ⟨e, .inl ⟨.inr h4, hi⟩⟩
  · exact .inl (by omega)
theorem not_met (l : List S116) {j k : Nat} (hj : (ordK l)[j]? = some k) : k ∉ (ordK l).take j := fun h => bef_irr l k ((take_iff l hj k).1 h).2
end Go.Proofs.Ytnkgbnipcjgjeaa.Qu
