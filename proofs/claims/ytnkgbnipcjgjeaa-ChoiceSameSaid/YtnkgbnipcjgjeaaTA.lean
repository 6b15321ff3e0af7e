import Derived.Test.YtnkgbnipcjgjeaaMe
import Derived.Test.YtnkgbnipcjgjeaaDB
import Derived.WideKeyArr
import Derived.Test.YtnkgbnipcjgjeaaTG
namespace Go.Proofs.Ytnkgbnipcjgjeaa
open Go.RowKit Go.Shelf Go.Sort Go.Lib Go.Proofs.YtnkgbnipcjgjeaaW.PrintWords Go.Proofs.YtnkgbnipcjgjeaaW.PrintLast Go.Proofs.YtnkgbnipcjgjeaaW.PrintMore
set_option linter.unusedVariables false
theorem alloc_below (w : World) (o : Obj) : Below w.heap.size w (w.alloc o) := (Below.refl _ _).alloc (Nat.le_refl _) o
/-! keys: a row and a rung -/
def kW (p : Int × Int) : Value := .agg #[.int .i64 p.1, .int .i64 p.2]
def okW (p : Int × Int) : Prop := okI p.1 ∧ okI p.2
theorem arr153 : Go.WideMaps.ArrKey Try.prog 153 3 2 := ⟨Try.underlying153, by kernel_rfl, by kernel_rfl, by kernel_rfl⟩
theorem size_types : ∃ m, Try.prog.types.size + 1 = m + 2 := ⟨Try.prog.types.size - 1, by
  have : 0 < Try.prog.types.size := of_decide_eq_true (by kernel_rfl)
  omega⟩
theorem cells153 : Try.prog.cellsOf 153 = 2 := by kernel_rfl
theorem cells3 : Try.prog.cellsOf 3 = 1 := by kernel_rfl
theorem keyType153 : Try.prog.keyType 153 = true := by kernel_rfl
theorem key153 (p : Int × Int) (h : okW p) : ∃ l, keyOf Try.prog 153 (kW p) = some l := by
  obtain ⟨m, hm⟩ := size_types
  have hf : (kW p).formed Try.prog 153 = true := by
    unfold kW Value.formed
    rw [Try.underlying153, cells153]; rfl
  have h3 : ∀ x, okI x → Try.prog.keyLits (m + 1) 3 [.int .i64 x] = some [.int .i64 x] := fun x hx => by
    unfold Program.keyLits
    rw [Try.underlying3]
    exact if_pos ⟨rfl, hx⟩
  unfold keyOf
  rw [Try.underlying153]
  simp only [keyType153, hf, Bool.and_self, if_true]
  rw [hm]
  unfold Program.keyLits
  rw [Try.underlying153]
  have hc : (kW p).cells.toList = [.int .i64 p.1, .int .i64 p.2] := rfl
  rw [hc]
  simp only [cells153, cells3, List.length_cons, List.length_nil, if_true]
  simp [List.range_succ, h3 p.1 h.1, h3 p.2 h.2]
theorem keW : KEnc Try.prog 153 kW okW where
  keyed := Go.Maps.Keyed.of_law arr153.law
  lit := key153
  inj := fun x y h => by
    unfold kW at h
    injection h with h
    injection h with h
    injection h with h1 h2
    injection h2 with h2 _
    injection h1 with _ h1
    injection h2 with _ h2
    exact Prod.ext h1 h2
theorem zero32 (w : World) : (zeroValue 32).run Try.prog w = .ok (.slice none 0 0) w := Try.zeroValue32 w
theorem info3' : (Try.prog.info? 3).map (fun i => (i.zero, i.size, i.bytes)) = some (some (.int .i64 0), 1, 8) := by kernel_rfl
/-! small functions -/
def inB (lo hi n : Int) : Bool := decide (lo ≤ n ∧ n ≤ hi)
theorem within_ok (n lo hi : Int) (w : World) : Calls Try.prog 98 #[.int .i64 n, .int .i64 lo, .int .i64 hi] w fun e w' => e = .returned (.bool (inB lo hi n)) ∧ w' = w := by
  by_cases h1 : lo ≤ n
  · by_cases h2 : n ≤ hi
    · have hd : inB lo hi n = true := decide_eq_true ⟨h1, h2⟩
      have HD := Lib.hid hd
      clear hd
      go_enter Try.func98, Try.ntmps98
      go_wp2_with fail
      go_ret
      exact ⟨by rw [HD.out]; rfl, rfl⟩
    · have hd : inB lo hi n = false := decide_eq_false (fun h => h2 h.2)
      have HD := Lib.hid hd
      clear hd
      go_enter Try.func98, Try.ntmps98
      go_wp2_with fail
      go_ret
      exact ⟨by rw [HD.out]; rfl, rfl⟩
  · have hd : inB lo hi n = false := decide_eq_false (fun h => h1 h.1)
    have HD := Lib.hid hd
    clear hd
    go_enter Try.func98, Try.ntmps98
    go_wp2_with fail
    go_ret
    exact ⟨by rw [HD.out]; rfl, rfl⟩
theorem clos128_ok (n : Int) (w : World) : Calls Try.prog 128 #[.int .i64 n] w fun e w' => e = .returned (.bool (!inB 0 65536 n)) ∧ w' = w := by
  have HW := Lib.hid (within_ok n 0 65536)
  generalize inB 0 65536 n = b at HW ⊢
  go_enter Try.func128, Try.ntmps128
  go_wp2_with (go_at_call 98; refine (HW.out _).mono ?_; rintro e w' ⟨rfl, rfl⟩)
  go_ret
  exact ⟨rfl, rfl⟩
/-- The law's geometry. -/
def plainV : Value := .agg #[.int .i64 1, .int .i64 4, .int .i64 4, .int .i64 1, .int .i64 4, .int .i64 2, .int .i64 1]
theorem size79 : (Try.prog.info? 79).map (·.size) = some 7 := by kernel_rfl
set_option maxRecDepth 100000 in
theorem plain_ok (w : World) : Calls Try.prog 46 #[] w fun e w' => e = .returned plainV ∧ Below w.heap.size w w' := by
  go_enter Try.func46, Try.ntmps46
  go_wp2
  exact bodyPost_ret (v := plainV) (by simp [results, Try.results46, go_sem, plainV]) rfl ⟨rfl, alloc_below w _⟩
theorem rightPlain : Right 1 4 4 1 4 2 1 := by unfold Right; omega
theorem pcheck_ok (w : World) : Calls Try.prog 126 #[plainV] w fun e w' => e = .returned (.int .i64 0) ∧ Below w.heap.size w w' := check_ok rightPlain w
theorem praw_ok (w : World) : Calls Try.prog 131 #[plainV] w fun e w' => e = .returned (.int .i64 37) ∧ Below w.heap.size w w' := raw_ok rightPlain w
set_option maxHeartbeats 2000000 in
set_option maxRecDepth 100000 in
theorem clone3_ok (A : Option Addr) (c : Nat) (xs : List Int) (w : World) (hr : (Kd.int .i64).C w A xs.length xs) (hc : xs.length ≤ c) (hl : xs.length ≤ 100000) :
    Calls Try.prog 94 #[.slice A xs.length c] w fun e w' => (∃ v, e = .returned v ∧ (Kd.int .i64).R 3 w' w.heap.size (fun _ => True) v xs) ∧ Below w.heap.size w w' := by
  have HR := Lib.hid hr
  clear hr
  have hu32 := Try.underlying32
  have heq : ∀ (a : Option Addr) (n c : Nat) (W : World), (binOp .eql 32 (.slice a n c) (.slice none 0 0)).run Try.prog W = .ok (.bool a.isNone) W := fun a n c W => Lib.run_eql_slice_nil W 32 3 a n c 0 0 Try.underlying32
  cases A with
  | none =>
    have hx : xs = [] := by
      cases xs with
      | nil => rfl
      | cons x r => obtain ⟨ad, h, _⟩ := HR.out.2.2 (by simp); cases h
    subst hx
    go_enter Try.func94, Try.ntmps94
    go_wp2_with fail
    go_ret
    exact ⟨⟨_, rfl, Kd.R_nil _ _ _ _ _⟩, Below.refl _ _⟩
  | some ad =>
    go_enter Try.func94, Try.ntmps94
    have HO := Lib.hid (R_empty (Value.int .i64) (h1 := fun _ => rfl) 3 w (fun _ => True) (fun _ _ => trivial))
    have HB := Lib.hid ((Below.refl w.heap.size w).alloc (Nat.le_refl _) (.cells #[] 3))
    have HC := Lib.hid (Kd.C_alloc HR.out (.cells #[] 3))
    have HS : Hid (w.heap.size ≤ (w.alloc (.cells #[] 3)).heap.size) := Lib.hid (by simp)
    have HZ : Hid ((([] : List Int).length + xs.length) * 8 ≤ 140737488355328) := Lib.hid (by simp; omega)
    clear hl
    go_wp2_with (at_builtin; refine Kd.R_append_row (Value.int .i64) (0 : Int) (h1 := fun _ => rfl) (w0 := w) w.heap.size rfl (.tmp 5) (.tmp 6) 32 3 (.int .i64 0) 8 rfl Try.underlying32 info3' rfl (by decide) _ [] xs (some ad) xs.length c (fun _ => True) rfl rfl (fun _ _ => trivial) HO.out HC.out HB.out HS.out HZ.out ?_; intro v3 w3 hR3 hb3 hg3 hat3; have HO3 := Lib.hid hR3; have HB3 := Lib.hid hb3; obtain ⟨A3, c3, rfl⟩ := Kd.R_slice hR3; clear hR3 hb3 hg3 hat3)
    go_ret
    exact ⟨⟨_, rfl, HO3.out⟩, HB3.out⟩
end Go.Proofs.Ytnkgbnipcjgjeaa
