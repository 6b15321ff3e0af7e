import Derived.WalkKit
import Derived.Test.YtfmogmgdpamfgaaQJx1
import Derived.Test.YtfmogmgdpamfgaaBs
namespace Go.Proofs.Ytfmogmgdpamfgaa
open Go.RowKit

theorem wraps_i64 (n : Int) (h0 : 0 ≤ n) (h1 : n < 2 ^ 63) : IntKind.i64.wrap n = n := by
  simp [IntKind.wrap, IntKind.bits, IntKind.signed]
  omega
theorem or_join (i : Nat) (x y : Int) (hx0 : 0 ≤ x) (hx : x % 2 ^ i = 0) (hx1 : x < 2 ^ 63) (hy0 : 0 ≤ y) (hy : y < 2 ^ i) (hy1 : y < 2 ^ 63) : bits .or .i64 x y = x + y :=
  bits_join .i64 63 (by decide) wraps_i64 i x y hx0 hx hx1 hy0 hy hy1
theorem bits_comm_or (k : IntKind) (x y : Int) : bits .or k x y = bits .or k y x := by
  show k.wrap ((BitVec.ofInt k.bits x ||| BitVec.ofInt k.bits y).toNat : Int) = k.wrap ((BitVec.ofInt k.bits y ||| BitVec.ofInt k.bits x).toNat : Int)
  rw [BitVec.or_comm]
theorem nat_or_one (n : Nat) : n ||| 1 = n + 1 - n % 2 := by
  rcases Nat.mod_two_eq_zero_or_one n with h | h
  · have e : n = 2 ^ 1 * (n / 2) := by omega
    have := Nat.two_pow_add_eq_or_of_lt (i := 1) (b := 1) (by decide) (n / 2)
    rw [← e] at this
    omega
  · have e : n = 2 ^ 1 * (n / 2) + 1 := by omega
    have := Nat.two_pow_add_eq_or_of_lt (i := 1) (b := 1) (by decide) (n / 2)
    have e2 : n = 2 ^ 1 * (n / 2) ||| 1 := by rw [← this]; exact e
    have : n ||| 1 = n := by
      rw [e2, Nat.or_assoc, Nat.or_self]
    omega
theorem or_one (x : Int) (h0 : 0 ≤ x) (h1 : x < 2 ^ 63) : bits .or .i64 x 1 = x + 1 - x % 2 := by
  obtain ⟨n, rfl⟩ := Int.eq_ofNat_of_zero_le h0
  have := (bits_nat .i64 63 (by decide) wraps_i64 n 1 (by omega) (by decide)).2
  rw [nat_or_one] at this
  have e : ((1 : Nat) : Int) = 1 := rfl
  rw [e] at this
  rw [this]; omega
theorem andNot_one (x : Int) (h0 : 0 ≤ x) (h1 : x < 2 ^ 63) : bits .andNot .i64 x 1 = x - x % 2 := by
  obtain ⟨n, rfl⟩ := Int.eq_ofNat_of_zero_le h0
  have hn : n < 2 ^ 63 := by omega
  have h2 : (BitVec.ofInt 64 (n : Int) &&& ~~~ BitVec.ofInt 64 1).toNat = n - n % 2 := by
    have e1 : (~~~ BitVec.ofInt 64 (1 : Int)) = (BitVec.ofNat 64 (2 ^ 64 - 2)) := by decide
    rw [e1, BitVec.ofInt_natCast, BitVec.toNat_and, BitVec.toNat_ofNat, BitVec.toNat_ofNat, Nat.mod_eq_of_lt (by omega : n < 2 ^ 64)]
    rw [Nat.mod_eq_of_lt (by decide : (2 ^ 64 - 2) < 2 ^ 64)]
    apply Nat.eq_of_testBit_eq
    intro i
    rw [Nat.testBit_and]
    have e2 : n - n % 2 = 2 ^ 1 * (n / 2) := by omega
    rw [e2, Nat.testBit_two_pow_mul]
    have e3 : (2 ^ 64 - 2 : Nat) = 2 ^ 1 * (2 ^ 63 - 1) := by decide
    rw [e3, Nat.testBit_two_pow_mul, Nat.testBit_two_pow_sub_one]
    rcases Nat.lt_or_ge i 1 with hi | hi
    · have : i = 0 := by omega
      subst this; simp
    · have e4 : n.testBit i = (n / 2).testBit (i - 1) := by
        obtain ⟨j, rfl⟩ : ∃ j, i = j + 1 := ⟨i - 1, by omega⟩
        rw [Nat.testBit_succ]; rfl
      rw [e4]
      by_cases h63 : i - 1 < 63
      · simp [hi, h63]
      · have : (n / 2).testBit (i - 1) = false := Nat.testBit_lt_two_pow (Nat.lt_of_lt_of_le (by omega : n / 2 < 2 ^ 62) (Nat.pow_le_pow_right (by decide) (by omega)))
        simp [this]
  show IntKind.i64.wrap (((BitVec.ofInt 64 (n : Int) &&& ~~~ BitVec.ofInt 64 1).toNat : Nat) : Int) = _
  rw [h2, wraps_i64 _ (by omega) (by omega)]
  omega
end Go.Proofs.Ytfmogmgdpamfgaa

namespace Go.Proofs.Ytfmogmgdpamfgaa
open Go.RowKit Go.Proofs.Ytfmogmgdpamfgaa.QJ Go.Proofs.YtfmogmgdpamfgaaW.PrintWords
set_option linter.unusedVariables false
theorem w64i (x : Int) (h0 : -9223372036854775808 ≤ x) (h1 : x ≤ 9223372036854775807) : wrap64 x = x := by
  unfold wrap64; omega
theorem number_two (a b : Int) (ha : 0 ≤ a ∧ a ≤ 255) (hb : 0 ≤ b ∧ b ≤ 255) : geom_Number.f [a, b] = some (a + 256 * b, true) := by
  unfold geom_Number.f
  simp only [List.length_cons, List.length_nil]
  rw [if_pos (by decide), if_pos (by decide), if_pos (by decide)]
  have e0 : rd [a, b] 0 = a := rfl
  have e1 : rd [a, b] 1 = b := rfl
  rw [e0, e1, w64i a (by omega) (by omega), w64i b (by omega) (by omega), w64i (b * 256) (by omega) (by omega), bits_comm_or, or_join 8 (b * 256) a (by omega) (by omega) (by omega) (by omega) (by omega) (by omega)]
  congr 2
  omega
theorem number2 {A : Option Addr} {c : Nat} {x y : Int} (hx : 0 ≤ x ∧ x ≤ 255) (hy : 0 ≤ y ∧ y ≤ 255) (w : World) (hC : Kd.C (Kd.int .u8) w A 2 [x, y]) (hl : 2 ≤ c) :
    Calls Try.prog 152 #[.slice A 2 c] w fun e w' => e = .returned (.tuple #[.int .i64 (x + 256 * y), .bool true]) ∧ Below w.heap.size w w' :=
  (geom_Number.calls A c [x, y] (x + 256 * y) true w hC hl (number_two x y hx hy)).mono fun _ _ ⟨he, hd⟩ => ⟨he, hd.below⟩
theorem info5 : (Try.prog.info? 5).map (fun i => (i.zero, i.size, i.bytes)) = some (some (.int .u8 0), 1, 1) := by kernel_rfl
/-- Two of some bytes, and their number. -/
theorem two_of {l : List Int} {at_ : Nat} (h : at_ + 2 ≤ l.length) : (l.take (at_ + 2)).drop at_ = [l.getD at_ 0, l.getD (at_ + 1) 0] := by
  apply List.ext_getElem?
  intro i
  rw [List.getElem?_drop, List.getElem?_take]
  match i with
  | 0 => rw [if_pos (by omega), List.getD_eq_getElem?_getD, List.getElem?_eq_getElem (show at_ + 0 < l.length by omega)]; simp [List.getElem?_eq_getElem (show at_ < l.length by omega)]
  | 1 => rw [if_pos (by omega), List.getElem?_eq_getElem (show at_ + 1 < l.length by omega)]; simp [List.getD_eq_getElem?_getD, List.getElem?_eq_getElem (show at_ + 1 < l.length by omega)]
  | i + 2 => rw [if_neg (by omega)]; rfl
theorem mid_two (A : Option Addr) (c : Nat) (l : List Int) (at_ : Nat) (h : at_ + 2 ≤ l.length) (hc : l.length ≤ c) :
    ∃ A' : Option Addr, (∀ W : World, (Instr.slice 30 (.slice A l.length c) (some (.int .i64 (at_ : Int))) (some (.int .i64 ((at_ + 2 : Nat) : Int))) none).run Try.prog W = .ok (.slice A' 2 (c - at_)) W) ∧ 2 ≤ c - at_ ∧
      ∀ w : World, Kd.C (Kd.int .u8) w A l.length l → Kd.C (Kd.int .u8) w A' 2 [l.getD at_ 0, l.getD (at_ + 1) 0] := by
  obtain ⟨i0, hi, hz⟩ := Option.map_eq_some_iff.1 info5
  simp only [Prod.mk.injEq] at hz
  obtain ⟨A', h1, h2, h3⟩ := print_mid_of (P := Try.prog) (Value.int .u8) (0 : Int) 30 5 .i64 .i64 Try.underlying30 hi hz.2.1 A c l (at_ : Int) ((at_ + 2 : Nat) : Int) (by omega) (by omega) (by omega) hc
  simp only [Int.toNat_natCast] at h1 h2 h3
  rw [two_of h] at h1 h2 h3
  refine ⟨A', h1, h3, fun w hC => ?_⟩
  exact Kd.C_of_reads (d := (0 : Int)) (h1 := fun _ => rfl) (h2 w (Kd.reads_of_C (d := (0 : Int)) (h1 := fun _ => rfl) hC))
end Go.Proofs.Ytfmogmgdpamfgaa

