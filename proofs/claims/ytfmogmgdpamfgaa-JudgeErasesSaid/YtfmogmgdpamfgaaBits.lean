import Derived.WalkKit
namespace Go.Proofs.Ytfmogmgdpamfgaa
open Go.RowKit

theorem wraps_i64 (n : Int) (h0 : 0 ≤ n) (h1 : n < 2 ^ 63) : IntKind.i64.wrap n = n := by
  simp [IntKind.wrap, IntKind.bits, IntKind.signed]
  omega
theorem or_join (i : Nat) (x y : Int) (hx0 : 0 ≤ x) (hx : x % 2 ^ i = 0) (hx1 : x < 2 ^ 63) (hy0 : 0 ≤ y) (hy : y < 2 ^ i) (hy1 : y < 2 ^ 63) : bits .or .i64 x y = x + y :=
  bits_join .i64 63 (by decide) wraps_i64 i x y hx0 hx hx1 hy0 hy hy1
theorem bits_comm_or (k : IntKind) (x y : Int) : bits .or k x y = bits .or k y x := by
  show k.wrap ((BitVec.ofInt k.bits x ||| BitVec.ofInt k.bits y).toNat : Int) = k.wrap ((BitVec.ofInt k.bits y ||| BitVec.ofInt k.bits x).toNat : Int)
  rw [BitVec.or_comm]
theorem nat_or_one (n : Nat) : n ||| 1 = n + 1 - n % 2 := by
  rcases Nat.mod_two_eq_zero_or_one n with h | h
  · have e : n = 2 ^ 1 * (n / 2) := by omega
    have := Nat.two_pow_add_eq_or_of_lt (i := 1) (b := 1) (by decide) (n / 2)
    rw [← e] at this
    omega
  · have e : n = 2 ^ 1 * (n / 2) + 1 := by omega
    have := Nat.two_pow_add_eq_or_of_lt (i := 1) (b := 1) (by decide) (n / 2)
    have e2 : n = 2 ^ 1 * (n / 2) ||| 1 := by rw [← this]; exact e
    have : n ||| 1 = n := by
      rw [e2, Nat.or_assoc, Nat.or_self]
    omega
theorem or_one (x : Int) (h0 : 0 ≤ x) (h1 : x < 2 ^ 63) : bits .or .i64 x 1 = x + 1 - x % 2 := by
  obtain ⟨n, rfl⟩ := Int.eq_ofNat_of_zero_le h0
  have := (bits_nat .i64 63 (by decide) wraps_i64 n 1 (by omega) (by decide)).2
  rw [nat_or_one] at this
  have e : ((1 : Nat) : Int) = 1 := rfl
  rw [e] at this
  rw [this]; omega
theorem andNot_one (x : Int) (h0 : 0 ≤ x) (h1 : x < 2 ^ 63) : bits .andNot .i64 x 1 = x - x % 2 := by
  obtain ⟨n, rfl⟩ := Int.eq_ofNat_of_zero_le h0
  have hn : n < 2 ^ 63 := by omega
  have h2 : (BitVec.ofInt 64 (n : Int) &&& ~~~ BitVec.ofInt 64 1).toNat = n - n % 2 := by
    have e1 : (~~~ BitVec.ofInt 64 (1 : Int)) = (BitVec.ofNat 64 (2 ^ 64 - 2)) := by decide
    rw [e1, BitVec.ofInt_natCast, BitVec.toNat_and, BitVec.toNat_ofNat, BitVec.toNat_ofNat, Nat.mod_eq_of_lt (by omega : n < 2 ^ 64)]
    rw [Nat.mod_eq_of_lt (by decide : (2 ^ 64 - 2) < 2 ^ 64)]
    apply Nat.eq_of_testBit_eq
    intro i
    rw [Nat.testBit_and]
    have e2 : n - n % 2 = 2 ^ 1 * (n / 2) := by omega
    rw [e2, Nat.testBit_two_pow_mul]
    have e3 : (2 ^ 64 - 2 : Nat) = 2 ^ 1 * (2 ^ 63 - 1) := by decide
    rw [e3, Nat.testBit_two_pow_mul, Nat.testBit_two_pow_sub_one]
    rcases Nat.lt_or_ge i 1 with hi | hi
    · have : i = 0 := by omega
      subst this; simp
    · have e4 : n.testBit i = (n / 2).testBit (i - 1) := by
        obtain ⟨j, rfl⟩ : ∃ j, i = j + 1 := ⟨i - 1, by omega⟩
        rw [Nat.testBit_succ]; rfl
      rw [e4]
      by_cases h63 : i - 1 < 63
      · simp [hi, h63]
      · have : (n / 2).testBit (i - 1) = false := Nat.testBit_lt_two_pow (Nat.lt_of_lt_of_le (by omega : n / 2 < 2 ^ 62) (Nat.pow_le_pow_right (by decide) (by omega)))
        simp [this]
  show IntKind.i64.wrap (((BitVec.ofInt 64 (n : Int) &&& ~~~ BitVec.ofInt 64 1).toNat : Nat) : Int) = _
  rw [h2, wraps_i64 _ (by omega) (by omega)]
  omega
end Go.Proofs.Ytfmogmgdpamfgaa
