import Derived.Test.YtfmogmgdpamfgaaQJx1
import Derived.Test.YtfmogmgdpamfgaaBits
import Derived.Test.YtfmogmgdpamfgaaBs
namespace Go.Proofs.Ytfmogmgdpamfgaa
open Go.RowKit Go.Proofs.Ytfmogmgdpamfgaa.QJ Go.Proofs.YtfmogmgdpamfgaaW.PrintWords
set_option linter.unusedVariables false
theorem w64i (x : Int) (h0 : -9223372036854775808 ≤ x) (h1 : x ≤ 9223372036854775807) : wrap64 x = x := by
  unfold wrap64; omega
theorem number_two (a b : Int) (ha : 0 ≤ a ∧ a ≤ 255) (hb : 0 ≤ b ∧ b ≤ 255) : geom_Number.f [a, b] = some (a + 256 * b, true) := by
  unfold geom_Number.f
  simp only [List.length_cons, List.length_nil]
  rw [if_pos (by decide), if_pos (by decide), if_pos (by decide)]
  have e0 : rd [a, b] 0 = a := rfl
  have e1 : rd [a, b] 1 = b := rfl
  rw [e0, e1, w64i a (by omega) (by omega), w64i b (by omega) (by omega), w64i (b * 256) (by omega) (by omega), bits_comm_or, or_join 8 (b * 256) a (by omega) (by omega) (by omega) (by omega) (by omega) (by omega)]
  congr 2
  omega
theorem number2 {A : Option Addr} {c : Nat} {x y : Int} (hx : 0 ≤ x ∧ x ≤ 255) (hy : 0 ≤ y ∧ y ≤ 255) (w : World) (hC : Kd.C (Kd.int .u8) w A 2 [x, y]) (hl : 2 ≤ c) :
    Calls Try.prog 152 #[.slice A 2 c] w fun e w' => e = .returned (.tuple #[.int .i64 (x + 256 * y), .bool true]) ∧ Below w.heap.size w w' :=
  (geom_Number.calls A c [x, y] (x + 256 * y) true w hC hl (number_two x y hx hy)).mono fun _ _ ⟨he, hd⟩ => ⟨he, hd.below⟩
theorem info5 : (Try.prog.info? 5).map (fun i => (i.zero, i.size, i.bytes)) = some (some (.int .u8 0), 1, 1) := by kernel_rfl
/-- Two of some bytes, and their number. -/
theorem two_of {l : List Int} {at_ : Nat} (h : at_ + 2 ≤ l.length) : (l.take (at_ + 2)).drop at_ = [l.getD at_ 0, l.getD (at_ + 1) 0] := by
  apply List.ext_getElem?
  intro i
  rw [List.getElem?_drop, List.getElem?_take]
  match i with
  | 0 => rw [if_pos (by omega), List.getD_eq_getElem?_getD, List.getElem?_eq_getElem (show at_ + 0 < l.length by omega)]; simp [List.getElem?_eq_getElem (show at_ < l.length by omega)]
  | 1 => rw [if_pos (by omega), List.getElem?_eq_getElem (show at_ + 1 < l.length by omega)]; simp [List.getD_eq_getElem?_getD, List.getElem?_eq_getElem (show at_ + 1 < l.length by omega)]
  | i + 2 => rw [if_neg (by omega)]; rfl
theorem mid_two (A : Option Addr) (c : Nat) (l : List Int) (at_ : Nat) (h : at_ + 2 ≤ l.length) (hc : l.length ≤ c) :
    ∃ A' : Option Addr, (∀ W : World, (Instr.slice 30 (.slice A l.length c) (some (.int .i64 (at_ : Int))) (some (.int .i64 ((at_ + 2 : Nat) : Int))) none).run Try.prog W = .ok (.slice A' 2 (c - at_)) W) ∧ 2 ≤ c - at_ ∧
      ∀ w : World, Kd.C (Kd.int .u8) w A l.length l → Kd.C (Kd.int .u8) w A' 2 [l.getD at_ 0, l.getD (at_ + 1) 0] := by
  obtain ⟨i0, hi, hz⟩ := Option.map_eq_some_iff.1 info5
  simp only [Prod.mk.injEq] at hz
  obtain ⟨A', h1, h2, h3⟩ := print_mid_of (P := Try.prog) (Value.int .u8) (0 : Int) 30 5 .i64 .i64 Try.underlying30 hi hz.2.1 A c l (at_ : Int) ((at_ + 2 : Nat) : Int) (by omega) (by omega) (by omega) hc
  simp only [Int.toNat_natCast] at h1 h2 h3
  rw [two_of h] at h1 h2 h3
  refine ⟨A', h1, h3, fun w hC => ?_⟩
  exact Kd.C_of_reads (d := (0 : Int)) (h1 := fun _ => rfl) (h2 w (Kd.reads_of_C (d := (0 : Int)) (h1 := fun _ => rfl) hC))
end Go.Proofs.Ytfmogmgdpamfgaa
