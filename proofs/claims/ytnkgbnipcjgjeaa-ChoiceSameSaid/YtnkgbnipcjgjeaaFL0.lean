import Derived.Test.YtnkgbnipcjgjeaaFD
import Derived.Test.YtnkgbnipcjgjeaaQIx1
namespace Go.Proofs.Ytnkgbnipcjgjeaa
open Go.RowKit Go.Shelf Go.Sort Go.Lib Go.Proofs.YtnkgbnipcjgjeaaW.PrintWords Go.Proofs.YtnkgbnipcjgjeaaW.PrintLast Go.Proofs.YtnkgbnipcjgjeaaW.PrintMore
set_option linter.unusedVariables false
/-- What is done to a pool, as three numbers. -/
abbrev kDo : Kd (Int × Int × Int) := Kd.pair (Kd.int .i64) (Kd.pair (Kd.int .i64) (Kd.int .i64))
def gD (l : List (Int × Int × Int)) (k : Nat) : Int × Int × Int := l.getD k (0, 0, 0)
theorem row3 {A : Option Addr} {l : List (Int × Int × Int)} {w : World} (h : Kd.C kDo w A l.length l) (hp : 0 < l.length) :
    ∃ b off, A = some ⟨b, off, none⟩ ∧ b < w.heap.size ∧ ∀ k, k < l.length → w.cell? ⟨b, off + k * 3, none⟩ = some (.int .i64 (gD l k).1) ∧ w.cell? ⟨b, off + k * 3 + 1, none⟩ = some (.int .i64 (gD l k).2.1) ∧ w.cell? ⟨b, off + k * 3 + 2, none⟩ = some (.int .i64 (gD l k).2.2) := by
  obtain ⟨ad, rfl, hc⟩ := h.2.2 hp
  have hcells : ∀ k (hk : k < l.length), ∀ i u, [Value.int .i64 l[k].1, .int .i64 l[k].2.1, .int .i64 l[k].2.2][i]? = some u → w.cell? (ad.add (k * 3 + i)) = some u := fun k hk i u hu => by
    obtain ⟨c, _, hK, hcell⟩ := hc k l[k] (List.getElem?_eq_getElem hk)
    obtain ⟨_, _, rfl, rfl, ⟨_, _, rfl, rfl, rfl⟩⟩ := hK
    exact hcell i u hu
  have h0 := hcells 0 hp 0 _ rfl
  rw [Nat.zero_mul, Nat.zero_add] at h0
  have e : ad = ⟨ad.block, ad.off, none⟩ := spotless (show w.cell? ad = some _ from h0)
  refine ⟨ad.block, ad.off, by rw [← e], World.block_lt_of_cell? w ad h0, fun k hk => ?_⟩
  have eg : gD l k = l[k] := by unfold gD; rw [List.getD_eq_getElem?_getD, List.getElem?_eq_getElem hk]; rfl
  rw [eg]
  have a0 := hcells k hk 0 _ rfl
  have a1 := hcells k hk 1 _ rfl
  have a2 := hcells k hk 2 _ rfl
  rw [e, add_plain] at a0 a1 a2
  exact ⟨a0, a1, a2⟩
theorem c_three {W : World} {b : Nat} {x y z : Int} (h : W.heap[b]? = some (.cells #[.int .i64 x, .int .i64 y, .int .i64 z] 3 (0, 0))) : (Kd.int .i64).C W (some ⟨b, 0, none⟩) 3 [x, y, z] := by
  refine ⟨rfl, by decide, fun _ => ⟨⟨b, 0, none⟩, rfl, fun j p hp => ?_⟩⟩
  match j, hp with
  | 0, hp => obtain rfl := Option.some.inj hp; exact ⟨[.int .i64 x], rfl, rfl, fun i u hu => by match i, hu with | 0, hu => (obtain rfl := Option.some.inj hu; exact blk_cell h 0) | i + 1, hu => simp at hu⟩
  | 1, hp => obtain rfl := Option.some.inj hp; exact ⟨[.int .i64 y], rfl, rfl, fun i u hu => by match i, hu with | 0, hu => (obtain rfl := Option.some.inj hu; exact blk_cell h 1) | i + 1, hu => simp at hu⟩
  | 2, hp => obtain rfl := Option.some.inj hp; exact ⟨[.int .i64 z], rfl, rfl, fun i u hu => by match i, hu with | 0, hu => (obtain rfl := Option.some.inj hu; exact blk_cell h 2) | i + 1, hu => simp at hu⟩
  | j + 3, hp => simp at hp
theorem list_awake : listP [(3, 5), (1, 5), (2, 4)] = [2, 1, 3] := by
  unfold listP
  rw [show sortP [(3, 5), (1, 5), (2, 4)] = [(2, 4), (1, 5), (3, 5)] from sorted_eq (sortP_sorted _) (by decide) ((sortP_perm _).trans (by decide))]
  rfl
theorem ints_awake : QI.incunableref01_Ints.f 4 [2, 1, 3] [2, 1, 3] = some true := by decide +kernel
set_option maxHeartbeats 2000000 in
set_option maxRecDepth 100000 in
theorem awake_ok (w : World) : Calls Try.prog 15 #[] w fun e w' => e = .returned (.bool true) ∧ Below w.heap.size w w' := by
  go_enter Try.func15, Try.ntmps15
  go_wp2_with fail
  refine (new_ok _).mono ?_
  rintro e w1 ⟨⟨g, b, rfl, hp, hgs, hbs⟩, hb1⟩
  have HP := Lib.hid hp
  have HB := Lib.hid hb1
  clear hp hb1
  go_wp2_with fail
  refine (put_ok g b [] 3 5 _ HP.out (by decide)).mono ?_
  rintro e w2 ⟨rfl, hp, hg, _⟩
  replace HP := Lib.hid hp
  replace HB := Lib.hid (HB.out.grown hg HB.out.size (fun k e => by injection e with e; omega))
  clear hp hg
  go_wp2_with fail
  refine (put_ok g b _ 1 5 _ HP.out (by decide)).mono ?_
  rintro e w3 ⟨rfl, hp, hg, _⟩
  replace HP := Lib.hid hp
  replace HB := Lib.hid (HB.out.grown hg HB.out.size (fun k e => by injection e with e; omega))
  clear hp hg
  go_wp2_with fail
  refine (put_ok g b _ 2 4 _ HP.out (by decide)).mono ?_
  rintro e w4 ⟨rfl, hp, hg, _⟩
  replace HP := Lib.hid hp
  replace HB := Lib.hid (HB.out.grown hg HB.out.size (fun k e => by injection e with e; omega))
  clear hp hg
  have hlist := list_ok _ HP.out (by simp)
  rw [show (([] ++ [((3 : Int), (5 : Int))] ++ [(1, 5)] ++ [(2, 4)]) : List (Int × Int)) = [(3, 5), (1, 5), (2, 4)] from rfl, list_awake] at hlist
  have HLI := Lib.hid hlist
  clear hlist
  go_wp2_with fail
  refine (HLI.out).mono ?_
  rintro e w5 ⟨⟨v, rfl, hr⟩, hb5⟩
  obtain ⟨A, c, rfl, hcap, hC⟩ := Kd.R_reads hr
  replace HB := Lib.hid (chainC (Nat.le_refl _) HB.out hb5)
  have hints := QI.incunableref01_Ints.calls 4 A c [2, 1, 3] _ 3 [2, 1, 3] true _ (Kd.C_alloc hC (.cells #[.int .i64 2, .int .i64 1, .int .i64 3] 3)) hcap (c_three (blk_new w5 (.cells #[.int .i64 2, .int .i64 1, .int .i64 3] 3))) (by decide) ints_awake
  have HI := Lib.hid hints
  replace HB := Lib.hid (HB.out.alloc HB.out.size (.cells #[.int .i64 2, .int .i64 1, .int .i64 3] 3))
  clear hr hcap hC hints hb5
  go_wp2_with fail
  refine (HI.out).mono ?_
  rintro e w6 ⟨rfl, ⟨q, rfl⟩⟩
  have HBF := Lib.hid (pw_below_drewN HB.out q)
  go_wp2_with fail
  go_ret
  exact ⟨rfl, HBF.out⟩
end Go.Proofs.Ytnkgbnipcjgjeaa
