/-
  No cell of these rows narrows 'for every input' (looked for: loops, veiled, ifaces, maps, wideKeys, modest, calm, conditions, laid).
  DERIVED. THE GIVEN ROWS OF THIS SEAT. 3 by the template 'for every input the law returns true; each argument reads behind the call as it read before'; 0 by the template 'total and deterministic' (their statements: YthcabffoaaknaaaTotals.lean).
  GIVEN WITH THE SEED: the statements are not yours to turn. If you find one false, say at which input.
  Laid BY PROGRAM, IN A SANDBOX (cutbox-rows.mjs): the forced cells as the released guide's own fill.sh prints them over the translation d7df4f665914a9c5… (all of the seat's roots in one cut). By AI agents, Wed Nov 11 2026. No macro, syntax, notation, axiom, sorry.
-/
import Derived.Test.YthcabffoaaknaaaChecked
import GoSem.Claim
import GoSem.ClaimJoined
import GoSem.ClaimMapViews
import Derived.JoinedTies
import Derived.KernelRfl
namespace Go.Proofs.Ythcabffoaaknaaa
/- THE CELL 'sum', in the pinned program and in every row, IS THE sha256 OF THE DUMP (.gsa) THAT YthcabffoaaknaaaProg.lean LOADS. Nothing in Lean hashes anything: it is a label: what it is worth is what the hold of that sum in a sandbox is worth. -/
noncomputable def Try.pinned : Pinned := { name := "ythcabffoaaknaaa", sum := "d7df4f665914a9c5947012a322b417a440c4ec7e7b3796c1621e1c342689d8e3", checked := Try.checked }
namespace Rows
def none {H : Type} : Left H := { results := [], args := [] }

/-- 'incunablelaw38.WearTells': WHATEVER THE INPUT: true; the input reads as it did. -/
def wearTellsSpec : ChangeSpec := { name := "wearTells", fn := fun _ => fun
  | [d] => { results := [.lit (.bool true)], args := [d] }
  | _ => none }
def wearTellsRow : OpenClaim := { program := "ythcabffoaaknaaa", sum := "d7df4f665914a9c5947012a322b417a440c4ec7e7b3796c1621e1c342689d8e3", func := "incunable/incunablelaw38.WearTells", spec := "wearTells", unfollowed := true, recurses := true, apart := false }
def WearTellsSaid : Prop := wearTellsRow.holds Try.pinned (OpenSpec.ofChange wearTellsSpec)

/-- ITS FALSE NEIGHBOUR: 'it returns false'. Refute it at one input. -/
def wearTellsWrong : ChangeSpec := { name := "wearTells", fn := fun _ => fun
  | [d] => { results := [.lit (.bool false)], args := [d] }
  | _ => none }
def WearTellsWrongFalsely : Prop := wearTellsRow.holds Try.pinned (OpenSpec.ofChange wearTellsWrong)

/-- 'incunablelaw38.WearRanks': WHATEVER THE INPUT: true; the input reads as it did. -/
def wearRanksSpec : ChangeSpec := { name := "wearRanks", fn := fun _ => fun
  | [d] => { results := [.lit (.bool true)], args := [d] }
  | _ => none }
def wearRanksRow : OpenClaim := { program := "ythcabffoaaknaaa", sum := "d7df4f665914a9c5947012a322b417a440c4ec7e7b3796c1621e1c342689d8e3", func := "incunable/incunablelaw38.WearRanks", spec := "wearRanks", unfollowed := true, recurses := true, apart := false }
def WearRanksSaid : Prop := wearRanksRow.holds Try.pinned (OpenSpec.ofChange wearRanksSpec)

/-- ITS FALSE NEIGHBOUR: 'it returns false'. Refute it at one input. -/
def wearRanksWrong : ChangeSpec := { name := "wearRanks", fn := fun _ => fun
  | [d] => { results := [.lit (.bool false)], args := [d] }
  | _ => none }
def WearRanksWrongFalsely : Prop := wearRanksRow.holds Try.pinned (OpenSpec.ofChange wearRanksWrong)

/-- 'incunablelaw38.WearFits': WHATEVER THE INPUT: true; the input reads as it did. -/
def wearFitsSpec : ChangeSpec := { name := "wearFits", fn := fun _ => fun
  | [d1, d2] => { results := [.lit (.bool true)], args := [d1, d2] }
  | _ => none }
def wearFitsRow : OpenClaim := { program := "ythcabffoaaknaaa", sum := "d7df4f665914a9c5947012a322b417a440c4ec7e7b3796c1621e1c342689d8e3", func := "incunable/incunablelaw38.WearFits", spec := "wearFits", unfollowed := true, recurses := true, apart := false }
def WearFitsSaid : Prop := wearFitsRow.holds Try.pinned (OpenSpec.ofChange wearFitsSpec)

/-- ITS FALSE NEIGHBOUR: 'it returns false'. Refute it at one input. -/
def wearFitsWrong : ChangeSpec := { name := "wearFits", fn := fun _ => fun
  | [d1, d2] => { results := [.lit (.bool false)], args := [d1, d2] }
  | _ => none }
def WearFitsWrongFalsely : Prop := wearFitsRow.holds Try.pinned (OpenSpec.ofChange wearFitsWrong)

/- THE SECOND FORM. 'bulk': how many values and letters a reading holds, each counted each time it is reached (what is shared counts as often as it is met; a slice's spare places count too). A statement '..UptoSaid' is the law's where the arguments, and the package variables that the reading takes, are together of bulk at most 1048576: NARROWER than '..Said'. Prove '..Said' where nothing that the law and all that it calls make is longer than what came in: it says more and counts as full. Else prove '..UptoSaid'. A law counts once. -/
mutual
def uptoBulk {H : Type} : DataW H → Nat
  | .lit (.string bytes) => bytes.length + 1
  | .lit _ => 1
  | .nil => 1
  | .ptr d => uptoBulk d + 1
  | .slice elems spare => uptoBulkAll elems + uptoBulkAll spare + 1
  | .agg parts => uptoBulkAll parts + 1
  | .iface _ d => uptoBulk d + 1
  | .map entries => uptoBulkEntries entries + 1
  | .held _ => 1
def uptoBulkAll {H : Type} : List (DataW H) → Nat
  | [] => 0
  | d :: r => uptoBulk d + uptoBulkAll r
def uptoBulkEntries {H : Type} : List (Lit × DataW H) → Nat
  | [] => 0
  | x :: r => uptoBulkEntry x + uptoBulkEntries r
def uptoBulkEntry {H : Type} : Lit × DataW H → Nat
  | (.string bytes, d) => bytes.length + uptoBulk d + 1
  | (_, d) => uptoBulk d + 1
 end
def uptoSmall : (H : Type) → List (DataW H) → Bool := fun _ ds => decide (uptoBulkAll ds ≤ 1048576)
def OpenSpec.upto (s : _root_.Go.ChangeSpec) : _root_.Go.OpenSpec := { _root_.Go.OpenSpec.ofChange s with cond := some uptoSmall }

/-- 'incunablelaw38.WearTells', WHERE WHAT IT READS IS OF BULK AT MOST 1048576: true; the input reads as it did. -/
def wearTellsUptoRow : OpenClaim := { program := "ythcabffoaaknaaa", sum := "d7df4f665914a9c5947012a322b417a440c4ec7e7b3796c1621e1c342689d8e3", func := "incunable/incunablelaw38.WearTells", spec := "wearTells", unfollowed := true, recurses := true, apart := false, narrowed := true }
def WearTellsUptoSaid : Prop := wearTellsUptoRow.holds Try.pinned (OpenSpec.upto wearTellsSpec)

/-- 'incunablelaw38.WearRanks', WHERE WHAT IT READS IS OF BULK AT MOST 1048576: true; the input reads as it did. -/
def wearRanksUptoRow : OpenClaim := { program := "ythcabffoaaknaaa", sum := "d7df4f665914a9c5947012a322b417a440c4ec7e7b3796c1621e1c342689d8e3", func := "incunable/incunablelaw38.WearRanks", spec := "wearRanks", unfollowed := true, recurses := true, apart := false, narrowed := true }
def WearRanksUptoSaid : Prop := wearRanksUptoRow.holds Try.pinned (OpenSpec.upto wearRanksSpec)

/-- 'incunablelaw38.WearFits', WHERE WHAT IT READS IS OF BULK AT MOST 1048576: true; the input reads as it did. -/
def wearFitsUptoRow : OpenClaim := { program := "ythcabffoaaknaaa", sum := "d7df4f665914a9c5947012a322b417a440c4ec7e7b3796c1621e1c342689d8e3", func := "incunable/incunablelaw38.WearFits", spec := "wearFits", unfollowed := true, recurses := true, apart := false, narrowed := true }
def WearFitsUptoSaid : Prop := wearFitsUptoRow.holds Try.pinned (OpenSpec.upto wearFitsSpec)

end Rows
end Go.Proofs.Ythcabffoaaknaaa
