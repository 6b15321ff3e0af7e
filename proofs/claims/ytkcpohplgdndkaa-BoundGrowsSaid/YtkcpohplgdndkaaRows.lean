/-
  No cell of these rows narrows 'for every input' (looked for: loops, veiled, ifaces, maps, wideKeys, modest, calm, conditions, laid).
  DERIVED. THE GIVEN ROWS OF THIS SEAT. 14 by the template 'for every input the law returns true; each argument reads behind the call as it read before'; 0 by the template 'total and deterministic' (their statements: YtkcpohplgdndkaaTotals.lean).
  GIVEN WITH THE SEED: the statements are not yours to turn. If you find one false, say at which input.
  Laid BY PROGRAM, IN A SANDBOX (cutbox-rows.mjs): the forced cells as the released guide's own fill.sh prints them over the translation 4d1c27f0a6fc326c… (all of the seat's roots in one cut). By AI agents, Wed Nov 11 2026. No macro, syntax, notation, axiom, sorry.
-/
import Derived.Test.YtkcpohplgdndkaaChecked
import GoSem.Claim
import GoSem.ClaimJoined
import GoSem.ClaimMapViews
import Derived.JoinedTies
import Derived.KernelRfl
namespace Go.Proofs.Ytkcpohplgdndkaa
/- THE CELL 'sum', in the pinned program and in every row, IS THE sha256 OF THE DUMP (.gsa) THAT YtkcpohplgdndkaaProg.lean LOADS. Nothing in Lean hashes anything: it is a label: what it is worth is what the hold of that sum in a sandbox is worth. -/
noncomputable def Try.pinned : Pinned := { name := "ytkcpohplgdndkaa", sum := "4d1c27f0a6fc326c0438bb23c9220e0bf59abf8b6f8fa2b2f809f73adae02707", checked := Try.checked }
namespace Rows
def none {H : Type} : Left H := { results := [], args := [] }

/-- 'incunablelaw04.GeomRows': WHATEVER THE INPUT: true; the input reads as it did. -/
def geomRowsSpec : ChangeSpec := { name := "geomRows", fn := fun _ => fun
  | [d] => { results := [.lit (.bool true)], args := [d] }
  | _ => none }
def geomRowsRow : OpenClaim := { program := "ytkcpohplgdndkaa", sum := "4d1c27f0a6fc326c0438bb23c9220e0bf59abf8b6f8fa2b2f809f73adae02707", func := "incunable/incunablelaw04.GeomRows", spec := "geomRows", plainKeys := false, apart := false }
def GeomRowsSaid : Prop := geomRowsRow.holds Try.pinned (OpenSpec.ofChange geomRowsSpec)

/-- ITS FALSE NEIGHBOUR: 'it returns false'. Refute it at one input. -/
def geomRowsWrong : ChangeSpec := { name := "geomRows", fn := fun _ => fun
  | [d] => { results := [.lit (.bool false)], args := [d] }
  | _ => none }
def GeomRowsWrongFalsely : Prop := geomRowsRow.holds Try.pinned (OpenSpec.ofChange geomRowsWrong)

/-- 'incunablelaw04.GeomPairs': WHATEVER THE INPUT: true; the input reads as it did. -/
def geomPairsSpec : ChangeSpec := { name := "geomPairs", fn := fun _ => fun
  | [d1, d2, d3] => { results := [.lit (.bool true)], args := [d1, d2, d3] }
  | _ => none }
def geomPairsRow : OpenClaim := { program := "ytkcpohplgdndkaa", sum := "4d1c27f0a6fc326c0438bb23c9220e0bf59abf8b6f8fa2b2f809f73adae02707", func := "incunable/incunablelaw04.GeomPairs", spec := "geomPairs", plainKeys := false, apart := false }
def GeomPairsSaid : Prop := geomPairsRow.holds Try.pinned (OpenSpec.ofChange geomPairsSpec)

/-- ITS FALSE NEIGHBOUR: 'it returns false'. Refute it at one input. -/
def geomPairsWrong : ChangeSpec := { name := "geomPairs", fn := fun _ => fun
  | [d1, d2, d3] => { results := [.lit (.bool false)], args := [d1, d2, d3] }
  | _ => none }
def GeomPairsWrongFalsely : Prop := geomPairsRow.holds Try.pinned (OpenSpec.ofChange geomPairsWrong)

/-- 'incunablelaw04.GeomTells': WHATEVER THE INPUT: true; the input reads as it did. -/
def geomTellsSpec : ChangeSpec := { name := "geomTells", fn := fun _ => fun
  | [d1, d2] => { results := [.lit (.bool true)], args := [d1, d2] }
  | _ => none }
def geomTellsRow : OpenClaim := { program := "ytkcpohplgdndkaa", sum := "4d1c27f0a6fc326c0438bb23c9220e0bf59abf8b6f8fa2b2f809f73adae02707", func := "incunable/incunablelaw04.GeomTells", spec := "geomTells", plainKeys := false, apart := false }
def GeomTellsSaid : Prop := geomTellsRow.holds Try.pinned (OpenSpec.ofChange geomTellsSpec)

/-- ITS FALSE NEIGHBOUR: 'it returns false'. Refute it at one input. -/
def geomTellsWrong : ChangeSpec := { name := "geomTells", fn := fun _ => fun
  | [d1, d2] => { results := [.lit (.bool false)], args := [d1, d2] }
  | _ => none }
def GeomTellsWrongFalsely : Prop := geomTellsRow.holds Try.pinned (OpenSpec.ofChange geomTellsWrong)

/-- 'incunablelaw18.IdentBytes': WHATEVER THE INPUT: true; the input reads as it did. -/
def identBytesSpec : ChangeSpec := { name := "identBytes", fn := fun _ => fun
  | [d1, d2] => { results := [.lit (.bool true)], args := [d1, d2] }
  | _ => none }
def identBytesRow : OpenClaim := { program := "ytkcpohplgdndkaa", sum := "4d1c27f0a6fc326c0438bb23c9220e0bf59abf8b6f8fa2b2f809f73adae02707", func := "incunable/incunablelaw18.IdentBytes", spec := "identBytes", plainKeys := false, apart := false }
def IdentBytesSaid : Prop := identBytesRow.holds Try.pinned (OpenSpec.ofChange identBytesSpec)

/-- ITS FALSE NEIGHBOUR: 'it returns false'. Refute it at one input. -/
def identBytesWrong : ChangeSpec := { name := "identBytes", fn := fun _ => fun
  | [d1, d2] => { results := [.lit (.bool false)], args := [d1, d2] }
  | _ => none }
def IdentBytesWrongFalsely : Prop := identBytesRow.holds Try.pinned (OpenSpec.ofChange identBytesWrong)

/-- 'incunablelaw04.GeomBack': WHATEVER THE INPUT: true; the input reads as it did. -/
def geomBackSpec : ChangeSpec := { name := "geomBack", fn := fun _ => fun
  | [d1, d2] => { results := [.lit (.bool true)], args := [d1, d2] }
  | _ => none }
def geomBackRow : OpenClaim := { program := "ytkcpohplgdndkaa", sum := "4d1c27f0a6fc326c0438bb23c9220e0bf59abf8b6f8fa2b2f809f73adae02707", func := "incunable/incunablelaw04.GeomBack", spec := "geomBack", plainKeys := false, apart := false }
def GeomBackSaid : Prop := geomBackRow.holds Try.pinned (OpenSpec.ofChange geomBackSpec)

/-- ITS FALSE NEIGHBOUR: 'it returns false'. Refute it at one input. -/
def geomBackWrong : ChangeSpec := { name := "geomBack", fn := fun _ => fun
  | [d1, d2] => { results := [.lit (.bool false)], args := [d1, d2] }
  | _ => none }
def GeomBackWrongFalsely : Prop := geomBackRow.holds Try.pinned (OpenSpec.ofChange geomBackWrong)

/-- 'incunablelaw32.DurableGrows': WHATEVER THE INPUT: true; the input reads as it did. -/
def durableGrowsSpec : ChangeSpec := { name := "durableGrows", fn := fun _ => fun
  | [d] => { results := [.lit (.bool true)], args := [d] }
  | _ => none }
def durableGrowsRow : OpenClaim := { program := "ytkcpohplgdndkaa", sum := "4d1c27f0a6fc326c0438bb23c9220e0bf59abf8b6f8fa2b2f809f73adae02707", func := "incunable/incunablelaw32.DurableGrows", spec := "durableGrows", unfollowed := true, recurses := true, plainKeys := false, apart := false }
def DurableGrowsSaid : Prop := durableGrowsRow.holds Try.pinned (OpenSpec.ofChange durableGrowsSpec)

/-- ITS FALSE NEIGHBOUR: 'it returns false'. Refute it at one input. -/
def durableGrowsWrong : ChangeSpec := { name := "durableGrows", fn := fun _ => fun
  | [d] => { results := [.lit (.bool false)], args := [d] }
  | _ => none }
def DurableGrowsWrongFalsely : Prop := durableGrowsRow.holds Try.pinned (OpenSpec.ofChange durableGrowsWrong)

/-- 'incunablelaw29.BufferOrder': WHATEVER THE INPUT: true; the input reads as it did. -/
def bufferOrderSpec : ChangeSpec := { name := "bufferOrder", fn := fun _ => fun
  | [d1, d2] => { results := [.lit (.bool true)], args := [d1, d2] }
  | _ => none }
def bufferOrderRow : OpenClaim := { program := "ytkcpohplgdndkaa", sum := "4d1c27f0a6fc326c0438bb23c9220e0bf59abf8b6f8fa2b2f809f73adae02707", func := "incunable/incunablelaw29.BufferOrder", spec := "bufferOrder", unfollowed := true, recurses := true, plainKeys := false, apart := false }
def BufferOrderSaid : Prop := bufferOrderRow.holds Try.pinned (OpenSpec.ofChange bufferOrderSpec)

/-- ITS FALSE NEIGHBOUR: 'it returns false'. Refute it at one input. -/
def bufferOrderWrong : ChangeSpec := { name := "bufferOrder", fn := fun _ => fun
  | [d1, d2] => { results := [.lit (.bool false)], args := [d1, d2] }
  | _ => none }
def BufferOrderWrongFalsely : Prop := bufferOrderRow.holds Try.pinned (OpenSpec.ofChange bufferOrderWrong)

/-- 'incunablelaw12.ChoiceTurns': WHATEVER THE INPUT: true; the input reads as it did. -/
def choiceTurnsSpec : ChangeSpec := { name := "choiceTurns", fn := fun _ => fun
  | [d] => { results := [.lit (.bool true)], args := [d] }
  | _ => none }
def choiceTurnsRow : OpenClaim := { program := "ytkcpohplgdndkaa", sum := "4d1c27f0a6fc326c0438bb23c9220e0bf59abf8b6f8fa2b2f809f73adae02707", func := "incunable/incunablelaw12.ChoiceTurns", spec := "choiceTurns", unfollowed := true, recurses := true, plainKeys := false, apart := false }
def ChoiceTurnsSaid : Prop := choiceTurnsRow.holds Try.pinned (OpenSpec.ofChange choiceTurnsSpec)

/-- ITS FALSE NEIGHBOUR: 'it returns false'. Refute it at one input. -/
def choiceTurnsWrong : ChangeSpec := { name := "choiceTurns", fn := fun _ => fun
  | [d] => { results := [.lit (.bool false)], args := [d] }
  | _ => none }
def ChoiceTurnsWrongFalsely : Prop := choiceTurnsRow.holds Try.pinned (OpenSpec.ofChange choiceTurnsWrong)

/-- 'incunablelaw29.BufferPlays': WHATEVER THE INPUT: true; the input reads as it did. -/
def bufferPlaysSpec : ChangeSpec := { name := "bufferPlays", fn := fun _ => fun
  | [d1, d2, d3] => { results := [.lit (.bool true)], args := [d1, d2, d3] }
  | _ => none }
def bufferPlaysRow : OpenClaim := { program := "ytkcpohplgdndkaa", sum := "4d1c27f0a6fc326c0438bb23c9220e0bf59abf8b6f8fa2b2f809f73adae02707", func := "incunable/incunablelaw29.BufferPlays", spec := "bufferPlays", unfollowed := true, recurses := true, plainKeys := false, apart := false }
def BufferPlaysSaid : Prop := bufferPlaysRow.holds Try.pinned (OpenSpec.ofChange bufferPlaysSpec)

/-- ITS FALSE NEIGHBOUR: 'it returns false'. Refute it at one input. -/
def bufferPlaysWrong : ChangeSpec := { name := "bufferPlays", fn := fun _ => fun
  | [d1, d2, d3] => { results := [.lit (.bool false)], args := [d1, d2, d3] }
  | _ => none }
def BufferPlaysWrongFalsely : Prop := bufferPlaysRow.holds Try.pinned (OpenSpec.ofChange bufferPlaysWrong)

/-- 'incunablelaw32.DurablePlays': WHATEVER THE INPUT: true; the input reads as it did. -/
def durablePlaysSpec : ChangeSpec := { name := "durablePlays", fn := fun _ => fun
  | [d1, d2, d3] => { results := [.lit (.bool true)], args := [d1, d2, d3] }
  | _ => none }
def durablePlaysRow : OpenClaim := { program := "ytkcpohplgdndkaa", sum := "4d1c27f0a6fc326c0438bb23c9220e0bf59abf8b6f8fa2b2f809f73adae02707", func := "incunable/incunablelaw32.DurablePlays", spec := "durablePlays", unfollowed := true, recurses := true, plainKeys := false, apart := false }
def DurablePlaysSaid : Prop := durablePlaysRow.holds Try.pinned (OpenSpec.ofChange durablePlaysSpec)

/-- ITS FALSE NEIGHBOUR: 'it returns false'. Refute it at one input. -/
def durablePlaysWrong : ChangeSpec := { name := "durablePlays", fn := fun _ => fun
  | [d1, d2, d3] => { results := [.lit (.bool false)], args := [d1, d2, d3] }
  | _ => none }
def DurablePlaysWrongFalsely : Prop := durablePlaysRow.holds Try.pinned (OpenSpec.ofChange durablePlaysWrong)

/-- 'incunablelaw32.DurableFits': WHATEVER THE INPUT: true; the input reads as it did. -/
def durableFitsSpec : ChangeSpec := { name := "durableFits", fn := fun _ => fun
  | [d1, d2] => { results := [.lit (.bool true)], args := [d1, d2] }
  | _ => none }
def durableFitsRow : OpenClaim := { program := "ytkcpohplgdndkaa", sum := "4d1c27f0a6fc326c0438bb23c9220e0bf59abf8b6f8fa2b2f809f73adae02707", func := "incunable/incunablelaw32.DurableFits", spec := "durableFits", unfollowed := true, recurses := true, plainKeys := false, apart := false }
def DurableFitsSaid : Prop := durableFitsRow.holds Try.pinned (OpenSpec.ofChange durableFitsSpec)

/-- ITS FALSE NEIGHBOUR: 'it returns false'. Refute it at one input. -/
def durableFitsWrong : ChangeSpec := { name := "durableFits", fn := fun _ => fun
  | [d1, d2] => { results := [.lit (.bool false)], args := [d1, d2] }
  | _ => none }
def DurableFitsWrongFalsely : Prop := durableFitsRow.holds Try.pinned (OpenSpec.ofChange durableFitsWrong)

/-- 'incunablelaw37.BoundTells': WHATEVER THE INPUT: true; the input reads as it did. -/
def boundTellsSpec : ChangeSpec := { name := "boundTells", fn := fun _ => fun
  | [d1, d2, d3] => { results := [.lit (.bool true)], args := [d1, d2, d3] }
  | _ => none }
def boundTellsRow : OpenClaim := { program := "ytkcpohplgdndkaa", sum := "4d1c27f0a6fc326c0438bb23c9220e0bf59abf8b6f8fa2b2f809f73adae02707", func := "incunable/incunablelaw37.BoundTells", spec := "boundTells", unfollowed := true, recurses := true, plainKeys := false, apart := false }
def BoundTellsSaid : Prop := boundTellsRow.holds Try.pinned (OpenSpec.ofChange boundTellsSpec)

/-- ITS FALSE NEIGHBOUR: 'it returns false'. Refute it at one input. -/
def boundTellsWrong : ChangeSpec := { name := "boundTells", fn := fun _ => fun
  | [d1, d2, d3] => { results := [.lit (.bool false)], args := [d1, d2, d3] }
  | _ => none }
def BoundTellsWrongFalsely : Prop := boundTellsRow.holds Try.pinned (OpenSpec.ofChange boundTellsWrong)

/-- 'incunablelaw37.BoundGrows': WHATEVER THE INPUT: true; the input reads as it did. -/
def boundGrowsSpec : ChangeSpec := { name := "boundGrows", fn := fun _ => fun
  | [d1, d2] => { results := [.lit (.bool true)], args := [d1, d2] }
  | _ => none }
def boundGrowsRow : OpenClaim := { program := "ytkcpohplgdndkaa", sum := "4d1c27f0a6fc326c0438bb23c9220e0bf59abf8b6f8fa2b2f809f73adae02707", func := "incunable/incunablelaw37.BoundGrows", spec := "boundGrows", unfollowed := true, recurses := true, plainKeys := false, apart := false }
def BoundGrowsSaid : Prop := boundGrowsRow.holds Try.pinned (OpenSpec.ofChange boundGrowsSpec)

/-- ITS FALSE NEIGHBOUR: 'it returns false'. Refute it at one input. -/
def boundGrowsWrong : ChangeSpec := { name := "boundGrows", fn := fun _ => fun
  | [d1, d2] => { results := [.lit (.bool false)], args := [d1, d2] }
  | _ => none }
def BoundGrowsWrongFalsely : Prop := boundGrowsRow.holds Try.pinned (OpenSpec.ofChange boundGrowsWrong)

/-- 'incunablelaw12.ChoiceSame': WHATEVER THE INPUT: true; the input reads as it did. -/
def choiceSameSpec : ChangeSpec := { name := "choiceSame", fn := fun _ => fun
  | [d1, d2] => { results := [.lit (.bool true)], args := [d1, d2] }
  | _ => none }
def choiceSameRow : OpenClaim := { program := "ytkcpohplgdndkaa", sum := "4d1c27f0a6fc326c0438bb23c9220e0bf59abf8b6f8fa2b2f809f73adae02707", func := "incunable/incunablelaw12.ChoiceSame", spec := "choiceSame", unfollowed := true, recurses := true, plainKeys := false, apart := false }
def ChoiceSameSaid : Prop := choiceSameRow.holds Try.pinned (OpenSpec.ofChange choiceSameSpec)

/-- ITS FALSE NEIGHBOUR: 'it returns false'. Refute it at one input. -/
def choiceSameWrong : ChangeSpec := { name := "choiceSame", fn := fun _ => fun
  | [d1, d2] => { results := [.lit (.bool false)], args := [d1, d2] }
  | _ => none }
def ChoiceSameWrongFalsely : Prop := choiceSameRow.holds Try.pinned (OpenSpec.ofChange choiceSameWrong)

/- THE SECOND FORM. 'bulk': how many values and letters a reading holds, each counted each time it is reached (what is shared counts as often as it is met; a slice's spare places count too). A statement '..UptoSaid' is the law's where the arguments, and the package variables that the reading takes, are together of bulk at most 1048576: NARROWER than '..Said'. Prove '..Said' where nothing that the law and all that it calls make is longer than what came in: it says more and counts as full. Else prove '..UptoSaid'. A law counts once. -/
mutual
def uptoBulk {H : Type} : DataW H → Nat
  | .lit (.string bytes) => bytes.length + 1
  | .lit _ => 1
  | .nil => 1
  | .ptr d => uptoBulk d + 1
  | .slice elems spare => uptoBulkAll elems + uptoBulkAll spare + 1
  | .agg parts => uptoBulkAll parts + 1
  | .iface _ d => uptoBulk d + 1
  | .map entries => uptoBulkEntries entries + 1
  | .held _ => 1
def uptoBulkAll {H : Type} : List (DataW H) → Nat
  | [] => 0
  | d :: r => uptoBulk d + uptoBulkAll r
def uptoBulkEntries {H : Type} : List (Lit × DataW H) → Nat
  | [] => 0
  | x :: r => uptoBulkEntry x + uptoBulkEntries r
def uptoBulkEntry {H : Type} : Lit × DataW H → Nat
  | (.string bytes, d) => bytes.length + uptoBulk d + 1
  | (_, d) => uptoBulk d + 1
 end
def uptoSmall : (H : Type) → List (DataW H) → Bool := fun _ ds => decide (uptoBulkAll ds ≤ 1048576)
def OpenSpec.upto (s : _root_.Go.ChangeSpec) : _root_.Go.OpenSpec := { _root_.Go.OpenSpec.ofChange s with cond := some uptoSmall }

/-- 'incunablelaw04.GeomRows', WHERE WHAT IT READS IS OF BULK AT MOST 1048576: true; the input reads as it did. -/
def geomRowsUptoRow : OpenClaim := { program := "ytkcpohplgdndkaa", sum := "4d1c27f0a6fc326c0438bb23c9220e0bf59abf8b6f8fa2b2f809f73adae02707", func := "incunable/incunablelaw04.GeomRows", spec := "geomRows", plainKeys := false, apart := false, narrowed := true }
def GeomRowsUptoSaid : Prop := geomRowsUptoRow.holds Try.pinned (OpenSpec.upto geomRowsSpec)

/-- 'incunablelaw04.GeomPairs', WHERE WHAT IT READS IS OF BULK AT MOST 1048576: true; the input reads as it did. -/
def geomPairsUptoRow : OpenClaim := { program := "ytkcpohplgdndkaa", sum := "4d1c27f0a6fc326c0438bb23c9220e0bf59abf8b6f8fa2b2f809f73adae02707", func := "incunable/incunablelaw04.GeomPairs", spec := "geomPairs", plainKeys := false, apart := false, narrowed := true }
def GeomPairsUptoSaid : Prop := geomPairsUptoRow.holds Try.pinned (OpenSpec.upto geomPairsSpec)

/-- 'incunablelaw04.GeomTells', WHERE WHAT IT READS IS OF BULK AT MOST 1048576: true; the input reads as it did. -/
def geomTellsUptoRow : OpenClaim := { program := "ytkcpohplgdndkaa", sum := "4d1c27f0a6fc326c0438bb23c9220e0bf59abf8b6f8fa2b2f809f73adae02707", func := "incunable/incunablelaw04.GeomTells", spec := "geomTells", plainKeys := false, apart := false, narrowed := true }
def GeomTellsUptoSaid : Prop := geomTellsUptoRow.holds Try.pinned (OpenSpec.upto geomTellsSpec)

/-- 'incunablelaw18.IdentBytes', WHERE WHAT IT READS IS OF BULK AT MOST 1048576: true; the input reads as it did. -/
def identBytesUptoRow : OpenClaim := { program := "ytkcpohplgdndkaa", sum := "4d1c27f0a6fc326c0438bb23c9220e0bf59abf8b6f8fa2b2f809f73adae02707", func := "incunable/incunablelaw18.IdentBytes", spec := "identBytes", plainKeys := false, apart := false, narrowed := true }
def IdentBytesUptoSaid : Prop := identBytesUptoRow.holds Try.pinned (OpenSpec.upto identBytesSpec)

/-- 'incunablelaw04.GeomBack', WHERE WHAT IT READS IS OF BULK AT MOST 1048576: true; the input reads as it did. -/
def geomBackUptoRow : OpenClaim := { program := "ytkcpohplgdndkaa", sum := "4d1c27f0a6fc326c0438bb23c9220e0bf59abf8b6f8fa2b2f809f73adae02707", func := "incunable/incunablelaw04.GeomBack", spec := "geomBack", plainKeys := false, apart := false, narrowed := true }
def GeomBackUptoSaid : Prop := geomBackUptoRow.holds Try.pinned (OpenSpec.upto geomBackSpec)

/-- 'incunablelaw32.DurableGrows', WHERE WHAT IT READS IS OF BULK AT MOST 1048576: true; the input reads as it did. -/
def durableGrowsUptoRow : OpenClaim := { program := "ytkcpohplgdndkaa", sum := "4d1c27f0a6fc326c0438bb23c9220e0bf59abf8b6f8fa2b2f809f73adae02707", func := "incunable/incunablelaw32.DurableGrows", spec := "durableGrows", unfollowed := true, recurses := true, plainKeys := false, apart := false, narrowed := true }
def DurableGrowsUptoSaid : Prop := durableGrowsUptoRow.holds Try.pinned (OpenSpec.upto durableGrowsSpec)

/-- 'incunablelaw29.BufferOrder', WHERE WHAT IT READS IS OF BULK AT MOST 1048576: true; the input reads as it did. -/
def bufferOrderUptoRow : OpenClaim := { program := "ytkcpohplgdndkaa", sum := "4d1c27f0a6fc326c0438bb23c9220e0bf59abf8b6f8fa2b2f809f73adae02707", func := "incunable/incunablelaw29.BufferOrder", spec := "bufferOrder", unfollowed := true, recurses := true, plainKeys := false, apart := false, narrowed := true }
def BufferOrderUptoSaid : Prop := bufferOrderUptoRow.holds Try.pinned (OpenSpec.upto bufferOrderSpec)

/-- 'incunablelaw12.ChoiceTurns', WHERE WHAT IT READS IS OF BULK AT MOST 1048576: true; the input reads as it did. -/
def choiceTurnsUptoRow : OpenClaim := { program := "ytkcpohplgdndkaa", sum := "4d1c27f0a6fc326c0438bb23c9220e0bf59abf8b6f8fa2b2f809f73adae02707", func := "incunable/incunablelaw12.ChoiceTurns", spec := "choiceTurns", unfollowed := true, recurses := true, plainKeys := false, apart := false, narrowed := true }
def ChoiceTurnsUptoSaid : Prop := choiceTurnsUptoRow.holds Try.pinned (OpenSpec.upto choiceTurnsSpec)

/-- 'incunablelaw29.BufferPlays', WHERE WHAT IT READS IS OF BULK AT MOST 1048576: true; the input reads as it did. -/
def bufferPlaysUptoRow : OpenClaim := { program := "ytkcpohplgdndkaa", sum := "4d1c27f0a6fc326c0438bb23c9220e0bf59abf8b6f8fa2b2f809f73adae02707", func := "incunable/incunablelaw29.BufferPlays", spec := "bufferPlays", unfollowed := true, recurses := true, plainKeys := false, apart := false, narrowed := true }
def BufferPlaysUptoSaid : Prop := bufferPlaysUptoRow.holds Try.pinned (OpenSpec.upto bufferPlaysSpec)

/-- 'incunablelaw32.DurablePlays', WHERE WHAT IT READS IS OF BULK AT MOST 1048576: true; the input reads as it did. -/
def durablePlaysUptoRow : OpenClaim := { program := "ytkcpohplgdndkaa", sum := "4d1c27f0a6fc326c0438bb23c9220e0bf59abf8b6f8fa2b2f809f73adae02707", func := "incunable/incunablelaw32.DurablePlays", spec := "durablePlays", unfollowed := true, recurses := true, plainKeys := false, apart := false, narrowed := true }
def DurablePlaysUptoSaid : Prop := durablePlaysUptoRow.holds Try.pinned (OpenSpec.upto durablePlaysSpec)

/-- 'incunablelaw32.DurableFits', WHERE WHAT IT READS IS OF BULK AT MOST 1048576: true; the input reads as it did. -/
def durableFitsUptoRow : OpenClaim := { program := "ytkcpohplgdndkaa", sum := "4d1c27f0a6fc326c0438bb23c9220e0bf59abf8b6f8fa2b2f809f73adae02707", func := "incunable/incunablelaw32.DurableFits", spec := "durableFits", unfollowed := true, recurses := true, plainKeys := false, apart := false, narrowed := true }
def DurableFitsUptoSaid : Prop := durableFitsUptoRow.holds Try.pinned (OpenSpec.upto durableFitsSpec)

/-- 'incunablelaw37.BoundTells', WHERE WHAT IT READS IS OF BULK AT MOST 1048576: true; the input reads as it did. -/
def boundTellsUptoRow : OpenClaim := { program := "ytkcpohplgdndkaa", sum := "4d1c27f0a6fc326c0438bb23c9220e0bf59abf8b6f8fa2b2f809f73adae02707", func := "incunable/incunablelaw37.BoundTells", spec := "boundTells", unfollowed := true, recurses := true, plainKeys := false, apart := false, narrowed := true }
def BoundTellsUptoSaid : Prop := boundTellsUptoRow.holds Try.pinned (OpenSpec.upto boundTellsSpec)

/-- 'incunablelaw37.BoundGrows', WHERE WHAT IT READS IS OF BULK AT MOST 1048576: true; the input reads as it did. -/
def boundGrowsUptoRow : OpenClaim := { program := "ytkcpohplgdndkaa", sum := "4d1c27f0a6fc326c0438bb23c9220e0bf59abf8b6f8fa2b2f809f73adae02707", func := "incunable/incunablelaw37.BoundGrows", spec := "boundGrows", unfollowed := true, recurses := true, plainKeys := false, apart := false, narrowed := true }
def BoundGrowsUptoSaid : Prop := boundGrowsUptoRow.holds Try.pinned (OpenSpec.upto boundGrowsSpec)

/-- 'incunablelaw12.ChoiceSame', WHERE WHAT IT READS IS OF BULK AT MOST 1048576: true; the input reads as it did. -/
def choiceSameUptoRow : OpenClaim := { program := "ytkcpohplgdndkaa", sum := "4d1c27f0a6fc326c0438bb23c9220e0bf59abf8b6f8fa2b2f809f73adae02707", func := "incunable/incunablelaw12.ChoiceSame", spec := "choiceSame", unfollowed := true, recurses := true, plainKeys := false, apart := false, narrowed := true }
def ChoiceSameUptoSaid : Prop := choiceSameUptoRow.holds Try.pinned (OpenSpec.upto choiceSameSpec)

end Rows
end Go.Proofs.Ytkcpohplgdndkaa
