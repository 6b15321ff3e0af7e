/-
  No cell of these rows narrows 'for every input' (looked for: loops, veiled, ifaces, maps, wideKeys, modest, calm, conditions, laid).
  DERIVED. THE GIVEN ROWS OF THIS SEAT. 12 by the template 'for every input the law returns true; each argument reads behind the call as it read before'; 0 by the template 'total and deterministic' (their statements: YtnkgbnipcjgjeaaTotals.lean).
  GIVEN WITH THE SEED: the statements are not yours to turn. If you find one false, say at which input.
  Laid BY PROGRAM, IN A SANDBOX (cutbox-rows.mjs): the forced cells as the released guide's own fill.sh prints them over the translation 8390bcaa250d2bc0… (all of the seat's roots in one cut). By AI agents, Wed Nov 11 2026. No macro, syntax, notation, axiom, sorry.
-/
import Derived.Test.YtnkgbnipcjgjeaaChecked
import GoSem.Claim
import GoSem.ClaimJoined
import GoSem.ClaimMapViews
import Derived.JoinedTies
import Derived.KernelRfl
namespace Go.Proofs.Ytnkgbnipcjgjeaa
/- THE CELL 'sum', in the pinned program and in every row, IS THE sha256 OF THE DUMP (.gsa) THAT YtnkgbnipcjgjeaaProg.lean LOADS. Nothing in Lean hashes anything: it is a label: what it is worth is what the hold of that sum in a sandbox is worth. -/
noncomputable def Try.pinned : Pinned := { name := "ytnkgbnipcjgjeaa", sum := "8390bcaa250d2bc000d530f322ad469968e0e97f8313219d9bb7ab86581202f4", checked := Try.checked }
namespace Rows
def none {H : Type} : Left H := { results := [], args := [] }

/-- 'incunablelaw23.FreeSame': WHATEVER THE INPUT: true; the input reads as it did. -/
def freeSameSpec : ChangeSpec := { name := "freeSame", fn := fun _ => fun
  | [d1, d2] => { results := [.lit (.bool true)], args := [d1, d2] }
  | _ => none }
def freeSameRow : OpenClaim := { program := "ytnkgbnipcjgjeaa", sum := "8390bcaa250d2bc000d530f322ad469968e0e97f8313219d9bb7ab86581202f4", func := "incunable/incunablelaw23.FreeSame", spec := "freeSame", unfollowed := true, recurses := true, plainKeys := false, apart := false }
def FreeSameSaid : Prop := freeSameRow.holds Try.pinned (OpenSpec.ofChange freeSameSpec)

/-- ITS FALSE NEIGHBOUR: 'it returns false'. Refute it at one input. -/
def freeSameWrong : ChangeSpec := { name := "freeSame", fn := fun _ => fun
  | [d1, d2] => { results := [.lit (.bool false)], args := [d1, d2] }
  | _ => none }
def FreeSameWrongFalsely : Prop := freeSameRow.holds Try.pinned (OpenSpec.ofChange freeSameWrong)

/-- 'incunablelaw23.FreePlays': WHATEVER THE INPUT: true; the input reads as it did. -/
def freePlaysSpec : ChangeSpec := { name := "freePlays", fn := fun _ => fun
  | [d] => { results := [.lit (.bool true)], args := [d] }
  | _ => none }
def freePlaysRow : OpenClaim := { program := "ytnkgbnipcjgjeaa", sum := "8390bcaa250d2bc000d530f322ad469968e0e97f8313219d9bb7ab86581202f4", func := "incunable/incunablelaw23.FreePlays", spec := "freePlays", unfollowed := true, recurses := true, plainKeys := false, apart := false }
def FreePlaysSaid : Prop := freePlaysRow.holds Try.pinned (OpenSpec.ofChange freePlaysSpec)

/-- ITS FALSE NEIGHBOUR: 'it returns false'. Refute it at one input. -/
def freePlaysWrong : ChangeSpec := { name := "freePlays", fn := fun _ => fun
  | [d] => { results := [.lit (.bool false)], args := [d] }
  | _ => none }
def FreePlaysWrongFalsely : Prop := freePlaysRow.holds Try.pinned (OpenSpec.ofChange freePlaysWrong)

/-- 'incunablelaw23.FreeOrders': WHATEVER THE INPUT: true; the input reads as it did. -/
def freeOrdersSpec : ChangeSpec := { name := "freeOrders", fn := fun _ => fun
  | [d] => { results := [.lit (.bool true)], args := [d] }
  | _ => none }
def freeOrdersRow : OpenClaim := { program := "ytnkgbnipcjgjeaa", sum := "8390bcaa250d2bc000d530f322ad469968e0e97f8313219d9bb7ab86581202f4", func := "incunable/incunablelaw23.FreeOrders", spec := "freeOrders", unfollowed := true, recurses := true, plainKeys := false, apart := false }
def FreeOrdersSaid : Prop := freeOrdersRow.holds Try.pinned (OpenSpec.ofChange freeOrdersSpec)

/-- ITS FALSE NEIGHBOUR: 'it returns false'. Refute it at one input. -/
def freeOrdersWrong : ChangeSpec := { name := "freeOrders", fn := fun _ => fun
  | [d] => { results := [.lit (.bool false)], args := [d] }
  | _ => none }
def FreeOrdersWrongFalsely : Prop := freeOrdersRow.holds Try.pinned (OpenSpec.ofChange freeOrdersWrong)

/-- 'incunablelaw29.BufferOrder': WHATEVER THE INPUT: true; the input reads as it did. -/
def bufferOrderSpec : ChangeSpec := { name := "bufferOrder", fn := fun _ => fun
  | [d1, d2] => { results := [.lit (.bool true)], args := [d1, d2] }
  | _ => none }
def bufferOrderRow : OpenClaim := { program := "ytnkgbnipcjgjeaa", sum := "8390bcaa250d2bc000d530f322ad469968e0e97f8313219d9bb7ab86581202f4", func := "incunable/incunablelaw29.BufferOrder", spec := "bufferOrder", unfollowed := true, recurses := true, plainKeys := false, apart := false }
def BufferOrderSaid : Prop := bufferOrderRow.holds Try.pinned (OpenSpec.ofChange bufferOrderSpec)

/-- ITS FALSE NEIGHBOUR: 'it returns false'. Refute it at one input. -/
def bufferOrderWrong : ChangeSpec := { name := "bufferOrder", fn := fun _ => fun
  | [d1, d2] => { results := [.lit (.bool false)], args := [d1, d2] }
  | _ => none }
def BufferOrderWrongFalsely : Prop := bufferOrderRow.holds Try.pinned (OpenSpec.ofChange bufferOrderWrong)

/-- 'incunablelaw29.BufferPlays': WHATEVER THE INPUT: true; the input reads as it did. -/
def bufferPlaysSpec : ChangeSpec := { name := "bufferPlays", fn := fun _ => fun
  | [d1, d2, d3] => { results := [.lit (.bool true)], args := [d1, d2, d3] }
  | _ => none }
def bufferPlaysRow : OpenClaim := { program := "ytnkgbnipcjgjeaa", sum := "8390bcaa250d2bc000d530f322ad469968e0e97f8313219d9bb7ab86581202f4", func := "incunable/incunablelaw29.BufferPlays", spec := "bufferPlays", unfollowed := true, recurses := true, plainKeys := false, apart := false }
def BufferPlaysSaid : Prop := bufferPlaysRow.holds Try.pinned (OpenSpec.ofChange bufferPlaysSpec)

/-- ITS FALSE NEIGHBOUR: 'it returns false'. Refute it at one input. -/
def bufferPlaysWrong : ChangeSpec := { name := "bufferPlays", fn := fun _ => fun
  | [d1, d2, d3] => { results := [.lit (.bool false)], args := [d1, d2, d3] }
  | _ => none }
def BufferPlaysWrongFalsely : Prop := bufferPlaysRow.holds Try.pinned (OpenSpec.ofChange bufferPlaysWrong)

/-- 'incunablelaw12.ChoiceTurns': WHATEVER THE INPUT: true; the input reads as it did. -/
def choiceTurnsSpec : ChangeSpec := { name := "choiceTurns", fn := fun _ => fun
  | [d] => { results := [.lit (.bool true)], args := [d] }
  | _ => none }
def choiceTurnsRow : OpenClaim := { program := "ytnkgbnipcjgjeaa", sum := "8390bcaa250d2bc000d530f322ad469968e0e97f8313219d9bb7ab86581202f4", func := "incunable/incunablelaw12.ChoiceTurns", spec := "choiceTurns", unfollowed := true, recurses := true, plainKeys := false, apart := false }
def ChoiceTurnsSaid : Prop := choiceTurnsRow.holds Try.pinned (OpenSpec.ofChange choiceTurnsSpec)

/-- ITS FALSE NEIGHBOUR: 'it returns false'. Refute it at one input. -/
def choiceTurnsWrong : ChangeSpec := { name := "choiceTurns", fn := fun _ => fun
  | [d] => { results := [.lit (.bool false)], args := [d] }
  | _ => none }
def ChoiceTurnsWrongFalsely : Prop := choiceTurnsRow.holds Try.pinned (OpenSpec.ofChange choiceTurnsWrong)

/-- 'incunablelaw12.ChoiceSame': WHATEVER THE INPUT: true; the input reads as it did. -/
def choiceSameSpec : ChangeSpec := { name := "choiceSame", fn := fun _ => fun
  | [d1, d2] => { results := [.lit (.bool true)], args := [d1, d2] }
  | _ => none }
def choiceSameRow : OpenClaim := { program := "ytnkgbnipcjgjeaa", sum := "8390bcaa250d2bc000d530f322ad469968e0e97f8313219d9bb7ab86581202f4", func := "incunable/incunablelaw12.ChoiceSame", spec := "choiceSame", unfollowed := true, recurses := true, plainKeys := false, apart := false }
def ChoiceSameSaid : Prop := choiceSameRow.holds Try.pinned (OpenSpec.ofChange choiceSameSpec)

/-- ITS FALSE NEIGHBOUR: 'it returns false'. Refute it at one input. -/
def choiceSameWrong : ChangeSpec := { name := "choiceSame", fn := fun _ => fun
  | [d1, d2] => { results := [.lit (.bool false)], args := [d1, d2] }
  | _ => none }
def ChoiceSameWrongFalsely : Prop := choiceSameRow.holds Try.pinned (OpenSpec.ofChange choiceSameWrong)

/-- 'incunablelaw32.DurableGrows': WHATEVER THE INPUT: true; the input reads as it did. -/
def durableGrowsSpec : ChangeSpec := { name := "durableGrows", fn := fun _ => fun
  | [d] => { results := [.lit (.bool true)], args := [d] }
  | _ => none }
def durableGrowsRow : OpenClaim := { program := "ytnkgbnipcjgjeaa", sum := "8390bcaa250d2bc000d530f322ad469968e0e97f8313219d9bb7ab86581202f4", func := "incunable/incunablelaw32.DurableGrows", spec := "durableGrows", unfollowed := true, recurses := true, plainKeys := false, apart := false }
def DurableGrowsSaid : Prop := durableGrowsRow.holds Try.pinned (OpenSpec.ofChange durableGrowsSpec)

/-- ITS FALSE NEIGHBOUR: 'it returns false'. Refute it at one input. -/
def durableGrowsWrong : ChangeSpec := { name := "durableGrows", fn := fun _ => fun
  | [d] => { results := [.lit (.bool false)], args := [d] }
  | _ => none }
def DurableGrowsWrongFalsely : Prop := durableGrowsRow.holds Try.pinned (OpenSpec.ofChange durableGrowsWrong)

/-- 'incunablelaw32.DurablePlays': WHATEVER THE INPUT: true; the input reads as it did. -/
def durablePlaysSpec : ChangeSpec := { name := "durablePlays", fn := fun _ => fun
  | [d1, d2, d3] => { results := [.lit (.bool true)], args := [d1, d2, d3] }
  | _ => none }
def durablePlaysRow : OpenClaim := { program := "ytnkgbnipcjgjeaa", sum := "8390bcaa250d2bc000d530f322ad469968e0e97f8313219d9bb7ab86581202f4", func := "incunable/incunablelaw32.DurablePlays", spec := "durablePlays", unfollowed := true, recurses := true, plainKeys := false, apart := false }
def DurablePlaysSaid : Prop := durablePlaysRow.holds Try.pinned (OpenSpec.ofChange durablePlaysSpec)

/-- ITS FALSE NEIGHBOUR: 'it returns false'. Refute it at one input. -/
def durablePlaysWrong : ChangeSpec := { name := "durablePlays", fn := fun _ => fun
  | [d1, d2, d3] => { results := [.lit (.bool false)], args := [d1, d2, d3] }
  | _ => none }
def DurablePlaysWrongFalsely : Prop := durablePlaysRow.holds Try.pinned (OpenSpec.ofChange durablePlaysWrong)

/-- 'incunablelaw32.DurableFits': WHATEVER THE INPUT: true; the input reads as it did. -/
def durableFitsSpec : ChangeSpec := { name := "durableFits", fn := fun _ => fun
  | [d1, d2] => { results := [.lit (.bool true)], args := [d1, d2] }
  | _ => none }
def durableFitsRow : OpenClaim := { program := "ytnkgbnipcjgjeaa", sum := "8390bcaa250d2bc000d530f322ad469968e0e97f8313219d9bb7ab86581202f4", func := "incunable/incunablelaw32.DurableFits", spec := "durableFits", unfollowed := true, recurses := true, plainKeys := false, apart := false }
def DurableFitsSaid : Prop := durableFitsRow.holds Try.pinned (OpenSpec.ofChange durableFitsSpec)

/-- ITS FALSE NEIGHBOUR: 'it returns false'. Refute it at one input. -/
def durableFitsWrong : ChangeSpec := { name := "durableFits", fn := fun _ => fun
  | [d1, d2] => { results := [.lit (.bool false)], args := [d1, d2] }
  | _ => none }
def DurableFitsWrongFalsely : Prop := durableFitsRow.holds Try.pinned (OpenSpec.ofChange durableFitsWrong)

/-- 'incunablelaw47.QueueSame': WHATEVER THE INPUT: true; the input reads as it did. -/
def queueSameSpec : ChangeSpec := { name := "queueSame", fn := fun _ => fun
  | [d] => { results := [.lit (.bool true)], args := [d] }
  | _ => none }
def queueSameRow : OpenClaim := { program := "ytnkgbnipcjgjeaa", sum := "8390bcaa250d2bc000d530f322ad469968e0e97f8313219d9bb7ab86581202f4", func := "incunable/incunablelaw47.QueueSame", spec := "queueSame", unfollowed := true, recurses := true, plainKeys := false, apart := false }
def QueueSameSaid : Prop := queueSameRow.holds Try.pinned (OpenSpec.ofChange queueSameSpec)

/-- ITS FALSE NEIGHBOUR: 'it returns false'. Refute it at one input. -/
def queueSameWrong : ChangeSpec := { name := "queueSame", fn := fun _ => fun
  | [d] => { results := [.lit (.bool false)], args := [d] }
  | _ => none }
def QueueSameWrongFalsely : Prop := queueSameRow.holds Try.pinned (OpenSpec.ofChange queueSameWrong)

/-- 'incunablelaw30.ScanAny': WHATEVER THE INPUT: true; the input reads as it did. -/
def scanAnySpec : ChangeSpec := { name := "scanAny", fn := fun _ => fun
  | [d1, d2, d3] => { results := [.lit (.bool true)], args := [d1, d2, d3] }
  | _ => none }
def scanAnyRow : OpenClaim := { program := "ytnkgbnipcjgjeaa", sum := "8390bcaa250d2bc000d530f322ad469968e0e97f8313219d9bb7ab86581202f4", func := "incunable/incunablelaw30.ScanAny", spec := "scanAny", unfollowed := true, recurses := true, plainKeys := false, apart := false }
def ScanAnySaid : Prop := scanAnyRow.holds Try.pinned (OpenSpec.ofChange scanAnySpec)

/-- ITS FALSE NEIGHBOUR: 'it returns false'. Refute it at one input. -/
def scanAnyWrong : ChangeSpec := { name := "scanAny", fn := fun _ => fun
  | [d1, d2, d3] => { results := [.lit (.bool false)], args := [d1, d2, d3] }
  | _ => none }
def ScanAnyWrongFalsely : Prop := scanAnyRow.holds Try.pinned (OpenSpec.ofChange scanAnyWrong)

/- THE SECOND FORM. 'bulk': how many values and letters a reading holds, each counted each time it is reached (what is shared counts as often as it is met; a slice's spare places count too). A statement '..UptoSaid' is the law's where the arguments, and the package variables that the reading takes, are together of bulk at most 1048576: NARROWER than '..Said'. Prove '..Said' where nothing that the law and all that it calls make is longer than what came in: it says more and counts as full. Else prove '..UptoSaid'. A law counts once. -/
mutual
def uptoBulk {H : Type} : DataW H → Nat
  | .lit (.string bytes) => bytes.length + 1
  | .lit _ => 1
  | .nil => 1
  | .ptr d => uptoBulk d + 1
  | .slice elems spare => uptoBulkAll elems + uptoBulkAll spare + 1
  | .agg parts => uptoBulkAll parts + 1
  | .iface _ d => uptoBulk d + 1
  | .map entries => uptoBulkEntries entries + 1
  | .held _ => 1
def uptoBulkAll {H : Type} : List (DataW H) → Nat
  | [] => 0
  | d :: r => uptoBulk d + uptoBulkAll r
def uptoBulkEntries {H : Type} : List (Lit × DataW H) → Nat
  | [] => 0
  | x :: r => uptoBulkEntry x + uptoBulkEntries r
def uptoBulkEntry {H : Type} : Lit × DataW H → Nat
  | (.string bytes, d) => bytes.length + uptoBulk d + 1
  | (_, d) => uptoBulk d + 1
 end
def uptoSmall : (H : Type) → List (DataW H) → Bool := fun _ ds => decide (uptoBulkAll ds ≤ 1048576)
def OpenSpec.upto (s : _root_.Go.ChangeSpec) : _root_.Go.OpenSpec := { _root_.Go.OpenSpec.ofChange s with cond := some uptoSmall }

/-- 'incunablelaw23.FreeSame', WHERE WHAT IT READS IS OF BULK AT MOST 1048576: true; the input reads as it did. -/
def freeSameUptoRow : OpenClaim := { program := "ytnkgbnipcjgjeaa", sum := "8390bcaa250d2bc000d530f322ad469968e0e97f8313219d9bb7ab86581202f4", func := "incunable/incunablelaw23.FreeSame", spec := "freeSame", unfollowed := true, recurses := true, plainKeys := false, apart := false, narrowed := true }
def FreeSameUptoSaid : Prop := freeSameUptoRow.holds Try.pinned (OpenSpec.upto freeSameSpec)

/-- 'incunablelaw23.FreePlays', WHERE WHAT IT READS IS OF BULK AT MOST 1048576: true; the input reads as it did. -/
def freePlaysUptoRow : OpenClaim := { program := "ytnkgbnipcjgjeaa", sum := "8390bcaa250d2bc000d530f322ad469968e0e97f8313219d9bb7ab86581202f4", func := "incunable/incunablelaw23.FreePlays", spec := "freePlays", unfollowed := true, recurses := true, plainKeys := false, apart := false, narrowed := true }
def FreePlaysUptoSaid : Prop := freePlaysUptoRow.holds Try.pinned (OpenSpec.upto freePlaysSpec)

/-- 'incunablelaw23.FreeOrders', WHERE WHAT IT READS IS OF BULK AT MOST 1048576: true; the input reads as it did. -/
def freeOrdersUptoRow : OpenClaim := { program := "ytnkgbnipcjgjeaa", sum := "8390bcaa250d2bc000d530f322ad469968e0e97f8313219d9bb7ab86581202f4", func := "incunable/incunablelaw23.FreeOrders", spec := "freeOrders", unfollowed := true, recurses := true, plainKeys := false, apart := false, narrowed := true }
def FreeOrdersUptoSaid : Prop := freeOrdersUptoRow.holds Try.pinned (OpenSpec.upto freeOrdersSpec)

/-- 'incunablelaw29.BufferOrder', WHERE WHAT IT READS IS OF BULK AT MOST 1048576: true; the input reads as it did. -/
def bufferOrderUptoRow : OpenClaim := { program := "ytnkgbnipcjgjeaa", sum := "8390bcaa250d2bc000d530f322ad469968e0e97f8313219d9bb7ab86581202f4", func := "incunable/incunablelaw29.BufferOrder", spec := "bufferOrder", unfollowed := true, recurses := true, plainKeys := false, apart := false, narrowed := true }
def BufferOrderUptoSaid : Prop := bufferOrderUptoRow.holds Try.pinned (OpenSpec.upto bufferOrderSpec)

/-- 'incunablelaw29.BufferPlays', WHERE WHAT IT READS IS OF BULK AT MOST 1048576: true; the input reads as it did. -/
def bufferPlaysUptoRow : OpenClaim := { program := "ytnkgbnipcjgjeaa", sum := "8390bcaa250d2bc000d530f322ad469968e0e97f8313219d9bb7ab86581202f4", func := "incunable/incunablelaw29.BufferPlays", spec := "bufferPlays", unfollowed := true, recurses := true, plainKeys := false, apart := false, narrowed := true }
def BufferPlaysUptoSaid : Prop := bufferPlaysUptoRow.holds Try.pinned (OpenSpec.upto bufferPlaysSpec)

/-- 'incunablelaw12.ChoiceTurns', WHERE WHAT IT READS IS OF BULK AT MOST 1048576: true; the input reads as it did. -/
def choiceTurnsUptoRow : OpenClaim := { program := "ytnkgbnipcjgjeaa", sum := "8390bcaa250d2bc000d530f322ad469968e0e97f8313219d9bb7ab86581202f4", func := "incunable/incunablelaw12.ChoiceTurns", spec := "choiceTurns", unfollowed := true, recurses := true, plainKeys := false, apart := false, narrowed := true }
def ChoiceTurnsUptoSaid : Prop := choiceTurnsUptoRow.holds Try.pinned (OpenSpec.upto choiceTurnsSpec)

/-- 'incunablelaw12.ChoiceSame', WHERE WHAT IT READS IS OF BULK AT MOST 1048576: true; the input reads as it did. -/
def choiceSameUptoRow : OpenClaim := { program := "ytnkgbnipcjgjeaa", sum := "8390bcaa250d2bc000d530f322ad469968e0e97f8313219d9bb7ab86581202f4", func := "incunable/incunablelaw12.ChoiceSame", spec := "choiceSame", unfollowed := true, recurses := true, plainKeys := false, apart := false, narrowed := true }
def ChoiceSameUptoSaid : Prop := choiceSameUptoRow.holds Try.pinned (OpenSpec.upto choiceSameSpec)

/-- 'incunablelaw32.DurableGrows', WHERE WHAT IT READS IS OF BULK AT MOST 1048576: true; the input reads as it did. -/
def durableGrowsUptoRow : OpenClaim := { program := "ytnkgbnipcjgjeaa", sum := "8390bcaa250d2bc000d530f322ad469968e0e97f8313219d9bb7ab86581202f4", func := "incunable/incunablelaw32.DurableGrows", spec := "durableGrows", unfollowed := true, recurses := true, plainKeys := false, apart := false, narrowed := true }
def DurableGrowsUptoSaid : Prop := durableGrowsUptoRow.holds Try.pinned (OpenSpec.upto durableGrowsSpec)

/-- 'incunablelaw32.DurablePlays', WHERE WHAT IT READS IS OF BULK AT MOST 1048576: true; the input reads as it did. -/
def durablePlaysUptoRow : OpenClaim := { program := "ytnkgbnipcjgjeaa", sum := "8390bcaa250d2bc000d530f322ad469968e0e97f8313219d9bb7ab86581202f4", func := "incunable/incunablelaw32.DurablePlays", spec := "durablePlays", unfollowed := true, recurses := true, plainKeys := false, apart := false, narrowed := true }
def DurablePlaysUptoSaid : Prop := durablePlaysUptoRow.holds Try.pinned (OpenSpec.upto durablePlaysSpec)

/-- 'incunablelaw32.DurableFits', WHERE WHAT IT READS IS OF BULK AT MOST 1048576: true; the input reads as it did. -/
def durableFitsUptoRow : OpenClaim := { program := "ytnkgbnipcjgjeaa", sum := "8390bcaa250d2bc000d530f322ad469968e0e97f8313219d9bb7ab86581202f4", func := "incunable/incunablelaw32.DurableFits", spec := "durableFits", unfollowed := true, recurses := true, plainKeys := false, apart := false, narrowed := true }
def DurableFitsUptoSaid : Prop := durableFitsUptoRow.holds Try.pinned (OpenSpec.upto durableFitsSpec)

/-- 'incunablelaw47.QueueSame', WHERE WHAT IT READS IS OF BULK AT MOST 1048576: true; the input reads as it did. -/
def queueSameUptoRow : OpenClaim := { program := "ytnkgbnipcjgjeaa", sum := "8390bcaa250d2bc000d530f322ad469968e0e97f8313219d9bb7ab86581202f4", func := "incunable/incunablelaw47.QueueSame", spec := "queueSame", unfollowed := true, recurses := true, plainKeys := false, apart := false, narrowed := true }
def QueueSameUptoSaid : Prop := queueSameUptoRow.holds Try.pinned (OpenSpec.upto queueSameSpec)

/-- 'incunablelaw30.ScanAny', WHERE WHAT IT READS IS OF BULK AT MOST 1048576: true; the input reads as it did. -/
def scanAnyUptoRow : OpenClaim := { program := "ytnkgbnipcjgjeaa", sum := "8390bcaa250d2bc000d530f322ad469968e0e97f8313219d9bb7ab86581202f4", func := "incunable/incunablelaw30.ScanAny", spec := "scanAny", unfollowed := true, recurses := true, plainKeys := false, apart := false, narrowed := true }
def ScanAnyUptoSaid : Prop := scanAnyUptoRow.holds Try.pinned (OpenSpec.upto scanAnySpec)

end Rows
end Go.Proofs.Ytnkgbnipcjgjeaa
