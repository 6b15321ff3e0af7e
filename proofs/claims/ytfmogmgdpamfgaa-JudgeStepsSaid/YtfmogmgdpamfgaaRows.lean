/-
  No cell of these rows narrows 'for every input' (looked for: loops, veiled, ifaces, maps, wideKeys, modest, calm, conditions, laid).
  DERIVED. THE GIVEN ROWS OF THIS SEAT. 8 by the template 'for every input the law returns true; each argument reads behind the call as it read before'; 0 by the template 'total and deterministic' (their statements: YtfmogmgdpamfgaaTotals.lean).
  GIVEN WITH THE SEED: the statements are not yours to turn. If you find one false, say at which input.
  Laid BY PROGRAM, IN A SANDBOX (cutbox-rows.mjs): the forced cells as the released guide's own fill.sh prints them over the translation b87550d1c75c2900… (all of the seat's roots in one cut). By AI agents, Wed Nov 11 2026. No macro, syntax, notation, axiom, sorry.
-/
import Derived.Test.YtfmogmgdpamfgaaChecked
import GoSem.Claim
import GoSem.ClaimJoined
import GoSem.ClaimMapViews
import Derived.JoinedTies
import Derived.KernelRfl
namespace Go.Proofs.Ytfmogmgdpamfgaa
/- THE CELL 'sum', in the pinned program and in every row, IS THE sha256 OF THE DUMP (.gsa) THAT YtfmogmgdpamfgaaProg.lean LOADS. Nothing in Lean hashes anything: it is a label: what it is worth is what the hold of that sum in a sandbox is worth. -/
noncomputable def Try.pinned : Pinned := { name := "ytfmogmgdpamfgaa", sum := "b87550d1c75c2900122fd0616c9f3dda5d61b3afbc823e500718be31f1322398", checked := Try.checked }
namespace Rows
def none {H : Type} : Left H := { results := [], args := [] }

/-- 'incunablelaw15.JudgeErases': WHATEVER THE INPUT: true; the input reads as it did. -/
def judgeErasesSpec : ChangeSpec := { name := "judgeErases", fn := fun _ => fun
  | [d1, d2, d3] => { results := [.lit (.bool true)], args := [d1, d2, d3] }
  | _ => none }
def judgeErasesRow : OpenClaim := { program := "ytfmogmgdpamfgaa", sum := "b87550d1c75c2900122fd0616c9f3dda5d61b3afbc823e500718be31f1322398", func := "incunable/incunablelaw15.JudgeErases", spec := "judgeErases", unfollowed := true, recurses := true, plainKeys := false, apart := false }
def JudgeErasesSaid : Prop := judgeErasesRow.holds Try.pinned (OpenSpec.ofChange judgeErasesSpec)

/-- ITS FALSE NEIGHBOUR: 'it returns false'. Refute it at one input. -/
def judgeErasesWrong : ChangeSpec := { name := "judgeErases", fn := fun _ => fun
  | [d1, d2, d3] => { results := [.lit (.bool false)], args := [d1, d2, d3] }
  | _ => none }
def JudgeErasesWrongFalsely : Prop := judgeErasesRow.holds Try.pinned (OpenSpec.ofChange judgeErasesWrong)

/-- 'incunablelaw15.JudgeSteps': WHATEVER THE INPUT: true; the input reads as it did. -/
def judgeStepsSpec : ChangeSpec := { name := "judgeSteps", fn := fun _ => fun
  | [d1, d2] => { results := [.lit (.bool true)], args := [d1, d2] }
  | _ => none }
def judgeStepsRow : OpenClaim := { program := "ytfmogmgdpamfgaa", sum := "b87550d1c75c2900122fd0616c9f3dda5d61b3afbc823e500718be31f1322398", func := "incunable/incunablelaw15.JudgeSteps", spec := "judgeSteps", unfollowed := true, recurses := true, plainKeys := false, apart := false }
def JudgeStepsSaid : Prop := judgeStepsRow.holds Try.pinned (OpenSpec.ofChange judgeStepsSpec)

/-- ITS FALSE NEIGHBOUR: 'it returns false'. Refute it at one input. -/
def judgeStepsWrong : ChangeSpec := { name := "judgeSteps", fn := fun _ => fun
  | [d1, d2] => { results := [.lit (.bool false)], args := [d1, d2] }
  | _ => none }
def JudgeStepsWrongFalsely : Prop := judgeStepsRow.holds Try.pinned (OpenSpec.ofChange judgeStepsWrong)

/-- 'incunablelaw15.JudgeFits': WHATEVER THE INPUT: true; the input reads as it did. -/
def judgeFitsSpec : ChangeSpec := { name := "judgeFits", fn := fun _ => fun
  | [d1, d2, d3] => { results := [.lit (.bool true)], args := [d1, d2, d3] }
  | _ => none }
def judgeFitsRow : OpenClaim := { program := "ytfmogmgdpamfgaa", sum := "b87550d1c75c2900122fd0616c9f3dda5d61b3afbc823e500718be31f1322398", func := "incunable/incunablelaw15.JudgeFits", spec := "judgeFits", unfollowed := true, recurses := true, plainKeys := false, apart := false }
def JudgeFitsSaid : Prop := judgeFitsRow.holds Try.pinned (OpenSpec.ofChange judgeFitsSpec)

/-- ITS FALSE NEIGHBOUR: 'it returns false'. Refute it at one input. -/
def judgeFitsWrong : ChangeSpec := { name := "judgeFits", fn := fun _ => fun
  | [d1, d2, d3] => { results := [.lit (.bool false)], args := [d1, d2, d3] }
  | _ => none }
def JudgeFitsWrongFalsely : Prop := judgeFitsRow.holds Try.pinned (OpenSpec.ofChange judgeFitsWrong)

/-- 'incunablelaw14.ChipResets': WHATEVER THE INPUT: true; the input reads as it did. -/
def chipResetsSpec : ChangeSpec := { name := "chipResets", fn := fun _ => fun
  | [d1, d2, d3] => { results := [.lit (.bool true)], args := [d1, d2, d3] }
  | _ => none }
def chipResetsRow : OpenClaim := { program := "ytfmogmgdpamfgaa", sum := "b87550d1c75c2900122fd0616c9f3dda5d61b3afbc823e500718be31f1322398", func := "incunable/incunablelaw14.ChipResets", spec := "chipResets", unfollowed := true, recurses := true, plainKeys := false, apart := false }
def ChipResetsSaid : Prop := chipResetsRow.holds Try.pinned (OpenSpec.ofChange chipResetsSpec)

/-- ITS FALSE NEIGHBOUR: 'it returns false'. Refute it at one input. -/
def chipResetsWrong : ChangeSpec := { name := "chipResets", fn := fun _ => fun
  | [d1, d2, d3] => { results := [.lit (.bool false)], args := [d1, d2, d3] }
  | _ => none }
def ChipResetsWrongFalsely : Prop := chipResetsRow.holds Try.pinned (OpenSpec.ofChange chipResetsWrong)

/-- 'incunablelaw14.ChipStill': WHATEVER THE INPUT: true; the input reads as it did. -/
def chipStillSpec : ChangeSpec := { name := "chipStill", fn := fun _ => fun
  | [d1, d2, d3] => { results := [.lit (.bool true)], args := [d1, d2, d3] }
  | _ => none }
def chipStillRow : OpenClaim := { program := "ytfmogmgdpamfgaa", sum := "b87550d1c75c2900122fd0616c9f3dda5d61b3afbc823e500718be31f1322398", func := "incunable/incunablelaw14.ChipStill", spec := "chipStill", unfollowed := true, recurses := true, plainKeys := false, apart := false }
def ChipStillSaid : Prop := chipStillRow.holds Try.pinned (OpenSpec.ofChange chipStillSpec)

/-- ITS FALSE NEIGHBOUR: 'it returns false'. Refute it at one input. -/
def chipStillWrong : ChangeSpec := { name := "chipStill", fn := fun _ => fun
  | [d1, d2, d3] => { results := [.lit (.bool false)], args := [d1, d2, d3] }
  | _ => none }
def ChipStillWrongFalsely : Prop := chipStillRow.holds Try.pinned (OpenSpec.ofChange chipStillWrong)

/-- 'incunablelaw16.WireSame': WHATEVER THE INPUT: true; the input reads as it did. -/
def wireSameSpec : ChangeSpec := { name := "wireSame", fn := fun _ => fun
  | [d1, d2] => { results := [.lit (.bool true)], args := [d1, d2] }
  | _ => none }
def wireSameRow : OpenClaim := { program := "ytfmogmgdpamfgaa", sum := "b87550d1c75c2900122fd0616c9f3dda5d61b3afbc823e500718be31f1322398", func := "incunable/incunablelaw16.WireSame", spec := "wireSame", unfollowed := true, recurses := true, plainKeys := false, apart := false }
def WireSameSaid : Prop := wireSameRow.holds Try.pinned (OpenSpec.ofChange wireSameSpec)

/-- ITS FALSE NEIGHBOUR: 'it returns false'. Refute it at one input. -/
def wireSameWrong : ChangeSpec := { name := "wireSame", fn := fun _ => fun
  | [d1, d2] => { results := [.lit (.bool false)], args := [d1, d2] }
  | _ => none }
def WireSameWrongFalsely : Prop := wireSameRow.holds Try.pinned (OpenSpec.ofChange wireSameWrong)

/-- 'incunablelaw17.PollParts': WHATEVER THE INPUT: true; the input reads as it did. -/
def pollPartsSpec : ChangeSpec := { name := "pollParts", fn := fun _ => fun
  | [d1, d2] => { results := [.lit (.bool true)], args := [d1, d2] }
  | _ => none }
def pollPartsRow : OpenClaim := { program := "ytfmogmgdpamfgaa", sum := "b87550d1c75c2900122fd0616c9f3dda5d61b3afbc823e500718be31f1322398", func := "incunable/incunablelaw17.PollParts", spec := "pollParts", unfollowed := true, recurses := true, plainKeys := false, apart := false }
def PollPartsSaid : Prop := pollPartsRow.holds Try.pinned (OpenSpec.ofChange pollPartsSpec)

/-- ITS FALSE NEIGHBOUR: 'it returns false'. Refute it at one input. -/
def pollPartsWrong : ChangeSpec := { name := "pollParts", fn := fun _ => fun
  | [d1, d2] => { results := [.lit (.bool false)], args := [d1, d2] }
  | _ => none }
def PollPartsWrongFalsely : Prop := pollPartsRow.holds Try.pinned (OpenSpec.ofChange pollPartsWrong)

/-- 'incunablelaw17.PollEnds': WHATEVER THE INPUT: true; the input reads as it did. -/
def pollEndsSpec : ChangeSpec := { name := "pollEnds", fn := fun _ => fun
  | [d1, d2, d3] => { results := [.lit (.bool true)], args := [d1, d2, d3] }
  | _ => none }
def pollEndsRow : OpenClaim := { program := "ytfmogmgdpamfgaa", sum := "b87550d1c75c2900122fd0616c9f3dda5d61b3afbc823e500718be31f1322398", func := "incunable/incunablelaw17.PollEnds", spec := "pollEnds", unfollowed := true, recurses := true, plainKeys := false, apart := false }
def PollEndsSaid : Prop := pollEndsRow.holds Try.pinned (OpenSpec.ofChange pollEndsSpec)

/-- ITS FALSE NEIGHBOUR: 'it returns false'. Refute it at one input. -/
def pollEndsWrong : ChangeSpec := { name := "pollEnds", fn := fun _ => fun
  | [d1, d2, d3] => { results := [.lit (.bool false)], args := [d1, d2, d3] }
  | _ => none }
def PollEndsWrongFalsely : Prop := pollEndsRow.holds Try.pinned (OpenSpec.ofChange pollEndsWrong)

/- THE SECOND FORM. 'bulk': how many values and letters a reading holds, each counted each time it is reached (what is shared counts as often as it is met; a slice's spare places count too). A statement '..UptoSaid' is the law's where the arguments, and the package variables that the reading takes, are together of bulk at most 1048576: NARROWER than '..Said'. Prove '..Said' where nothing that the law and all that it calls make is longer than what came in: it says more and counts as full. Else prove '..UptoSaid'. A law counts once. -/
mutual
def uptoBulk {H : Type} : DataW H → Nat
  | .lit (.string bytes) => bytes.length + 1
  | .lit _ => 1
  | .nil => 1
  | .ptr d => uptoBulk d + 1
  | .slice elems spare => uptoBulkAll elems + uptoBulkAll spare + 1
  | .agg parts => uptoBulkAll parts + 1
  | .iface _ d => uptoBulk d + 1
  | .map entries => uptoBulkEntries entries + 1
  | .held _ => 1
def uptoBulkAll {H : Type} : List (DataW H) → Nat
  | [] => 0
  | d :: r => uptoBulk d + uptoBulkAll r
def uptoBulkEntries {H : Type} : List (Lit × DataW H) → Nat
  | [] => 0
  | x :: r => uptoBulkEntry x + uptoBulkEntries r
def uptoBulkEntry {H : Type} : Lit × DataW H → Nat
  | (.string bytes, d) => bytes.length + uptoBulk d + 1
  | (_, d) => uptoBulk d + 1
 end
def uptoSmall : (H : Type) → List (DataW H) → Bool := fun _ ds => decide (uptoBulkAll ds ≤ 1048576)
def OpenSpec.upto (s : _root_.Go.ChangeSpec) : _root_.Go.OpenSpec := { _root_.Go.OpenSpec.ofChange s with cond := some uptoSmall }

/-- 'incunablelaw15.JudgeErases', WHERE WHAT IT READS IS OF BULK AT MOST 1048576: true; the input reads as it did. -/
def judgeErasesUptoRow : OpenClaim := { program := "ytfmogmgdpamfgaa", sum := "b87550d1c75c2900122fd0616c9f3dda5d61b3afbc823e500718be31f1322398", func := "incunable/incunablelaw15.JudgeErases", spec := "judgeErases", unfollowed := true, recurses := true, plainKeys := false, apart := false, narrowed := true }
def JudgeErasesUptoSaid : Prop := judgeErasesUptoRow.holds Try.pinned (OpenSpec.upto judgeErasesSpec)

/-- 'incunablelaw15.JudgeSteps', WHERE WHAT IT READS IS OF BULK AT MOST 1048576: true; the input reads as it did. -/
def judgeStepsUptoRow : OpenClaim := { program := "ytfmogmgdpamfgaa", sum := "b87550d1c75c2900122fd0616c9f3dda5d61b3afbc823e500718be31f1322398", func := "incunable/incunablelaw15.JudgeSteps", spec := "judgeSteps", unfollowed := true, recurses := true, plainKeys := false, apart := false, narrowed := true }
def JudgeStepsUptoSaid : Prop := judgeStepsUptoRow.holds Try.pinned (OpenSpec.upto judgeStepsSpec)

/-- 'incunablelaw15.JudgeFits', WHERE WHAT IT READS IS OF BULK AT MOST 1048576: true; the input reads as it did. -/
def judgeFitsUptoRow : OpenClaim := { program := "ytfmogmgdpamfgaa", sum := "b87550d1c75c2900122fd0616c9f3dda5d61b3afbc823e500718be31f1322398", func := "incunable/incunablelaw15.JudgeFits", spec := "judgeFits", unfollowed := true, recurses := true, plainKeys := false, apart := false, narrowed := true }
def JudgeFitsUptoSaid : Prop := judgeFitsUptoRow.holds Try.pinned (OpenSpec.upto judgeFitsSpec)

/-- 'incunablelaw14.ChipResets', WHERE WHAT IT READS IS OF BULK AT MOST 1048576: true; the input reads as it did. -/
def chipResetsUptoRow : OpenClaim := { program := "ytfmogmgdpamfgaa", sum := "b87550d1c75c2900122fd0616c9f3dda5d61b3afbc823e500718be31f1322398", func := "incunable/incunablelaw14.ChipResets", spec := "chipResets", unfollowed := true, recurses := true, plainKeys := false, apart := false, narrowed := true }
def ChipResetsUptoSaid : Prop := chipResetsUptoRow.holds Try.pinned (OpenSpec.upto chipResetsSpec)

/-- 'incunablelaw14.ChipStill', WHERE WHAT IT READS IS OF BULK AT MOST 1048576: true; the input reads as it did. -/
def chipStillUptoRow : OpenClaim := { program := "ytfmogmgdpamfgaa", sum := "b87550d1c75c2900122fd0616c9f3dda5d61b3afbc823e500718be31f1322398", func := "incunable/incunablelaw14.ChipStill", spec := "chipStill", unfollowed := true, recurses := true, plainKeys := false, apart := false, narrowed := true }
def ChipStillUptoSaid : Prop := chipStillUptoRow.holds Try.pinned (OpenSpec.upto chipStillSpec)

/-- 'incunablelaw16.WireSame', WHERE WHAT IT READS IS OF BULK AT MOST 1048576: true; the input reads as it did. -/
def wireSameUptoRow : OpenClaim := { program := "ytfmogmgdpamfgaa", sum := "b87550d1c75c2900122fd0616c9f3dda5d61b3afbc823e500718be31f1322398", func := "incunable/incunablelaw16.WireSame", spec := "wireSame", unfollowed := true, recurses := true, plainKeys := false, apart := false, narrowed := true }
def WireSameUptoSaid : Prop := wireSameUptoRow.holds Try.pinned (OpenSpec.upto wireSameSpec)

/-- 'incunablelaw17.PollParts', WHERE WHAT IT READS IS OF BULK AT MOST 1048576: true; the input reads as it did. -/
def pollPartsUptoRow : OpenClaim := { program := "ytfmogmgdpamfgaa", sum := "b87550d1c75c2900122fd0616c9f3dda5d61b3afbc823e500718be31f1322398", func := "incunable/incunablelaw17.PollParts", spec := "pollParts", unfollowed := true, recurses := true, plainKeys := false, apart := false, narrowed := true }
def PollPartsUptoSaid : Prop := pollPartsUptoRow.holds Try.pinned (OpenSpec.upto pollPartsSpec)

/-- 'incunablelaw17.PollEnds', WHERE WHAT IT READS IS OF BULK AT MOST 1048576: true; the input reads as it did. -/
def pollEndsUptoRow : OpenClaim := { program := "ytfmogmgdpamfgaa", sum := "b87550d1c75c2900122fd0616c9f3dda5d61b3afbc823e500718be31f1322398", func := "incunable/incunablelaw17.PollEnds", spec := "pollEnds", unfollowed := true, recurses := true, plainKeys := false, apart := false, narrowed := true }
def PollEndsUptoSaid : Prop := pollEndsUptoRow.holds Try.pinned (OpenSpec.upto pollEndsSpec)

end Rows
end Go.Proofs.Ytfmogmgdpamfgaa
