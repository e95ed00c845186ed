/-
  No cell of these rows narrows 'for every input' (looked for: loops, veiled, ifaces, maps, wideKeys, modest, calm, conditions, laid).
  DERIVED. THE GIVEN ROWS OF THIS SEAT. 11 by the template 'for every input the law returns true; each argument reads behind the call as it read before'; 0 by the template 'total and deterministic' (their statements: YtgkmodjcoedonaaTotals.lean).
  GIVEN WITH THE SEED: the statements are not yours to turn. If you find one false, say at which input.
  Laid BY PROGRAM, IN A SANDBOX (cutbox-rows.mjs): the forced cells as the released guide's own fill.sh prints them over the translation ad9f8dbe07c81e60… (all of the seat's roots in one cut). By AI agents, Wed Nov 11 2026. No macro, syntax, notation, axiom, sorry.
-/
import Derived.Test.YtgkmodjcoedonaaChecked
import GoSem.Claim
import GoSem.ClaimJoined
import GoSem.ClaimMapViews
import Derived.JoinedTies
import Derived.KernelRfl
namespace Go.Proofs.Ytgkmodjcoedonaa
/- THE CELL 'sum', in the pinned program and in every row, IS THE sha256 OF THE DUMP (.gsa) THAT YtgkmodjcoedonaaProg.lean LOADS. Nothing in Lean hashes anything: it is a label: what it is worth is what the hold of that sum in a sandbox is worth. -/
noncomputable def Try.pinned : Pinned := { name := "ytgkmodjcoedonaa", sum := "ad9f8dbe07c81e609d5f908181b294d3ad6e6fc1e41d1515a80e864b946ba4ba", checked := Try.checked }
namespace Rows
def none {H : Type} : Left H := { results := [], args := [] }

/-- 'dialtonelaw27.FlowMatchesReference': WHATEVER THE INPUT: true; the input reads as it did. -/
def flowMatchesReferenceSpec : ChangeSpec := { name := "flowMatchesReference", fn := fun _ => fun
  | [d1, d2, d3, d4, d5, d6, d7, d8] => { results := [.lit (.bool true)], args := [d1, d2, d3, d4, d5, d6, d7, d8] }
  | _ => none }
def flowMatchesReferenceRow : OpenClaim := { program := "ytgkmodjcoedonaa", sum := "ad9f8dbe07c81e609d5f908181b294d3ad6e6fc1e41d1515a80e864b946ba4ba", func := "dialtone/dialtonelaw27.FlowMatchesReference", spec := "flowMatchesReference", unfollowed := true, recurses := true, apart := false }
def FlowMatchesReferenceSaid : Prop := flowMatchesReferenceRow.holds Try.pinned (OpenSpec.ofChange flowMatchesReferenceSpec)

/-- ITS FALSE NEIGHBOUR: 'it returns false'. Refute it at one input. -/
def flowMatchesReferenceWrong : ChangeSpec := { name := "flowMatchesReference", fn := fun _ => fun
  | [d1, d2, d3, d4, d5, d6, d7, d8] => { results := [.lit (.bool false)], args := [d1, d2, d3, d4, d5, d6, d7, d8] }
  | _ => none }
def FlowMatchesReferenceWrongFalsely : Prop := flowMatchesReferenceRow.holds Try.pinned (OpenSpec.ofChange flowMatchesReferenceWrong)

/-- 'dialtonelaw27.FlowFailuresMatchReference': WHATEVER THE INPUT: true; the input reads as it did. -/
def flowFailuresMatchReferenceSpec : ChangeSpec := { name := "flowFailuresMatchReference", fn := fun _ => fun
  | [d1, d2, d3, d4, d5, d6, d7, d8, d9, d10] => { results := [.lit (.bool true)], args := [d1, d2, d3, d4, d5, d6, d7, d8, d9, d10] }
  | _ => none }
def flowFailuresMatchReferenceRow : OpenClaim := { program := "ytgkmodjcoedonaa", sum := "ad9f8dbe07c81e609d5f908181b294d3ad6e6fc1e41d1515a80e864b946ba4ba", func := "dialtone/dialtonelaw27.FlowFailuresMatchReference", spec := "flowFailuresMatchReference", unfollowed := true, recurses := true, apart := false }
def FlowFailuresMatchReferenceSaid : Prop := flowFailuresMatchReferenceRow.holds Try.pinned (OpenSpec.ofChange flowFailuresMatchReferenceSpec)

/-- ITS FALSE NEIGHBOUR: 'it returns false'. Refute it at one input. -/
def flowFailuresMatchReferenceWrong : ChangeSpec := { name := "flowFailuresMatchReference", fn := fun _ => fun
  | [d1, d2, d3, d4, d5, d6, d7, d8, d9, d10] => { results := [.lit (.bool false)], args := [d1, d2, d3, d4, d5, d6, d7, d8, d9, d10] }
  | _ => none }
def FlowFailuresMatchReferenceWrongFalsely : Prop := flowFailuresMatchReferenceRow.holds Try.pinned (OpenSpec.ofChange flowFailuresMatchReferenceWrong)

/-- 'dialtonelaw27.FlowCuts': WHATEVER THE INPUT: true; the input reads as it did. -/
def flowCutsSpec : ChangeSpec := { name := "flowCuts", fn := fun _ => fun
  | [d1, d2, d3, d4, d5, d6, d7] => { results := [.lit (.bool true)], args := [d1, d2, d3, d4, d5, d6, d7] }
  | _ => none }
def flowCutsRow : OpenClaim := { program := "ytgkmodjcoedonaa", sum := "ad9f8dbe07c81e609d5f908181b294d3ad6e6fc1e41d1515a80e864b946ba4ba", func := "dialtone/dialtonelaw27.FlowCuts", spec := "flowCuts", unfollowed := true, recurses := true, apart := false }
def FlowCutsSaid : Prop := flowCutsRow.holds Try.pinned (OpenSpec.ofChange flowCutsSpec)

/-- ITS FALSE NEIGHBOUR: 'it returns false'. Refute it at one input. -/
def flowCutsWrong : ChangeSpec := { name := "flowCuts", fn := fun _ => fun
  | [d1, d2, d3, d4, d5, d6, d7] => { results := [.lit (.bool false)], args := [d1, d2, d3, d4, d5, d6, d7] }
  | _ => none }
def FlowCutsWrongFalsely : Prop := flowCutsRow.holds Try.pinned (OpenSpec.ofChange flowCutsWrong)

/-- 'dialtonelaw27.FlowLeast': WHATEVER THE INPUT: true; the input reads as it did. -/
def flowLeastSpec : ChangeSpec := { name := "flowLeast", fn := fun _ => fun
  | [d1, d2, d3, d4, d5, d6] => { results := [.lit (.bool true)], args := [d1, d2, d3, d4, d5, d6] }
  | _ => none }
def flowLeastRow : OpenClaim := { program := "ytgkmodjcoedonaa", sum := "ad9f8dbe07c81e609d5f908181b294d3ad6e6fc1e41d1515a80e864b946ba4ba", func := "dialtone/dialtonelaw27.FlowLeast", spec := "flowLeast", unfollowed := true, recurses := true, apart := false }
def FlowLeastSaid : Prop := flowLeastRow.holds Try.pinned (OpenSpec.ofChange flowLeastSpec)

/-- ITS FALSE NEIGHBOUR: 'it returns false'. Refute it at one input. -/
def flowLeastWrong : ChangeSpec := { name := "flowLeast", fn := fun _ => fun
  | [d1, d2, d3, d4, d5, d6] => { results := [.lit (.bool false)], args := [d1, d2, d3, d4, d5, d6] }
  | _ => none }
def FlowLeastWrongFalsely : Prop := flowLeastRow.holds Try.pinned (OpenSpec.ofChange flowLeastWrong)

/-- 'dialtonelaw27.FlowWorst': WHATEVER THE INPUT: true; the input reads as it did. -/
def flowWorstSpec : ChangeSpec := { name := "flowWorst", fn := fun _ => fun
  | [d1, d2, d3, d4, d5, d6, d7] => { results := [.lit (.bool true)], args := [d1, d2, d3, d4, d5, d6, d7] }
  | _ => none }
def flowWorstRow : OpenClaim := { program := "ytgkmodjcoedonaa", sum := "ad9f8dbe07c81e609d5f908181b294d3ad6e6fc1e41d1515a80e864b946ba4ba", func := "dialtone/dialtonelaw27.FlowWorst", spec := "flowWorst", unfollowed := true, recurses := true, apart := false }
def FlowWorstSaid : Prop := flowWorstRow.holds Try.pinned (OpenSpec.ofChange flowWorstSpec)

/-- ITS FALSE NEIGHBOUR: 'it returns false'. Refute it at one input. -/
def flowWorstWrong : ChangeSpec := { name := "flowWorst", fn := fun _ => fun
  | [d1, d2, d3, d4, d5, d6, d7] => { results := [.lit (.bool false)], args := [d1, d2, d3, d4, d5, d6, d7] }
  | _ => none }
def FlowWorstWrongFalsely : Prop := flowWorstRow.holds Try.pinned (OpenSpec.ofChange flowWorstWrong)

/-- 'dialtonelaw27.FlowFails': WHATEVER THE INPUT: true; the input reads as it did. -/
def flowFailsSpec : ChangeSpec := { name := "flowFails", fn := fun _ => fun
  | [d1, d2, d3, d4, d5] => { results := [.lit (.bool true)], args := [d1, d2, d3, d4, d5] }
  | _ => none }
def flowFailsRow : OpenClaim := { program := "ytgkmodjcoedonaa", sum := "ad9f8dbe07c81e609d5f908181b294d3ad6e6fc1e41d1515a80e864b946ba4ba", func := "dialtone/dialtonelaw27.FlowFails", spec := "flowFails", unfollowed := true, recurses := true, apart := false }
def FlowFailsSaid : Prop := flowFailsRow.holds Try.pinned (OpenSpec.ofChange flowFailsSpec)

/-- ITS FALSE NEIGHBOUR: 'it returns false'. Refute it at one input. -/
def flowFailsWrong : ChangeSpec := { name := "flowFails", fn := fun _ => fun
  | [d1, d2, d3, d4, d5] => { results := [.lit (.bool false)], args := [d1, d2, d3, d4, d5] }
  | _ => none }
def FlowFailsWrongFalsely : Prop := flowFailsRow.holds Try.pinned (OpenSpec.ofChange flowFailsWrong)

/-- 'dialtonelaw27.FlowMeets': WHATEVER THE INPUT: true; the input reads as it did. -/
def flowMeetsSpec : ChangeSpec := { name := "flowMeets", fn := fun _ => fun
  | [d1, d2, d3, d4, d5] => { results := [.lit (.bool true)], args := [d1, d2, d3, d4, d5] }
  | _ => none }
def flowMeetsRow : OpenClaim := { program := "ytgkmodjcoedonaa", sum := "ad9f8dbe07c81e609d5f908181b294d3ad6e6fc1e41d1515a80e864b946ba4ba", func := "dialtone/dialtonelaw27.FlowMeets", spec := "flowMeets", unfollowed := true, recurses := true, apart := false }
def FlowMeetsSaid : Prop := flowMeetsRow.holds Try.pinned (OpenSpec.ofChange flowMeetsSpec)

/-- ITS FALSE NEIGHBOUR: 'it returns false'. Refute it at one input. -/
def flowMeetsWrong : ChangeSpec := { name := "flowMeets", fn := fun _ => fun
  | [d1, d2, d3, d4, d5] => { results := [.lit (.bool false)], args := [d1, d2, d3, d4, d5] }
  | _ => none }
def FlowMeetsWrongFalsely : Prop := flowMeetsRow.holds Try.pinned (OpenSpec.ofChange flowMeetsWrong)

/-- 'dialtonelaw27.FlowSource': WHATEVER THE INPUT: true; the input reads as it did. -/
def flowSourceSpec : ChangeSpec := { name := "flowSource", fn := fun _ => fun
  | [d1, d2, d3, d4, d5] => { results := [.lit (.bool true)], args := [d1, d2, d3, d4, d5] }
  | _ => none }
def flowSourceRow : OpenClaim := { program := "ytgkmodjcoedonaa", sum := "ad9f8dbe07c81e609d5f908181b294d3ad6e6fc1e41d1515a80e864b946ba4ba", func := "dialtone/dialtonelaw27.FlowSource", spec := "flowSource", unfollowed := true, recurses := true, apart := false }
def FlowSourceSaid : Prop := flowSourceRow.holds Try.pinned (OpenSpec.ofChange flowSourceSpec)

/-- ITS FALSE NEIGHBOUR: 'it returns false'. Refute it at one input. -/
def flowSourceWrong : ChangeSpec := { name := "flowSource", fn := fun _ => fun
  | [d1, d2, d3, d4, d5] => { results := [.lit (.bool false)], args := [d1, d2, d3, d4, d5] }
  | _ => none }
def FlowSourceWrongFalsely : Prop := flowSourceRow.holds Try.pinned (OpenSpec.ofChange flowSourceWrong)

/-- 'dialtonelaw27.FlowScales': WHATEVER THE INPUT: true; the input reads as it did. -/
def flowScalesSpec : ChangeSpec := { name := "flowScales", fn := fun _ => fun
  | [d1, d2, d3, d4, d5, d6] => { results := [.lit (.bool true)], args := [d1, d2, d3, d4, d5, d6] }
  | _ => none }
def flowScalesRow : OpenClaim := { program := "ytgkmodjcoedonaa", sum := "ad9f8dbe07c81e609d5f908181b294d3ad6e6fc1e41d1515a80e864b946ba4ba", func := "dialtone/dialtonelaw27.FlowScales", spec := "flowScales", unfollowed := true, recurses := true, apart := false }
def FlowScalesSaid : Prop := flowScalesRow.holds Try.pinned (OpenSpec.ofChange flowScalesSpec)

/-- ITS FALSE NEIGHBOUR: 'it returns false'. Refute it at one input. -/
def flowScalesWrong : ChangeSpec := { name := "flowScales", fn := fun _ => fun
  | [d1, d2, d3, d4, d5, d6] => { results := [.lit (.bool false)], args := [d1, d2, d3, d4, d5, d6] }
  | _ => none }
def FlowScalesWrongFalsely : Prop := flowScalesRow.holds Try.pinned (OpenSpec.ofChange flowScalesWrong)

/-- 'dialtonelaw27.FlowTurns': WHATEVER THE INPUT: true; the input reads as it did. -/
def flowTurnsSpec : ChangeSpec := { name := "flowTurns", fn := fun _ => fun
  | [d1, d2, d3, d4, d5] => { results := [.lit (.bool true)], args := [d1, d2, d3, d4, d5] }
  | _ => none }
def flowTurnsRow : OpenClaim := { program := "ytgkmodjcoedonaa", sum := "ad9f8dbe07c81e609d5f908181b294d3ad6e6fc1e41d1515a80e864b946ba4ba", func := "dialtone/dialtonelaw27.FlowTurns", spec := "flowTurns", unfollowed := true, recurses := true, apart := false }
def FlowTurnsSaid : Prop := flowTurnsRow.holds Try.pinned (OpenSpec.ofChange flowTurnsSpec)

/-- ITS FALSE NEIGHBOUR: 'it returns false'. Refute it at one input. -/
def flowTurnsWrong : ChangeSpec := { name := "flowTurns", fn := fun _ => fun
  | [d1, d2, d3, d4, d5] => { results := [.lit (.bool false)], args := [d1, d2, d3, d4, d5] }
  | _ => none }
def FlowTurnsWrongFalsely : Prop := flowTurnsRow.holds Try.pinned (OpenSpec.ofChange flowTurnsWrong)

/-- 'dialtonelaw27.FlowThrough': WHATEVER THE INPUT: true; the input reads as it did. -/
def flowThroughSpec : ChangeSpec := { name := "flowThrough", fn := fun _ => fun
  | [d1, d2, d3, d4, d5] => { results := [.lit (.bool true)], args := [d1, d2, d3, d4, d5] }
  | _ => none }
def flowThroughRow : OpenClaim := { program := "ytgkmodjcoedonaa", sum := "ad9f8dbe07c81e609d5f908181b294d3ad6e6fc1e41d1515a80e864b946ba4ba", func := "dialtone/dialtonelaw27.FlowThrough", spec := "flowThrough", unfollowed := true, recurses := true, apart := false }
def FlowThroughSaid : Prop := flowThroughRow.holds Try.pinned (OpenSpec.ofChange flowThroughSpec)

/-- ITS FALSE NEIGHBOUR: 'it returns false'. Refute it at one input. -/
def flowThroughWrong : ChangeSpec := { name := "flowThrough", fn := fun _ => fun
  | [d1, d2, d3, d4, d5] => { results := [.lit (.bool false)], args := [d1, d2, d3, d4, d5] }
  | _ => none }
def FlowThroughWrongFalsely : Prop := flowThroughRow.holds Try.pinned (OpenSpec.ofChange flowThroughWrong)

/- THE SECOND FORM. 'bulk': how many values and letters a reading holds, each counted each time it is reached (what is shared counts as often as it is met; a slice's spare places count too). A statement '..UptoSaid' is the law's where the arguments, and the package variables that the reading takes, are together of bulk at most 1048576: NARROWER than '..Said'. Prove '..Said' where nothing that the law and all that it calls make is longer than what came in: it says more and counts as full. Else prove '..UptoSaid'. A law counts once. -/
mutual
def uptoBulk {H : Type} : DataW H → Nat
  | .lit (.string bytes) => bytes.length + 1
  | .lit _ => 1
  | .nil => 1
  | .ptr d => uptoBulk d + 1
  | .slice elems spare => uptoBulkAll elems + uptoBulkAll spare + 1
  | .agg parts => uptoBulkAll parts + 1
  | .iface _ d => uptoBulk d + 1
  | .map entries => uptoBulkEntries entries + 1
  | .held _ => 1
def uptoBulkAll {H : Type} : List (DataW H) → Nat
  | [] => 0
  | d :: r => uptoBulk d + uptoBulkAll r
def uptoBulkEntries {H : Type} : List (Lit × DataW H) → Nat
  | [] => 0
  | x :: r => uptoBulkEntry x + uptoBulkEntries r
def uptoBulkEntry {H : Type} : Lit × DataW H → Nat
  | (.string bytes, d) => bytes.length + uptoBulk d + 1
  | (_, d) => uptoBulk d + 1
 end
def uptoSmall : (H : Type) → List (DataW H) → Bool := fun _ ds => decide (uptoBulkAll ds ≤ 1048576)
def OpenSpec.upto (s : _root_.Go.ChangeSpec) : _root_.Go.OpenSpec := { _root_.Go.OpenSpec.ofChange s with cond := some uptoSmall }

/-- 'dialtonelaw27.FlowMatchesReference', WHERE WHAT IT READS IS OF BULK AT MOST 1048576: true; the input reads as it did. -/
def flowMatchesReferenceUptoRow : OpenClaim := { program := "ytgkmodjcoedonaa", sum := "ad9f8dbe07c81e609d5f908181b294d3ad6e6fc1e41d1515a80e864b946ba4ba", func := "dialtone/dialtonelaw27.FlowMatchesReference", spec := "flowMatchesReference", unfollowed := true, recurses := true, apart := false, narrowed := true }
def FlowMatchesReferenceUptoSaid : Prop := flowMatchesReferenceUptoRow.holds Try.pinned (OpenSpec.upto flowMatchesReferenceSpec)

/-- 'dialtonelaw27.FlowFailuresMatchReference', WHERE WHAT IT READS IS OF BULK AT MOST 1048576: true; the input reads as it did. -/
def flowFailuresMatchReferenceUptoRow : OpenClaim := { program := "ytgkmodjcoedonaa", sum := "ad9f8dbe07c81e609d5f908181b294d3ad6e6fc1e41d1515a80e864b946ba4ba", func := "dialtone/dialtonelaw27.FlowFailuresMatchReference", spec := "flowFailuresMatchReference", unfollowed := true, recurses := true, apart := false, narrowed := true }
def FlowFailuresMatchReferenceUptoSaid : Prop := flowFailuresMatchReferenceUptoRow.holds Try.pinned (OpenSpec.upto flowFailuresMatchReferenceSpec)

/-- 'dialtonelaw27.FlowCuts', WHERE WHAT IT READS IS OF BULK AT MOST 1048576: true; the input reads as it did. -/
def flowCutsUptoRow : OpenClaim := { program := "ytgkmodjcoedonaa", sum := "ad9f8dbe07c81e609d5f908181b294d3ad6e6fc1e41d1515a80e864b946ba4ba", func := "dialtone/dialtonelaw27.FlowCuts", spec := "flowCuts", unfollowed := true, recurses := true, apart := false, narrowed := true }
def FlowCutsUptoSaid : Prop := flowCutsUptoRow.holds Try.pinned (OpenSpec.upto flowCutsSpec)

/-- 'dialtonelaw27.FlowLeast', WHERE WHAT IT READS IS OF BULK AT MOST 1048576: true; the input reads as it did. -/
def flowLeastUptoRow : OpenClaim := { program := "ytgkmodjcoedonaa", sum := "ad9f8dbe07c81e609d5f908181b294d3ad6e6fc1e41d1515a80e864b946ba4ba", func := "dialtone/dialtonelaw27.FlowLeast", spec := "flowLeast", unfollowed := true, recurses := true, apart := false, narrowed := true }
def FlowLeastUptoSaid : Prop := flowLeastUptoRow.holds Try.pinned (OpenSpec.upto flowLeastSpec)

/-- 'dialtonelaw27.FlowWorst', WHERE WHAT IT READS IS OF BULK AT MOST 1048576: true; the input reads as it did. -/
def flowWorstUptoRow : OpenClaim := { program := "ytgkmodjcoedonaa", sum := "ad9f8dbe07c81e609d5f908181b294d3ad6e6fc1e41d1515a80e864b946ba4ba", func := "dialtone/dialtonelaw27.FlowWorst", spec := "flowWorst", unfollowed := true, recurses := true, apart := false, narrowed := true }
def FlowWorstUptoSaid : Prop := flowWorstUptoRow.holds Try.pinned (OpenSpec.upto flowWorstSpec)

/-- 'dialtonelaw27.FlowFails', WHERE WHAT IT READS IS OF BULK AT MOST 1048576: true; the input reads as it did. -/
def flowFailsUptoRow : OpenClaim := { program := "ytgkmodjcoedonaa", sum := "ad9f8dbe07c81e609d5f908181b294d3ad6e6fc1e41d1515a80e864b946ba4ba", func := "dialtone/dialtonelaw27.FlowFails", spec := "flowFails", unfollowed := true, recurses := true, apart := false, narrowed := true }
def FlowFailsUptoSaid : Prop := flowFailsUptoRow.holds Try.pinned (OpenSpec.upto flowFailsSpec)

/-- 'dialtonelaw27.FlowMeets', WHERE WHAT IT READS IS OF BULK AT MOST 1048576: true; the input reads as it did. -/
def flowMeetsUptoRow : OpenClaim := { program := "ytgkmodjcoedonaa", sum := "ad9f8dbe07c81e609d5f908181b294d3ad6e6fc1e41d1515a80e864b946ba4ba", func := "dialtone/dialtonelaw27.FlowMeets", spec := "flowMeets", unfollowed := true, recurses := true, apart := false, narrowed := true }
def FlowMeetsUptoSaid : Prop := flowMeetsUptoRow.holds Try.pinned (OpenSpec.upto flowMeetsSpec)

/-- 'dialtonelaw27.FlowSource', WHERE WHAT IT READS IS OF BULK AT MOST 1048576: true; the input reads as it did. -/
def flowSourceUptoRow : OpenClaim := { program := "ytgkmodjcoedonaa", sum := "ad9f8dbe07c81e609d5f908181b294d3ad6e6fc1e41d1515a80e864b946ba4ba", func := "dialtone/dialtonelaw27.FlowSource", spec := "flowSource", unfollowed := true, recurses := true, apart := false, narrowed := true }
def FlowSourceUptoSaid : Prop := flowSourceUptoRow.holds Try.pinned (OpenSpec.upto flowSourceSpec)

/-- 'dialtonelaw27.FlowScales', WHERE WHAT IT READS IS OF BULK AT MOST 1048576: true; the input reads as it did. -/
def flowScalesUptoRow : OpenClaim := { program := "ytgkmodjcoedonaa", sum := "ad9f8dbe07c81e609d5f908181b294d3ad6e6fc1e41d1515a80e864b946ba4ba", func := "dialtone/dialtonelaw27.FlowScales", spec := "flowScales", unfollowed := true, recurses := true, apart := false, narrowed := true }
def FlowScalesUptoSaid : Prop := flowScalesUptoRow.holds Try.pinned (OpenSpec.upto flowScalesSpec)

/-- 'dialtonelaw27.FlowTurns', WHERE WHAT IT READS IS OF BULK AT MOST 1048576: true; the input reads as it did. -/
def flowTurnsUptoRow : OpenClaim := { program := "ytgkmodjcoedonaa", sum := "ad9f8dbe07c81e609d5f908181b294d3ad6e6fc1e41d1515a80e864b946ba4ba", func := "dialtone/dialtonelaw27.FlowTurns", spec := "flowTurns", unfollowed := true, recurses := true, apart := false, narrowed := true }
def FlowTurnsUptoSaid : Prop := flowTurnsUptoRow.holds Try.pinned (OpenSpec.upto flowTurnsSpec)

/-- 'dialtonelaw27.FlowThrough', WHERE WHAT IT READS IS OF BULK AT MOST 1048576: true; the input reads as it did. -/
def flowThroughUptoRow : OpenClaim := { program := "ytgkmodjcoedonaa", sum := "ad9f8dbe07c81e609d5f908181b294d3ad6e6fc1e41d1515a80e864b946ba4ba", func := "dialtone/dialtonelaw27.FlowThrough", spec := "flowThrough", unfollowed := true, recurses := true, apart := false, narrowed := true }
def FlowThroughUptoSaid : Prop := flowThroughUptoRow.holds Try.pinned (OpenSpec.upto flowThroughSpec)

end Rows
end Go.Proofs.Ytgkmodjcoedonaa
