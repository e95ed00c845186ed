/-
  No cell of these rows narrows 'for every input' (looked for: loops, veiled, ifaces, maps, wideKeys, modest, calm, conditions, laid).
  DERIVED. THE GIVEN ROWS OF THIS SEAT. 10 by the template 'for every input the law returns true; each argument reads behind the call as it read before'; 0 by the template 'total and deterministic' (their statements: YtcidmnpihffphaaTotals.lean).
  GIVEN WITH THE SEED: the statements are not yours to turn. If you find one false, say at which input.
  Laid BY PROGRAM, IN A SANDBOX (cutbox-rows.mjs): the forced cells as the released guide's own fill.sh prints them over the translation 108a2a44433e9288… (all of the seat's roots in one cut). By AI agents, Wed Nov 11 2026. No macro, syntax, notation, axiom, sorry.
-/
import Derived.Test.YtcidmnpihffphaaChecked
import GoSem.Claim
import GoSem.ClaimJoined
import GoSem.ClaimMapViews
import Derived.JoinedTies
import Derived.KernelRfl
namespace Go.Proofs.Ytcidmnpihffphaa
/- THE CELL 'sum', in the pinned program and in every row, IS THE sha256 OF THE DUMP (.gsa) THAT YtcidmnpihffphaaProg.lean LOADS. Nothing in Lean hashes anything: it is a label: what it is worth is what the hold of that sum in a sandbox is worth. -/
noncomputable def Try.pinned : Pinned := { name := "ytcidmnpihffphaa", sum := "108a2a44433e9288f0dc5461958e3494a4c8cd5cb4117b8f0b69fb54caf517d5", checked := Try.checked }
namespace Rows
def none {H : Type} : Left H := { results := [], args := [] }

/-- 'dialtonelaw34.RecoveryMatchesReference': WHATEVER THE INPUT: true; the input reads as it did. -/
def recoveryMatchesReferenceSpec : ChangeSpec := { name := "recoveryMatchesReference", fn := fun _ => fun
  | [d1, d2, d3, d4, d5, d6] => { results := [.lit (.bool true)], args := [d1, d2, d3, d4, d5, d6] }
  | _ => none }
def recoveryMatchesReferenceRow : OpenClaim := { program := "ytcidmnpihffphaa", sum := "108a2a44433e9288f0dc5461958e3494a4c8cd5cb4117b8f0b69fb54caf517d5", func := "dialtone/dialtonelaw34.RecoveryMatchesReference", spec := "recoveryMatchesReference", unfollowed := true, recurses := true, apart := false }
def RecoveryMatchesReferenceSaid : Prop := recoveryMatchesReferenceRow.holds Try.pinned (OpenSpec.ofChange recoveryMatchesReferenceSpec)

/-- ITS FALSE NEIGHBOUR: 'it returns false'. Refute it at one input. -/
def recoveryMatchesReferenceWrong : ChangeSpec := { name := "recoveryMatchesReference", fn := fun _ => fun
  | [d1, d2, d3, d4, d5, d6] => { results := [.lit (.bool false)], args := [d1, d2, d3, d4, d5, d6] }
  | _ => none }
def RecoveryMatchesReferenceWrongFalsely : Prop := recoveryMatchesReferenceRow.holds Try.pinned (OpenSpec.ofChange recoveryMatchesReferenceWrong)

/-- 'dialtonelaw34.RecoveryWithin': WHATEVER THE INPUT: true; the input reads as it did. -/
def recoveryWithinSpec : ChangeSpec := { name := "recoveryWithin", fn := fun _ => fun
  | [d1, d2, d3, d4] => { results := [.lit (.bool true)], args := [d1, d2, d3, d4] }
  | _ => none }
def recoveryWithinRow : OpenClaim := { program := "ytcidmnpihffphaa", sum := "108a2a44433e9288f0dc5461958e3494a4c8cd5cb4117b8f0b69fb54caf517d5", func := "dialtone/dialtonelaw34.RecoveryWithin", spec := "recoveryWithin", unfollowed := true, recurses := true, apart := false }
def RecoveryWithinSaid : Prop := recoveryWithinRow.holds Try.pinned (OpenSpec.ofChange recoveryWithinSpec)

/-- ITS FALSE NEIGHBOUR: 'it returns false'. Refute it at one input. -/
def recoveryWithinWrong : ChangeSpec := { name := "recoveryWithin", fn := fun _ => fun
  | [d1, d2, d3, d4] => { results := [.lit (.bool false)], args := [d1, d2, d3, d4] }
  | _ => none }
def RecoveryWithinWrongFalsely : Prop := recoveryWithinRow.holds Try.pinned (OpenSpec.ofChange recoveryWithinWrong)

/-- 'dialtonelaw34.RecoveryEarliest': WHATEVER THE INPUT: true; the input reads as it did. -/
def recoveryEarliestSpec : ChangeSpec := { name := "recoveryEarliest", fn := fun _ => fun
  | [d1, d2, d3, d4, d5, d6] => { results := [.lit (.bool true)], args := [d1, d2, d3, d4, d5, d6] }
  | _ => none }
def recoveryEarliestRow : OpenClaim := { program := "ytcidmnpihffphaa", sum := "108a2a44433e9288f0dc5461958e3494a4c8cd5cb4117b8f0b69fb54caf517d5", func := "dialtone/dialtonelaw34.RecoveryEarliest", spec := "recoveryEarliest", unfollowed := true, recurses := true, apart := false }
def RecoveryEarliestSaid : Prop := recoveryEarliestRow.holds Try.pinned (OpenSpec.ofChange recoveryEarliestSpec)

/-- ITS FALSE NEIGHBOUR: 'it returns false'. Refute it at one input. -/
def recoveryEarliestWrong : ChangeSpec := { name := "recoveryEarliest", fn := fun _ => fun
  | [d1, d2, d3, d4, d5, d6] => { results := [.lit (.bool false)], args := [d1, d2, d3, d4, d5, d6] }
  | _ => none }
def RecoveryEarliestWrongFalsely : Prop := recoveryEarliestRow.holds Try.pinned (OpenSpec.ofChange recoveryEarliestWrong)

/-- 'dialtonelaw34.RecoveryFair': WHATEVER THE INPUT: true; the input reads as it did. -/
def recoveryFairSpec : ChangeSpec := { name := "recoveryFair", fn := fun _ => fun
  | [d1, d2, d3] => { results := [.lit (.bool true)], args := [d1, d2, d3] }
  | _ => none }
def recoveryFairRow : OpenClaim := { program := "ytcidmnpihffphaa", sum := "108a2a44433e9288f0dc5461958e3494a4c8cd5cb4117b8f0b69fb54caf517d5", func := "dialtone/dialtonelaw34.RecoveryFair", spec := "recoveryFair", unfollowed := true, recurses := true, apart := false }
def RecoveryFairSaid : Prop := recoveryFairRow.holds Try.pinned (OpenSpec.ofChange recoveryFairSpec)

/-- ITS FALSE NEIGHBOUR: 'it returns false'. Refute it at one input. -/
def recoveryFairWrong : ChangeSpec := { name := "recoveryFair", fn := fun _ => fun
  | [d1, d2, d3] => { results := [.lit (.bool false)], args := [d1, d2, d3] }
  | _ => none }
def RecoveryFairWrongFalsely : Prop := recoveryFairRow.holds Try.pinned (OpenSpec.ofChange recoveryFairWrong)

/-- 'dialtonelaw34.RecoveryLoads': WHATEVER THE INPUT: true; the input reads as it did. -/
def recoveryLoadsSpec : ChangeSpec := { name := "recoveryLoads", fn := fun _ => fun
  | [d1, d2, d3] => { results := [.lit (.bool true)], args := [d1, d2, d3] }
  | _ => none }
def recoveryLoadsRow : OpenClaim := { program := "ytcidmnpihffphaa", sum := "108a2a44433e9288f0dc5461958e3494a4c8cd5cb4117b8f0b69fb54caf517d5", func := "dialtone/dialtonelaw34.RecoveryLoads", spec := "recoveryLoads", unfollowed := true, recurses := true, apart := false }
def RecoveryLoadsSaid : Prop := recoveryLoadsRow.holds Try.pinned (OpenSpec.ofChange recoveryLoadsSpec)

/-- ITS FALSE NEIGHBOUR: 'it returns false'. Refute it at one input. -/
def recoveryLoadsWrong : ChangeSpec := { name := "recoveryLoads", fn := fun _ => fun
  | [d1, d2, d3] => { results := [.lit (.bool false)], args := [d1, d2, d3] }
  | _ => none }
def RecoveryLoadsWrongFalsely : Prop := recoveryLoadsRow.holds Try.pinned (OpenSpec.ofChange recoveryLoadsWrong)

/-- 'dialtonelaw34.RecoveryLast': WHATEVER THE INPUT: true; the input reads as it did. -/
def recoveryLastSpec : ChangeSpec := { name := "recoveryLast", fn := fun _ => fun
  | [d1, d2, d3] => { results := [.lit (.bool true)], args := [d1, d2, d3] }
  | _ => none }
def recoveryLastRow : OpenClaim := { program := "ytcidmnpihffphaa", sum := "108a2a44433e9288f0dc5461958e3494a4c8cd5cb4117b8f0b69fb54caf517d5", func := "dialtone/dialtonelaw34.RecoveryLast", spec := "recoveryLast", unfollowed := true, recurses := true, apart := false }
def RecoveryLastSaid : Prop := recoveryLastRow.holds Try.pinned (OpenSpec.ofChange recoveryLastSpec)

/-- ITS FALSE NEIGHBOUR: 'it returns false'. Refute it at one input. -/
def recoveryLastWrong : ChangeSpec := { name := "recoveryLast", fn := fun _ => fun
  | [d1, d2, d3] => { results := [.lit (.bool false)], args := [d1, d2, d3] }
  | _ => none }
def RecoveryLastWrongFalsely : Prop := recoveryLastRow.holds Try.pinned (OpenSpec.ofChange recoveryLastWrong)

/-- 'dialtonelaw34.RecoveryGrows': WHATEVER THE INPUT: true; the input reads as it did. -/
def recoveryGrowsSpec : ChangeSpec := { name := "recoveryGrows", fn := fun _ => fun
  | [d1, d2, d3, d4, d5, d6] => { results := [.lit (.bool true)], args := [d1, d2, d3, d4, d5, d6] }
  | _ => none }
def recoveryGrowsRow : OpenClaim := { program := "ytcidmnpihffphaa", sum := "108a2a44433e9288f0dc5461958e3494a4c8cd5cb4117b8f0b69fb54caf517d5", func := "dialtone/dialtonelaw34.RecoveryGrows", spec := "recoveryGrows", unfollowed := true, recurses := true, apart := false }
def RecoveryGrowsSaid : Prop := recoveryGrowsRow.holds Try.pinned (OpenSpec.ofChange recoveryGrowsSpec)

/-- ITS FALSE NEIGHBOUR: 'it returns false'. Refute it at one input. -/
def recoveryGrowsWrong : ChangeSpec := { name := "recoveryGrows", fn := fun _ => fun
  | [d1, d2, d3, d4, d5, d6] => { results := [.lit (.bool false)], args := [d1, d2, d3, d4, d5, d6] }
  | _ => none }
def RecoveryGrowsWrongFalsely : Prop := recoveryGrowsRow.holds Try.pinned (OpenSpec.ofChange recoveryGrowsWrong)

/-- 'dialtonelaw34.RecoveryUrgent': WHATEVER THE INPUT: true; the input reads as it did. -/
def recoveryUrgentSpec : ChangeSpec := { name := "recoveryUrgent", fn := fun _ => fun
  | [d1, d2, d3, d4] => { results := [.lit (.bool true)], args := [d1, d2, d3, d4] }
  | _ => none }
def recoveryUrgentRow : OpenClaim := { program := "ytcidmnpihffphaa", sum := "108a2a44433e9288f0dc5461958e3494a4c8cd5cb4117b8f0b69fb54caf517d5", func := "dialtone/dialtonelaw34.RecoveryUrgent", spec := "recoveryUrgent", unfollowed := true, recurses := true, apart := false }
def RecoveryUrgentSaid : Prop := recoveryUrgentRow.holds Try.pinned (OpenSpec.ofChange recoveryUrgentSpec)

/-- ITS FALSE NEIGHBOUR: 'it returns false'. Refute it at one input. -/
def recoveryUrgentWrong : ChangeSpec := { name := "recoveryUrgent", fn := fun _ => fun
  | [d1, d2, d3, d4] => { results := [.lit (.bool false)], args := [d1, d2, d3, d4] }
  | _ => none }
def RecoveryUrgentWrongFalsely : Prop := recoveryUrgentRow.holds Try.pinned (OpenSpec.ofChange recoveryUrgentWrong)

/-- 'dialtonelaw34.RecoveryStorms': WHATEVER THE INPUT: true; the input reads as it did. -/
def recoveryStormsSpec : ChangeSpec := { name := "recoveryStorms", fn := fun _ => fun
  | [d1, d2, d3, d4, d5] => { results := [.lit (.bool true)], args := [d1, d2, d3, d4, d5] }
  | _ => none }
def recoveryStormsRow : OpenClaim := { program := "ytcidmnpihffphaa", sum := "108a2a44433e9288f0dc5461958e3494a4c8cd5cb4117b8f0b69fb54caf517d5", func := "dialtone/dialtonelaw34.RecoveryStorms", spec := "recoveryStorms", unfollowed := true, recurses := true, apart := false }
def RecoveryStormsSaid : Prop := recoveryStormsRow.holds Try.pinned (OpenSpec.ofChange recoveryStormsSpec)

/-- ITS FALSE NEIGHBOUR: 'it returns false'. Refute it at one input. -/
def recoveryStormsWrong : ChangeSpec := { name := "recoveryStorms", fn := fun _ => fun
  | [d1, d2, d3, d4, d5] => { results := [.lit (.bool false)], args := [d1, d2, d3, d4, d5] }
  | _ => none }
def RecoveryStormsWrongFalsely : Prop := recoveryStormsRow.holds Try.pinned (OpenSpec.ofChange recoveryStormsWrong)

/-- 'dialtonelaw34.RecoveryChecks': WHATEVER THE INPUT: true; the input reads as it did. -/
def recoveryChecksSpec : ChangeSpec := { name := "recoveryChecks", fn := fun _ => fun
  | [d1, d2, d3, d4, d5, d6, d7] => { results := [.lit (.bool true)], args := [d1, d2, d3, d4, d5, d6, d7] }
  | _ => none }
def recoveryChecksRow : OpenClaim := { program := "ytcidmnpihffphaa", sum := "108a2a44433e9288f0dc5461958e3494a4c8cd5cb4117b8f0b69fb54caf517d5", func := "dialtone/dialtonelaw34.RecoveryChecks", spec := "recoveryChecks", unfollowed := true, recurses := true, apart := false }
def RecoveryChecksSaid : Prop := recoveryChecksRow.holds Try.pinned (OpenSpec.ofChange recoveryChecksSpec)

/-- ITS FALSE NEIGHBOUR: 'it returns false'. Refute it at one input. -/
def recoveryChecksWrong : ChangeSpec := { name := "recoveryChecks", fn := fun _ => fun
  | [d1, d2, d3, d4, d5, d6, d7] => { results := [.lit (.bool false)], args := [d1, d2, d3, d4, d5, d6, d7] }
  | _ => none }
def RecoveryChecksWrongFalsely : Prop := recoveryChecksRow.holds Try.pinned (OpenSpec.ofChange recoveryChecksWrong)

/- THE SECOND FORM. 'bulk': how many values and letters a reading holds, each counted each time it is reached (what is shared counts as often as it is met; a slice's spare places count too). A statement '..UptoSaid' is the law's where the arguments, and the package variables that the reading takes, are together of bulk at most 1048576: NARROWER than '..Said'. Prove '..Said' where nothing that the law and all that it calls make is longer than what came in: it says more and counts as full. Else prove '..UptoSaid'. A law counts once. -/
mutual
def uptoBulk {H : Type} : DataW H → Nat
  | .lit (.string bytes) => bytes.length + 1
  | .lit _ => 1
  | .nil => 1
  | .ptr d => uptoBulk d + 1
  | .slice elems spare => uptoBulkAll elems + uptoBulkAll spare + 1
  | .agg parts => uptoBulkAll parts + 1
  | .iface _ d => uptoBulk d + 1
  | .map entries => uptoBulkEntries entries + 1
  | .held _ => 1
def uptoBulkAll {H : Type} : List (DataW H) → Nat
  | [] => 0
  | d :: r => uptoBulk d + uptoBulkAll r
def uptoBulkEntries {H : Type} : List (Lit × DataW H) → Nat
  | [] => 0
  | x :: r => uptoBulkEntry x + uptoBulkEntries r
def uptoBulkEntry {H : Type} : Lit × DataW H → Nat
  | (.string bytes, d) => bytes.length + uptoBulk d + 1
  | (_, d) => uptoBulk d + 1
 end
def uptoSmall : (H : Type) → List (DataW H) → Bool := fun _ ds => decide (uptoBulkAll ds ≤ 1048576)
def OpenSpec.upto (s : _root_.Go.ChangeSpec) : _root_.Go.OpenSpec := { _root_.Go.OpenSpec.ofChange s with cond := some uptoSmall }

/-- 'dialtonelaw34.RecoveryMatchesReference', WHERE WHAT IT READS IS OF BULK AT MOST 1048576: true; the input reads as it did. -/
def recoveryMatchesReferenceUptoRow : OpenClaim := { program := "ytcidmnpihffphaa", sum := "108a2a44433e9288f0dc5461958e3494a4c8cd5cb4117b8f0b69fb54caf517d5", func := "dialtone/dialtonelaw34.RecoveryMatchesReference", spec := "recoveryMatchesReference", unfollowed := true, recurses := true, apart := false, narrowed := true }
def RecoveryMatchesReferenceUptoSaid : Prop := recoveryMatchesReferenceUptoRow.holds Try.pinned (OpenSpec.upto recoveryMatchesReferenceSpec)

/-- 'dialtonelaw34.RecoveryWithin', WHERE WHAT IT READS IS OF BULK AT MOST 1048576: true; the input reads as it did. -/
def recoveryWithinUptoRow : OpenClaim := { program := "ytcidmnpihffphaa", sum := "108a2a44433e9288f0dc5461958e3494a4c8cd5cb4117b8f0b69fb54caf517d5", func := "dialtone/dialtonelaw34.RecoveryWithin", spec := "recoveryWithin", unfollowed := true, recurses := true, apart := false, narrowed := true }
def RecoveryWithinUptoSaid : Prop := recoveryWithinUptoRow.holds Try.pinned (OpenSpec.upto recoveryWithinSpec)

/-- 'dialtonelaw34.RecoveryEarliest', WHERE WHAT IT READS IS OF BULK AT MOST 1048576: true; the input reads as it did. -/
def recoveryEarliestUptoRow : OpenClaim := { program := "ytcidmnpihffphaa", sum := "108a2a44433e9288f0dc5461958e3494a4c8cd5cb4117b8f0b69fb54caf517d5", func := "dialtone/dialtonelaw34.RecoveryEarliest", spec := "recoveryEarliest", unfollowed := true, recurses := true, apart := false, narrowed := true }
def RecoveryEarliestUptoSaid : Prop := recoveryEarliestUptoRow.holds Try.pinned (OpenSpec.upto recoveryEarliestSpec)

/-- 'dialtonelaw34.RecoveryFair', WHERE WHAT IT READS IS OF BULK AT MOST 1048576: true; the input reads as it did. -/
def recoveryFairUptoRow : OpenClaim := { program := "ytcidmnpihffphaa", sum := "108a2a44433e9288f0dc5461958e3494a4c8cd5cb4117b8f0b69fb54caf517d5", func := "dialtone/dialtonelaw34.RecoveryFair", spec := "recoveryFair", unfollowed := true, recurses := true, apart := false, narrowed := true }
def RecoveryFairUptoSaid : Prop := recoveryFairUptoRow.holds Try.pinned (OpenSpec.upto recoveryFairSpec)

/-- 'dialtonelaw34.RecoveryLoads', WHERE WHAT IT READS IS OF BULK AT MOST 1048576: true; the input reads as it did. -/
def recoveryLoadsUptoRow : OpenClaim := { program := "ytcidmnpihffphaa", sum := "108a2a44433e9288f0dc5461958e3494a4c8cd5cb4117b8f0b69fb54caf517d5", func := "dialtone/dialtonelaw34.RecoveryLoads", spec := "recoveryLoads", unfollowed := true, recurses := true, apart := false, narrowed := true }
def RecoveryLoadsUptoSaid : Prop := recoveryLoadsUptoRow.holds Try.pinned (OpenSpec.upto recoveryLoadsSpec)

/-- 'dialtonelaw34.RecoveryLast', WHERE WHAT IT READS IS OF BULK AT MOST 1048576: true; the input reads as it did. -/
def recoveryLastUptoRow : OpenClaim := { program := "ytcidmnpihffphaa", sum := "108a2a44433e9288f0dc5461958e3494a4c8cd5cb4117b8f0b69fb54caf517d5", func := "dialtone/dialtonelaw34.RecoveryLast", spec := "recoveryLast", unfollowed := true, recurses := true, apart := false, narrowed := true }
def RecoveryLastUptoSaid : Prop := recoveryLastUptoRow.holds Try.pinned (OpenSpec.upto recoveryLastSpec)

/-- 'dialtonelaw34.RecoveryGrows', WHERE WHAT IT READS IS OF BULK AT MOST 1048576: true; the input reads as it did. -/
def recoveryGrowsUptoRow : OpenClaim := { program := "ytcidmnpihffphaa", sum := "108a2a44433e9288f0dc5461958e3494a4c8cd5cb4117b8f0b69fb54caf517d5", func := "dialtone/dialtonelaw34.RecoveryGrows", spec := "recoveryGrows", unfollowed := true, recurses := true, apart := false, narrowed := true }
def RecoveryGrowsUptoSaid : Prop := recoveryGrowsUptoRow.holds Try.pinned (OpenSpec.upto recoveryGrowsSpec)

/-- 'dialtonelaw34.RecoveryUrgent', WHERE WHAT IT READS IS OF BULK AT MOST 1048576: true; the input reads as it did. -/
def recoveryUrgentUptoRow : OpenClaim := { program := "ytcidmnpihffphaa", sum := "108a2a44433e9288f0dc5461958e3494a4c8cd5cb4117b8f0b69fb54caf517d5", func := "dialtone/dialtonelaw34.RecoveryUrgent", spec := "recoveryUrgent", unfollowed := true, recurses := true, apart := false, narrowed := true }
def RecoveryUrgentUptoSaid : Prop := recoveryUrgentUptoRow.holds Try.pinned (OpenSpec.upto recoveryUrgentSpec)

/-- 'dialtonelaw34.RecoveryStorms', WHERE WHAT IT READS IS OF BULK AT MOST 1048576: true; the input reads as it did. -/
def recoveryStormsUptoRow : OpenClaim := { program := "ytcidmnpihffphaa", sum := "108a2a44433e9288f0dc5461958e3494a4c8cd5cb4117b8f0b69fb54caf517d5", func := "dialtone/dialtonelaw34.RecoveryStorms", spec := "recoveryStorms", unfollowed := true, recurses := true, apart := false, narrowed := true }
def RecoveryStormsUptoSaid : Prop := recoveryStormsUptoRow.holds Try.pinned (OpenSpec.upto recoveryStormsSpec)

/-- 'dialtonelaw34.RecoveryChecks', WHERE WHAT IT READS IS OF BULK AT MOST 1048576: true; the input reads as it did. -/
def recoveryChecksUptoRow : OpenClaim := { program := "ytcidmnpihffphaa", sum := "108a2a44433e9288f0dc5461958e3494a4c8cd5cb4117b8f0b69fb54caf517d5", func := "dialtone/dialtonelaw34.RecoveryChecks", spec := "recoveryChecks", unfollowed := true, recurses := true, apart := false, narrowed := true }
def RecoveryChecksUptoSaid : Prop := recoveryChecksUptoRow.holds Try.pinned (OpenSpec.upto recoveryChecksSpec)

end Rows
end Go.Proofs.Ytcidmnpihffphaa
