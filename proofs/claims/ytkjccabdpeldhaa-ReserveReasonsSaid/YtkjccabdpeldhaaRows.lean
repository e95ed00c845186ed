/-
  No cell of these rows narrows 'for every input' (looked for: loops, veiled, ifaces, maps, wideKeys, modest, calm, conditions, laid).
  DERIVED. THE GIVEN ROWS OF THIS SEAT. 8 by the template 'for every input the law returns true; each argument reads behind the call as it read before'; 0 by the template 'total and deterministic' (their statements: YtkjccabdpeldhaaTotals.lean).
  GIVEN WITH THE SEED: the statements are not yours to turn. If you find one false, say at which input.
  Laid BY PROGRAM, IN A SANDBOX (cutbox-rows.mjs): the forced cells as the released guide's own fill.sh prints them over the translation 18bc6d9ca2c73a33… (all of the seat's roots in one cut). By AI agents, Wed Nov 11 2026. No macro, syntax, notation, axiom, sorry.
-/
import Derived.Test.YtkjccabdpeldhaaChecked
import GoSem.Claim
import GoSem.ClaimJoined
import GoSem.ClaimMapViews
import Derived.JoinedTies
import Derived.KernelRfl
namespace Go.Proofs.Ytkjccabdpeldhaa
/- THE CELL 'sum', in the pinned program and in every row, IS THE sha256 OF THE DUMP (.gsa) THAT YtkjccabdpeldhaaProg.lean LOADS. Nothing in Lean hashes anything: it is a label: what it is worth is what the hold of that sum in a sandbox is worth. -/
noncomputable def Try.pinned : Pinned := { name := "ytkjccabdpeldhaa", sum := "18bc6d9ca2c73a33f5580179d5bd157b0b51ba5f349cc1524b2c51625e490375", checked := Try.checked }
namespace Rows
def none {H : Type} : Left H := { results := [], args := [] }

/-- 'dialtonelaw33.ReserveAdmits': WHATEVER THE INPUT: true; the input reads as it did. -/
def reserveAdmitsSpec : ChangeSpec := { name := "reserveAdmits", fn := fun _ => fun
  | [d1, d2, d3, d4] => { results := [.lit (.bool true)], args := [d1, d2, d3, d4] }
  | _ => none }
def reserveAdmitsRow : OpenClaim := { program := "ytkjccabdpeldhaa", sum := "18bc6d9ca2c73a33f5580179d5bd157b0b51ba5f349cc1524b2c51625e490375", func := "dialtone/dialtonelaw33.ReserveAdmits", spec := "reserveAdmits", unfollowed := true, recurses := true, apart := false }
def ReserveAdmitsSaid : Prop := reserveAdmitsRow.holds Try.pinned (OpenSpec.ofChange reserveAdmitsSpec)

/-- ITS FALSE NEIGHBOUR: 'it returns false'. Refute it at one input. -/
def reserveAdmitsWrong : ChangeSpec := { name := "reserveAdmits", fn := fun _ => fun
  | [d1, d2, d3, d4] => { results := [.lit (.bool false)], args := [d1, d2, d3, d4] }
  | _ => none }
def ReserveAdmitsWrongFalsely : Prop := reserveAdmitsRow.holds Try.pinned (OpenSpec.ofChange reserveAdmitsWrong)

/-- 'dialtonelaw33.ReserveSlack': WHATEVER THE INPUT: true; the input reads as it did. -/
def reserveSlackSpec : ChangeSpec := { name := "reserveSlack", fn := fun _ => fun
  | [d1, d2, d3] => { results := [.lit (.bool true)], args := [d1, d2, d3] }
  | _ => none }
def reserveSlackRow : OpenClaim := { program := "ytkjccabdpeldhaa", sum := "18bc6d9ca2c73a33f5580179d5bd157b0b51ba5f349cc1524b2c51625e490375", func := "dialtone/dialtonelaw33.ReserveSlack", spec := "reserveSlack", unfollowed := true, recurses := true, apart := false }
def ReserveSlackSaid : Prop := reserveSlackRow.holds Try.pinned (OpenSpec.ofChange reserveSlackSpec)

/-- ITS FALSE NEIGHBOUR: 'it returns false'. Refute it at one input. -/
def reserveSlackWrong : ChangeSpec := { name := "reserveSlack", fn := fun _ => fun
  | [d1, d2, d3] => { results := [.lit (.bool false)], args := [d1, d2, d3] }
  | _ => none }
def ReserveSlackWrongFalsely : Prop := reserveSlackRow.holds Try.pinned (OpenSpec.ofChange reserveSlackWrong)

/-- 'dialtonelaw33.ReserveLess': WHATEVER THE INPUT: true; the input reads as it did. -/
def reserveLessSpec : ChangeSpec := { name := "reserveLess", fn := fun _ => fun
  | [d1, d2, d3, d4, d5] => { results := [.lit (.bool true)], args := [d1, d2, d3, d4, d5] }
  | _ => none }
def reserveLessRow : OpenClaim := { program := "ytkjccabdpeldhaa", sum := "18bc6d9ca2c73a33f5580179d5bd157b0b51ba5f349cc1524b2c51625e490375", func := "dialtone/dialtonelaw33.ReserveLess", spec := "reserveLess", unfollowed := true, recurses := true, apart := false }
def ReserveLessSaid : Prop := reserveLessRow.holds Try.pinned (OpenSpec.ofChange reserveLessSpec)

/-- ITS FALSE NEIGHBOUR: 'it returns false'. Refute it at one input. -/
def reserveLessWrong : ChangeSpec := { name := "reserveLess", fn := fun _ => fun
  | [d1, d2, d3, d4, d5] => { results := [.lit (.bool false)], args := [d1, d2, d3, d4, d5] }
  | _ => none }
def ReserveLessWrongFalsely : Prop := reserveLessRow.holds Try.pinned (OpenSpec.ofChange reserveLessWrong)

/-- 'dialtonelaw33.ReserveOrder': WHATEVER THE INPUT: true; the input reads as it did. -/
def reserveOrderSpec : ChangeSpec := { name := "reserveOrder", fn := fun _ => fun
  | [d1, d2] => { results := [.lit (.bool true)], args := [d1, d2] }
  | _ => none }
def reserveOrderRow : OpenClaim := { program := "ytkjccabdpeldhaa", sum := "18bc6d9ca2c73a33f5580179d5bd157b0b51ba5f349cc1524b2c51625e490375", func := "dialtone/dialtonelaw33.ReserveOrder", spec := "reserveOrder", unfollowed := true, recurses := true, apart := false }
def ReserveOrderSaid : Prop := reserveOrderRow.holds Try.pinned (OpenSpec.ofChange reserveOrderSpec)

/-- ITS FALSE NEIGHBOUR: 'it returns false'. Refute it at one input. -/
def reserveOrderWrong : ChangeSpec := { name := "reserveOrder", fn := fun _ => fun
  | [d1, d2] => { results := [.lit (.bool false)], args := [d1, d2] }
  | _ => none }
def ReserveOrderWrongFalsely : Prop := reserveOrderRow.holds Try.pinned (OpenSpec.ofChange reserveOrderWrong)

/-- 'dialtonelaw33.ReserveScales': WHATEVER THE INPUT: true; the input reads as it did. -/
def reserveScalesSpec : ChangeSpec := { name := "reserveScales", fn := fun _ => fun
  | [d1, d2] => { results := [.lit (.bool true)], args := [d1, d2] }
  | _ => none }
def reserveScalesRow : OpenClaim := { program := "ytkjccabdpeldhaa", sum := "18bc6d9ca2c73a33f5580179d5bd157b0b51ba5f349cc1524b2c51625e490375", func := "dialtone/dialtonelaw33.ReserveScales", spec := "reserveScales", unfollowed := true, recurses := true, apart := false }
def ReserveScalesSaid : Prop := reserveScalesRow.holds Try.pinned (OpenSpec.ofChange reserveScalesSpec)

/-- ITS FALSE NEIGHBOUR: 'it returns false'. Refute it at one input. -/
def reserveScalesWrong : ChangeSpec := { name := "reserveScales", fn := fun _ => fun
  | [d1, d2] => { results := [.lit (.bool false)], args := [d1, d2] }
  | _ => none }
def ReserveScalesWrongFalsely : Prop := reserveScalesRow.holds Try.pinned (OpenSpec.ofChange reserveScalesWrong)

/-- 'dialtonelaw33.ReserveWorst': WHATEVER THE INPUT: true; the input reads as it did. -/
def reserveWorstSpec : ChangeSpec := { name := "reserveWorst", fn := fun _ => fun
  | [d1, d2, d3] => { results := [.lit (.bool true)], args := [d1, d2, d3] }
  | _ => none }
def reserveWorstRow : OpenClaim := { program := "ytkjccabdpeldhaa", sum := "18bc6d9ca2c73a33f5580179d5bd157b0b51ba5f349cc1524b2c51625e490375", func := "dialtone/dialtonelaw33.ReserveWorst", spec := "reserveWorst", unfollowed := true, recurses := true, apart := false }
def ReserveWorstSaid : Prop := reserveWorstRow.holds Try.pinned (OpenSpec.ofChange reserveWorstSpec)

/-- ITS FALSE NEIGHBOUR: 'it returns false'. Refute it at one input. -/
def reserveWorstWrong : ChangeSpec := { name := "reserveWorst", fn := fun _ => fun
  | [d1, d2, d3] => { results := [.lit (.bool false)], args := [d1, d2, d3] }
  | _ => none }
def ReserveWorstWrongFalsely : Prop := reserveWorstRow.holds Try.pinned (OpenSpec.ofChange reserveWorstWrong)

/-- 'dialtonelaw33.ReserveSuffices': WHATEVER THE INPUT: true; the input reads as it did. -/
def reserveSufficesSpec : ChangeSpec := { name := "reserveSuffices", fn := fun _ => fun
  | [d1, d2, d3] => { results := [.lit (.bool true)], args := [d1, d2, d3] }
  | _ => none }
def reserveSufficesRow : OpenClaim := { program := "ytkjccabdpeldhaa", sum := "18bc6d9ca2c73a33f5580179d5bd157b0b51ba5f349cc1524b2c51625e490375", func := "dialtone/dialtonelaw33.ReserveSuffices", spec := "reserveSuffices", unfollowed := true, recurses := true, apart := false }
def ReserveSufficesSaid : Prop := reserveSufficesRow.holds Try.pinned (OpenSpec.ofChange reserveSufficesSpec)

/-- ITS FALSE NEIGHBOUR: 'it returns false'. Refute it at one input. -/
def reserveSufficesWrong : ChangeSpec := { name := "reserveSuffices", fn := fun _ => fun
  | [d1, d2, d3] => { results := [.lit (.bool false)], args := [d1, d2, d3] }
  | _ => none }
def ReserveSufficesWrongFalsely : Prop := reserveSufficesRow.holds Try.pinned (OpenSpec.ofChange reserveSufficesWrong)

/-- 'dialtonelaw33.ReserveReasons': WHATEVER THE INPUT: true; the input reads as it did. -/
def reserveReasonsSpec : ChangeSpec := { name := "reserveReasons", fn := fun _ => fun
  | [d1, d2, d3, d4] => { results := [.lit (.bool true)], args := [d1, d2, d3, d4] }
  | _ => none }
def reserveReasonsRow : OpenClaim := { program := "ytkjccabdpeldhaa", sum := "18bc6d9ca2c73a33f5580179d5bd157b0b51ba5f349cc1524b2c51625e490375", func := "dialtone/dialtonelaw33.ReserveReasons", spec := "reserveReasons", unfollowed := true, recurses := true, apart := false }
def ReserveReasonsSaid : Prop := reserveReasonsRow.holds Try.pinned (OpenSpec.ofChange reserveReasonsSpec)

/-- ITS FALSE NEIGHBOUR: 'it returns false'. Refute it at one input. -/
def reserveReasonsWrong : ChangeSpec := { name := "reserveReasons", fn := fun _ => fun
  | [d1, d2, d3, d4] => { results := [.lit (.bool false)], args := [d1, d2, d3, d4] }
  | _ => none }
def ReserveReasonsWrongFalsely : Prop := reserveReasonsRow.holds Try.pinned (OpenSpec.ofChange reserveReasonsWrong)

/- THE SECOND FORM. 'bulk': how many values and letters a reading holds, each counted each time it is reached (what is shared counts as often as it is met; a slice's spare places count too). A statement '..UptoSaid' is the law's where the arguments, and the package variables that the reading takes, are together of bulk at most 1048576: NARROWER than '..Said'. Prove '..Said' where nothing that the law and all that it calls make is longer than what came in: it says more and counts as full. Else prove '..UptoSaid'. A law counts once. -/
mutual
def uptoBulk {H : Type} : DataW H → Nat
  | .lit (.string bytes) => bytes.length + 1
  | .lit _ => 1
  | .nil => 1
  | .ptr d => uptoBulk d + 1
  | .slice elems spare => uptoBulkAll elems + uptoBulkAll spare + 1
  | .agg parts => uptoBulkAll parts + 1
  | .iface _ d => uptoBulk d + 1
  | .map entries => uptoBulkEntries entries + 1
  | .held _ => 1
def uptoBulkAll {H : Type} : List (DataW H) → Nat
  | [] => 0
  | d :: r => uptoBulk d + uptoBulkAll r
def uptoBulkEntries {H : Type} : List (Lit × DataW H) → Nat
  | [] => 0
  | x :: r => uptoBulkEntry x + uptoBulkEntries r
def uptoBulkEntry {H : Type} : Lit × DataW H → Nat
  | (.string bytes, d) => bytes.length + uptoBulk d + 1
  | (_, d) => uptoBulk d + 1
 end
def uptoSmall : (H : Type) → List (DataW H) → Bool := fun _ ds => decide (uptoBulkAll ds ≤ 1048576)
def OpenSpec.upto (s : _root_.Go.ChangeSpec) : _root_.Go.OpenSpec := { _root_.Go.OpenSpec.ofChange s with cond := some uptoSmall }

/-- 'dialtonelaw33.ReserveAdmits', WHERE WHAT IT READS IS OF BULK AT MOST 1048576: true; the input reads as it did. -/
def reserveAdmitsUptoRow : OpenClaim := { program := "ytkjccabdpeldhaa", sum := "18bc6d9ca2c73a33f5580179d5bd157b0b51ba5f349cc1524b2c51625e490375", func := "dialtone/dialtonelaw33.ReserveAdmits", spec := "reserveAdmits", unfollowed := true, recurses := true, apart := false, narrowed := true }
def ReserveAdmitsUptoSaid : Prop := reserveAdmitsUptoRow.holds Try.pinned (OpenSpec.upto reserveAdmitsSpec)

/-- 'dialtonelaw33.ReserveSlack', WHERE WHAT IT READS IS OF BULK AT MOST 1048576: true; the input reads as it did. -/
def reserveSlackUptoRow : OpenClaim := { program := "ytkjccabdpeldhaa", sum := "18bc6d9ca2c73a33f5580179d5bd157b0b51ba5f349cc1524b2c51625e490375", func := "dialtone/dialtonelaw33.ReserveSlack", spec := "reserveSlack", unfollowed := true, recurses := true, apart := false, narrowed := true }
def ReserveSlackUptoSaid : Prop := reserveSlackUptoRow.holds Try.pinned (OpenSpec.upto reserveSlackSpec)

/-- 'dialtonelaw33.ReserveLess', WHERE WHAT IT READS IS OF BULK AT MOST 1048576: true; the input reads as it did. -/
def reserveLessUptoRow : OpenClaim := { program := "ytkjccabdpeldhaa", sum := "18bc6d9ca2c73a33f5580179d5bd157b0b51ba5f349cc1524b2c51625e490375", func := "dialtone/dialtonelaw33.ReserveLess", spec := "reserveLess", unfollowed := true, recurses := true, apart := false, narrowed := true }
def ReserveLessUptoSaid : Prop := reserveLessUptoRow.holds Try.pinned (OpenSpec.upto reserveLessSpec)

/-- 'dialtonelaw33.ReserveOrder', WHERE WHAT IT READS IS OF BULK AT MOST 1048576: true; the input reads as it did. -/
def reserveOrderUptoRow : OpenClaim := { program := "ytkjccabdpeldhaa", sum := "18bc6d9ca2c73a33f5580179d5bd157b0b51ba5f349cc1524b2c51625e490375", func := "dialtone/dialtonelaw33.ReserveOrder", spec := "reserveOrder", unfollowed := true, recurses := true, apart := false, narrowed := true }
def ReserveOrderUptoSaid : Prop := reserveOrderUptoRow.holds Try.pinned (OpenSpec.upto reserveOrderSpec)

/-- 'dialtonelaw33.ReserveScales', WHERE WHAT IT READS IS OF BULK AT MOST 1048576: true; the input reads as it did. -/
def reserveScalesUptoRow : OpenClaim := { program := "ytkjccabdpeldhaa", sum := "18bc6d9ca2c73a33f5580179d5bd157b0b51ba5f349cc1524b2c51625e490375", func := "dialtone/dialtonelaw33.ReserveScales", spec := "reserveScales", unfollowed := true, recurses := true, apart := false, narrowed := true }
def ReserveScalesUptoSaid : Prop := reserveScalesUptoRow.holds Try.pinned (OpenSpec.upto reserveScalesSpec)

/-- 'dialtonelaw33.ReserveWorst', WHERE WHAT IT READS IS OF BULK AT MOST 1048576: true; the input reads as it did. -/
def reserveWorstUptoRow : OpenClaim := { program := "ytkjccabdpeldhaa", sum := "18bc6d9ca2c73a33f5580179d5bd157b0b51ba5f349cc1524b2c51625e490375", func := "dialtone/dialtonelaw33.ReserveWorst", spec := "reserveWorst", unfollowed := true, recurses := true, apart := false, narrowed := true }
def ReserveWorstUptoSaid : Prop := reserveWorstUptoRow.holds Try.pinned (OpenSpec.upto reserveWorstSpec)

/-- 'dialtonelaw33.ReserveSuffices', WHERE WHAT IT READS IS OF BULK AT MOST 1048576: true; the input reads as it did. -/
def reserveSufficesUptoRow : OpenClaim := { program := "ytkjccabdpeldhaa", sum := "18bc6d9ca2c73a33f5580179d5bd157b0b51ba5f349cc1524b2c51625e490375", func := "dialtone/dialtonelaw33.ReserveSuffices", spec := "reserveSuffices", unfollowed := true, recurses := true, apart := false, narrowed := true }
def ReserveSufficesUptoSaid : Prop := reserveSufficesUptoRow.holds Try.pinned (OpenSpec.upto reserveSufficesSpec)

/-- 'dialtonelaw33.ReserveReasons', WHERE WHAT IT READS IS OF BULK AT MOST 1048576: true; the input reads as it did. -/
def reserveReasonsUptoRow : OpenClaim := { program := "ytkjccabdpeldhaa", sum := "18bc6d9ca2c73a33f5580179d5bd157b0b51ba5f349cc1524b2c51625e490375", func := "dialtone/dialtonelaw33.ReserveReasons", spec := "reserveReasons", unfollowed := true, recurses := true, apart := false, narrowed := true }
def ReserveReasonsUptoSaid : Prop := reserveReasonsUptoRow.holds Try.pinned (OpenSpec.upto reserveReasonsSpec)

end Rows
end Go.Proofs.Ytkjccabdpeldhaa
