/-
  No cell of these rows narrows 'for every input' (looked for: loops, veiled, ifaces, maps, wideKeys, modest, calm, conditions, laid).
  DERIVED. THE GIVEN ROWS OF THIS SEAT. 7 by the template 'for every input the law returns true; each argument reads behind the call as it read before'; 0 by the template 'total and deterministic' (their statements: YtkbdoiefgmbikaaTotals.lean).
  GIVEN WITH THE SEED: the statements are not yours to turn. If you find one false, say at which input.
  Laid BY PROGRAM, IN A SANDBOX (cutbox-rows.mjs): the forced cells as the released guide's own fill.sh prints them over the translation c66b720a6bd70061… (all of the seat's roots in one cut). By AI agents, Wed Nov 11 2026. No macro, syntax, notation, axiom, sorry.
-/
import Derived.Test.YtkbdoiefgmbikaaChecked
import GoSem.Claim
import GoSem.ClaimJoined
import GoSem.ClaimMapViews
import Derived.JoinedTies
import Derived.KernelRfl
namespace Go.Proofs.Ytkbdoiefgmbikaa
/- THE CELL 'sum', in the pinned program and in every row, IS THE sha256 OF THE DUMP (.gsa) THAT YtkbdoiefgmbikaaProg.lean LOADS. Nothing in Lean hashes anything: it is a label: what it is worth is what the hold of that sum in a sandbox is worth. -/
noncomputable def Try.pinned : Pinned := { name := "ytkbdoiefgmbikaa", sum := "c66b720a6bd7006155ec8c94d0f4c86e355a752cf8ff518410060882e2d4f033", checked := Try.checked }
namespace Rows
def none {H : Type} : Left H := { results := [], args := [] }

/-- 'fallowlaw32.AuditHeld': WHATEVER THE INPUT: true; the input reads as it did. -/
def auditHeldSpec : ChangeSpec := { name := "auditHeld", fn := fun _ => fun
  | [d] => { results := [.lit (.bool true)], args := [d] }
  | _ => none }
def auditHeldRow : OpenClaim := { program := "ytkbdoiefgmbikaa", sum := "c66b720a6bd7006155ec8c94d0f4c86e355a752cf8ff518410060882e2d4f033", func := "fallow/fallowlaw32.AuditHeld", spec := "auditHeld", unfollowed := true, recurses := true, apart := false }
def AuditHeldSaid : Prop := auditHeldRow.holds Try.pinned (OpenSpec.ofChange auditHeldSpec)

/-- ITS FALSE NEIGHBOUR: 'it returns false'. Refute it at one input. -/
def auditHeldWrong : ChangeSpec := { name := "auditHeld", fn := fun _ => fun
  | [d] => { results := [.lit (.bool false)], args := [d] }
  | _ => none }
def AuditHeldWrongFalsely : Prop := auditHeldRow.holds Try.pinned (OpenSpec.ofChange auditHeldWrong)

/-- 'fallowlaw32.AuditApart': WHATEVER THE INPUT: true; the input reads as it did. -/
def auditApartSpec : ChangeSpec := { name := "auditApart", fn := fun _ => fun
  | [d1, d2] => { results := [.lit (.bool true)], args := [d1, d2] }
  | _ => none }
def auditApartRow : OpenClaim := { program := "ytkbdoiefgmbikaa", sum := "c66b720a6bd7006155ec8c94d0f4c86e355a752cf8ff518410060882e2d4f033", func := "fallow/fallowlaw32.AuditApart", spec := "auditApart", unfollowed := true, recurses := true, apart := false }
def AuditApartSaid : Prop := auditApartRow.holds Try.pinned (OpenSpec.ofChange auditApartSpec)

/-- ITS FALSE NEIGHBOUR: 'it returns false'. Refute it at one input. -/
def auditApartWrong : ChangeSpec := { name := "auditApart", fn := fun _ => fun
  | [d1, d2] => { results := [.lit (.bool false)], args := [d1, d2] }
  | _ => none }
def AuditApartWrongFalsely : Prop := auditApartRow.holds Try.pinned (OpenSpec.ofChange auditApartWrong)

/-- 'fallowlaw32.AuditDrains': WHATEVER THE INPUT: true; the input reads as it did. -/
def auditDrainsSpec : ChangeSpec := { name := "auditDrains", fn := fun _ => fun
  | [d1, d2] => { results := [.lit (.bool true)], args := [d1, d2] }
  | _ => none }
def auditDrainsRow : OpenClaim := { program := "ytkbdoiefgmbikaa", sum := "c66b720a6bd7006155ec8c94d0f4c86e355a752cf8ff518410060882e2d4f033", func := "fallow/fallowlaw32.AuditDrains", spec := "auditDrains", unfollowed := true, recurses := true, apart := false }
def AuditDrainsSaid : Prop := auditDrainsRow.holds Try.pinned (OpenSpec.ofChange auditDrainsSpec)

/-- ITS FALSE NEIGHBOUR: 'it returns false'. Refute it at one input. -/
def auditDrainsWrong : ChangeSpec := { name := "auditDrains", fn := fun _ => fun
  | [d1, d2] => { results := [.lit (.bool false)], args := [d1, d2] }
  | _ => none }
def AuditDrainsWrongFalsely : Prop := auditDrainsRow.holds Try.pinned (OpenSpec.ofChange auditDrainsWrong)

/-- 'fallowlaw32.AuditBegins': WHATEVER THE INPUT: true; the input reads as it did. -/
def auditBeginsSpec : ChangeSpec := { name := "auditBegins", fn := fun _ => fun
  | [d1, d2, d3] => { results := [.lit (.bool true)], args := [d1, d2, d3] }
  | _ => none }
def auditBeginsRow : OpenClaim := { program := "ytkbdoiefgmbikaa", sum := "c66b720a6bd7006155ec8c94d0f4c86e355a752cf8ff518410060882e2d4f033", func := "fallow/fallowlaw32.AuditBegins", spec := "auditBegins", unfollowed := true, recurses := true, apart := false }
def AuditBeginsSaid : Prop := auditBeginsRow.holds Try.pinned (OpenSpec.ofChange auditBeginsSpec)

/-- ITS FALSE NEIGHBOUR: 'it returns false'. Refute it at one input. -/
def auditBeginsWrong : ChangeSpec := { name := "auditBegins", fn := fun _ => fun
  | [d1, d2, d3] => { results := [.lit (.bool false)], args := [d1, d2, d3] }
  | _ => none }
def AuditBeginsWrongFalsely : Prop := auditBeginsRow.holds Try.pinned (OpenSpec.ofChange auditBeginsWrong)

/-- 'fallowlaw32.AuditInside': WHATEVER THE INPUT: true; the input reads as it did. -/
def auditInsideSpec : ChangeSpec := { name := "auditInside", fn := fun _ => fun
  | [d1, d2, d3] => { results := [.lit (.bool true)], args := [d1, d2, d3] }
  | _ => none }
def auditInsideRow : OpenClaim := { program := "ytkbdoiefgmbikaa", sum := "c66b720a6bd7006155ec8c94d0f4c86e355a752cf8ff518410060882e2d4f033", func := "fallow/fallowlaw32.AuditInside", spec := "auditInside", unfollowed := true, recurses := true, apart := false }
def AuditInsideSaid : Prop := auditInsideRow.holds Try.pinned (OpenSpec.ofChange auditInsideSpec)

/-- ITS FALSE NEIGHBOUR: 'it returns false'. Refute it at one input. -/
def auditInsideWrong : ChangeSpec := { name := "auditInside", fn := fun _ => fun
  | [d1, d2, d3] => { results := [.lit (.bool false)], args := [d1, d2, d3] }
  | _ => none }
def AuditInsideWrongFalsely : Prop := auditInsideRow.holds Try.pinned (OpenSpec.ofChange auditInsideWrong)

/-- 'fallowlaw32.AuditHistory': WHATEVER THE INPUT: true; the input reads as it did. -/
def auditHistorySpec : ChangeSpec := { name := "auditHistory", fn := fun _ => fun
  | [d1, d2, d3] => { results := [.lit (.bool true)], args := [d1, d2, d3] }
  | _ => none }
def auditHistoryRow : OpenClaim := { program := "ytkbdoiefgmbikaa", sum := "c66b720a6bd7006155ec8c94d0f4c86e355a752cf8ff518410060882e2d4f033", func := "fallow/fallowlaw32.AuditHistory", spec := "auditHistory", unfollowed := true, recurses := true, apart := false }
def AuditHistorySaid : Prop := auditHistoryRow.holds Try.pinned (OpenSpec.ofChange auditHistorySpec)

/-- ITS FALSE NEIGHBOUR: 'it returns false'. Refute it at one input. -/
def auditHistoryWrong : ChangeSpec := { name := "auditHistory", fn := fun _ => fun
  | [d1, d2, d3] => { results := [.lit (.bool false)], args := [d1, d2, d3] }
  | _ => none }
def AuditHistoryWrongFalsely : Prop := auditHistoryRow.holds Try.pinned (OpenSpec.ofChange auditHistoryWrong)

/-- 'fallowlaw32.AuditKnown': WHATEVER THE INPUT: true; the input reads as it did. -/
def auditKnownSpec : ChangeSpec := { name := "auditKnown", fn := fun _ => fun
  | [] => { results := [.lit (.bool true)], args := [] }
  | _ => none }
def auditKnownRow : OpenClaim := { program := "ytkbdoiefgmbikaa", sum := "c66b720a6bd7006155ec8c94d0f4c86e355a752cf8ff518410060882e2d4f033", func := "fallow/fallowlaw32.AuditKnown", spec := "auditKnown", unfollowed := true, recurses := true, apart := false }
def AuditKnownSaid : Prop := auditKnownRow.holds Try.pinned (OpenSpec.ofChange auditKnownSpec)

/-- ITS FALSE NEIGHBOUR: 'it returns false'. Refute it at one input. -/
def auditKnownWrong : ChangeSpec := { name := "auditKnown", fn := fun _ => fun
  | [] => { results := [.lit (.bool false)], args := [] }
  | _ => none }
def AuditKnownWrongFalsely : Prop := auditKnownRow.holds Try.pinned (OpenSpec.ofChange auditKnownWrong)

/- THE SECOND FORM. 'bulk': how many values and letters a reading holds, each counted each time it is reached (what is shared counts as often as it is met; a slice's spare places count too). A statement '..UptoSaid' is the law's where the arguments, and the package variables that the reading takes, are together of bulk at most 1048576: NARROWER than '..Said'. Prove '..Said' where nothing that the law and all that it calls make is longer than what came in: it says more and counts as full. Else prove '..UptoSaid'. A law counts once. -/
mutual
def uptoBulk {H : Type} : DataW H → Nat
  | .lit (.string bytes) => bytes.length + 1
  | .lit _ => 1
  | .nil => 1
  | .ptr d => uptoBulk d + 1
  | .slice elems spare => uptoBulkAll elems + uptoBulkAll spare + 1
  | .agg parts => uptoBulkAll parts + 1
  | .iface _ d => uptoBulk d + 1
  | .map entries => uptoBulkEntries entries + 1
  | .held _ => 1
def uptoBulkAll {H : Type} : List (DataW H) → Nat
  | [] => 0
  | d :: r => uptoBulk d + uptoBulkAll r
def uptoBulkEntries {H : Type} : List (Lit × DataW H) → Nat
  | [] => 0
  | x :: r => uptoBulkEntry x + uptoBulkEntries r
def uptoBulkEntry {H : Type} : Lit × DataW H → Nat
  | (.string bytes, d) => bytes.length + uptoBulk d + 1
  | (_, d) => uptoBulk d + 1
 end
def uptoSmall : (H : Type) → List (DataW H) → Bool := fun _ ds => decide (uptoBulkAll ds ≤ 1048576)
def OpenSpec.upto (s : _root_.Go.ChangeSpec) : _root_.Go.OpenSpec := { _root_.Go.OpenSpec.ofChange s with cond := some uptoSmall }

/-- 'fallowlaw32.AuditHeld', WHERE WHAT IT READS IS OF BULK AT MOST 1048576: true; the input reads as it did. -/
def auditHeldUptoRow : OpenClaim := { program := "ytkbdoiefgmbikaa", sum := "c66b720a6bd7006155ec8c94d0f4c86e355a752cf8ff518410060882e2d4f033", func := "fallow/fallowlaw32.AuditHeld", spec := "auditHeld", unfollowed := true, recurses := true, apart := false, narrowed := true }
def AuditHeldUptoSaid : Prop := auditHeldUptoRow.holds Try.pinned (OpenSpec.upto auditHeldSpec)

/-- 'fallowlaw32.AuditApart', WHERE WHAT IT READS IS OF BULK AT MOST 1048576: true; the input reads as it did. -/
def auditApartUptoRow : OpenClaim := { program := "ytkbdoiefgmbikaa", sum := "c66b720a6bd7006155ec8c94d0f4c86e355a752cf8ff518410060882e2d4f033", func := "fallow/fallowlaw32.AuditApart", spec := "auditApart", unfollowed := true, recurses := true, apart := false, narrowed := true }
def AuditApartUptoSaid : Prop := auditApartUptoRow.holds Try.pinned (OpenSpec.upto auditApartSpec)

/-- 'fallowlaw32.AuditDrains', WHERE WHAT IT READS IS OF BULK AT MOST 1048576: true; the input reads as it did. -/
def auditDrainsUptoRow : OpenClaim := { program := "ytkbdoiefgmbikaa", sum := "c66b720a6bd7006155ec8c94d0f4c86e355a752cf8ff518410060882e2d4f033", func := "fallow/fallowlaw32.AuditDrains", spec := "auditDrains", unfollowed := true, recurses := true, apart := false, narrowed := true }
def AuditDrainsUptoSaid : Prop := auditDrainsUptoRow.holds Try.pinned (OpenSpec.upto auditDrainsSpec)

/-- 'fallowlaw32.AuditBegins', WHERE WHAT IT READS IS OF BULK AT MOST 1048576: true; the input reads as it did. -/
def auditBeginsUptoRow : OpenClaim := { program := "ytkbdoiefgmbikaa", sum := "c66b720a6bd7006155ec8c94d0f4c86e355a752cf8ff518410060882e2d4f033", func := "fallow/fallowlaw32.AuditBegins", spec := "auditBegins", unfollowed := true, recurses := true, apart := false, narrowed := true }
def AuditBeginsUptoSaid : Prop := auditBeginsUptoRow.holds Try.pinned (OpenSpec.upto auditBeginsSpec)

/-- 'fallowlaw32.AuditInside', WHERE WHAT IT READS IS OF BULK AT MOST 1048576: true; the input reads as it did. -/
def auditInsideUptoRow : OpenClaim := { program := "ytkbdoiefgmbikaa", sum := "c66b720a6bd7006155ec8c94d0f4c86e355a752cf8ff518410060882e2d4f033", func := "fallow/fallowlaw32.AuditInside", spec := "auditInside", unfollowed := true, recurses := true, apart := false, narrowed := true }
def AuditInsideUptoSaid : Prop := auditInsideUptoRow.holds Try.pinned (OpenSpec.upto auditInsideSpec)

/-- 'fallowlaw32.AuditHistory', WHERE WHAT IT READS IS OF BULK AT MOST 1048576: true; the input reads as it did. -/
def auditHistoryUptoRow : OpenClaim := { program := "ytkbdoiefgmbikaa", sum := "c66b720a6bd7006155ec8c94d0f4c86e355a752cf8ff518410060882e2d4f033", func := "fallow/fallowlaw32.AuditHistory", spec := "auditHistory", unfollowed := true, recurses := true, apart := false, narrowed := true }
def AuditHistoryUptoSaid : Prop := auditHistoryUptoRow.holds Try.pinned (OpenSpec.upto auditHistorySpec)

/-- 'fallowlaw32.AuditKnown', WHERE WHAT IT READS IS OF BULK AT MOST 1048576: true; the input reads as it did. -/
def auditKnownUptoRow : OpenClaim := { program := "ytkbdoiefgmbikaa", sum := "c66b720a6bd7006155ec8c94d0f4c86e355a752cf8ff518410060882e2d4f033", func := "fallow/fallowlaw32.AuditKnown", spec := "auditKnown", unfollowed := true, recurses := true, apart := false, narrowed := true }
def AuditKnownUptoSaid : Prop := auditKnownUptoRow.holds Try.pinned (OpenSpec.upto auditKnownSpec)

end Rows
end Go.Proofs.Ytkbdoiefgmbikaa
