/-
  No cell of these rows narrows 'for every input' (looked for: loops, veiled, ifaces, maps, wideKeys, modest, calm, conditions, laid).
  DERIVED. THE GIVEN ROWS OF THIS SEAT. 4 by the template 'for every input the law returns true; each argument reads behind the call as it read before'; 0 by the template 'total and deterministic' (their statements: YtflhpgfnffmimaaTotals.lean).
  GIVEN WITH THE SEED: the statements are not yours to turn. If you find one false, say at which input.
  Laid BY PROGRAM, IN A SANDBOX (cutbox-rows.mjs): the forced cells as the released guide's own fill.sh prints them over the translation b4c7d878b395e14f… (all of the seat's roots in one cut). By AI agents, Wed Nov 11 2026. No macro, syntax, notation, axiom, sorry.
-/
import Derived.Test.YtflhpgfnffmimaaChecked
import GoSem.Claim
import GoSem.ClaimJoined
import GoSem.ClaimMapViews
import Derived.JoinedTies
import Derived.KernelRfl
namespace Go.Proofs.Ytflhpgfnffmimaa
/- THE CELL 'sum', in the pinned program and in every row, IS THE sha256 OF THE DUMP (.gsa) THAT YtflhpgfnffmimaaProg.lean LOADS. Nothing in Lean hashes anything: it is a label: what it is worth is what the hold of that sum in a sandbox is worth. -/
noncomputable def Try.pinned : Pinned := { name := "ytflhpgfnffmimaa", sum := "b4c7d878b395e14f448964cc241268a7356368633faedbf52eeceed36634ab94", checked := Try.checked }
namespace Rows
def none {H : Type} : Left H := { results := [], args := [] }

/-- 'fallowlaw16.QuarantineOnce': WHATEVER THE INPUT: true; the input reads as it did. -/
def quarantineOnceSpec : ChangeSpec := { name := "quarantineOnce", fn := fun _ => fun
  | [d] => { results := [.lit (.bool true)], args := [d] }
  | _ => none }
def quarantineOnceRow : OpenClaim := { program := "ytflhpgfnffmimaa", sum := "b4c7d878b395e14f448964cc241268a7356368633faedbf52eeceed36634ab94", func := "fallow/fallowlaw16.QuarantineOnce", spec := "quarantineOnce", inPlace := ["slices.overlaps[fallow/api.Region]"], unfollowed := true, recurses := true, apart := false }
def QuarantineOnceSaid : Prop := quarantineOnceRow.holds Try.pinned (OpenSpec.ofChange quarantineOnceSpec)

/-- ITS FALSE NEIGHBOUR: 'it returns false'. Refute it at one input. -/
def quarantineOnceWrong : ChangeSpec := { name := "quarantineOnce", fn := fun _ => fun
  | [d] => { results := [.lit (.bool false)], args := [d] }
  | _ => none }
def QuarantineOnceWrongFalsely : Prop := quarantineOnceRow.holds Try.pinned (OpenSpec.ofChange quarantineOnceWrong)

/-- 'fallowlaw16.QuarantineDrains': WHATEVER THE INPUT: true; the input reads as it did. -/
def quarantineDrainsSpec : ChangeSpec := { name := "quarantineDrains", fn := fun _ => fun
  | [d1, d2] => { results := [.lit (.bool true)], args := [d1, d2] }
  | _ => none }
def quarantineDrainsRow : OpenClaim := { program := "ytflhpgfnffmimaa", sum := "b4c7d878b395e14f448964cc241268a7356368633faedbf52eeceed36634ab94", func := "fallow/fallowlaw16.QuarantineDrains", spec := "quarantineDrains", inPlace := ["slices.overlaps[fallow/api.Region]"], unfollowed := true, recurses := true, apart := false }
def QuarantineDrainsSaid : Prop := quarantineDrainsRow.holds Try.pinned (OpenSpec.ofChange quarantineDrainsSpec)

/-- ITS FALSE NEIGHBOUR: 'it returns false'. Refute it at one input. -/
def quarantineDrainsWrong : ChangeSpec := { name := "quarantineDrains", fn := fun _ => fun
  | [d1, d2] => { results := [.lit (.bool false)], args := [d1, d2] }
  | _ => none }
def QuarantineDrainsWrongFalsely : Prop := quarantineDrainsRow.holds Try.pinned (OpenSpec.ofChange quarantineDrainsWrong)

/-- 'fallowlaw16.QuarantinePlays': WHATEVER THE INPUT: true; the input reads as it did. -/
def quarantinePlaysSpec : ChangeSpec := { name := "quarantinePlays", fn := fun _ => fun
  | [d1, d2] => { results := [.lit (.bool true)], args := [d1, d2] }
  | _ => none }
def quarantinePlaysRow : OpenClaim := { program := "ytflhpgfnffmimaa", sum := "b4c7d878b395e14f448964cc241268a7356368633faedbf52eeceed36634ab94", func := "fallow/fallowlaw16.QuarantinePlays", spec := "quarantinePlays", inPlace := ["slices.overlaps[fallow/api.Region]"], unfollowed := true, recurses := true, apart := false }
def QuarantinePlaysSaid : Prop := quarantinePlaysRow.holds Try.pinned (OpenSpec.ofChange quarantinePlaysSpec)

/-- ITS FALSE NEIGHBOUR: 'it returns false'. Refute it at one input. -/
def quarantinePlaysWrong : ChangeSpec := { name := "quarantinePlays", fn := fun _ => fun
  | [d1, d2] => { results := [.lit (.bool false)], args := [d1, d2] }
  | _ => none }
def QuarantinePlaysWrongFalsely : Prop := quarantinePlaysRow.holds Try.pinned (OpenSpec.ofChange quarantinePlaysWrong)

/-- 'fallowlaw16.QuarantineKnown': WHATEVER THE INPUT: true; the input reads as it did. -/
def quarantineKnownSpec : ChangeSpec := { name := "quarantineKnown", fn := fun _ => fun
  | [] => { results := [.lit (.bool true)], args := [] }
  | _ => none }
def quarantineKnownRow : OpenClaim := { program := "ytflhpgfnffmimaa", sum := "b4c7d878b395e14f448964cc241268a7356368633faedbf52eeceed36634ab94", func := "fallow/fallowlaw16.QuarantineKnown", spec := "quarantineKnown", inPlace := ["slices.overlaps[fallow/api.Region]"], unfollowed := true, recurses := true, apart := false }
def QuarantineKnownSaid : Prop := quarantineKnownRow.holds Try.pinned (OpenSpec.ofChange quarantineKnownSpec)

/-- ITS FALSE NEIGHBOUR: 'it returns false'. Refute it at one input. -/
def quarantineKnownWrong : ChangeSpec := { name := "quarantineKnown", fn := fun _ => fun
  | [] => { results := [.lit (.bool false)], args := [] }
  | _ => none }
def QuarantineKnownWrongFalsely : Prop := quarantineKnownRow.holds Try.pinned (OpenSpec.ofChange quarantineKnownWrong)

/- THE SECOND FORM. 'bulk': how many values and letters a reading holds, each counted each time it is reached (what is shared counts as often as it is met; a slice's spare places count too). A statement '..UptoSaid' is the law's where the arguments, and the package variables that the reading takes, are together of bulk at most 1048576: NARROWER than '..Said'. Prove '..Said' where nothing that the law and all that it calls make is longer than what came in: it says more and counts as full. Else prove '..UptoSaid'. A law counts once. -/
mutual
def uptoBulk {H : Type} : DataW H → Nat
  | .lit (.string bytes) => bytes.length + 1
  | .lit _ => 1
  | .nil => 1
  | .ptr d => uptoBulk d + 1
  | .slice elems spare => uptoBulkAll elems + uptoBulkAll spare + 1
  | .agg parts => uptoBulkAll parts + 1
  | .iface _ d => uptoBulk d + 1
  | .map entries => uptoBulkEntries entries + 1
  | .held _ => 1
def uptoBulkAll {H : Type} : List (DataW H) → Nat
  | [] => 0
  | d :: r => uptoBulk d + uptoBulkAll r
def uptoBulkEntries {H : Type} : List (Lit × DataW H) → Nat
  | [] => 0
  | x :: r => uptoBulkEntry x + uptoBulkEntries r
def uptoBulkEntry {H : Type} : Lit × DataW H → Nat
  | (.string bytes, d) => bytes.length + uptoBulk d + 1
  | (_, d) => uptoBulk d + 1
 end
def uptoSmall : (H : Type) → List (DataW H) → Bool := fun _ ds => decide (uptoBulkAll ds ≤ 1048576)
def OpenSpec.upto (s : _root_.Go.ChangeSpec) : _root_.Go.OpenSpec := { _root_.Go.OpenSpec.ofChange s with cond := some uptoSmall }

/-- 'fallowlaw16.QuarantineOnce', WHERE WHAT IT READS IS OF BULK AT MOST 1048576: true; the input reads as it did. -/
def quarantineOnceUptoRow : OpenClaim := { program := "ytflhpgfnffmimaa", sum := "b4c7d878b395e14f448964cc241268a7356368633faedbf52eeceed36634ab94", func := "fallow/fallowlaw16.QuarantineOnce", spec := "quarantineOnce", inPlace := ["slices.overlaps[fallow/api.Region]"], unfollowed := true, recurses := true, apart := false, narrowed := true }
def QuarantineOnceUptoSaid : Prop := quarantineOnceUptoRow.holds Try.pinned (OpenSpec.upto quarantineOnceSpec)

/-- 'fallowlaw16.QuarantineDrains', WHERE WHAT IT READS IS OF BULK AT MOST 1048576: true; the input reads as it did. -/
def quarantineDrainsUptoRow : OpenClaim := { program := "ytflhpgfnffmimaa", sum := "b4c7d878b395e14f448964cc241268a7356368633faedbf52eeceed36634ab94", func := "fallow/fallowlaw16.QuarantineDrains", spec := "quarantineDrains", inPlace := ["slices.overlaps[fallow/api.Region]"], unfollowed := true, recurses := true, apart := false, narrowed := true }
def QuarantineDrainsUptoSaid : Prop := quarantineDrainsUptoRow.holds Try.pinned (OpenSpec.upto quarantineDrainsSpec)

/-- 'fallowlaw16.QuarantinePlays', WHERE WHAT IT READS IS OF BULK AT MOST 1048576: true; the input reads as it did. -/
def quarantinePlaysUptoRow : OpenClaim := { program := "ytflhpgfnffmimaa", sum := "b4c7d878b395e14f448964cc241268a7356368633faedbf52eeceed36634ab94", func := "fallow/fallowlaw16.QuarantinePlays", spec := "quarantinePlays", inPlace := ["slices.overlaps[fallow/api.Region]"], unfollowed := true, recurses := true, apart := false, narrowed := true }
def QuarantinePlaysUptoSaid : Prop := quarantinePlaysUptoRow.holds Try.pinned (OpenSpec.upto quarantinePlaysSpec)

/-- 'fallowlaw16.QuarantineKnown', WHERE WHAT IT READS IS OF BULK AT MOST 1048576: true; the input reads as it did. -/
def quarantineKnownUptoRow : OpenClaim := { program := "ytflhpgfnffmimaa", sum := "b4c7d878b395e14f448964cc241268a7356368633faedbf52eeceed36634ab94", func := "fallow/fallowlaw16.QuarantineKnown", spec := "quarantineKnown", inPlace := ["slices.overlaps[fallow/api.Region]"], unfollowed := true, recurses := true, apart := false, narrowed := true }
def QuarantineKnownUptoSaid : Prop := quarantineKnownUptoRow.holds Try.pinned (OpenSpec.upto quarantineKnownSpec)

end Rows
end Go.Proofs.Ytflhpgfnffmimaa
