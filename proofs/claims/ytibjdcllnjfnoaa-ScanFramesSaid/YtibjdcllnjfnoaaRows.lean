/-
  No cell of these rows narrows 'for every input' (looked for: loops, veiled, ifaces, maps, wideKeys, modest, calm, conditions, laid).
  DERIVED. THE GIVEN ROWS OF THIS SEAT. 6 by the template 'for every input the law returns true; each argument reads behind the call as it read before'; 0 by the template 'total and deterministic' (their statements: YtibjdcllnjfnoaaTotals.lean).
  GIVEN WITH THE SEED: the statements are not yours to turn. If you find one false, say at which input.
  Laid BY PROGRAM, IN A SANDBOX (cutbox-rows.mjs): the forced cells as the released guide's own fill.sh prints them over the translation 575ac757e07d031d… (all of the seat's roots in one cut). By AI agents, Wed Nov 11 2026. No macro, syntax, notation, axiom, sorry.
-/
import Derived.Test.YtibjdcllnjfnoaaChecked
import GoSem.Claim
import GoSem.ClaimJoined
import GoSem.ClaimMapViews
import Derived.JoinedTies
import Derived.KernelRfl
namespace Go.Proofs.Ytibjdcllnjfnoaa
/- THE CELL 'sum', in the pinned program and in every row, IS THE sha256 OF THE DUMP (.gsa) THAT YtibjdcllnjfnoaaProg.lean LOADS. Nothing in Lean hashes anything: it is a label: what it is worth is what the hold of that sum in a sandbox is worth. -/
noncomputable def Try.pinned : Pinned := { name := "ytibjdcllnjfnoaa", sum := "575ac757e07d031d76de64f0d52aa7f2299d5dd5045c4e420c701eb4cbedc72f", checked := Try.checked }
namespace Rows
def none {H : Type} : Left H := { results := [], args := [] }

/-- 'fallowlaw17.ScanLists': WHATEVER THE INPUT: true; the input reads as it did. -/
def scanListsSpec : ChangeSpec := { name := "scanLists", fn := fun _ => fun
  | [d1, d2] => { results := [.lit (.bool true)], args := [d1, d2] }
  | _ => none }
def scanListsRow : OpenClaim := { program := "ytibjdcllnjfnoaa", sum := "575ac757e07d031d76de64f0d52aa7f2299d5dd5045c4e420c701eb4cbedc72f", func := "fallow/fallowlaw17.ScanLists", spec := "scanLists", unfollowed := true, recurses := true, apart := false }
def ScanListsSaid : Prop := scanListsRow.holds Try.pinned (OpenSpec.ofChange scanListsSpec)

/-- ITS FALSE NEIGHBOUR: 'it returns false'. Refute it at one input. -/
def scanListsWrong : ChangeSpec := { name := "scanLists", fn := fun _ => fun
  | [d1, d2] => { results := [.lit (.bool false)], args := [d1, d2] }
  | _ => none }
def ScanListsWrongFalsely : Prop := scanListsRow.holds Try.pinned (OpenSpec.ofChange scanListsWrong)

/-- 'fallowlaw17.ScanFinds': WHATEVER THE INPUT: true; the input reads as it did. -/
def scanFindsSpec : ChangeSpec := { name := "scanFinds", fn := fun _ => fun
  | [d1, d2, d3] => { results := [.lit (.bool true)], args := [d1, d2, d3] }
  | _ => none }
def scanFindsRow : OpenClaim := { program := "ytibjdcllnjfnoaa", sum := "575ac757e07d031d76de64f0d52aa7f2299d5dd5045c4e420c701eb4cbedc72f", func := "fallow/fallowlaw17.ScanFinds", spec := "scanFinds", unfollowed := true, recurses := true, apart := false }
def ScanFindsSaid : Prop := scanFindsRow.holds Try.pinned (OpenSpec.ofChange scanFindsSpec)

/-- ITS FALSE NEIGHBOUR: 'it returns false'. Refute it at one input. -/
def scanFindsWrong : ChangeSpec := { name := "scanFinds", fn := fun _ => fun
  | [d1, d2, d3] => { results := [.lit (.bool false)], args := [d1, d2, d3] }
  | _ => none }
def ScanFindsWrongFalsely : Prop := scanFindsRow.holds Try.pinned (OpenSpec.ofChange scanFindsWrong)

/-- 'fallowlaw17.ScanFrames': WHATEVER THE INPUT: true; the input reads as it did. -/
def scanFramesSpec : ChangeSpec := { name := "scanFrames", fn := fun _ => fun
  | [d1, d2] => { results := [.lit (.bool true)], args := [d1, d2] }
  | _ => none }
def scanFramesRow : OpenClaim := { program := "ytibjdcllnjfnoaa", sum := "575ac757e07d031d76de64f0d52aa7f2299d5dd5045c4e420c701eb4cbedc72f", func := "fallow/fallowlaw17.ScanFrames", spec := "scanFrames", unfollowed := true, recurses := true, apart := false }
def ScanFramesSaid : Prop := scanFramesRow.holds Try.pinned (OpenSpec.ofChange scanFramesSpec)

/-- ITS FALSE NEIGHBOUR: 'it returns false'. Refute it at one input. -/
def scanFramesWrong : ChangeSpec := { name := "scanFrames", fn := fun _ => fun
  | [d1, d2] => { results := [.lit (.bool false)], args := [d1, d2] }
  | _ => none }
def ScanFramesWrongFalsely : Prop := scanFramesRow.holds Try.pinned (OpenSpec.ofChange scanFramesWrong)

/-- 'fallowlaw17.ScanPages': WHATEVER THE INPUT: true; the input reads as it did. -/
def scanPagesSpec : ChangeSpec := { name := "scanPages", fn := fun _ => fun
  | [d1, d2, d3] => { results := [.lit (.bool true)], args := [d1, d2, d3] }
  | _ => none }
def scanPagesRow : OpenClaim := { program := "ytibjdcllnjfnoaa", sum := "575ac757e07d031d76de64f0d52aa7f2299d5dd5045c4e420c701eb4cbedc72f", func := "fallow/fallowlaw17.ScanPages", spec := "scanPages", unfollowed := true, recurses := true, apart := false }
def ScanPagesSaid : Prop := scanPagesRow.holds Try.pinned (OpenSpec.ofChange scanPagesSpec)

/-- ITS FALSE NEIGHBOUR: 'it returns false'. Refute it at one input. -/
def scanPagesWrong : ChangeSpec := { name := "scanPages", fn := fun _ => fun
  | [d1, d2, d3] => { results := [.lit (.bool false)], args := [d1, d2, d3] }
  | _ => none }
def ScanPagesWrongFalsely : Prop := scanPagesRow.holds Try.pinned (OpenSpec.ofChange scanPagesWrong)

/-- 'fallowlaw17.ScanKnown': WHATEVER THE INPUT: true; the input reads as it did. -/
def scanKnownSpec : ChangeSpec := { name := "scanKnown", fn := fun _ => fun
  | [] => { results := [.lit (.bool true)], args := [] }
  | _ => none }
def scanKnownRow : OpenClaim := { program := "ytibjdcllnjfnoaa", sum := "575ac757e07d031d76de64f0d52aa7f2299d5dd5045c4e420c701eb4cbedc72f", func := "fallow/fallowlaw17.ScanKnown", spec := "scanKnown", unfollowed := true, recurses := true, apart := false }
def ScanKnownSaid : Prop := scanKnownRow.holds Try.pinned (OpenSpec.ofChange scanKnownSpec)

/-- ITS FALSE NEIGHBOUR: 'it returns false'. Refute it at one input. -/
def scanKnownWrong : ChangeSpec := { name := "scanKnown", fn := fun _ => fun
  | [] => { results := [.lit (.bool false)], args := [] }
  | _ => none }
def ScanKnownWrongFalsely : Prop := scanKnownRow.holds Try.pinned (OpenSpec.ofChange scanKnownWrong)

/-- 'fallowlaw17.ScanClean': WHATEVER THE INPUT: true; the input reads as it did. -/
def scanCleanSpec : ChangeSpec := { name := "scanClean", fn := fun _ => fun
  | [d1, d2] => { results := [.lit (.bool true)], args := [d1, d2] }
  | _ => none }
def scanCleanRow : OpenClaim := { program := "ytibjdcllnjfnoaa", sum := "575ac757e07d031d76de64f0d52aa7f2299d5dd5045c4e420c701eb4cbedc72f", func := "fallow/fallowlaw17.ScanClean", spec := "scanClean", unfollowed := true, recurses := true, apart := false }
def ScanCleanSaid : Prop := scanCleanRow.holds Try.pinned (OpenSpec.ofChange scanCleanSpec)

/-- ITS FALSE NEIGHBOUR: 'it returns false'. Refute it at one input. -/
def scanCleanWrong : ChangeSpec := { name := "scanClean", fn := fun _ => fun
  | [d1, d2] => { results := [.lit (.bool false)], args := [d1, d2] }
  | _ => none }
def ScanCleanWrongFalsely : Prop := scanCleanRow.holds Try.pinned (OpenSpec.ofChange scanCleanWrong)

/- THE SECOND FORM. 'bulk': how many values and letters a reading holds, each counted each time it is reached (what is shared counts as often as it is met; a slice's spare places count too). A statement '..UptoSaid' is the law's where the arguments, and the package variables that the reading takes, are together of bulk at most 1048576: NARROWER than '..Said'. Prove '..Said' where nothing that the law and all that it calls make is longer than what came in: it says more and counts as full. Else prove '..UptoSaid'. A law counts once. -/
mutual
def uptoBulk {H : Type} : DataW H → Nat
  | .lit (.string bytes) => bytes.length + 1
  | .lit _ => 1
  | .nil => 1
  | .ptr d => uptoBulk d + 1
  | .slice elems spare => uptoBulkAll elems + uptoBulkAll spare + 1
  | .agg parts => uptoBulkAll parts + 1
  | .iface _ d => uptoBulk d + 1
  | .map entries => uptoBulkEntries entries + 1
  | .held _ => 1
def uptoBulkAll {H : Type} : List (DataW H) → Nat
  | [] => 0
  | d :: r => uptoBulk d + uptoBulkAll r
def uptoBulkEntries {H : Type} : List (Lit × DataW H) → Nat
  | [] => 0
  | x :: r => uptoBulkEntry x + uptoBulkEntries r
def uptoBulkEntry {H : Type} : Lit × DataW H → Nat
  | (.string bytes, d) => bytes.length + uptoBulk d + 1
  | (_, d) => uptoBulk d + 1
 end
def uptoSmall : (H : Type) → List (DataW H) → Bool := fun _ ds => decide (uptoBulkAll ds ≤ 1048576)
def OpenSpec.upto (s : _root_.Go.ChangeSpec) : _root_.Go.OpenSpec := { _root_.Go.OpenSpec.ofChange s with cond := some uptoSmall }

/-- 'fallowlaw17.ScanLists', WHERE WHAT IT READS IS OF BULK AT MOST 1048576: true; the input reads as it did. -/
def scanListsUptoRow : OpenClaim := { program := "ytibjdcllnjfnoaa", sum := "575ac757e07d031d76de64f0d52aa7f2299d5dd5045c4e420c701eb4cbedc72f", func := "fallow/fallowlaw17.ScanLists", spec := "scanLists", unfollowed := true, recurses := true, apart := false, narrowed := true }
def ScanListsUptoSaid : Prop := scanListsUptoRow.holds Try.pinned (OpenSpec.upto scanListsSpec)

/-- 'fallowlaw17.ScanFinds', WHERE WHAT IT READS IS OF BULK AT MOST 1048576: true; the input reads as it did. -/
def scanFindsUptoRow : OpenClaim := { program := "ytibjdcllnjfnoaa", sum := "575ac757e07d031d76de64f0d52aa7f2299d5dd5045c4e420c701eb4cbedc72f", func := "fallow/fallowlaw17.ScanFinds", spec := "scanFinds", unfollowed := true, recurses := true, apart := false, narrowed := true }
def ScanFindsUptoSaid : Prop := scanFindsUptoRow.holds Try.pinned (OpenSpec.upto scanFindsSpec)

/-- 'fallowlaw17.ScanFrames', WHERE WHAT IT READS IS OF BULK AT MOST 1048576: true; the input reads as it did. -/
def scanFramesUptoRow : OpenClaim := { program := "ytibjdcllnjfnoaa", sum := "575ac757e07d031d76de64f0d52aa7f2299d5dd5045c4e420c701eb4cbedc72f", func := "fallow/fallowlaw17.ScanFrames", spec := "scanFrames", unfollowed := true, recurses := true, apart := false, narrowed := true }
def ScanFramesUptoSaid : Prop := scanFramesUptoRow.holds Try.pinned (OpenSpec.upto scanFramesSpec)

/-- 'fallowlaw17.ScanPages', WHERE WHAT IT READS IS OF BULK AT MOST 1048576: true; the input reads as it did. -/
def scanPagesUptoRow : OpenClaim := { program := "ytibjdcllnjfnoaa", sum := "575ac757e07d031d76de64f0d52aa7f2299d5dd5045c4e420c701eb4cbedc72f", func := "fallow/fallowlaw17.ScanPages", spec := "scanPages", unfollowed := true, recurses := true, apart := false, narrowed := true }
def ScanPagesUptoSaid : Prop := scanPagesUptoRow.holds Try.pinned (OpenSpec.upto scanPagesSpec)

/-- 'fallowlaw17.ScanKnown', WHERE WHAT IT READS IS OF BULK AT MOST 1048576: true; the input reads as it did. -/
def scanKnownUptoRow : OpenClaim := { program := "ytibjdcllnjfnoaa", sum := "575ac757e07d031d76de64f0d52aa7f2299d5dd5045c4e420c701eb4cbedc72f", func := "fallow/fallowlaw17.ScanKnown", spec := "scanKnown", unfollowed := true, recurses := true, apart := false, narrowed := true }
def ScanKnownUptoSaid : Prop := scanKnownUptoRow.holds Try.pinned (OpenSpec.upto scanKnownSpec)

/-- 'fallowlaw17.ScanClean', WHERE WHAT IT READS IS OF BULK AT MOST 1048576: true; the input reads as it did. -/
def scanCleanUptoRow : OpenClaim := { program := "ytibjdcllnjfnoaa", sum := "575ac757e07d031d76de64f0d52aa7f2299d5dd5045c4e420c701eb4cbedc72f", func := "fallow/fallowlaw17.ScanClean", spec := "scanClean", unfollowed := true, recurses := true, apart := false, narrowed := true }
def ScanCleanUptoSaid : Prop := scanCleanUptoRow.holds Try.pinned (OpenSpec.upto scanCleanSpec)

end Rows
end Go.Proofs.Ytibjdcllnjfnoaa
