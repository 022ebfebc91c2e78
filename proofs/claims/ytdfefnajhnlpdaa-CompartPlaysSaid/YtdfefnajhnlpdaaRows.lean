/-
  No cell of these rows narrows 'for every input' (looked for: loops, veiled, ifaces, maps, wideKeys, modest, calm, conditions, laid).
  DERIVED. THE GIVEN ROWS OF THIS SEAT. 5 by the template 'for every input the law returns true; each argument reads behind the call as it read before'; 0 by the template 'total and deterministic' (their statements: YtdfefnajhnlpdaaTotals.lean).
  GIVEN WITH THE SEED: the statements are not yours to turn. If you find one false, say at which input.
  Laid BY PROGRAM, IN A SANDBOX (cutbox-rows.mjs): the forced cells as the released guide's own fill.sh prints them over the translation 7e93415f18c63f31… (all of the seat's roots in one cut). By AI agents, Wed Nov 11 2026. No macro, syntax, notation, axiom, sorry.
-/
import Derived.Test.YtdfefnajhnlpdaaChecked
import GoSem.Claim
import GoSem.ClaimJoined
import GoSem.ClaimMapViews
import Derived.JoinedTies
import Derived.KernelRfl
namespace Go.Proofs.Ytdfefnajhnlpdaa
/- THE CELL 'sum', in the pinned program and in every row, IS THE sha256 OF THE DUMP (.gsa) THAT YtdfefnajhnlpdaaProg.lean LOADS. Nothing in Lean hashes anything: it is a label: what it is worth is what the hold of that sum in a sandbox is worth. -/
noncomputable def Try.pinned : Pinned := { name := "ytdfefnajhnlpdaa", sum := "7e93415f18c63f31ffcaaf3235a0880775ecb3efe2e37ec233c18ae0a00dad26", checked := Try.checked }
namespace Rows
def none {H : Type} : Left H := { results := [], args := [] }

/-- 'fallowlaw20.CompartRight': WHATEVER THE INPUT: true; the input reads as it did. -/
def compartRightSpec : ChangeSpec := { name := "compartRight", fn := fun _ => fun
  | [d1, d2] => { results := [.lit (.bool true)], args := [d1, d2] }
  | _ => none }
def compartRightRow : OpenClaim := { program := "ytdfefnajhnlpdaa", sum := "7e93415f18c63f31ffcaaf3235a0880775ecb3efe2e37ec233c18ae0a00dad26", func := "fallow/fallowlaw20.CompartRight", spec := "compartRight", unfollowed := true, recurses := true, apart := false }
def CompartRightSaid : Prop := compartRightRow.holds Try.pinned (OpenSpec.ofChange compartRightSpec)

/-- ITS FALSE NEIGHBOUR: 'it returns false'. Refute it at one input. -/
def compartRightWrong : ChangeSpec := { name := "compartRight", fn := fun _ => fun
  | [d1, d2] => { results := [.lit (.bool false)], args := [d1, d2] }
  | _ => none }
def CompartRightWrongFalsely : Prop := compartRightRow.holds Try.pinned (OpenSpec.ofChange compartRightWrong)

/-- 'fallowlaw20.CompartBack': WHATEVER THE INPUT: true; the input reads as it did. -/
def compartBackSpec : ChangeSpec := { name := "compartBack", fn := fun _ => fun
  | [d1, d2, d3] => { results := [.lit (.bool true)], args := [d1, d2, d3] }
  | _ => none }
def compartBackRow : OpenClaim := { program := "ytdfefnajhnlpdaa", sum := "7e93415f18c63f31ffcaaf3235a0880775ecb3efe2e37ec233c18ae0a00dad26", func := "fallow/fallowlaw20.CompartBack", spec := "compartBack", unfollowed := true, recurses := true, apart := false }
def CompartBackSaid : Prop := compartBackRow.holds Try.pinned (OpenSpec.ofChange compartBackSpec)

/-- ITS FALSE NEIGHBOUR: 'it returns false'. Refute it at one input. -/
def compartBackWrong : ChangeSpec := { name := "compartBack", fn := fun _ => fun
  | [d1, d2, d3] => { results := [.lit (.bool false)], args := [d1, d2, d3] }
  | _ => none }
def CompartBackWrongFalsely : Prop := compartBackRow.holds Try.pinned (OpenSpec.ofChange compartBackWrong)

/-- 'fallowlaw20.CompartKnown': WHATEVER THE INPUT: true; the input reads as it did. -/
def compartKnownSpec : ChangeSpec := { name := "compartKnown", fn := fun _ => fun
  | [] => { results := [.lit (.bool true)], args := [] }
  | _ => none }
def compartKnownRow : OpenClaim := { program := "ytdfefnajhnlpdaa", sum := "7e93415f18c63f31ffcaaf3235a0880775ecb3efe2e37ec233c18ae0a00dad26", func := "fallow/fallowlaw20.CompartKnown", spec := "compartKnown", unfollowed := true, recurses := true, apart := false }
def CompartKnownSaid : Prop := compartKnownRow.holds Try.pinned (OpenSpec.ofChange compartKnownSpec)

/-- ITS FALSE NEIGHBOUR: 'it returns false'. Refute it at one input. -/
def compartKnownWrong : ChangeSpec := { name := "compartKnown", fn := fun _ => fun
  | [] => { results := [.lit (.bool false)], args := [] }
  | _ => none }
def CompartKnownWrongFalsely : Prop := compartKnownRow.holds Try.pinned (OpenSpec.ofChange compartKnownWrong)

/-- 'fallowlaw20.CompartScan': WHATEVER THE INPUT: true; the input reads as it did. -/
def compartScanSpec : ChangeSpec := { name := "compartScan", fn := fun _ => fun
  | [d] => { results := [.lit (.bool true)], args := [d] }
  | _ => none }
def compartScanRow : OpenClaim := { program := "ytdfefnajhnlpdaa", sum := "7e93415f18c63f31ffcaaf3235a0880775ecb3efe2e37ec233c18ae0a00dad26", func := "fallow/fallowlaw20.CompartScan", spec := "compartScan", unfollowed := true, recurses := true, apart := false }
def CompartScanSaid : Prop := compartScanRow.holds Try.pinned (OpenSpec.ofChange compartScanSpec)

/-- ITS FALSE NEIGHBOUR: 'it returns false'. Refute it at one input. -/
def compartScanWrong : ChangeSpec := { name := "compartScan", fn := fun _ => fun
  | [d] => { results := [.lit (.bool false)], args := [d] }
  | _ => none }
def CompartScanWrongFalsely : Prop := compartScanRow.holds Try.pinned (OpenSpec.ofChange compartScanWrong)

/-- 'fallowlaw20.CompartPlays': WHATEVER THE INPUT: true; the input reads as it did. -/
def compartPlaysSpec : ChangeSpec := { name := "compartPlays", fn := fun _ => fun
  | [d1, d2] => { results := [.lit (.bool true)], args := [d1, d2] }
  | _ => none }
def compartPlaysRow : OpenClaim := { program := "ytdfefnajhnlpdaa", sum := "7e93415f18c63f31ffcaaf3235a0880775ecb3efe2e37ec233c18ae0a00dad26", func := "fallow/fallowlaw20.CompartPlays", spec := "compartPlays", unfollowed := true, recurses := true, apart := false }
def CompartPlaysSaid : Prop := compartPlaysRow.holds Try.pinned (OpenSpec.ofChange compartPlaysSpec)

/-- ITS FALSE NEIGHBOUR: 'it returns false'. Refute it at one input. -/
def compartPlaysWrong : ChangeSpec := { name := "compartPlays", fn := fun _ => fun
  | [d1, d2] => { results := [.lit (.bool false)], args := [d1, d2] }
  | _ => none }
def CompartPlaysWrongFalsely : Prop := compartPlaysRow.holds Try.pinned (OpenSpec.ofChange compartPlaysWrong)

/- THE SECOND FORM. 'bulk': how many values and letters a reading holds, each counted each time it is reached (what is shared counts as often as it is met; a slice's spare places count too). A statement '..UptoSaid' is the law's where the arguments, and the package variables that the reading takes, are together of bulk at most 1048576: NARROWER than '..Said'. Prove '..Said' where nothing that the law and all that it calls make is longer than what came in: it says more and counts as full. Else prove '..UptoSaid'. A law counts once. -/
mutual
def uptoBulk {H : Type} : DataW H → Nat
  | .lit (.string bytes) => bytes.length + 1
  | .lit _ => 1
  | .nil => 1
  | .ptr d => uptoBulk d + 1
  | .slice elems spare => uptoBulkAll elems + uptoBulkAll spare + 1
  | .agg parts => uptoBulkAll parts + 1
  | .iface _ d => uptoBulk d + 1
  | .map entries => uptoBulkEntries entries + 1
  | .held _ => 1
def uptoBulkAll {H : Type} : List (DataW H) → Nat
  | [] => 0
  | d :: r => uptoBulk d + uptoBulkAll r
def uptoBulkEntries {H : Type} : List (Lit × DataW H) → Nat
  | [] => 0
  | x :: r => uptoBulkEntry x + uptoBulkEntries r
def uptoBulkEntry {H : Type} : Lit × DataW H → Nat
  | (.string bytes, d) => bytes.length + uptoBulk d + 1
  | (_, d) => uptoBulk d + 1
 end
def uptoSmall : (H : Type) → List (DataW H) → Bool := fun _ ds => decide (uptoBulkAll ds ≤ 1048576)
def OpenSpec.upto (s : _root_.Go.ChangeSpec) : _root_.Go.OpenSpec := { _root_.Go.OpenSpec.ofChange s with cond := some uptoSmall }

/-- 'fallowlaw20.CompartRight', WHERE WHAT IT READS IS OF BULK AT MOST 1048576: true; the input reads as it did. -/
def compartRightUptoRow : OpenClaim := { program := "ytdfefnajhnlpdaa", sum := "7e93415f18c63f31ffcaaf3235a0880775ecb3efe2e37ec233c18ae0a00dad26", func := "fallow/fallowlaw20.CompartRight", spec := "compartRight", unfollowed := true, recurses := true, apart := false, narrowed := true }
def CompartRightUptoSaid : Prop := compartRightUptoRow.holds Try.pinned (OpenSpec.upto compartRightSpec)

/-- 'fallowlaw20.CompartBack', WHERE WHAT IT READS IS OF BULK AT MOST 1048576: true; the input reads as it did. -/
def compartBackUptoRow : OpenClaim := { program := "ytdfefnajhnlpdaa", sum := "7e93415f18c63f31ffcaaf3235a0880775ecb3efe2e37ec233c18ae0a00dad26", func := "fallow/fallowlaw20.CompartBack", spec := "compartBack", unfollowed := true, recurses := true, apart := false, narrowed := true }
def CompartBackUptoSaid : Prop := compartBackUptoRow.holds Try.pinned (OpenSpec.upto compartBackSpec)

/-- 'fallowlaw20.CompartKnown', WHERE WHAT IT READS IS OF BULK AT MOST 1048576: true; the input reads as it did. -/
def compartKnownUptoRow : OpenClaim := { program := "ytdfefnajhnlpdaa", sum := "7e93415f18c63f31ffcaaf3235a0880775ecb3efe2e37ec233c18ae0a00dad26", func := "fallow/fallowlaw20.CompartKnown", spec := "compartKnown", unfollowed := true, recurses := true, apart := false, narrowed := true }
def CompartKnownUptoSaid : Prop := compartKnownUptoRow.holds Try.pinned (OpenSpec.upto compartKnownSpec)

/-- 'fallowlaw20.CompartScan', WHERE WHAT IT READS IS OF BULK AT MOST 1048576: true; the input reads as it did. -/
def compartScanUptoRow : OpenClaim := { program := "ytdfefnajhnlpdaa", sum := "7e93415f18c63f31ffcaaf3235a0880775ecb3efe2e37ec233c18ae0a00dad26", func := "fallow/fallowlaw20.CompartScan", spec := "compartScan", unfollowed := true, recurses := true, apart := false, narrowed := true }
def CompartScanUptoSaid : Prop := compartScanUptoRow.holds Try.pinned (OpenSpec.upto compartScanSpec)

/-- 'fallowlaw20.CompartPlays', WHERE WHAT IT READS IS OF BULK AT MOST 1048576: true; the input reads as it did. -/
def compartPlaysUptoRow : OpenClaim := { program := "ytdfefnajhnlpdaa", sum := "7e93415f18c63f31ffcaaf3235a0880775ecb3efe2e37ec233c18ae0a00dad26", func := "fallow/fallowlaw20.CompartPlays", spec := "compartPlays", unfollowed := true, recurses := true, apart := false, narrowed := true }
def CompartPlaysUptoSaid : Prop := compartPlaysUptoRow.holds Try.pinned (OpenSpec.upto compartPlaysSpec)

end Rows
end Go.Proofs.Ytdfefnajhnlpdaa
