/-
  No cell of these rows narrows 'for every input' (looked for: loops, veiled, ifaces, maps, wideKeys, modest, calm, conditions, laid).
  DERIVED. THE GIVEN ROWS OF THIS SEAT. 4 by the template 'for every input the law returns true; each argument reads behind the call as it read before'; 0 by the template 'total and deterministic' (their statements: YtnbdjnhdneboiaaTotals.lean).
  GIVEN WITH THE SEED: the statements are not yours to turn. If you find one false, say at which input.
  Laid BY PROGRAM, IN A SANDBOX (cutbox-rows.mjs): the forced cells as the released guide's own fill.sh prints them over the translation a5054a084b7601f4… (all of the seat's roots in one cut). By AI agents, Wed Nov 11 2026. No macro, syntax, notation, axiom, sorry.
-/
import Derived.Test.YtnbdjnhdneboiaaChecked
import GoSem.Claim
import GoSem.ClaimJoined
import GoSem.ClaimMapViews
import Derived.JoinedTies
import Derived.KernelRfl
namespace Go.Proofs.Ytnbdjnhdneboiaa
/- THE CELL 'sum', in the pinned program and in every row, IS THE sha256 OF THE DUMP (.gsa) THAT YtnbdjnhdneboiaaProg.lean LOADS. Nothing in Lean hashes anything: it is a label: what it is worth is what the hold of that sum in a sandbox is worth. -/
noncomputable def Try.pinned : Pinned := { name := "ytnbdjnhdneboiaa", sum := "a5054a084b7601f4eb51237c4bcf7f2591ad5bafe791c2aa018d01125f378714", checked := Try.checked }
namespace Rows
def none {H : Type} : Left H := { results := [], args := [] }

/-- 'fallowlaw12.PagesApart': WHATEVER THE INPUT: true; the input reads as it did. -/
def pagesApartSpec : ChangeSpec := { name := "pagesApart", fn := fun _ => fun
  | [d] => { results := [.lit (.bool true)], args := [d] }
  | _ => none }
def pagesApartRow : OpenClaim := { program := "ytnbdjnhdneboiaa", sum := "a5054a084b7601f4eb51237c4bcf7f2591ad5bafe791c2aa018d01125f378714", func := "fallow/fallowlaw12.PagesApart", spec := "pagesApart", apart := false }
def PagesApartSaid : Prop := pagesApartRow.holds Try.pinned (OpenSpec.ofChange pagesApartSpec)

/-- ITS FALSE NEIGHBOUR: 'it returns false'. Refute it at one input. -/
def pagesApartWrong : ChangeSpec := { name := "pagesApart", fn := fun _ => fun
  | [d] => { results := [.lit (.bool false)], args := [d] }
  | _ => none }
def PagesApartWrongFalsely : Prop := pagesApartRow.holds Try.pinned (OpenSpec.ofChange pagesApartWrong)

/-- 'fallowlaw12.PagesFirst': WHATEVER THE INPUT: true; the input reads as it did. -/
def pagesFirstSpec : ChangeSpec := { name := "pagesFirst", fn := fun _ => fun
  | [d1, d2, d3] => { results := [.lit (.bool true)], args := [d1, d2, d3] }
  | _ => none }
def pagesFirstRow : OpenClaim := { program := "ytnbdjnhdneboiaa", sum := "a5054a084b7601f4eb51237c4bcf7f2591ad5bafe791c2aa018d01125f378714", func := "fallow/fallowlaw12.PagesFirst", spec := "pagesFirst", apart := false }
def PagesFirstSaid : Prop := pagesFirstRow.holds Try.pinned (OpenSpec.ofChange pagesFirstSpec)

/-- ITS FALSE NEIGHBOUR: 'it returns false'. Refute it at one input. -/
def pagesFirstWrong : ChangeSpec := { name := "pagesFirst", fn := fun _ => fun
  | [d1, d2, d3] => { results := [.lit (.bool false)], args := [d1, d2, d3] }
  | _ => none }
def PagesFirstWrongFalsely : Prop := pagesFirstRow.holds Try.pinned (OpenSpec.ofChange pagesFirstWrong)

/-- 'fallowlaw12.PagesPlays': WHATEVER THE INPUT: true; the input reads as it did. -/
def pagesPlaysSpec : ChangeSpec := { name := "pagesPlays", fn := fun _ => fun
  | [d1, d2] => { results := [.lit (.bool true)], args := [d1, d2] }
  | _ => none }
def pagesPlaysRow : OpenClaim := { program := "ytnbdjnhdneboiaa", sum := "a5054a084b7601f4eb51237c4bcf7f2591ad5bafe791c2aa018d01125f378714", func := "fallow/fallowlaw12.PagesPlays", spec := "pagesPlays", apart := false }
def PagesPlaysSaid : Prop := pagesPlaysRow.holds Try.pinned (OpenSpec.ofChange pagesPlaysSpec)

/-- ITS FALSE NEIGHBOUR: 'it returns false'. Refute it at one input. -/
def pagesPlaysWrong : ChangeSpec := { name := "pagesPlays", fn := fun _ => fun
  | [d1, d2] => { results := [.lit (.bool false)], args := [d1, d2] }
  | _ => none }
def PagesPlaysWrongFalsely : Prop := pagesPlaysRow.holds Try.pinned (OpenSpec.ofChange pagesPlaysWrong)

/-- 'fallowlaw12.PagesKnown': WHATEVER THE INPUT: true; the input reads as it did. -/
def pagesKnownSpec : ChangeSpec := { name := "pagesKnown", fn := fun _ => fun
  | [] => { results := [.lit (.bool true)], args := [] }
  | _ => none }
def pagesKnownRow : OpenClaim := { program := "ytnbdjnhdneboiaa", sum := "a5054a084b7601f4eb51237c4bcf7f2591ad5bafe791c2aa018d01125f378714", func := "fallow/fallowlaw12.PagesKnown", spec := "pagesKnown", apart := false }
def PagesKnownSaid : Prop := pagesKnownRow.holds Try.pinned (OpenSpec.ofChange pagesKnownSpec)

/-- ITS FALSE NEIGHBOUR: 'it returns false'. Refute it at one input. -/
def pagesKnownWrong : ChangeSpec := { name := "pagesKnown", fn := fun _ => fun
  | [] => { results := [.lit (.bool false)], args := [] }
  | _ => none }
def PagesKnownWrongFalsely : Prop := pagesKnownRow.holds Try.pinned (OpenSpec.ofChange pagesKnownWrong)

/- THE SECOND FORM. 'bulk': how many values and letters a reading holds, each counted each time it is reached (what is shared counts as often as it is met; a slice's spare places count too). A statement '..UptoSaid' is the law's where the arguments, and the package variables that the reading takes, are together of bulk at most 1048576: NARROWER than '..Said'. Prove '..Said' where nothing that the law and all that it calls make is longer than what came in: it says more and counts as full. Else prove '..UptoSaid'. A law counts once. -/
mutual
def uptoBulk {H : Type} : DataW H → Nat
  | .lit (.string bytes) => bytes.length + 1
  | .lit _ => 1
  | .nil => 1
  | .ptr d => uptoBulk d + 1
  | .slice elems spare => uptoBulkAll elems + uptoBulkAll spare + 1
  | .agg parts => uptoBulkAll parts + 1
  | .iface _ d => uptoBulk d + 1
  | .map entries => uptoBulkEntries entries + 1
  | .held _ => 1
def uptoBulkAll {H : Type} : List (DataW H) → Nat
  | [] => 0
  | d :: r => uptoBulk d + uptoBulkAll r
def uptoBulkEntries {H : Type} : List (Lit × DataW H) → Nat
  | [] => 0
  | x :: r => uptoBulkEntry x + uptoBulkEntries r
def uptoBulkEntry {H : Type} : Lit × DataW H → Nat
  | (.string bytes, d) => bytes.length + uptoBulk d + 1
  | (_, d) => uptoBulk d + 1
 end
def uptoSmall : (H : Type) → List (DataW H) → Bool := fun _ ds => decide (uptoBulkAll ds ≤ 1048576)
def OpenSpec.upto (s : _root_.Go.ChangeSpec) : _root_.Go.OpenSpec := { _root_.Go.OpenSpec.ofChange s with cond := some uptoSmall }

/-- 'fallowlaw12.PagesApart', WHERE WHAT IT READS IS OF BULK AT MOST 1048576: true; the input reads as it did. -/
def pagesApartUptoRow : OpenClaim := { program := "ytnbdjnhdneboiaa", sum := "a5054a084b7601f4eb51237c4bcf7f2591ad5bafe791c2aa018d01125f378714", func := "fallow/fallowlaw12.PagesApart", spec := "pagesApart", apart := false, narrowed := true }
def PagesApartUptoSaid : Prop := pagesApartUptoRow.holds Try.pinned (OpenSpec.upto pagesApartSpec)

/-- 'fallowlaw12.PagesFirst', WHERE WHAT IT READS IS OF BULK AT MOST 1048576: true; the input reads as it did. -/
def pagesFirstUptoRow : OpenClaim := { program := "ytnbdjnhdneboiaa", sum := "a5054a084b7601f4eb51237c4bcf7f2591ad5bafe791c2aa018d01125f378714", func := "fallow/fallowlaw12.PagesFirst", spec := "pagesFirst", apart := false, narrowed := true }
def PagesFirstUptoSaid : Prop := pagesFirstUptoRow.holds Try.pinned (OpenSpec.upto pagesFirstSpec)

/-- 'fallowlaw12.PagesPlays', WHERE WHAT IT READS IS OF BULK AT MOST 1048576: true; the input reads as it did. -/
def pagesPlaysUptoRow : OpenClaim := { program := "ytnbdjnhdneboiaa", sum := "a5054a084b7601f4eb51237c4bcf7f2591ad5bafe791c2aa018d01125f378714", func := "fallow/fallowlaw12.PagesPlays", spec := "pagesPlays", apart := false, narrowed := true }
def PagesPlaysUptoSaid : Prop := pagesPlaysUptoRow.holds Try.pinned (OpenSpec.upto pagesPlaysSpec)

/-- 'fallowlaw12.PagesKnown', WHERE WHAT IT READS IS OF BULK AT MOST 1048576: true; the input reads as it did. -/
def pagesKnownUptoRow : OpenClaim := { program := "ytnbdjnhdneboiaa", sum := "a5054a084b7601f4eb51237c4bcf7f2591ad5bafe791c2aa018d01125f378714", func := "fallow/fallowlaw12.PagesKnown", spec := "pagesKnown", apart := false, narrowed := true }
def PagesKnownUptoSaid : Prop := pagesKnownUptoRow.holds Try.pinned (OpenSpec.upto pagesKnownSpec)

end Rows
end Go.Proofs.Ytnbdjnhdneboiaa
