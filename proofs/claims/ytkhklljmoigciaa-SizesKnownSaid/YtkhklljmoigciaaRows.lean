/-
  No cell of these rows narrows 'for every input' (looked for: loops, veiled, ifaces, maps, wideKeys, modest, calm, conditions, laid).
  DERIVED. THE GIVEN ROWS OF THIS SEAT. 7 by the template 'for every input the law returns true; each argument reads behind the call as it read before'; 0 by the template 'total and deterministic' (their statements: YtkhklljmoigciaaTotals.lean).
  GIVEN WITH THE SEED: the statements are not yours to turn. If you find one false, say at which input.
  Laid BY PROGRAM, IN A SANDBOX (cutbox-rows.mjs): the forced cells as the released guide's own fill.sh prints them over the translation 1bfa098da11ad93f… (all of the seat's roots in one cut). By AI agents, Wed Nov 11 2026. No macro, syntax, notation, axiom, sorry.
-/
import Derived.Test.YtkhklljmoigciaaChecked
import GoSem.Claim
import GoSem.ClaimJoined
import GoSem.ClaimMapViews
import Derived.JoinedTies
import Derived.KernelRfl
namespace Go.Proofs.Ytkhklljmoigciaa
/- THE CELL 'sum', in the pinned program and in every row, IS THE sha256 OF THE DUMP (.gsa) THAT YtkhklljmoigciaaProg.lean LOADS. Nothing in Lean hashes anything: it is a label: what it is worth is what the hold of that sum in a sandbox is worth. -/
noncomputable def Try.pinned : Pinned := { name := "ytkhklljmoigciaa", sum := "1bfa098da11ad93fd65ae8830e8bbbc125621722dcfb51f5a9c705808b1db4b6", checked := Try.checked }
namespace Rows
def none {H : Type} : Left H := { results := [], args := [] }

/-- 'fallowlaw11.SizesPad': WHATEVER THE INPUT: true; the input reads as it did. -/
def sizesPadSpec : ChangeSpec := { name := "sizesPad", fn := fun _ => fun
  | [d1, d2] => { results := [.lit (.bool true)], args := [d1, d2] }
  | _ => none }
def sizesPadRow : OpenClaim := { program := "ytkhklljmoigciaa", sum := "1bfa098da11ad93fd65ae8830e8bbbc125621722dcfb51f5a9c705808b1db4b6", func := "fallow/fallowlaw11.SizesPad", spec := "sizesPad", unfollowed := true, recurses := true, apart := false }
def SizesPadSaid : Prop := sizesPadRow.holds Try.pinned (OpenSpec.ofChange sizesPadSpec)

/-- ITS FALSE NEIGHBOUR: 'it returns false'. Refute it at one input. -/
def sizesPadWrong : ChangeSpec := { name := "sizesPad", fn := fun _ => fun
  | [d1, d2] => { results := [.lit (.bool false)], args := [d1, d2] }
  | _ => none }
def SizesPadWrongFalsely : Prop := sizesPadRow.holds Try.pinned (OpenSpec.ofChange sizesPadWrong)

/-- 'fallowlaw11.SizesRise': WHATEVER THE INPUT: true; the input reads as it did. -/
def sizesRiseSpec : ChangeSpec := { name := "sizesRise", fn := fun _ => fun
  | [d1, d2, d3] => { results := [.lit (.bool true)], args := [d1, d2, d3] }
  | _ => none }
def sizesRiseRow : OpenClaim := { program := "ytkhklljmoigciaa", sum := "1bfa098da11ad93fd65ae8830e8bbbc125621722dcfb51f5a9c705808b1db4b6", func := "fallow/fallowlaw11.SizesRise", spec := "sizesRise", unfollowed := true, recurses := true, apart := false }
def SizesRiseSaid : Prop := sizesRiseRow.holds Try.pinned (OpenSpec.ofChange sizesRiseSpec)

/-- ITS FALSE NEIGHBOUR: 'it returns false'. Refute it at one input. -/
def sizesRiseWrong : ChangeSpec := { name := "sizesRise", fn := fun _ => fun
  | [d1, d2, d3] => { results := [.lit (.bool false)], args := [d1, d2, d3] }
  | _ => none }
def SizesRiseWrongFalsely : Prop := sizesRiseRow.holds Try.pinned (OpenSpec.ofChange sizesRiseWrong)

/-- 'fallowlaw11.SizesLeast': WHATEVER THE INPUT: true; the input reads as it did. -/
def sizesLeastSpec : ChangeSpec := { name := "sizesLeast", fn := fun _ => fun
  | [d] => { results := [.lit (.bool true)], args := [d] }
  | _ => none }
def sizesLeastRow : OpenClaim := { program := "ytkhklljmoigciaa", sum := "1bfa098da11ad93fd65ae8830e8bbbc125621722dcfb51f5a9c705808b1db4b6", func := "fallow/fallowlaw11.SizesLeast", spec := "sizesLeast", unfollowed := true, recurses := true, apart := false }
def SizesLeastSaid : Prop := sizesLeastRow.holds Try.pinned (OpenSpec.ofChange sizesLeastSpec)

/-- ITS FALSE NEIGHBOUR: 'it returns false'. Refute it at one input. -/
def sizesLeastWrong : ChangeSpec := { name := "sizesLeast", fn := fun _ => fun
  | [d] => { results := [.lit (.bool false)], args := [d] }
  | _ => none }
def SizesLeastWrongFalsely : Prop := sizesLeastRow.holds Try.pinned (OpenSpec.ofChange sizesLeastWrong)

/-- 'fallowlaw11.SizesClass': WHATEVER THE INPUT: true; the input reads as it did. -/
def sizesClassSpec : ChangeSpec := { name := "sizesClass", fn := fun _ => fun
  | [d1, d2] => { results := [.lit (.bool true)], args := [d1, d2] }
  | _ => none }
def sizesClassRow : OpenClaim := { program := "ytkhklljmoigciaa", sum := "1bfa098da11ad93fd65ae8830e8bbbc125621722dcfb51f5a9c705808b1db4b6", func := "fallow/fallowlaw11.SizesClass", spec := "sizesClass", unfollowed := true, recurses := true, apart := false }
def SizesClassSaid : Prop := sizesClassRow.holds Try.pinned (OpenSpec.ofChange sizesClassSpec)

/-- ITS FALSE NEIGHBOUR: 'it returns false'. Refute it at one input. -/
def sizesClassWrong : ChangeSpec := { name := "sizesClass", fn := fun _ => fun
  | [d1, d2] => { results := [.lit (.bool false)], args := [d1, d2] }
  | _ => none }
def SizesClassWrongFalsely : Prop := sizesClassRow.holds Try.pinned (OpenSpec.ofChange sizesClassWrong)

/-- 'fallowlaw11.SizesPages': WHATEVER THE INPUT: true; the input reads as it did. -/
def sizesPagesSpec : ChangeSpec := { name := "sizesPages", fn := fun _ => fun
  | [d] => { results := [.lit (.bool true)], args := [d] }
  | _ => none }
def sizesPagesRow : OpenClaim := { program := "ytkhklljmoigciaa", sum := "1bfa098da11ad93fd65ae8830e8bbbc125621722dcfb51f5a9c705808b1db4b6", func := "fallow/fallowlaw11.SizesPages", spec := "sizesPages", unfollowed := true, recurses := true, apart := false }
def SizesPagesSaid : Prop := sizesPagesRow.holds Try.pinned (OpenSpec.ofChange sizesPagesSpec)

/-- ITS FALSE NEIGHBOUR: 'it returns false'. Refute it at one input. -/
def sizesPagesWrong : ChangeSpec := { name := "sizesPages", fn := fun _ => fun
  | [d] => { results := [.lit (.bool false)], args := [d] }
  | _ => none }
def SizesPagesWrongFalsely : Prop := sizesPagesRow.holds Try.pinned (OpenSpec.ofChange sizesPagesWrong)

/-- 'fallowlaw11.SizesKnown': WHATEVER THE INPUT: true; the input reads as it did. -/
def sizesKnownSpec : ChangeSpec := { name := "sizesKnown", fn := fun _ => fun
  | [] => { results := [.lit (.bool true)], args := [] }
  | _ => none }
def sizesKnownRow : OpenClaim := { program := "ytkhklljmoigciaa", sum := "1bfa098da11ad93fd65ae8830e8bbbc125621722dcfb51f5a9c705808b1db4b6", func := "fallow/fallowlaw11.SizesKnown", spec := "sizesKnown", unfollowed := true, recurses := true, apart := false }
def SizesKnownSaid : Prop := sizesKnownRow.holds Try.pinned (OpenSpec.ofChange sizesKnownSpec)

/-- ITS FALSE NEIGHBOUR: 'it returns false'. Refute it at one input. -/
def sizesKnownWrong : ChangeSpec := { name := "sizesKnown", fn := fun _ => fun
  | [] => { results := [.lit (.bool false)], args := [] }
  | _ => none }
def SizesKnownWrongFalsely : Prop := sizesKnownRow.holds Try.pinned (OpenSpec.ofChange sizesKnownWrong)

/-- 'fallowlaw11.SizesExact': WHATEVER THE INPUT: true; the input reads as it did. -/
def sizesExactSpec : ChangeSpec := { name := "sizesExact", fn := fun _ => fun
  | [d1, d2, d3] => { results := [.lit (.bool true)], args := [d1, d2, d3] }
  | _ => none }
def sizesExactRow : OpenClaim := { program := "ytkhklljmoigciaa", sum := "1bfa098da11ad93fd65ae8830e8bbbc125621722dcfb51f5a9c705808b1db4b6", func := "fallow/fallowlaw11.SizesExact", spec := "sizesExact", unfollowed := true, recurses := true, apart := false }
def SizesExactSaid : Prop := sizesExactRow.holds Try.pinned (OpenSpec.ofChange sizesExactSpec)

/-- ITS FALSE NEIGHBOUR: 'it returns false'. Refute it at one input. -/
def sizesExactWrong : ChangeSpec := { name := "sizesExact", fn := fun _ => fun
  | [d1, d2, d3] => { results := [.lit (.bool false)], args := [d1, d2, d3] }
  | _ => none }
def SizesExactWrongFalsely : Prop := sizesExactRow.holds Try.pinned (OpenSpec.ofChange sizesExactWrong)

/- THE SECOND FORM. 'bulk': how many values and letters a reading holds, each counted each time it is reached (what is shared counts as often as it is met; a slice's spare places count too). A statement '..UptoSaid' is the law's where the arguments, and the package variables that the reading takes, are together of bulk at most 1048576: NARROWER than '..Said'. Prove '..Said' where nothing that the law and all that it calls make is longer than what came in: it says more and counts as full. Else prove '..UptoSaid'. A law counts once. -/
mutual
def uptoBulk {H : Type} : DataW H → Nat
  | .lit (.string bytes) => bytes.length + 1
  | .lit _ => 1
  | .nil => 1
  | .ptr d => uptoBulk d + 1
  | .slice elems spare => uptoBulkAll elems + uptoBulkAll spare + 1
  | .agg parts => uptoBulkAll parts + 1
  | .iface _ d => uptoBulk d + 1
  | .map entries => uptoBulkEntries entries + 1
  | .held _ => 1
def uptoBulkAll {H : Type} : List (DataW H) → Nat
  | [] => 0
  | d :: r => uptoBulk d + uptoBulkAll r
def uptoBulkEntries {H : Type} : List (Lit × DataW H) → Nat
  | [] => 0
  | x :: r => uptoBulkEntry x + uptoBulkEntries r
def uptoBulkEntry {H : Type} : Lit × DataW H → Nat
  | (.string bytes, d) => bytes.length + uptoBulk d + 1
  | (_, d) => uptoBulk d + 1
 end
def uptoSmall : (H : Type) → List (DataW H) → Bool := fun _ ds => decide (uptoBulkAll ds ≤ 1048576)
def OpenSpec.upto (s : _root_.Go.ChangeSpec) : _root_.Go.OpenSpec := { _root_.Go.OpenSpec.ofChange s with cond := some uptoSmall }

/-- 'fallowlaw11.SizesPad', WHERE WHAT IT READS IS OF BULK AT MOST 1048576: true; the input reads as it did. -/
def sizesPadUptoRow : OpenClaim := { program := "ytkhklljmoigciaa", sum := "1bfa098da11ad93fd65ae8830e8bbbc125621722dcfb51f5a9c705808b1db4b6", func := "fallow/fallowlaw11.SizesPad", spec := "sizesPad", unfollowed := true, recurses := true, apart := false, narrowed := true }
def SizesPadUptoSaid : Prop := sizesPadUptoRow.holds Try.pinned (OpenSpec.upto sizesPadSpec)

/-- 'fallowlaw11.SizesRise', WHERE WHAT IT READS IS OF BULK AT MOST 1048576: true; the input reads as it did. -/
def sizesRiseUptoRow : OpenClaim := { program := "ytkhklljmoigciaa", sum := "1bfa098da11ad93fd65ae8830e8bbbc125621722dcfb51f5a9c705808b1db4b6", func := "fallow/fallowlaw11.SizesRise", spec := "sizesRise", unfollowed := true, recurses := true, apart := false, narrowed := true }
def SizesRiseUptoSaid : Prop := sizesRiseUptoRow.holds Try.pinned (OpenSpec.upto sizesRiseSpec)

/-- 'fallowlaw11.SizesLeast', WHERE WHAT IT READS IS OF BULK AT MOST 1048576: true; the input reads as it did. -/
def sizesLeastUptoRow : OpenClaim := { program := "ytkhklljmoigciaa", sum := "1bfa098da11ad93fd65ae8830e8bbbc125621722dcfb51f5a9c705808b1db4b6", func := "fallow/fallowlaw11.SizesLeast", spec := "sizesLeast", unfollowed := true, recurses := true, apart := false, narrowed := true }
def SizesLeastUptoSaid : Prop := sizesLeastUptoRow.holds Try.pinned (OpenSpec.upto sizesLeastSpec)

/-- 'fallowlaw11.SizesClass', WHERE WHAT IT READS IS OF BULK AT MOST 1048576: true; the input reads as it did. -/
def sizesClassUptoRow : OpenClaim := { program := "ytkhklljmoigciaa", sum := "1bfa098da11ad93fd65ae8830e8bbbc125621722dcfb51f5a9c705808b1db4b6", func := "fallow/fallowlaw11.SizesClass", spec := "sizesClass", unfollowed := true, recurses := true, apart := false, narrowed := true }
def SizesClassUptoSaid : Prop := sizesClassUptoRow.holds Try.pinned (OpenSpec.upto sizesClassSpec)

/-- 'fallowlaw11.SizesPages', WHERE WHAT IT READS IS OF BULK AT MOST 1048576: true; the input reads as it did. -/
def sizesPagesUptoRow : OpenClaim := { program := "ytkhklljmoigciaa", sum := "1bfa098da11ad93fd65ae8830e8bbbc125621722dcfb51f5a9c705808b1db4b6", func := "fallow/fallowlaw11.SizesPages", spec := "sizesPages", unfollowed := true, recurses := true, apart := false, narrowed := true }
def SizesPagesUptoSaid : Prop := sizesPagesUptoRow.holds Try.pinned (OpenSpec.upto sizesPagesSpec)

/-- 'fallowlaw11.SizesKnown', WHERE WHAT IT READS IS OF BULK AT MOST 1048576: true; the input reads as it did. -/
def sizesKnownUptoRow : OpenClaim := { program := "ytkhklljmoigciaa", sum := "1bfa098da11ad93fd65ae8830e8bbbc125621722dcfb51f5a9c705808b1db4b6", func := "fallow/fallowlaw11.SizesKnown", spec := "sizesKnown", unfollowed := true, recurses := true, apart := false, narrowed := true }
def SizesKnownUptoSaid : Prop := sizesKnownUptoRow.holds Try.pinned (OpenSpec.upto sizesKnownSpec)

/-- 'fallowlaw11.SizesExact', WHERE WHAT IT READS IS OF BULK AT MOST 1048576: true; the input reads as it did. -/
def sizesExactUptoRow : OpenClaim := { program := "ytkhklljmoigciaa", sum := "1bfa098da11ad93fd65ae8830e8bbbc125621722dcfb51f5a9c705808b1db4b6", func := "fallow/fallowlaw11.SizesExact", spec := "sizesExact", unfollowed := true, recurses := true, apart := false, narrowed := true }
def SizesExactUptoSaid : Prop := sizesExactUptoRow.holds Try.pinned (OpenSpec.upto sizesExactSpec)

end Rows
end Go.Proofs.Ytkhklljmoigciaa
