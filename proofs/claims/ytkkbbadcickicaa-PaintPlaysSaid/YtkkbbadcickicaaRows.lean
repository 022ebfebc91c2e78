/-
  No cell of these rows narrows 'for every input' (looked for: loops, veiled, ifaces, maps, wideKeys, modest, calm, conditions, laid).
  DERIVED. THE GIVEN ROWS OF THIS SEAT. 4 by the template 'for every input the law returns true; each argument reads behind the call as it read before'; 0 by the template 'total and deterministic' (their statements: YtkkbbadcickicaaTotals.lean).
  GIVEN WITH THE SEED: the statements are not yours to turn. If you find one false, say at which input.
  Laid BY PROGRAM, IN A SANDBOX (cutbox-rows.mjs): the forced cells as the released guide's own fill.sh prints them over the translation d2e42e458231fa3d… (all of the seat's roots in one cut). By AI agents, Wed Nov 11 2026. No macro, syntax, notation, axiom, sorry.
-/
import Derived.Test.YtkkbbadcickicaaChecked
import GoSem.Claim
import GoSem.ClaimJoined
import GoSem.ClaimMapViews
import Derived.JoinedTies
import Derived.KernelRfl
namespace Go.Proofs.Ytkkbbadcickicaa
/- THE CELL 'sum', in the pinned program and in every row, IS THE sha256 OF THE DUMP (.gsa) THAT YtkkbbadcickicaaProg.lean LOADS. Nothing in Lean hashes anything: it is a label: what it is worth is what the hold of that sum in a sandbox is worth. -/
noncomputable def Try.pinned : Pinned := { name := "ytkkbbadcickicaa", sum := "d2e42e458231fa3ddf9235f64b0c86db0ede4623f9e73a123a6f49795ccf4717", checked := Try.checked }
namespace Rows
def none {H : Type} : Left H := { results := [], args := [] }

/-- 'fallowlaw15.PaintApart': WHATEVER THE INPUT: true; the input reads as it did. -/
def paintApartSpec : ChangeSpec := { name := "paintApart", fn := fun _ => fun
  | [d] => { results := [.lit (.bool true)], args := [d] }
  | _ => none }
def paintApartRow : OpenClaim := { program := "ytkkbbadcickicaa", sum := "d2e42e458231fa3ddf9235f64b0c86db0ede4623f9e73a123a6f49795ccf4717", func := "fallow/fallowlaw15.PaintApart", spec := "paintApart", unfollowed := true, recurses := true, apart := false }
def PaintApartSaid : Prop := paintApartRow.holds Try.pinned (OpenSpec.ofChange paintApartSpec)

/-- ITS FALSE NEIGHBOUR: 'it returns false'. Refute it at one input. -/
def paintApartWrong : ChangeSpec := { name := "paintApart", fn := fun _ => fun
  | [d] => { results := [.lit (.bool false)], args := [d] }
  | _ => none }
def PaintApartWrongFalsely : Prop := paintApartRow.holds Try.pinned (OpenSpec.ofChange paintApartWrong)

/-- 'fallowlaw15.PaintAll': WHATEVER THE INPUT: true; the input reads as it did. -/
def paintAllSpec : ChangeSpec := { name := "paintAll", fn := fun _ => fun
  | [d] => { results := [.lit (.bool true)], args := [d] }
  | _ => none }
def paintAllRow : OpenClaim := { program := "ytkkbbadcickicaa", sum := "d2e42e458231fa3ddf9235f64b0c86db0ede4623f9e73a123a6f49795ccf4717", func := "fallow/fallowlaw15.PaintAll", spec := "paintAll", unfollowed := true, recurses := true, apart := false }
def PaintAllSaid : Prop := paintAllRow.holds Try.pinned (OpenSpec.ofChange paintAllSpec)

/-- ITS FALSE NEIGHBOUR: 'it returns false'. Refute it at one input. -/
def paintAllWrong : ChangeSpec := { name := "paintAll", fn := fun _ => fun
  | [d] => { results := [.lit (.bool false)], args := [d] }
  | _ => none }
def PaintAllWrongFalsely : Prop := paintAllRow.holds Try.pinned (OpenSpec.ofChange paintAllWrong)

/-- 'fallowlaw15.PaintPlays': WHATEVER THE INPUT: true; the input reads as it did. -/
def paintPlaysSpec : ChangeSpec := { name := "paintPlays", fn := fun _ => fun
  | [d1, d2, d3] => { results := [.lit (.bool true)], args := [d1, d2, d3] }
  | _ => none }
def paintPlaysRow : OpenClaim := { program := "ytkkbbadcickicaa", sum := "d2e42e458231fa3ddf9235f64b0c86db0ede4623f9e73a123a6f49795ccf4717", func := "fallow/fallowlaw15.PaintPlays", spec := "paintPlays", unfollowed := true, recurses := true, apart := false }
def PaintPlaysSaid : Prop := paintPlaysRow.holds Try.pinned (OpenSpec.ofChange paintPlaysSpec)

/-- ITS FALSE NEIGHBOUR: 'it returns false'. Refute it at one input. -/
def paintPlaysWrong : ChangeSpec := { name := "paintPlays", fn := fun _ => fun
  | [d1, d2, d3] => { results := [.lit (.bool false)], args := [d1, d2, d3] }
  | _ => none }
def PaintPlaysWrongFalsely : Prop := paintPlaysRow.holds Try.pinned (OpenSpec.ofChange paintPlaysWrong)

/-- 'fallowlaw15.PaintKnown': WHATEVER THE INPUT: true; the input reads as it did. -/
def paintKnownSpec : ChangeSpec := { name := "paintKnown", fn := fun _ => fun
  | [] => { results := [.lit (.bool true)], args := [] }
  | _ => none }
def paintKnownRow : OpenClaim := { program := "ytkkbbadcickicaa", sum := "d2e42e458231fa3ddf9235f64b0c86db0ede4623f9e73a123a6f49795ccf4717", func := "fallow/fallowlaw15.PaintKnown", spec := "paintKnown", unfollowed := true, recurses := true, apart := false }
def PaintKnownSaid : Prop := paintKnownRow.holds Try.pinned (OpenSpec.ofChange paintKnownSpec)

/-- ITS FALSE NEIGHBOUR: 'it returns false'. Refute it at one input. -/
def paintKnownWrong : ChangeSpec := { name := "paintKnown", fn := fun _ => fun
  | [] => { results := [.lit (.bool false)], args := [] }
  | _ => none }
def PaintKnownWrongFalsely : Prop := paintKnownRow.holds Try.pinned (OpenSpec.ofChange paintKnownWrong)

/- THE SECOND FORM. 'bulk': how many values and letters a reading holds, each counted each time it is reached (what is shared counts as often as it is met; a slice's spare places count too). A statement '..UptoSaid' is the law's where the arguments, and the package variables that the reading takes, are together of bulk at most 1048576: NARROWER than '..Said'. Prove '..Said' where nothing that the law and all that it calls make is longer than what came in: it says more and counts as full. Else prove '..UptoSaid'. A law counts once. -/
mutual
def uptoBulk {H : Type} : DataW H → Nat
  | .lit (.string bytes) => bytes.length + 1
  | .lit _ => 1
  | .nil => 1
  | .ptr d => uptoBulk d + 1
  | .slice elems spare => uptoBulkAll elems + uptoBulkAll spare + 1
  | .agg parts => uptoBulkAll parts + 1
  | .iface _ d => uptoBulk d + 1
  | .map entries => uptoBulkEntries entries + 1
  | .held _ => 1
def uptoBulkAll {H : Type} : List (DataW H) → Nat
  | [] => 0
  | d :: r => uptoBulk d + uptoBulkAll r
def uptoBulkEntries {H : Type} : List (Lit × DataW H) → Nat
  | [] => 0
  | x :: r => uptoBulkEntry x + uptoBulkEntries r
def uptoBulkEntry {H : Type} : Lit × DataW H → Nat
  | (.string bytes, d) => bytes.length + uptoBulk d + 1
  | (_, d) => uptoBulk d + 1
 end
def uptoSmall : (H : Type) → List (DataW H) → Bool := fun _ ds => decide (uptoBulkAll ds ≤ 1048576)
def OpenSpec.upto (s : _root_.Go.ChangeSpec) : _root_.Go.OpenSpec := { _root_.Go.OpenSpec.ofChange s with cond := some uptoSmall }

/-- 'fallowlaw15.PaintApart', WHERE WHAT IT READS IS OF BULK AT MOST 1048576: true; the input reads as it did. -/
def paintApartUptoRow : OpenClaim := { program := "ytkkbbadcickicaa", sum := "d2e42e458231fa3ddf9235f64b0c86db0ede4623f9e73a123a6f49795ccf4717", func := "fallow/fallowlaw15.PaintApart", spec := "paintApart", unfollowed := true, recurses := true, apart := false, narrowed := true }
def PaintApartUptoSaid : Prop := paintApartUptoRow.holds Try.pinned (OpenSpec.upto paintApartSpec)

/-- 'fallowlaw15.PaintAll', WHERE WHAT IT READS IS OF BULK AT MOST 1048576: true; the input reads as it did. -/
def paintAllUptoRow : OpenClaim := { program := "ytkkbbadcickicaa", sum := "d2e42e458231fa3ddf9235f64b0c86db0ede4623f9e73a123a6f49795ccf4717", func := "fallow/fallowlaw15.PaintAll", spec := "paintAll", unfollowed := true, recurses := true, apart := false, narrowed := true }
def PaintAllUptoSaid : Prop := paintAllUptoRow.holds Try.pinned (OpenSpec.upto paintAllSpec)

/-- 'fallowlaw15.PaintPlays', WHERE WHAT IT READS IS OF BULK AT MOST 1048576: true; the input reads as it did. -/
def paintPlaysUptoRow : OpenClaim := { program := "ytkkbbadcickicaa", sum := "d2e42e458231fa3ddf9235f64b0c86db0ede4623f9e73a123a6f49795ccf4717", func := "fallow/fallowlaw15.PaintPlays", spec := "paintPlays", unfollowed := true, recurses := true, apart := false, narrowed := true }
def PaintPlaysUptoSaid : Prop := paintPlaysUptoRow.holds Try.pinned (OpenSpec.upto paintPlaysSpec)

/-- 'fallowlaw15.PaintKnown', WHERE WHAT IT READS IS OF BULK AT MOST 1048576: true; the input reads as it did. -/
def paintKnownUptoRow : OpenClaim := { program := "ytkkbbadcickicaa", sum := "d2e42e458231fa3ddf9235f64b0c86db0ede4623f9e73a123a6f49795ccf4717", func := "fallow/fallowlaw15.PaintKnown", spec := "paintKnown", unfollowed := true, recurses := true, apart := false, narrowed := true }
def PaintKnownUptoSaid : Prop := paintKnownUptoRow.holds Try.pinned (OpenSpec.upto paintKnownSpec)

end Rows
end Go.Proofs.Ytkkbbadcickicaa
