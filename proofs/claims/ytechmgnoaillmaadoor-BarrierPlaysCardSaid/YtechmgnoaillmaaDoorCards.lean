/-
  DERIVED. GIVEN WITH THE SEED: THE CARDS: each row of YtechmgnoaillmaaDoorRows.lean that lists a variable, with what it lists TIED to the program's text (the seventh form; the later family's looks); each row that meets fmt, with fmt's text TOLD by the authors' own Lean function (tested against real Go, not proved from fmt's source: count such statements apart). THE CARD IS WHAT COUNTS. Prove the row's statement (the work); the ties are given (YtechmgnoaillmaaDoorTie.lean); close each card by the builder's one call (the guide's Derived/Test/ToyasCard.lean, 'card_holds'). Laid BY PROGRAM, IN A SANDBOX (cutbox-door.mjs). By AI agents, Wed Nov 11 2026. No macro, syntax, notation, axiom, sorry.
-/
import Derived.Test.YtechmgnoaillmaaDoorRows
import GoSem.ClaimSeven
namespace Go.Proofs.YtechmgnoaillmaaDoor
namespace Rows

/-- THE TIED CARD OF 'fallowlaw18.BarrierOnce'. -/
def barrierOnceCard : Claim7 := { stood := { row := barrierOnceRow, standIns := [], harness := (true, "e7793fe97485d756a82b701d73278ca7f641ab8b64b482d8997c6421f31e14ea"), looks := false }, kinds := [], alts := [], laidByText := true, laidKinds := [.data], laidTests := true, laidLooks := .later }
def BarrierOnceCardSaid : Prop := Claim7.holds Tryd.pinned (.plain (OpenSpec.ofChange barrierOnceSpec)) barrierOnceCard

/-- THE TIED CARD OF 'fallowlaw18.BarrierLowest'. -/
def barrierLowestCard : Claim7 := { stood := { row := barrierLowestRow, standIns := [], harness := (true, "e7793fe97485d756a82b701d73278ca7f641ab8b64b482d8997c6421f31e14ea"), looks := false }, kinds := [], alts := [], laidByText := true, laidKinds := [.data], laidTests := true, laidLooks := .later }
def BarrierLowestCardSaid : Prop := Claim7.holds Tryd.pinned (.plain (OpenSpec.ofChange barrierLowestSpec)) barrierLowestCard

/-- THE TIED CARD OF 'fallowlaw18.BarrierPlays'. -/
def barrierPlaysCard : Claim7 := { stood := { row := barrierPlaysRow, standIns := [], harness := (true, "e7793fe97485d756a82b701d73278ca7f641ab8b64b482d8997c6421f31e14ea"), looks := false }, kinds := [], alts := [], laidByText := true, laidKinds := [.data], laidTests := true, laidLooks := .later }
def BarrierPlaysCardSaid : Prop := Claim7.holds Tryd.pinned (.plain (OpenSpec.ofChange barrierPlaysSpec)) barrierPlaysCard

/-- THE TIED CARD OF 'fallowlaw18.BarrierKnown'. -/
def barrierKnownCard : Claim7 := { stood := { row := barrierKnownRow, standIns := [], harness := (true, "e7793fe97485d756a82b701d73278ca7f641ab8b64b482d8997c6421f31e14ea"), looks := false }, kinds := [], alts := [], laidByText := true, laidKinds := [.data], laidTests := true, laidLooks := .later }
def BarrierKnownCardSaid : Prop := Claim7.holds Tryd.pinned (.plain (OpenSpec.ofChange barrierKnownSpec)) barrierKnownCard

/-- THE SECOND FORM's CARD OF 'fallowlaw18.BarrierOnce'. -/
def barrierOnceUptoCard : Claim7 := { stood := { row := barrierOnceUptoRow, standIns := [], harness := (true, "e7793fe97485d756a82b701d73278ca7f641ab8b64b482d8997c6421f31e14ea"), looks := false }, kinds := [], alts := [], laidByText := true, laidKinds := [.data], laidTests := true, laidLooks := .later }
def BarrierOnceUptoCardSaid : Prop := Claim7.holds Tryd.pinned (.plain (OpenSpec.upto barrierOnceSpec)) barrierOnceUptoCard

/-- THE SECOND FORM's CARD OF 'fallowlaw18.BarrierLowest'. -/
def barrierLowestUptoCard : Claim7 := { stood := { row := barrierLowestUptoRow, standIns := [], harness := (true, "e7793fe97485d756a82b701d73278ca7f641ab8b64b482d8997c6421f31e14ea"), looks := false }, kinds := [], alts := [], laidByText := true, laidKinds := [.data], laidTests := true, laidLooks := .later }
def BarrierLowestUptoCardSaid : Prop := Claim7.holds Tryd.pinned (.plain (OpenSpec.upto barrierLowestSpec)) barrierLowestUptoCard

/-- THE SECOND FORM's CARD OF 'fallowlaw18.BarrierPlays'. -/
def barrierPlaysUptoCard : Claim7 := { stood := { row := barrierPlaysUptoRow, standIns := [], harness := (true, "e7793fe97485d756a82b701d73278ca7f641ab8b64b482d8997c6421f31e14ea"), looks := false }, kinds := [], alts := [], laidByText := true, laidKinds := [.data], laidTests := true, laidLooks := .later }
def BarrierPlaysUptoCardSaid : Prop := Claim7.holds Tryd.pinned (.plain (OpenSpec.upto barrierPlaysSpec)) barrierPlaysUptoCard

/-- THE SECOND FORM's CARD OF 'fallowlaw18.BarrierKnown'. -/
def barrierKnownUptoCard : Claim7 := { stood := { row := barrierKnownUptoRow, standIns := [], harness := (true, "e7793fe97485d756a82b701d73278ca7f641ab8b64b482d8997c6421f31e14ea"), looks := false }, kinds := [], alts := [], laidByText := true, laidKinds := [.data], laidTests := true, laidLooks := .later }
def BarrierKnownUptoCardSaid : Prop := Claim7.holds Tryd.pinned (.plain (OpenSpec.upto barrierKnownSpec)) barrierKnownUptoCard
end Rows
end Go.Proofs.YtechmgnoaillmaaDoor
