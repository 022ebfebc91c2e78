/-
  DERIVED. GIVEN WITH THE SEED: THE CARDS: each row of YthjbnbimfpbccaaGreatDoorRows.lean that lists a variable, with what it lists TIED to the program's text (the seventh form; the later family's looks); each row that meets fmt, with fmt's text TOLD by the authors' own Lean function (tested against real Go, not proved from fmt's source: count such statements apart). THE CARD IS WHAT COUNTS. Prove the row's statement (the work); the ties are given (YthjbnbimfpbccaaGreatDoorTie.lean); close each card by the builder's one call (the guide's Derived/Test/ToyasCard.lean, 'card_holds'). Laid BY PROGRAM, IN A SANDBOX (cutbox-door.mjs). By AI agents, Wed Nov 11 2026. No macro, syntax, notation, axiom, sorry.
-/
import Derived.Test.YthjbnbimfpbccaaGreatDoorRows
import GoSem.ClaimSeven
namespace Go.Proofs.YthjbnbimfpbccaaGreatDoor
namespace Rows

/-- THE TIED CARD OF 'fallowlaw19.SweepOnce'. -/
def sweepOnceCard : Claim7 := { stood := { row := sweepOnceRow, standIns := [], harness := (true, "3062cd3652c7f1f2e100f7b0f94cb3f25dbd22d1cdbeb8dec48f85c1172530cd"), looks := false }, kinds := [], alts := [], laidByText := true, laidKinds := [.data], laidTests := true, laidLooks := .later }
def SweepOnceCardSaid : Prop := Claim7.holds Tryz.pinned (.plain (OpenSpec.ofChange sweepOnceSpec)) sweepOnceCard

/-- THE TIED CARD OF 'fallowlaw19.SweepKnown'. -/
def sweepKnownCard : Claim7 := { stood := { row := sweepKnownRow, standIns := [], harness := (true, "3062cd3652c7f1f2e100f7b0f94cb3f25dbd22d1cdbeb8dec48f85c1172530cd"), looks := false }, kinds := [], alts := [], laidByText := true, laidKinds := [.data], laidTests := true, laidLooks := .later }
def SweepKnownCardSaid : Prop := Claim7.holds Tryz.pinned (.plain (OpenSpec.ofChange sweepKnownSpec)) sweepKnownCard

/-- THE TIED CARD OF 'fallowlaw19.SweepPlays'. -/
def sweepPlaysCard : Claim7 := { stood := { row := sweepPlaysRow, standIns := [], harness := (true, "3062cd3652c7f1f2e100f7b0f94cb3f25dbd22d1cdbeb8dec48f85c1172530cd"), looks := false }, kinds := [], alts := [], laidByText := true, laidKinds := [.data], laidTests := true, laidLooks := .later }
def SweepPlaysCardSaid : Prop := Claim7.holds Tryz.pinned (.plain (OpenSpec.ofChange sweepPlaysSpec)) sweepPlaysCard

/-- THE TIED CARD OF 'fallowlaw19.SweepRevokes'. -/
def sweepRevokesCard : Claim7 := { stood := { row := sweepRevokesRow, standIns := [], harness := (true, "3062cd3652c7f1f2e100f7b0f94cb3f25dbd22d1cdbeb8dec48f85c1172530cd"), looks := false }, kinds := [], alts := [], laidByText := true, laidKinds := [.data], laidTests := true, laidLooks := .later }
def SweepRevokesCardSaid : Prop := Claim7.holds Tryz.pinned (.plain (OpenSpec.ofChange sweepRevokesSpec)) sweepRevokesCard

/-- THE SECOND FORM's CARD OF 'fallowlaw19.SweepOnce'. -/
def sweepOnceUptoCard : Claim7 := { stood := { row := sweepOnceUptoRow, standIns := [], harness := (true, "3062cd3652c7f1f2e100f7b0f94cb3f25dbd22d1cdbeb8dec48f85c1172530cd"), looks := false }, kinds := [], alts := [], laidByText := true, laidKinds := [.data], laidTests := true, laidLooks := .later }
def SweepOnceUptoCardSaid : Prop := Claim7.holds Tryz.pinned (.plain (OpenSpec.upto sweepOnceSpec)) sweepOnceUptoCard

/-- THE SECOND FORM's CARD OF 'fallowlaw19.SweepKnown'. -/
def sweepKnownUptoCard : Claim7 := { stood := { row := sweepKnownUptoRow, standIns := [], harness := (true, "3062cd3652c7f1f2e100f7b0f94cb3f25dbd22d1cdbeb8dec48f85c1172530cd"), looks := false }, kinds := [], alts := [], laidByText := true, laidKinds := [.data], laidTests := true, laidLooks := .later }
def SweepKnownUptoCardSaid : Prop := Claim7.holds Tryz.pinned (.plain (OpenSpec.upto sweepKnownSpec)) sweepKnownUptoCard

/-- THE SECOND FORM's CARD OF 'fallowlaw19.SweepPlays'. -/
def sweepPlaysUptoCard : Claim7 := { stood := { row := sweepPlaysUptoRow, standIns := [], harness := (true, "3062cd3652c7f1f2e100f7b0f94cb3f25dbd22d1cdbeb8dec48f85c1172530cd"), looks := false }, kinds := [], alts := [], laidByText := true, laidKinds := [.data], laidTests := true, laidLooks := .later }
def SweepPlaysUptoCardSaid : Prop := Claim7.holds Tryz.pinned (.plain (OpenSpec.upto sweepPlaysSpec)) sweepPlaysUptoCard

/-- THE SECOND FORM's CARD OF 'fallowlaw19.SweepRevokes'. -/
def sweepRevokesUptoCard : Claim7 := { stood := { row := sweepRevokesUptoRow, standIns := [], harness := (true, "3062cd3652c7f1f2e100f7b0f94cb3f25dbd22d1cdbeb8dec48f85c1172530cd"), looks := false }, kinds := [], alts := [], laidByText := true, laidKinds := [.data], laidTests := true, laidLooks := .later }
def SweepRevokesUptoCardSaid : Prop := Claim7.holds Tryz.pinned (.plain (OpenSpec.upto sweepRevokesSpec)) sweepRevokesUptoCard
end Rows
end Go.Proofs.YthjbnbimfpbccaaGreatDoor
