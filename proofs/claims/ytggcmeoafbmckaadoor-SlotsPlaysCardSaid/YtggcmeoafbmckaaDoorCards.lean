/-
  DERIVED. GIVEN WITH THE SEED: THE CARDS: each row of YtggcmeoafbmckaaDoorRows.lean that lists a variable, with what it lists TIED to the program's text (the seventh form; the later family's looks); each row that meets fmt, with fmt's text TOLD by the authors' own Lean function (tested against real Go, not proved from fmt's source: count such statements apart). THE CARD IS WHAT COUNTS. Prove the row's statement (the work); the ties are given (YtggcmeoafbmckaaDoorTie.lean); close each card by the builder's one call (the guide's Derived/Test/ToyasCard.lean, 'card_holds'). Laid BY PROGRAM, IN A SANDBOX (cutbox-door.mjs). By AI agents, Wed Nov 11 2026. No macro, syntax, notation, axiom, sorry.
-/
import Derived.Test.YtggcmeoafbmckaaDoorRows
import GoSem.ClaimSeven
namespace Go.Proofs.YtggcmeoafbmckaaDoor
namespace Rows

/-- THE TIED CARD OF 'fallowlaw13.SlotsOnce'. -/
def slotsOnceCard : Claim7 := { stood := { row := slotsOnceRow, standIns := [], harness := (true, "cf9a7591cfa8dce3dcc3bf8a48b51dd81b21bd8b37a86308b919ccced3aca6f0"), looks := false }, kinds := [], alts := [], laidByText := true, laidKinds := [.data], laidTests := true, laidLooks := .later }
def SlotsOnceCardSaid : Prop := Claim7.holds Tryd.pinned (.plain (OpenSpec.ofChange slotsOnceSpec)) slotsOnceCard

/-- THE TIED CARD OF 'fallowlaw13.SlotsLeast'. -/
def slotsLeastCard : Claim7 := { stood := { row := slotsLeastRow, standIns := [], harness := (true, "cf9a7591cfa8dce3dcc3bf8a48b51dd81b21bd8b37a86308b919ccced3aca6f0"), looks := false }, kinds := [], alts := [], laidByText := true, laidKinds := [.data], laidTests := true, laidLooks := .later }
def SlotsLeastCardSaid : Prop := Claim7.holds Tryd.pinned (.plain (OpenSpec.ofChange slotsLeastSpec)) slotsLeastCard

/-- THE TIED CARD OF 'fallowlaw13.SlotsPlays'. -/
def slotsPlaysCard : Claim7 := { stood := { row := slotsPlaysRow, standIns := [], harness := (true, "cf9a7591cfa8dce3dcc3bf8a48b51dd81b21bd8b37a86308b919ccced3aca6f0"), looks := false }, kinds := [], alts := [], laidByText := true, laidKinds := [.data], laidTests := true, laidLooks := .later }
def SlotsPlaysCardSaid : Prop := Claim7.holds Tryd.pinned (.plain (OpenSpec.ofChange slotsPlaysSpec)) slotsPlaysCard

/-- THE TIED CARD OF 'fallowlaw13.SlotsKnown'. -/
def slotsKnownCard : Claim7 := { stood := { row := slotsKnownRow, standIns := [], harness := (true, "cf9a7591cfa8dce3dcc3bf8a48b51dd81b21bd8b37a86308b919ccced3aca6f0"), looks := false }, kinds := [], alts := [], laidByText := true, laidKinds := [.data], laidTests := true, laidLooks := .later }
def SlotsKnownCardSaid : Prop := Claim7.holds Tryd.pinned (.plain (OpenSpec.ofChange slotsKnownSpec)) slotsKnownCard

/-- THE SECOND FORM's CARD OF 'fallowlaw13.SlotsOnce'. -/
def slotsOnceUptoCard : Claim7 := { stood := { row := slotsOnceUptoRow, standIns := [], harness := (true, "cf9a7591cfa8dce3dcc3bf8a48b51dd81b21bd8b37a86308b919ccced3aca6f0"), looks := false }, kinds := [], alts := [], laidByText := true, laidKinds := [.data], laidTests := true, laidLooks := .later }
def SlotsOnceUptoCardSaid : Prop := Claim7.holds Tryd.pinned (.plain (OpenSpec.upto slotsOnceSpec)) slotsOnceUptoCard

/-- THE SECOND FORM's CARD OF 'fallowlaw13.SlotsLeast'. -/
def slotsLeastUptoCard : Claim7 := { stood := { row := slotsLeastUptoRow, standIns := [], harness := (true, "cf9a7591cfa8dce3dcc3bf8a48b51dd81b21bd8b37a86308b919ccced3aca6f0"), looks := false }, kinds := [], alts := [], laidByText := true, laidKinds := [.data], laidTests := true, laidLooks := .later }
def SlotsLeastUptoCardSaid : Prop := Claim7.holds Tryd.pinned (.plain (OpenSpec.upto slotsLeastSpec)) slotsLeastUptoCard

/-- THE SECOND FORM's CARD OF 'fallowlaw13.SlotsPlays'. -/
def slotsPlaysUptoCard : Claim7 := { stood := { row := slotsPlaysUptoRow, standIns := [], harness := (true, "cf9a7591cfa8dce3dcc3bf8a48b51dd81b21bd8b37a86308b919ccced3aca6f0"), looks := false }, kinds := [], alts := [], laidByText := true, laidKinds := [.data], laidTests := true, laidLooks := .later }
def SlotsPlaysUptoCardSaid : Prop := Claim7.holds Tryd.pinned (.plain (OpenSpec.upto slotsPlaysSpec)) slotsPlaysUptoCard

/-- THE SECOND FORM's CARD OF 'fallowlaw13.SlotsKnown'. -/
def slotsKnownUptoCard : Claim7 := { stood := { row := slotsKnownUptoRow, standIns := [], harness := (true, "cf9a7591cfa8dce3dcc3bf8a48b51dd81b21bd8b37a86308b919ccced3aca6f0"), looks := false }, kinds := [], alts := [], laidByText := true, laidKinds := [.data], laidTests := true, laidLooks := .later }
def SlotsKnownUptoCardSaid : Prop := Claim7.holds Tryd.pinned (.plain (OpenSpec.upto slotsKnownSpec)) slotsKnownUptoCard
end Rows
end Go.Proofs.YtggcmeoafbmckaaDoor
