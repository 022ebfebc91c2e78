/-
  DERIVED. GIVEN WITH THE SEED: THE CARDS: each row of YtdbpmojblgmhdaaDoorRows.lean that lists a variable, with what it lists TIED to the program's text (the seventh form; the later family's looks); each row that meets fmt, with fmt's text TOLD by the authors' own Lean function (tested against real Go, not proved from fmt's source: count such statements apart). THE CARD IS WHAT COUNTS. Prove the row's statement (the work); the ties are given (YtdbpmojblgmhdaaDoorTie.lean); close each card by the builder's one call (the guide's Derived/Test/ToyasCard.lean, 'card_holds'). Laid BY PROGRAM, IN A SANDBOX (cutbox-door.mjs). By AI agents, Wed Nov 11 2026. No macro, syntax, notation, axiom, sorry.
-/
import Derived.Test.YtdbpmojblgmhdaaDoorRows
import GoSem.ClaimSeven
namespace Go.Proofs.YtdbpmojblgmhdaaDoor
namespace Rows

/-- THE TIED CARD OF 'fallowlaw14.HeapNoLie'. -/
def heapNoLieCard : Claim7 := { stood := { row := heapNoLieRow, standIns := [], harness := (true, "8ce21f2ef25034e41947e6acf6b6718bb579e8dab5a546fffb3a11b6bc30a79c"), looks := true }, kinds := [], alts := [], laidByText := true, laidKinds := [.data], laidTests := true, laidLooks := .later }
def HeapNoLieCardSaid : Prop := Claim7.holds Tryd.pinned (.plain (OpenSpec.ofChange heapNoLieSpec)) heapNoLieCard

/-- THE TIED CARD OF 'fallowlaw14.HeapApart'. -/
def heapApartCard : Claim7 := { stood := { row := heapApartRow, standIns := [], harness := (true, "8ce21f2ef25034e41947e6acf6b6718bb579e8dab5a546fffb3a11b6bc30a79c"), looks := true }, kinds := [], alts := [], laidByText := true, laidKinds := [.data], laidTests := true, laidLooks := .later }
def HeapApartCardSaid : Prop := Claim7.holds Tryd.pinned (.plain (OpenSpec.ofChange heapApartSpec)) heapApartCard

/-- THE TIED CARD OF 'fallowlaw14.HeapAgain'. -/
def heapAgainCard : Claim7 := { stood := { row := heapAgainRow, standIns := [], harness := (true, "8ce21f2ef25034e41947e6acf6b6718bb579e8dab5a546fffb3a11b6bc30a79c"), looks := true }, kinds := [], alts := [], laidByText := true, laidKinds := [.data], laidTests := true, laidLooks := .later }
def HeapAgainCardSaid : Prop := Claim7.holds Tryd.pinned (.plain (OpenSpec.ofChange heapAgainSpec)) heapAgainCard

/-- THE TIED CARD OF 'fallowlaw14.HeapKnown'. -/
def heapKnownCard : Claim7 := { stood := { row := heapKnownRow, standIns := [], harness := (true, "8ce21f2ef25034e41947e6acf6b6718bb579e8dab5a546fffb3a11b6bc30a79c"), looks := true }, kinds := [], alts := [], laidByText := true, laidKinds := [.data], laidTests := true, laidLooks := .later }
def HeapKnownCardSaid : Prop := Claim7.holds Tryd.pinned (.plain (OpenSpec.ofChange heapKnownSpec)) heapKnownCard

/-- THE SECOND FORM's CARD OF 'fallowlaw14.HeapNoLie'. -/
def heapNoLieUptoCard : Claim7 := { stood := { row := heapNoLieUptoRow, standIns := [], harness := (true, "8ce21f2ef25034e41947e6acf6b6718bb579e8dab5a546fffb3a11b6bc30a79c"), looks := true }, kinds := [], alts := [], laidByText := true, laidKinds := [.data], laidTests := true, laidLooks := .later }
def HeapNoLieUptoCardSaid : Prop := Claim7.holds Tryd.pinned (.plain (OpenSpec.upto heapNoLieSpec)) heapNoLieUptoCard

/-- THE SECOND FORM's CARD OF 'fallowlaw14.HeapApart'. -/
def heapApartUptoCard : Claim7 := { stood := { row := heapApartUptoRow, standIns := [], harness := (true, "8ce21f2ef25034e41947e6acf6b6718bb579e8dab5a546fffb3a11b6bc30a79c"), looks := true }, kinds := [], alts := [], laidByText := true, laidKinds := [.data], laidTests := true, laidLooks := .later }
def HeapApartUptoCardSaid : Prop := Claim7.holds Tryd.pinned (.plain (OpenSpec.upto heapApartSpec)) heapApartUptoCard

/-- THE SECOND FORM's CARD OF 'fallowlaw14.HeapAgain'. -/
def heapAgainUptoCard : Claim7 := { stood := { row := heapAgainUptoRow, standIns := [], harness := (true, "8ce21f2ef25034e41947e6acf6b6718bb579e8dab5a546fffb3a11b6bc30a79c"), looks := true }, kinds := [], alts := [], laidByText := true, laidKinds := [.data], laidTests := true, laidLooks := .later }
def HeapAgainUptoCardSaid : Prop := Claim7.holds Tryd.pinned (.plain (OpenSpec.upto heapAgainSpec)) heapAgainUptoCard

/-- THE SECOND FORM's CARD OF 'fallowlaw14.HeapKnown'. -/
def heapKnownUptoCard : Claim7 := { stood := { row := heapKnownUptoRow, standIns := [], harness := (true, "8ce21f2ef25034e41947e6acf6b6718bb579e8dab5a546fffb3a11b6bc30a79c"), looks := true }, kinds := [], alts := [], laidByText := true, laidKinds := [.data], laidTests := true, laidLooks := .later }
def HeapKnownUptoCardSaid : Prop := Claim7.holds Tryd.pinned (.plain (OpenSpec.upto heapKnownSpec)) heapKnownUptoCard
end Rows
end Go.Proofs.YtdbpmojblgmhdaaDoor
