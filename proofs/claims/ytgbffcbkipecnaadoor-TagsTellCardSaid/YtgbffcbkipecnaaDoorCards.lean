/-
  DERIVED. GIVEN WITH THE SEED: THE CARDS: each row of YtgbffcbkipecnaaDoorRows.lean that lists a variable, with what it lists TIED to the program's text (the seventh form; the later family's looks); each row that meets fmt, with fmt's text TOLD by the authors' own Lean function (tested against real Go, not proved from fmt's source: count such statements apart). THE CARD IS WHAT COUNTS. Prove the row's statement (the work); the ties are given (YtgbffcbkipecnaaDoorTie.lean); close each card by the builder's one call (the guide's Derived/Test/ToyasCard.lean, 'card_holds'). Laid BY PROGRAM, IN A SANDBOX (cutbox-door.mjs). By AI agents, Wed Nov 11 2026. No macro, syntax, notation, axiom, sorry.
-/
import Derived.Test.YtgbffcbkipecnaaDoorRows
import GoSem.ClaimSeven
namespace Go.Proofs.YtgbffcbkipecnaaDoor
namespace Rows

/-- THE TIED CARD OF 'fallowlaw02.TagsTell'. -/
def tagsTellCard : Claim7 := { stood := { row := tagsTellRow, standIns := [], harness := (true, "5610ab9ee8d5b11e105c1d862b1ecda8ff4885c19e89c5c78885b4f44d13d0b4"), looks := false }, kinds := [], alts := [], laidByText := true, laidKinds := [.data], laidTests := true, laidLooks := .later }
def TagsTellCardSaid : Prop := Claim7.holds Tryd.pinned (.plain (OpenSpec.ofChange tagsTellSpec)) tagsTellCard

/-- THE SECOND FORM's CARD OF 'fallowlaw02.TagsTell'. -/
def tagsTellUptoCard : Claim7 := { stood := { row := tagsTellUptoRow, standIns := [], harness := (true, "5610ab9ee8d5b11e105c1d862b1ecda8ff4885c19e89c5c78885b4f44d13d0b4"), looks := false }, kinds := [], alts := [], laidByText := true, laidKinds := [.data], laidTests := true, laidLooks := .later }
def TagsTellUptoCardSaid : Prop := Claim7.holds Tryd.pinned (.plain (OpenSpec.upto tagsTellSpec)) tagsTellUptoCard
end Rows
end Go.Proofs.YtgbffcbkipecnaaDoor
