/-
  The table of math/bits that the row lists: a world that holds it, and what a walk has of the row's premise. No condition.
-/

import Derived.Test.YtdbpmojblgmhdaaDoorBits
import Derived.Test.YtdbpmojblgmhdaaDoorTie
import Derived.Test.YtdbpmojblgmhdaaDoorCards
import Derived.LaidLaws
import Derived.LaidHandle
import Derived.JoinedOf
import Derived.Stop.Joined
import Derived.RowKitTokens
import Derived.SevenTiedAt
set_option linter.unusedVariables false
namespace Go.Proofs.YtdbpmojblgmhdaaDoor
open Go.ChangeShapes Go.WideShapes Go.ChangeAt Go.RowKit
def laidL : List (String × DataW Unit) := [("math/bits.deBruijn32tab", Rows.laid_math_bits_deBruijn32tab)]
theorem tabNamed : Tryd.prog.globalNamed "math/bits.deBruijn32tab" = some 0 := by kernel_rfl
theorem tabType : (Tryd.prog.globals[0]?).map (·.type) = some 124 := by kernel_rfl
theorem tabDatum : (Rows.laid_math_bits_deBruijn32tab : DataW Unit) = .agg (Lib.deBruijn32tab.map fun x => .lit (.int .u8 (x : Nat))) := by kernel_rfl
theorem drop_take_at' {cs : List Value} {o k i : Nat} {v : Value} (h : ((cs.drop o).take k)[i]? = some v) : cs[o + i]? = some v := by
  rw [List.getElem?_take] at h
  split at h
  · rw [List.getElem?_drop] at h; exact h
  · cases h
theorem tab_of_laid {W : World} (h : laidMetH Tryd.prog laidL W) : Tab32 W := by
  have h' : laidMet Tryd.prog laidL W := h
  obtain ⟨ps, ⟨g, t, cs, fuel, p, q, hg, ht, hv, htr, _, _⟩, _, _⟩ := h'
  obtain rfl := Option.some.inj (tabNamed.symm.trans hg)
  obtain rfl := Option.some.inj (tabType.symm.trans ht)
  obtain ⟨xs, m, _, hx, hlen, hl, hel⟩ := DataW.trod_array Tryd.underlying124 htr
  have hx1 : (.agg (xs.map (·.1)) : DataW Unit) = .agg (Lib.deBruijn32tab.map fun x => .lit (.int .u8 (x : Nat))) := by
    rw [← tabDatum]; exact (congrArg (·.1) hx).symm
  injection hx1 with hx1
  intro j hj
  have hcell : W.cell? ⟨0, j, none⟩ = cs[j]? := by simpa using World.var?_cell tabNamed hv j
  have h1 := hel j (by omega)
  have hxj : xs[j]? = some (xs[j]'(by omega)) := List.getElem?_eq_getElem (by omega)
  rw [hxj, show Tryd.prog.cellsOf 5 = 1 by kernel_rfl, Nat.mul_one] at h1
  obtain ⟨z, hz, hd, _⟩ := DataW.trod_int Tryd.underlying5 h1
  have hcj : cs[j]? = some (.int .u8 z) := by
    have := drop_take_at' (i := 0) (v := .int .u8 z) (by rw [hz]; rfl)
    rw [Nat.add_zero, Array.getElem?_toList] at this
    exact this
  have h2 := congrArg (·[j]?) hx1
  simp only [List.getElem?_map, hxj, Option.map_some] at h2
  rw [hd] at h2
  have h3 : Lib.deBruijn32tab[j]? = some (Lib.deBruijn32tab.getD j 0) := by
    rw [List.getD_eq_getElem?_getD]
    have : j < Lib.deBruijn32tab.length := hj
    rw [List.getElem?_eq_getElem this]; rfl
  rw [h3] at h2
  simp at h2
  rw [hcell, hcj, h2, List.getD_eq_getElem?_getD]
/-- A world that meets the premise. -/
noncomputable def laidWorld (os : Os) : World :=
  let w0 := World.holding Tryd.prog os ⟨#[], #[], []⟩
  { w0 with heap := w0.heap.modify 0 fun
      | .cells _ t frozen => .cells (Lib.deBruijn32tab.map fun x => Value.int .u8 (x : Nat)).toArray t frozen
      | o => o }
theorem laidWorld_met (os : Os) (args : Array Value) : laidMetH Tryd.prog laidL ((laidWorld os).forCall (fun _ _ => 0) ⟨#[], args, []⟩).memory :=
  laidMet_of_run' (l := laidL) 8 (by kernel_rfl) (by kernel_rfl)
end Go.Proofs.YtdbpmojblgmhdaaDoor
