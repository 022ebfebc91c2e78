/-
  Arrays of cells by a function of the place. No condition.
-/

import Derived.Test.YtdbpmojblgmhdaaDoorBase
set_option linter.unusedVariables false
namespace Go.Proofs.YtdbpmojblgmhdaaDoor
open Go.ChangeShapes Go.WideShapes Go.ChangeAt Go.RowKit
/-- The array of m cells whose i-th is f i. -/
def arr (m : Nat) (f : Nat → Value) : Array Value := ((List.range m).map f).toArray
theorem arr_size (m : Nat) (f : Nat → Value) : (arr m f).size = m := by simp [arr]
theorem arr_get (m : Nat) (f : Nat → Value) (i : Nat) (h : i < m) : (arr m f)[i]? = some (f i) := by
  unfold arr; rw [List.getElem?_toArray, List.getElem?_map, List.getElem?_range h]; rfl
theorem arr_ext (m : Nat) (cs : Array Value) (g : Nat → Value) (hs : cs.size = m) (h : ∀ i, i < m → cs[i]? = some (g i)) : cs = arr m g :=
  Array.ext_getElem? fun i => by
    by_cases hi : i < m
    · rw [h i hi, arr_get m g i hi]
    · rw [Array.getElem?_eq_none (by omega), Array.getElem?_eq_none (by rw [arr_size]; omega)]
theorem arr_congr (m : Nat) (f g : Nat → Value) (h : ∀ i, i < m → f i = g i) : arr m f = arr m g :=
  arr_ext m _ g (arr_size m f) fun i hi => by rw [arr_get m f i hi, h i hi]
theorem arr_set (m : Nat) (f : Nat → Value) (i : Nat) (v : Value) : (arr m f).setIfInBounds i v = arr m fun j => if j = i then v else f j :=
  arr_ext m _ _ (by rw [Array.size_setIfInBounds, arr_size]) fun j hj => by
    rw [Array.getElem?_setIfInBounds, arr_size, arr_get m f j hj]
    by_cases e : i = j
    · subst e; simp [hj]
    · rw [if_neg e, if_neg (fun h => e h.symm)]
end Go.Proofs.YtdbpmojblgmhdaaDoor
