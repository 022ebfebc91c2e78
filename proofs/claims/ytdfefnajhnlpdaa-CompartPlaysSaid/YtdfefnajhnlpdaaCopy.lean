/-
  Copy of tags, over slices.Clone. Condition: none beside the map's own.
-/


import Derived.Test.YtdfefnajhnlpdaaTags
import Derived.Maps.AppendAt
import Derived.WalkSpells
import Derived.Lib.SliceRun
set_option linter.unusedVariables false
namespace Go.Proofs.Ytdfefnajhnlpdaa
open Go.ChangeShapes Go.WideShapes Go.ChangeAt Go.RowKit
theorem infoU64c : (Try.prog.info? 96).map (fun i => (i.zero, i.size, i.bytes)) = some (some (.int .u64 0), 1, 8) := by kernel_rfl
theorem own_empty (w : World) (e : TypeId) (size : Nat) : (w.alloc (.cells #[] e)).ownsRow w.heap.size e size (.slice (some ⟨w.heap.size, 0, none⟩) 0 0) 0 [] :=
  ⟨by simp, .inr ⟨w.heap.size, 0, #[], rfl, Nat.le_refl _, heap_alloc_new w _, Nat.le_refl _, Nat.zero_le _, by simp, by simp⟩⟩
theorem own_out {w : World} {base : Nat} {e : TypeId} {v : Value} {n : Nat} {xs : List Value} (h : w.ownsRow base e 1 v n xs) (hv : v ≠ .slice none 0 0) :
    ∃ (g c : Nat) (cs : Array Value), v = .slice (some ⟨g, 0, none⟩) n c ∧ n ≤ c ∧ base ≤ g ∧ At w g e cs ∧ ∀ k, k < xs.length → cs[k]? = xs[k]? := by
  obtain ⟨hl, ⟨h1, _⟩ | ⟨g, c, cs, h1, h2, h3, h4, h5, h6, h7⟩⟩ := h
  · exact (hv h1).elim
  · refine ⟨g, c, cs, h1, h4, h2, h3, fun k hk => ?_⟩
    rw [← h7, List.getElem?_take, if_pos (by omega)]
    simp
end Go.Proofs.Ytdfefnajhnlpdaa
