/-
  Loads of capabilities in regions that draw their order. Condition: the place lies within the block.
-/


import Derived.Test.YtilgklpponaoeaaFrame
import Derived.Test.YtilgklpponaoeaaHeld
set_option linter.unusedVariables false
namespace Go.Proofs.Ytilgklpponaoeaa
open Go.ChangeShapes Go.WideShapes Go.ChangeAt Go.RowKit
section
variable {ops : Array Oper} {S : World → Prop} {o : Oper} {a : Act}
theorem yields_load_cap (x : Operand) (ho : o.op = .load 38 x) (g k : Nat) (hx : a.eval x = .pointer (some ⟨g, k, none⟩)) (t : TypeId) (l : List Cp) (hg : ∀ W, S W → At W g t (cat l).toArray) (i : Nat) (hk : k = i * 8) (c : Cp) (hi : l[i]? = some c)
    (hw : Region.wanted o (yielded ops a.tmps) = true) : YieldsIf Try.prog ops S o (.agg c.cells) a :=
  yields_load_at 38 x ho ⟨g, k, none⟩ hx c.l _ (fun W hW j v hv => by
    have hj : j < 8 := by have := (List.getElem?_eq_some_iff.1 hv).1; rw [Cp.l_len] at this; exact this
    rw [Go.WideShapes.add_plain, (hg W hW).cell, List.getElem?_toArray, hk, cat_get l i j c hi hj, hv]) Try.underlying38 rfl infoCapS hw
theorem yields_load_cp (x : Operand) (ho : o.op = .load 38 x) (g : Nat) (hx : a.eval x = .pointer (some ⟨g, 0, none⟩)) (t : TypeId) (c : Cp) (hg : ∀ W, S W → At W g t c.cells)
    (hw : Region.wanted o (yielded ops a.tmps) = true) : YieldsIf Try.prog ops S o (.agg c.cells) a :=
  yields_load_cap x ho g 0 hx t [c] (fun W hW => by rw [cat_single]; exact hg W hW) 0 rfl c rfl hw
end
end Go.Proofs.Ytilgklpponaoeaa
