/-
  A capability that came in, as eight cells. No condition.
-/


import Derived.Test.YtilgklpponaoeaaArgs
import Derived.Test.YtilgklpponaoeaaCaps
set_option linter.unusedVariables false
namespace Go.Proofs.Ytilgklpponaoeaa
open Go.ChangeShapes Go.WideShapes Go.ChangeAt Go.RowKit
theorem fitsC {cs : List Value} (h : Fits [.i .u32, .i .u8, .i .u16, .i .u16, .i .u16, .i .u16, .i .u32, .b] cs) : ∃ c : Cp, cs = c.l ∧ c.Ok := by
  obtain ⟨v0, c1, e0, ⟨z0, rfl, w0⟩, h1⟩ := h.cons
  obtain ⟨v1, c2, e1, ⟨z1, rfl, w1⟩, h2⟩ := h1.cons
  obtain ⟨v2, c3, e2, ⟨z2, rfl, w2⟩, h3⟩ := h2.cons
  obtain ⟨v3, c4, e3, ⟨z3, rfl, w3⟩, h4⟩ := h3.cons
  obtain ⟨v4, c5, e4, ⟨z4, rfl, w4⟩, h5⟩ := h4.cons
  obtain ⟨v5, c6, e5, ⟨z5, rfl, w5⟩, h6⟩ := h5.cons
  obtain ⟨v6, c7, e6, ⟨z6, rfl, w6⟩, h7⟩ := h6.cons
  obtain ⟨v7, c8, e7, ⟨b, rfl⟩, h8⟩ := h7.cons
  have b0 := bounds_u32 w0
  have b1 := bounds_u8 w1
  have b2 := bounds_u16 w2
  have b3 := bounds_u16 w3
  have b4 := bounds_u16 w4
  have b5 := bounds_u16 w5
  have b6 := bounds_u32 w6
  refine ⟨⟨z0.toNat, z1.toNat, z2.toNat, z3.toNat, z4.toNat, z5.toNat, z6.toNat, b⟩, ?_, ⟨by dsimp only; omega, by dsimp only; omega, by dsimp only; omega, by dsimp only; omega, by dsimp only; omega, by dsimp only; omega, by dsimp only; omega⟩⟩
  rw [e0, e1, e2, e3, e4, e5, e6, e7, h8.nil]
  unfold Cp.l
  dsimp only
  rw [Int.toNat_of_nonneg b0.1, Int.toNat_of_nonneg b1.1, Int.toNat_of_nonneg b2.1, Int.toNat_of_nonneg b3.1, Int.toNat_of_nonneg b4.1, Int.toNat_of_nonneg b5.1, Int.toNat_of_nonneg b6.1]
end Go.Proofs.Ytilgklpponaoeaa
