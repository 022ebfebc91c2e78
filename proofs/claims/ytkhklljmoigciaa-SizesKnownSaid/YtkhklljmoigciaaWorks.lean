/-
  The small check 'works', which every statement of layer 11 asks. No condition.
-/
import Derived.Test.YtkhklljmoigciaaPadded
set_option linter.unusedVariables false
namespace Go.Proofs.Ytkhklljmoigciaa
open Go.ChangeShapes Go.WideShapes Go.ChangeAt Go.RowKit
theorem u32_bd {n : Int} (h : (Lit.int .u32 n).wf = true) : 0 ≤ n ∧ n < 4294967296 := by
  have := bounds_u32 h
  omega
theorem padV_is : padV 1 4096 = (16, 16, 0) ∧ padV 257 4096 = (512, 256, 0) := by constructor <;> decide +kernel
theorem works_any (w : World) : Calls Try.prog 12 #[] w fun e w' => e = .returned (.bool true) ∧ Fr [] w w' := by
  have h1 : ∀ w, Calls Try.prog 10 #[.int .u32 1, .int .u32 4096] w fun e w' => e = .returned (.tuple #[.int .u32 16, .int .u32 16, .int .i64 0]) ∧ Fr [] w w' := fun w => by
    have := padded_any 1 4096 w (by omega) (by omega); unfold Pd at this; rw [padV_is.1] at this; exact this
  have h2 : ∀ w, Calls Try.prog 10 #[.int .u32 257, .int .u32 4096] w fun e w' => e = .returned (.tuple #[.int .u32 512, .int .u32 256, .int .i64 0]) ∧ Fr [] w w' := fun w => by
    have := padded_any 257 4096 w (by omega) (by omega); unfold Pd at this; rw [padV_is.2] at this; exact this
  have H1 := Lib.hid h1
  have H2 := Lib.hid h2
  clear h1 h2
  go_enter Try.func12, Try.ntmps12
  go_wp2_with fail
  refine (H1.out _).mono ?_; rintro e w1 ⟨rfl, hf1⟩
  go_wp2_with fail
  refine (H2.out _).mono ?_; rintro e w2 ⟨rfl, hf2⟩
  go_wp2_with fail
  go_ret
  exact ⟨rfl, hf1.trans0 hf2⟩
end Go.Proofs.Ytkhklljmoigciaa
