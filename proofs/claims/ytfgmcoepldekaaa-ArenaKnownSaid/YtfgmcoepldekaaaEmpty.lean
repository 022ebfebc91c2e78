/-
  Arenas that are none: nil, or without a map. Condition: numbers in their types' ranges.
-/





import Derived.Test.YtfgmcoepldekaaaBoth
set_option linter.unusedVariables false
namespace Go.Proofs.Ytfgmcoepldekaaa
open Go.ChangeShapes Go.WideShapes Go.ChangeAt Go.RowKit
theorem anone_empty (w : World) (ap : Nat) (h : At w ap 76 #[.pointer none, .slice none 0 0]) : Calls Try.prog 39 #[.pointer (some ⟨ap, 0, none⟩)] w fun r w' => r = .returned (.bool true) ∧ w = w' := by
  have c0 := h.cell 0
  simp only [List.getElem?_toArray, List.getElem?_cons_zero] at c0
  clear h
  go_enter Try.func39, Try.ntmps39
  go_wp2_with fail
  go_ret
  exact ⟨rfl, rfl⟩
section
variable (w : World) (x : Value) (CN : ∀ W : World, Fr [] w W → Calls Try.prog 39 #[x] W fun r w' => r = .returned (.bool true) ∧ W = w')
include CN
theorem asize_none (W : World) (hW : Fr [] w W) : Calls Try.prog 23 #[x] W fun r w' => r = .returned (.int .i64 0) ∧ W = w' := by
  have C := Lib.hid (CN W hW)
  clear CN
  go_enter Try.func23, Try.ntmps23
  go_wp2_with fail
  refine (C.out).mono ?_
  rintro e w' ⟨rfl, rfl⟩
  go_wp2_with fail
  go_ret
  exact ⟨rfl, rfl⟩
theorem athere_none (a n : Int) (W : World) (hW : Fr [] w W) : Calls Try.prog 36 #[x, .int .u32 a, .int .i64 n] W fun r w' => r = .returned (.bool false) ∧ W = w' := by
  have C := Lib.hid (CN W hW)
  clear CN
  go_enter Try.func36, Try.ntmps36
  go_wp2_with fail
  refine (C.out).mono ?_
  rintro e w' ⟨rfl, rfl⟩
  go_wp2_with fail
  go_ret
  exact ⟨rfl, rfl⟩
theorem awhole_none (a : Nat) (W : World) (hW : Fr [] w W) : Calls Try.prog 28 #[x, .int .u32 a] W fun r w' => r = .returned (.bool false) ∧ W = w' := by
  have C := Lib.hid (athere_none w x CN a 16 W hW)
  clear CN
  by_cases h0 : a % 16 = 0
  · have hI : ((a : Int) % 16 == 0) = true := by simp; omega
    go_enter Try.func28, Try.ntmps28
    go_wp2_with fail
    refine (C.out).mono ?_
    rintro e w' ⟨rfl, rfl⟩
    go_wp2_with fail
    go_ret
    exact ⟨rfl, rfl⟩
  · have hI : ((a : Int) % 16 == 0) = false := by simp; omega
    go_enter Try.func28, Try.ntmps28
    go_wp2_with fail
    go_ret
    exact ⟨rfl, rfl⟩
theorem atagged_none (page : Int) (hp : 0 ≤ page) (W : World) (hW : Fr [] w W) : Calls Try.prog 13 #[x, .int .i64 page] W fun r w' => r = .returned (.slice none 0 0) ∧ W = w' := by
  have C := Lib.hid (asize_none w x CN W hW)
  clear CN
  have h0 : ¬ page < 0 := by omega
  have h1 : page ≥ 0 := by omega
  go_enter Try.func13, Try.ntmps13
  go_wp2_with fail
  refine (C.out).mono ?_
  rintro e w' ⟨rfl, rfl⟩
  go_wp2_with fail
  go_ret
  exact ⟨rfl, rfl⟩
theorem acopy_none (W : World) (hW : Fr [] w W) : Calls Try.prog 24 #[x] W fun r w' => r = .returned (.pointer none) ∧ W = w' := by
  have C := Lib.hid (CN W hW)
  clear CN
  go_enter Try.func24, Try.ntmps24
  go_wp2_with fail
  refine (C.out).mono ?_
  rintro e w' ⟨rfl, rfl⟩
  go_wp2_with fail
  go_ret
  exact ⟨rfl, rfl⟩
end
end Go.Proofs.Ytfgmcoepldekaaa
