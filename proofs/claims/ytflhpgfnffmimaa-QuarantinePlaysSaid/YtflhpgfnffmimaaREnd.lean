/-
  The reference's End (draft). Condition: none.
-/



import Derived.Test.YtflhpgfnffmimaaRNew
set_option linter.unusedVariables false
namespace Go.Proofs.Ytflhpgfnffmimaa
open Go.ChangeShapes Go.WideShapes Go.ChangeAt Go.RowKit
set_option maxHeartbeats 400000 in
set_option maxRecDepth 100000 in
theorem rendw_no (w : World) (b : Int) (wa : Option Addr) (wn wc : Nat) (la : Option Addr) (ln lc : Nat) (ep : Nat) : Calls Try.prog 23 #[.agg (ryc b wa wn wc la ln lc ep false)] w fun e w' => e = .returned (.tuple #[.agg (ryc b wa wn wc la ln lc ep false), .slice none 0 0]) ∧ Fr [] w w' := by
  unfold ryc
  obtain ⟨w1, hw1⟩ : ∃ W, w.alloc (.cells #[.int .i64 b, .slice wa wn wc, .slice la ln lc, .int .u64 ep, .bool false] 45) = W := ⟨_, rfl⟩
  have A1 := At.new w 45 #[.int .i64 b, .slice wa wn wc, .slice la ln lc, .int .u64 ep, .bool false]
  have F1 : Fr [] w (w.alloc (.cells #[.int .i64 b, .slice wa wn wc, .slice la ln lc, .int .u64 ep, .bool false] 45)) := (by repeat (first | exact Fr.refl _ _ | assumption | refine Fr.trans0 ?_ (by assumption) | refine Fr.drewN ?_ _ | refine Fr.alloc ?_ _ | refine Fr.drew ?_))
  have hs : w1.heap.size = w.heap.size + 1 := by rw [← hw1]; exact World.size_alloc _ _
  rw [hw1] at A1 F1
  have A1' := A1.old (.cells #[.int .i64 0, .slice none 0 0, .slice none 0 0, .int .u64 0, .bool false] 45)
  have c0 := A1'.cell 0
  have c1 := A1'.cell 1
  have c2 := A1'.cell 2
  have c3 := A1'.cell 3
  have c4 := A1'.cell 4
  simp only [List.getElem?_toArray, List.getElem?_cons_zero, List.getElem?_cons_succ] at c0 c1 c2 c3 c4
  have HA := Lib.hid A1'
  have HF := Lib.hid F1
  have HS := Lib.hid (show w.heap.size + 1 = w1.heap.size from hs.symm)
  clear A1 F1 A1'
  go_enter Try.func23, Try.ntmps23
  go_wp2_with fail
  exact bodyPost_ret (res_row_tmpR rfl _ _ (w.heap.size + 1) 45 _ _ rfl (At.newq HS.out) Try.underlying45 rfl (by kernel_rfl)) rfl ⟨rfl, HF.out.trans0 ((Fr.refl _ _).alloc _)⟩
end Go.Proofs.Ytflhpgfnffmimaa
