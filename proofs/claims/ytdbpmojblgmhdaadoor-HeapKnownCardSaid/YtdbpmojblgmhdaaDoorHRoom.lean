/-
  Room of a heap. No condition.
-/



import Derived.Test.YtdbpmojblgmhdaaDoorHRest
set_option linter.unusedVariables false
namespace Go.Proofs.YtdbpmojblgmhdaaDoor
open Go.ChangeShapes Go.WideShapes Go.ChangeAt Go.RowKit
def roomP (own : Rg) (A : List Rg) : Nat := cnt (frP own A) 1024 * 256 + tot (fcl A 0) 1024 * 16 + tot (fcl A 1) 1024 * 32 + tot (fcl A 2) 1024 * 64 + tot (fcl A 3) 1024 * 128 + tot (fcl A 4) 1024 * 256
section
variable {w : World} {I : HId} {own : Rg} {A : List Rg}
set_option maxHeartbeats 1000000 in
set_option maxRecDepth 100000 in
theorem room_any (h : Hb w I own A) : Calls Tryd.prog 20 #[.pointer (some ⟨I.hp, 0, none⟩)] w fun e w' => e = .returned (.int .u32 (roomP own A)) ∧ Fr [] w w' := by
  have CN := Lib.hid (hnone_any h)
  have CP := Lib.hid (pcount_any w I.pp I.pt I.pg 1024 _ h.p)
  obtain ⟨_, _, c2, _, _⟩ := h.cs
  have e0 := h.bc (c := 0) (by omega)
  have C0 := Lib.hid (bfree_any (h.b 0 (by omega)))
  have n0 := tot_le (fcl A 0) 1024
  have e1 := h.bc (c := 1) (by omega)
  have C1 := Lib.hid (bfree_any (h.b 1 (by omega)))
  have n1 := tot_le (fcl A 1) 1024
  have e2 := h.bc (c := 2) (by omega)
  have C2 := Lib.hid (bfree_any (h.b 2 (by omega)))
  have n2 := tot_le (fcl A 2) 1024
  have e3 := h.bc (c := 3) (by omega)
  have C3 := Lib.hid (bfree_any (h.b 3 (by omega)))
  have n3 := tot_le (fcl A 3) 1024
  have e4 := h.bc (c := 4) (by omega)
  have C4 := Lib.hid (bfree_any (h.b 4 (by omega)))
  have n4 := tot_le (fcl A 4) 1024
  simp only [Nat.reduceAdd] at e0 e1 e2 e3 e4
  have nc := cnt_le (frP own A) 1024
  unfold roomP
  generalize cnt (frP own A) 1024 = N at *
  generalize tot (fcl A 0) 1024 = N0 at *
  generalize tot (fcl A 1) 1024 = N1 at *
  generalize tot (fcl A 2) 1024 = N2 at *
  generalize tot (fcl A 3) 1024 = N3 at *
  generalize tot (fcl A 4) 1024 = N4 at *
  have S0 : Hid (∀ W, Calls Tryd.prog 25 #[.int .i64 0] W fun e w' => e = .returned (.int .u32 16) ∧ W = w') := Lib.hid fun W => slot_any 0 W
  have S1 : Hid (∀ W, Calls Tryd.prog 25 #[.int .i64 1] W fun e w' => e = .returned (.int .u32 32) ∧ W = w') := Lib.hid fun W => slot_any 1 W
  have S2 : Hid (∀ W, Calls Tryd.prog 25 #[.int .i64 2] W fun e w' => e = .returned (.int .u32 64) ∧ W = w') := Lib.hid fun W => slot_any 2 W
  have S3 : Hid (∀ W, Calls Tryd.prog 25 #[.int .i64 3] W fun e w' => e = .returned (.int .u32 128) ∧ W = w') := Lib.hid fun W => slot_any 3 W
  have S4 : Hid (∀ W, Calls Tryd.prog 25 #[.int .i64 4] W fun e w' => e = .returned (.int .u32 256) ∧ W = w') := Lib.hid fun W => slot_any 4 W
  have x0 : (Instr.index 51 (.agg #[(.pointer (some ⟨I.bk 0, 0, none⟩)), (.pointer (some ⟨I.bk 1, 0, none⟩)), (.pointer (some ⟨I.bk 2, 0, none⟩)), (.pointer (some ⟨I.bk 3, 0, none⟩)), (.pointer (some ⟨I.bk 4, 0, none⟩))]) (.int .i64 0)).run Tryd.prog w = .ok (.pointer (some ⟨I.bk 0, 0, none⟩)) w := by kernel_rfl
  have x1 : (Instr.index 51 (.agg #[(.pointer (some ⟨I.bk 0, 0, none⟩)), (.pointer (some ⟨I.bk 1, 0, none⟩)), (.pointer (some ⟨I.bk 2, 0, none⟩)), (.pointer (some ⟨I.bk 3, 0, none⟩)), (.pointer (some ⟨I.bk 4, 0, none⟩))]) (.int .i64 1)).run Tryd.prog w = .ok (.pointer (some ⟨I.bk 1, 0, none⟩)) w := by kernel_rfl
  have x2 : (Instr.index 51 (.agg #[(.pointer (some ⟨I.bk 0, 0, none⟩)), (.pointer (some ⟨I.bk 1, 0, none⟩)), (.pointer (some ⟨I.bk 2, 0, none⟩)), (.pointer (some ⟨I.bk 3, 0, none⟩)), (.pointer (some ⟨I.bk 4, 0, none⟩))]) (.int .i64 2)).run Tryd.prog w = .ok (.pointer (some ⟨I.bk 2, 0, none⟩)) w := by kernel_rfl
  have x3 : (Instr.index 51 (.agg #[(.pointer (some ⟨I.bk 0, 0, none⟩)), (.pointer (some ⟨I.bk 1, 0, none⟩)), (.pointer (some ⟨I.bk 2, 0, none⟩)), (.pointer (some ⟨I.bk 3, 0, none⟩)), (.pointer (some ⟨I.bk 4, 0, none⟩))]) (.int .i64 3)).run Tryd.prog w = .ok (.pointer (some ⟨I.bk 3, 0, none⟩)) w := by kernel_rfl
  have x4 : (Instr.index 51 (.agg #[(.pointer (some ⟨I.bk 0, 0, none⟩)), (.pointer (some ⟨I.bk 1, 0, none⟩)), (.pointer (some ⟨I.bk 2, 0, none⟩)), (.pointer (some ⟨I.bk 3, 0, none⟩)), (.pointer (some ⟨I.bk 4, 0, none⟩))]) (.int .i64 4)).run Tryd.prog w = .ok (.pointer (some ⟨I.bk 4, 0, none⟩)) w := by kernel_rfl
  clear h
  go_enter Tryd.func20, Tryd.ntmps20
  go_wp2_with fail
  refine (CN.out).mono ?_
  rintro e w' ⟨rfl, rfl⟩
  go_wp2_with fail
  refine (CP.out).mono ?_
  rintro e w' ⟨rfl, rfl⟩
  go_wp2_with fail
  refine wp_loop_rounds 6 ?_
  rw [rounds_succ]
  go_wp2_with (first | (go_at_call 39; refine (C0.out).mono ?_; rintro e w' ⟨rfl, rfl⟩) | (go_at_call 25; refine (S0.out _).mono ?_; rintro e w' ⟨rfl, rfl⟩))
  rw [rounds_succ]
  go_wp2_with (first | (go_at_call 39; refine (C1.out).mono ?_; rintro e w' ⟨rfl, rfl⟩) | (go_at_call 25; refine (S1.out _).mono ?_; rintro e w' ⟨rfl, rfl⟩))
  rw [rounds_succ]
  go_wp2_with (first | (go_at_call 39; refine (C2.out).mono ?_; rintro e w' ⟨rfl, rfl⟩) | (go_at_call 25; refine (S2.out _).mono ?_; rintro e w' ⟨rfl, rfl⟩))
  rw [rounds_succ]
  go_wp2_with (first | (go_at_call 39; refine (C3.out).mono ?_; rintro e w' ⟨rfl, rfl⟩) | (go_at_call 25; refine (S3.out _).mono ?_; rintro e w' ⟨rfl, rfl⟩))
  rw [rounds_succ]
  go_wp2_with (first | (go_at_call 39; refine (C4.out).mono ?_; rintro e w' ⟨rfl, rfl⟩) | (go_at_call 25; refine (S4.out _).mono ?_; rintro e w' ⟨rfl, rfl⟩))
  rw [rounds_succ]
  go_wp2
  go_ret
  refine ⟨?_, (by repeat (first | exact Fr.refl _ _ | assumption | refine Fr.trans0 ?_ (by assumption) | refine Fr.drewN ?_ _ | refine Fr.alloc ?_ _ | refine Fr.drew ?_))⟩
  congr 1
end
end Go.Proofs.YtdbpmojblgmhdaaDoor
