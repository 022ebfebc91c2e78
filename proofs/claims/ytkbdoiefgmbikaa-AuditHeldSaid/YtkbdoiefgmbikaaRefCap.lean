/-
  What the reference of layer 4 computes: Range, Within, Meets. Condition: cursors in their types' ranges.
-/



import Derived.Test.YtkbdoiefgmbikaaMeets
import Derived.Test.YtkbdoiefgmbikaaRefDec
import Derived.Deep.CutBlock
import Derived.Deep.DeepCutAuto
import Derived.BigRegion
set_option linter.unusedVariables false
namespace Go.Proofs.Ytkbdoiefgmbikaa
open Go.ChangeShapes Go.WideShapes Go.ChangeAt Go.RowKit
theorem r04rng_any (w : World) (c : Cp) (hc : c.cur < 4294967296) :
    Calls Try.prog 46 #[.agg c.cells] w fun r w' => r = .returned (.tuple #[.int .u32 c.base, .int .u64 c.top]) ∧ Fr [] w w' := by
  unfold Cp.base Cp.top Cp.cells
  have C := Lib.hid fun W => r03dec_any W c.e c.b c.t c.cur hc
  generalize dBase c.e c.b c.t c.cur = X at *
  generalize dTop c.e c.b c.t c.cur = Y at *
  go_enter Try.func46, Try.ntmps46
  go_wp2_with fail
  refine (C.out _).mono ?_
  rintro e w2 ⟨rfl, rfl⟩
  go_wp2_with fail
  go_ret2
  exact ⟨rfl, (by repeat (first | exact Fr.refl _ _ | assumption | refine Fr.trans0 ?_ (by assumption) | refine Fr.drewN ?_ _ | refine Fr.alloc ?_ _ | refine Fr.drew ?_))⟩
theorem and_sub (a b : Nat) (ha : a < 65536) (hb : b < 65536) : a &&& b = a ↔ a &&& (65535 - b) = 0 := by
  have e : 65535 - b = 2 ^ 16 - (b + 1) := by omega
  have key : ∀ i, (65535 - b).testBit i = (decide (i < 16) && !b.testBit i) := fun i => by rw [e]; exact Nat.testBit_two_pow_sub_succ (by omega) i
  constructor
  · intro h
    refine Nat.eq_of_testBit_eq fun i => ?_
    have h1 := congrArg (fun x => Nat.testBit x i) h
    simp only [Nat.testBit_and] at h1
    rw [Nat.testBit_and, key, Nat.zero_testBit]
    cases h2 : a.testBit i <;> cases h3 : b.testBit i <;> simp_all
  · intro h
    refine Nat.eq_of_testBit_eq fun i => ?_
    have h1 := congrArg (fun x => Nat.testBit x i) h
    simp only [Nat.testBit_and, key, Nat.zero_testBit] at h1
    rw [Nat.testBit_and]
    by_cases hi : i < 16
    · cases h2 : a.testBit i <;> cases h3 : b.testBit i <;> simp_all
    · have h4 : a.testBit i = false := Nat.testBit_lt_two_pow (Nat.lt_of_lt_of_le (show a < 2 ^ 16 by omega) (Nat.pow_le_pow_right (by omega) (by omega)))
      rw [h4, Bool.false_and]
theorem pm_and (a b : Nat) (ha : a < 65536) (hb : b < 65536) : (bits .and .u16 (a : Int) (b : Int) == (a : Int)) = pmB a b := by
  unfold pmB
  rw [u16_and_nat a b ha hb, u16_andNot_nat a b ha hb, Bool.eq_iff_iff]
  simp only [beq_iff_eq]
  have := and_sub a b ha hb
  omega
set_option maxHeartbeats 4000000 in
set_option maxRecDepth 100000 in
theorem r04within_any (w : World) (a b : Cp) (ha : a.cur < 4294967296) (hb : b.cur < 4294967296) (hap : a.pm < 65536) (hbp : b.pm < 65536) :
    Calls Try.prog 44 #[.agg a.cells, .agg b.cells] w fun r w' => r = .returned (.bool (withinB a b)) ∧ Fr [] w w' := by
  have C1 := Lib.hid fun W => r04rng_any W a ha
  have C2 := Lib.hid fun W => r04rng_any W b hb
  have A0 := Lib.hid (At.new w 51 a.cells)
  have A1 := At.new (w.alloc (.cells a.cells 51)) 51 b.cells
  rw [World.size_alloc] at A1
  have A1 := Lib.hid A1
  have F0 := Lib.hid (show Fr [] w ((w.alloc (.cells a.cells 51)).alloc (.cells b.cells 51)) from (by repeat (first | exact Fr.refl _ _ | assumption | refine Fr.trans0 ?_ (by assumption) | refine Fr.drewN ?_ _ | refine Fr.alloc ?_ _ | refine Fr.drew ?_)))
  have A0 := Lib.hid (A0.out.old (.cells b.cells 51))
  obtain ⟨x1, x2, x3, x4⟩ := cp_bd a
  obtain ⟨y1, y2, y3, y4⟩ := cp_bd b
  unfold withinB
  have hpm := pm_and a.pm b.pm hap hbp
  obtain ⟨B1, hB1⟩ : ∃ B, pmB a.pm b.pm = B := ⟨_, rfl⟩
  rw [hB1] at hpm ⊢
  clear hB1
  generalize hab : a.base = AB at *
  generalize hat : a.top = AT at *
  generalize hbb : b.base = BB at *
  generalize hbt : b.top = BT at *
  clear hab hat hbb hbt
  have hw : IntKind.u64.wrap AB = AB := by simp [IntKind.wrap, IntKind.signed, IntKind.bits]; omega
  obtain ⟨B2, hB2⟩ : ∃ B, decide (AT ≤ AB) = B := ⟨_, rfl⟩
  obtain ⟨B3, hB3⟩ : ∃ B, decide (BB ≤ AB) = B := ⟨_, rfl⟩
  obtain ⟨B4, hB4⟩ : ∃ B, decide (AT ≤ BT) = B := ⟨_, rfl⟩
  rw [hB2, hB3, hB4]
  go_enter Try.func44, Try.ntmps44
  go_wp2_with (refine wpList_load_all rfl 51 (.tmp 2) rfl w.heap.size rfl 51 a.cells _ A0.out Try.underlying51 rfl (infoC8 a) ?_)
  refine (C1.out _).mono ?_
  rintro e1 w2 ⟨rfl, hf2⟩
  have D1 := Lib.hid (A1.out.fr hf2 (by simp))
  have D0 := Lib.hid (A0.out.fr hf2 (by simp))
  have F2 := Lib.hid (F0.out.trans0 hf2)
  clear hf2
  go_wp2_with (refine wpList_load_all rfl 51 (.tmp 3) rfl (w.heap.size + 1) rfl 51 b.cells _ D1.out Try.underlying51 rfl (infoC8 b) ?_)
  refine (C2.out _).mono ?_
  rintro e1 w3 ⟨rfl, hf3⟩
  have k0 : w3.cell? ⟨w.heap.size, 4, none⟩ = some (.int .u16 a.pm) := (D0.out.fr hf3 (by simp)).cell 4
  have k1 : w3.cell? ⟨w.heap.size + 1, 4, none⟩ = some (.int .u16 b.pm) := (D1.out.fr hf3 (by simp)).cell 4
  have F3 := Lib.hid (F2.out.trans0 hf3)
  clear hf3 C1 C2
  cases B1
  · go_wp2_with fail
    go_ret
    exact ⟨rfl, F3.out⟩
  · cases B2
    · cases B3
      · go_wp2_with fail
        go_ret
        exact ⟨rfl, F3.out⟩
      · go_wp2_with fail
        go_ret
        exact ⟨by simp, F3.out⟩
    · go_wp2_with fail
      go_ret
      exact ⟨rfl, F3.out⟩
set_option maxHeartbeats 4000000 in
set_option maxRecDepth 100000 in
theorem r04meets_any (w : World) (c : Cp) (a s : Nat) (hc : c.cur < 4294967296) (ha : a < 4294967296) (hs : s < 4294967296) :
    Calls Try.prog 36 #[.agg c.cells, .agg #[.int .u32 a, .int .u32 s]] w fun r w' => r = .returned (.bool (meetsB c a s)) ∧ Fr [] w w' := by
  have C1 := Lib.hid fun W => r04rng_any W c hc
  have A0 := Lib.hid (At.new w 51 c.cells)
  have A1 := At.new (w.alloc (.cells c.cells 51)) 27 #[.int .u32 a, .int .u32 s]
  rw [World.size_alloc] at A1
  have A1 := Lib.hid A1
  have F0 := Lib.hid (show Fr [] w ((w.alloc (.cells c.cells 51)).alloc (.cells #[.int .u32 a, .int .u32 s] 27)) from (by repeat (first | exact Fr.refl _ _ | assumption | refine Fr.trans0 ?_ (by assumption) | refine Fr.drewN ?_ _ | refine Fr.alloc ?_ _ | refine Fr.drew ?_)))
  have A0 := Lib.hid (A0.out.old (.cells #[.int .u32 a, .int .u32 s] 27))
  obtain ⟨x1, x2, x3, x4⟩ := cp_bd c
  unfold meetsB
  generalize hab : c.base = AB at *
  generalize hat : c.top = AT at *
  clear hab hat
  have hw1 : IntKind.u64.wrap AB = AB := by simp [IntKind.wrap, IntKind.signed, IntKind.bits]; omega
  have hw2 : IntKind.u64.wrap (a : Int) = (a : Int) := by simp [IntKind.wrap, IntKind.signed, IntKind.bits]; omega
  have hw3 : IntKind.u64.wrap (s : Int) = (s : Int) := by simp [IntKind.wrap, IntKind.signed, IntKind.bits]; omega
  have hw4 : IntKind.u64.wrap ((a : Int) + (s : Int)) = (a : Int) + (s : Int) := wu (a + s) (by omega)
  go_enter Try.func36, Try.ntmps36
  go_wp2_with (refine wpList_load_all rfl 51 (.tmp 2) rfl w.heap.size rfl 51 c.cells _ A0.out Try.underlying51 rfl (infoC8 c) ?_)
  refine (C1.out _).mono ?_
  rintro e1 w2 ⟨rfl, hf2⟩
  have d0 := (A1.out.fr hf2 (by simp)).cell 0
  have d1 := (A1.out.fr hf2 (by simp)).cell 1
  simp only [List.getElem?_toArray, List.getElem?_cons_zero, List.getElem?_cons_succ] at d0 d1
  have F2 := Lib.hid (F0.out.trans0 hf2)
  clear hf2
  go_wp2_with fail
  all_goals
    go_ret
    refine ⟨ret_bool ?_, F2.out⟩
    (try rw [hw1])
    rw [decide_eq_decide]
    omega
end Go.Proofs.Ytkbdoiefgmbikaa
