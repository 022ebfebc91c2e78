/-
  What the reference of layer 4 makes of a region: Make. Conditions: numbers in their types' ranges.
-/



import Derived.Test.YtkbdoiefgmbikaaHeld
import Derived.Test.YtkbdoiefgmbikaaMeets
import Derived.Test.YtkbdoiefgmbikaaRefDec
import Derived.Test.YtkbdoiefgmbikaaRefEnc
import Derived.Deep.CutBlock
import Derived.Deep.DeepCutAuto
import Derived.BigRegion
set_option linter.unusedVariables false
namespace Go.Proofs.Ytkbdoiefgmbikaa
open Go.ChangeShapes Go.WideShapes Go.ChangeAt Go.RowKit
theorem cellr_all (c : Cp) : c.cells.all (·.oneCell') = true := by unfold Cp.cells; simp [Value.oneCell']
theorem infoCapR : (Try.prog.info? 51).map (·.size) = some 8 := by kernel_rfl
--- the end without a capability: At fact $1, frame fact $2, tmp $3
set_option maxHeartbeats 4000000 in
set_option maxRecDepth 100000 in
theorem r04make_any (w : World) (a s pm : Nat) (ha : a < 4294967296) (hs : s < 4294967296) :
    Calls Try.prog 45 #[.agg #[.int .u32 a, .int .u32 s], .int .u16 pm] w fun r w' => r = .returned (.tuple #[.agg (if mkB a s pm = true then mkC a s pm else noC).cells, .bool (mkB a s pm)]) ∧ Fr [] w w' := by
  have vs : IntKind.u64.wrap (s : Int) = s := by simp [IntKind.wrap, IntKind.signed, IntKind.bits]; omega
  have va : IntKind.u64.wrap (a : Int) = a := by simp [IntKind.wrap, IntKind.signed, IntKind.bits]; omega
  have vas : IntKind.u64.wrap ((a : Int) + (s : Int)) = ((a + s : Nat) : Int) := by simp [IntKind.wrap, IntKind.signed, IntKind.bits]; omega
  have B0 := Lib.hid ((At.new w 27 #[.int .u32 a, .int .u32 s]).old (.cells noC.cells 51))
  have A1 := At.new (w.alloc (.cells #[.int .u32 a, .int .u32 s] 27)) 51 noC.cells
  rw [World.size_alloc] at A1
  have A1 := Lib.hid A1
  have F0 := Lib.hid (show Fr [] w ((w.alloc (.cells #[.int .u32 a, .int .u32 s] 27)).alloc (.cells noC.cells 51)) from (by repeat (first | exact Fr.refl _ _ | assumption | refine Fr.trans0 ?_ (by assumption) | refine Fr.drewN ?_ _ | refine Fr.alloc ?_ _ | refine Fr.drew ?_)))
  by_cases hp : pm ≤ 255
  · by_cases hl : a + s ≤ 4294967296
    · have C2 := Lib.hid fun W => r03enc_any W a (a + s) ha hl (by omega)
      have HB := Lib.hid (show mkB a s pm = exB a (a + s) by unfold mkB; simp [hp, hl])
      rw [HB.out]
      have hp2 : ¬ (255 : Int) < (pm : Int) := by omega
      have hl2 : ¬ (4294967296 : Int) < (a : Int) + (s : Int) := by omega
      have hl3 : decide ((4294967296 : Int) < (a : Int) + (s : Int)) = false := by simp; omega
      rw [Int.natCast_add] at C2
      unfold mkC
      rw [Int.natCast_add]
      generalize expo (a : Int) ((a : Int) + (s : Int)) = e at *
      generalize m1 a (a + s) = M at *
      generalize m2 a (a + s) = N at *
      generalize exB a (a + s) = B at *
      clear HB
      go_enter Try.func45, Try.ntmps45
      go_wp2_with fail
      refine (C2.out _).mono ?_
      rintro e9 w2 ⟨rfl, hf2⟩
      have F2 := Lib.hid (F0.out.trans0 hf2)
      have A2 := Lib.hid (A1.out.fr hf2 (by simp))
      have B2 := Lib.hid (B0.out.fr hf2 (by simp))
      clear hf2 F0 A1 B0
      cases B
      · go_upto_region 6 with (fail)
        go_wp2_with (refine wpList_store_all rfl 51 (.tmp 4) (.tmp 42) rfl (w.heap.size + 1) noC.cells rfl rfl 51 noC.cells A2.out infoCapR rfl (cellr_all _) ?_; intro w3 hA3 hF3)
        exact bodyPost_ret (res_row_tmp rfl _ _ (w.heap.size + 1) 51 _ _ rfl hA3 Try.underlying51 rfl (by kernel_rfl)) rfl ⟨rfl, (F2.out).trans hF3 (by simp <;> omega)⟩
      · have c := B2.out.cell 0
        go_upto_region 7 with (fail)
        go_wp2_with (refine wpList_store_all rfl 51 (.tmp 4) (.tmp 49) rfl (w.heap.size + 1) (⟨a, e, M, N, pm, 0, 0, true⟩ : Cp).cells rfl rfl 51 noC.cells A2.out infoCapR rfl (cellr_all _) ?_; intro w3 hA3 hF3)
        exact bodyPost_ret (res_row_tmp rfl _ _ (w.heap.size + 1) 51 _ _ rfl hA3 Try.underlying51 rfl (by kernel_rfl)) rfl ⟨rfl, F2.out.trans hF3 (by simp <;> omega)⟩
    · have HB := Lib.hid (show mkB a s pm = false by unfold mkB; simp [hl])
      rw [HB.out]
      have hp2 : ¬ (255 : Int) < (pm : Int) := by omega
      have hl2 : (4294967296 : Int) < (a : Int) + (s : Int) := by omega
      have hl3 : decide ((4294967296 : Int) < (a : Int) + (s : Int)) = true := by simp; omega
      go_enter Try.func45, Try.ntmps45
      go_upto_region 3 with (fail)
      go_wp2_with (refine wpList_store_all rfl 51 (.tmp 4) (.tmp 25) rfl (w.heap.size + 1) noC.cells rfl rfl 51 noC.cells A1.out infoCapR rfl (cellr_all _) ?_; intro w3 hA3 hF3)
      exact bodyPost_ret (res_row_tmp rfl _ _ (w.heap.size + 1) 51 _ _ rfl hA3 Try.underlying51 rfl (by kernel_rfl)) rfl ⟨rfl, (F0.out).trans hF3 (by simp <;> omega)⟩
  · have HB := Lib.hid (show mkB a s pm = false by unfold mkB; simp [hp])
    rw [HB.out]
    have hp2 : (255 : Int) < (pm : Int) := by omega
    go_enter Try.func45, Try.ntmps45
    go_upto_region 3 with (fail)
    go_wp2_with (refine wpList_store_all rfl 51 (.tmp 4) (.tmp 25) rfl (w.heap.size + 1) noC.cells rfl rfl 51 noC.cells A1.out infoCapR rfl (cellr_all _) ?_; intro w3 hA3 hF3)
    exact bodyPost_ret (res_row_tmp rfl _ _ (w.heap.size + 1) 51 _ _ rfl hA3 Try.underlying51 rfl (by kernel_rfl)) rfl ⟨rfl, (F0.out).trans hF3 (by simp <;> omega)⟩
end Go.Proofs.Ytkbdoiefgmbikaa
