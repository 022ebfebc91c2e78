/-
  Within and Meets of caps; lists of capabilities in memory. Conditions: numbers in their types' ranges.
-/



import Derived.Test.YtkbdoiefgmbikaaCaps
import Derived.Test.YtkbdoiefgmbikaaPast
import Derived.Test.YtkbdoiefgmbikaaLists
import Derived.Deep.CutBlock
import Derived.Deep.DeepCutAuto
import Derived.BigRegion
set_option linter.unusedVariables false
namespace Go.Proofs.Ytkbdoiefgmbikaa
open Go.ChangeShapes Go.WideShapes Go.ChangeAt Go.RowKit
def pmB (a b : Nat) : Bool := bits .andNot .u16 (a : Int) (b : Int) == 0
def withinB (a b : Cp) : Bool := pmB a.pm b.pm && (decide (a.top ≤ a.base) || (decide (b.base ≤ a.base) && decide (a.top ≤ b.top)))
def meetsB (c : Cp) (a s : Nat) : Bool := decide (max c.base (a : Int) < min c.top ((a + s : Nat) : Int))
theorem infoC8 (c : Cp) : (Try.prog.info? 51).map (·.size) = some c.cells.size := by kernel_rfl
theorem cp_bd (c : Cp) : 0 ≤ c.base ∧ c.base < 4294967296 ∧ c.base ≤ c.top ∧ c.top ≤ 4294967296 := dec_bd c.e c.b c.t c.cur
set_option maxHeartbeats 4000000 in
set_option maxRecDepth 100000 in
theorem within_any (w : World) (a b : Cp) (ha : a.cur < 4294967296) (hb : b.cur < 4294967296) :
    Calls Try.prog 32 #[.agg a.cells, .agg b.cells] w fun r w' => r = .returned (.bool (withinB a b)) ∧ Fr [] w w' := by
  have C1 := Lib.hid fun W => range_any W a ha
  have C2 := Lib.hid fun W => range_any W b hb
  have A0 := Lib.hid (At.new w 51 a.cells)
  have A1 := At.new (w.alloc (.cells a.cells 51)) 51 b.cells
  rw [World.size_alloc] at A1
  have A1 := Lib.hid A1
  have F0 := Lib.hid (show Fr [] w ((w.alloc (.cells a.cells 51)).alloc (.cells b.cells 51)) from (by repeat (first | exact Fr.refl _ _ | assumption | refine Fr.trans0 ?_ (by assumption) | refine Fr.drewN ?_ _ | refine Fr.alloc ?_ _ | refine Fr.drew ?_)))
  have A0 := Lib.hid (A0.out.old (.cells b.cells 51))
  obtain ⟨x1, x2, x3, x4⟩ := cp_bd a
  obtain ⟨y1, y2, y3, y4⟩ := cp_bd b
  unfold withinB
  obtain ⟨B1, hB1⟩ : ∃ B, pmB a.pm b.pm = B := ⟨_, rfl⟩
  rw [hB1]
  unfold pmB at hB1
  generalize hab : a.base = AB at *
  generalize hat : a.top = AT at *
  generalize hbb : b.base = BB at *
  generalize hbt : b.top = BT at *
  clear hab hat hbb hbt
  have hw : IntKind.u64.wrap AB = AB := by simp [IntKind.wrap, IntKind.signed, IntKind.bits]; omega
  obtain ⟨B2, hB2⟩ : ∃ B, decide (AT ≤ AB) = B := ⟨_, rfl⟩
  obtain ⟨B3, hB3⟩ : ∃ B, decide (BB ≤ AB) = B := ⟨_, rfl⟩
  obtain ⟨B4, hB4⟩ : ∃ B, decide (AT ≤ BT) = B := ⟨_, rfl⟩
  rw [hB2, hB3, hB4]
  go_enter Try.func32, Try.ntmps32
  go_wp2_with (refine wpList_load_all rfl 51 (.tmp 2) rfl w.heap.size rfl 51 a.cells _ A0.out Try.underlying51 rfl (infoC8 a) ?_)
  refine (C1.out _).mono ?_
  rintro e1 w2 ⟨rfl, hf2⟩
  have D1 := Lib.hid (A1.out.fr hf2 (by simp))
  have D0 := Lib.hid (A0.out.fr hf2 (by simp))
  have F2 := Lib.hid (F0.out.trans0 hf2)
  clear hf2
  go_wp2_with (refine wpList_load_all rfl 51 (.tmp 3) rfl (w.heap.size + 1) rfl 51 b.cells _ D1.out Try.underlying51 rfl (infoC8 b) ?_)
  refine (C2.out _).mono ?_
  rintro e1 w3 ⟨rfl, hf3⟩
  have k0 : w3.cell? ⟨w.heap.size, 4, none⟩ = some (.int .u16 a.pm) := (D0.out.fr hf3 (by simp)).cell 4
  have k1 : w3.cell? ⟨w.heap.size + 1, 4, none⟩ = some (.int .u16 b.pm) := (D1.out.fr hf3 (by simp)).cell 4
  have F3 := Lib.hid (F2.out.trans0 hf3)
  clear hf3 C1 C2
  cases B1
  · go_wp2_with fail
    go_ret
    exact ⟨rfl, F3.out⟩
  · cases B2
    · cases B3
      · go_wp2_with fail
        go_ret
        exact ⟨rfl, F3.out⟩
      · go_wp2_with fail
        go_ret
        exact ⟨by simp, F3.out⟩
    · go_wp2_with fail
      go_ret
      exact ⟨rfl, F3.out⟩
set_option maxHeartbeats 4000000 in
set_option maxRecDepth 100000 in
theorem meets_any (w : World) (c : Cp) (a s : Nat) (hc : c.cur < 4294967296) (ha : a < 4294967296) (hs : s < 4294967296) :
    Calls Try.prog 35 #[.agg c.cells, .agg #[.int .u32 a, .int .u32 s]] w fun r w' => r = .returned (.bool (meetsB c a s)) ∧ Fr [] w w' := by
  have C1 := Lib.hid fun W => range_any W c hc
  have C2 := Lib.hid fun W => cend_any W a s ha hs
  have A0 := Lib.hid (At.new w 51 c.cells)
  have A1 := At.new (w.alloc (.cells c.cells 51)) 27 #[.int .u32 a, .int .u32 s]
  rw [World.size_alloc] at A1
  have A1 := Lib.hid A1
  have F0 := Lib.hid (show Fr [] w ((w.alloc (.cells c.cells 51)).alloc (.cells #[.int .u32 a, .int .u32 s] 27)) from (by repeat (first | exact Fr.refl _ _ | assumption | refine Fr.trans0 ?_ (by assumption) | refine Fr.drewN ?_ _ | refine Fr.alloc ?_ _ | refine Fr.drew ?_)))
  have A0 := Lib.hid (A0.out.old (.cells #[.int .u32 a, .int .u32 s] 27))
  have HIR := Lib.hid (show (Try.prog.info? 27).map (·.size) = some 2 by kernel_rfl)
  obtain ⟨x1, x2, x3, x4⟩ := cp_bd c
  unfold meetsB
  generalize hab : c.base = AB at *
  generalize hat : c.top = AT at *
  clear hab hat
  have hw1 : IntKind.u64.wrap AB = AB := by simp [IntKind.wrap, IntKind.signed, IntKind.bits]; omega
  have hw2 : IntKind.u64.wrap (a : Int) = (a : Int) := by simp [IntKind.wrap, IntKind.signed, IntKind.bits]; omega
  go_enter Try.func35, Try.ntmps35
  go_wp2_with (refine wpList_load_all rfl 51 (.tmp 2) rfl w.heap.size rfl 51 c.cells _ A0.out Try.underlying51 rfl (infoC8 c) ?_)
  refine (C1.out _).mono ?_
  rintro e1 w2 ⟨rfl, hf2⟩
  have D1 := Lib.hid (A1.out.fr hf2 (by simp))
  have F2 := Lib.hid (F0.out.trans0 hf2)
  clear hf2
  go_wp2_with fail
  refine wp_region_L (fun W => At W (w.heap.size + 1) 27 #[.int .u32 a, .int .u32 s] ∧ Fr [] w W) [] (by kernel_rfl) ⟨D1.out.hp rfl, F2.out.drew⟩ (fun hHeld => ?_)
  refine wpAnyL_take (i := 0) (v := ?_) rfl (by kernel_rfl) (fun _ _ _ h => h) (Or.inl ⟨by rfl, ?_⟩) (by assumption) ?_; rotate_left; (focus (intro w hSw; skip; go_simp; (try with_reducible rfl))); (try (refine wpAnyL_norm (by simp only [Act.put, List.setIfInBounds_toArray, List.set_cons_zero, List.set_cons_succ]; rfl) ?_))
  refine wpAnyL_take (i := 1) (v := ?_) rfl (by kernel_rfl) (fun _ _ _ h => h) (Or.inl ⟨by rfl, ?_⟩) (by assumption) ?_; rotate_left; (focus (intro w hSw; skip; go_simp; (try with_reducible rfl))); (try (refine wpAnyL_norm (by simp only [Act.put, List.setIfInBounds_toArray, List.set_cons_zero, List.set_cons_succ]; rfl) ?_))
  refine wpAnyL_take (i := 2) (v := ?_) rfl (by kernel_rfl) (fun _ _ _ h => h) (Or.inl ⟨by rfl, ?_⟩) (by assumption) ?_; rotate_left; (focus (intro w hSw; have c := hSw.1.cell 0; go_simp; (try with_reducible rfl))); (try (refine wpAnyL_norm (by simp only [Act.put, List.setIfInBounds_toArray, List.set_cons_zero, List.set_cons_succ]; rfl) ?_))
  refine wpAnyL_take (i := 3) (v := ?_) rfl (by kernel_rfl) (fun _ _ _ h => h) (Or.inl ⟨by rfl, ?_⟩) (by assumption) ?_; rotate_left; (focus (intro w hSw; skip; go_simp; (try with_reducible rfl))); (try (refine wpAnyL_norm (by simp only [Act.put, List.setIfInBounds_toArray, List.set_cons_zero, List.set_cons_succ]; rfl) ?_))
  refine wpAnyL_take (i := 4) (v := ?_) rfl (by kernel_rfl) (fun _ _ _ h => h) (Or.inl ⟨by rfl, ?_⟩) (by assumption) ?_; rotate_left; (focus (intro w hSw; skip; go_simp; (try with_reducible rfl))); (try (refine wpAnyL_norm (by simp only [Act.put, List.setIfInBounds_toArray, List.set_cons_zero, List.set_cons_succ]; rfl) ?_))
  refine wpAnyL_take (i := 5) (v := ?_) rfl (by kernel_rfl) (fun _ _ _ h => h) (Or.inl ⟨by rfl, ?_⟩) (by assumption) ?_; rotate_left; (focus (intro w hSw; skip; go_simp; (try with_reducible rfl))); (try (refine wpAnyL_norm (by simp only [Act.put, List.setIfInBounds_toArray, List.set_cons_zero, List.set_cons_succ]; rfl) ?_))
  refine wpAnyL_take (i := 6) rfl (by kernel_rfl) (fun _ _ _ h => h) (yields_load_at 27 (.tmp 3) rfl ⟨w.heap.size + 1, 0, none⟩ rfl [.int .u32 a, .int .u32 s] _ (fun W hW => hW.1.two 0 _ _ rfl rfl) Try.underlying27 rfl HIR.out rfl) (by assumption) ?_; (try (refine wpAnyL_norm (by simp only [Act.put, List.setIfInBounds_toArray, List.set_cons_zero, List.set_cons_succ]; rfl) ?_))
  refine wpAnyL_ready (rs := [7]) (by kernel_rfl) (by simp) ?_; refine AllReadyL.cons rfl (fun K hK => ?_) AllReadyL.nil
  go_simp
  refine (C2.out _).mono ?_
  rintro e1 w3 ⟨rfl, hf3⟩
  refine hK.out _ _ (fun _ => ⟨hHeld.1.fr hf3 (by simp), hHeld.2.trans0 hf3⟩) (fun hHeld' => ?_); have hHeld := hHeld' (by decide); clear hHeld' hK K; (try (refine wpAnyL_norm (by simp only [Act.put, List.setIfInBounds_toArray, List.set_cons_zero, List.set_cons_succ]; rfl) ?_))
  refine wpAnyL_take (i := 8) (v := ?_) rfl (by kernel_rfl) (fun _ _ _ h => h) (Or.inl ⟨by rfl, ?_⟩) (by assumption) ?_; rotate_left; (focus (intro w hSw; skip; go_simp; (try with_reducible rfl))); (try (refine wpAnyL_norm (by simp only [Act.put, List.setIfInBounds_toArray, List.set_cons_zero, List.set_cons_succ]; rfl) ?_))
  refine wpAnyL_take (i := 9) (v := ?_) rfl (by kernel_rfl) (fun _ _ _ h => h) (Or.inl ⟨by rfl, ?_⟩) (by assumption) ?_; rotate_left; (focus (intro w hSw; skip; go_simp; (try with_reducible rfl))); (try (refine wpAnyL_norm (by simp only [Act.put, List.setIfInBounds_toArray, List.set_cons_zero, List.set_cons_succ]; rfl) ?_))
  refine wpAnyL_take (i := 10) (v := ?_) rfl (by kernel_rfl) (fun _ _ _ h => h) (Or.inl ⟨by rfl, ?_⟩) (by assumption) ?_; rotate_left; (focus (intro w hSw; skip; go_simp; (try with_reducible rfl))); (try (refine wpAnyL_norm (by simp only [Act.put, List.setIfInBounds_toArray, List.set_cons_zero, List.set_cons_succ]; rfl) ?_))
  refine wpAnyL_done (by kernel_rfl) ?_ _
  go_wp2_with fail
  all_goals
    go_ret
    refine ⟨ret_bool ?_, hHeld.2⟩
    (try rw [hw1])
    (try rw [hw2])
    rw [decide_eq_decide]
    omega
end Go.Proofs.Ytkbdoiefgmbikaa
