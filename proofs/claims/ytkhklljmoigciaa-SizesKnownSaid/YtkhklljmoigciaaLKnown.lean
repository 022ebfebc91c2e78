/-
  SizesKnown: the chapter's examples. No condition.
-/

import Derived.Test.YtkhklljmoigciaaHelp
import Derived.StillTailTactics
import Derived.Deep.RegionHeld3
set_option linter.unusedVariables false
namespace Go.Proofs.Ytkhklljmoigciaa
open Go.ChangeShapes Go.WideShapes Go.ChangeAt Go.RowKit
namespace sizesKnown
theorem slot_out (c : Int) (w : World) (h : c < 0 ∨ 4 < c) : Calls Try.prog 14 #[.int .i64 c] w fun e w' => e = .returned (.int .u32 0) ∧ w = w' := by
  have := slot_any c w
  rw [show slotV c = 0 by unfold slotV; omega] at this
  exact this
theorem slot_0 (w : World) : Calls Try.prog 14 #[.int .i64 0] w fun e w' => e = .returned (.int .u32 16) ∧ w = w' := slot_any 0 w
theorem slot_4 (w : World) : Calls Try.prog 14 #[.int .i64 4] w fun e w' => e = .returned (.int .u32 256) ∧ w = w' := slot_any 4 w
theorem class_0 (w : World) : Calls Try.prog 13 #[.int .u32 0] w fun e w' => e = .returned (.tuple #[.int .i64 0, .bool false]) ∧ Fr [] w w' := by
  have := class_any 0 w (by omega) (by omega)
  rw [show clsV 0 = 0 by decide +kernel, show clsB 0 = false by decide +kernel] at this
  exact this
theorem class_1 (w : World) : Calls Try.prog 13 #[.int .u32 1] w fun e w' => e = .returned (.tuple #[.int .i64 0, .bool true]) ∧ Fr [] w w' := by
  have := class_any 1 w (by omega) (by omega)
  rw [show clsV 1 = 0 by decide +kernel, show clsB 1 = true by decide +kernel] at this
  exact this
theorem class_2 (w : World) : Calls Try.prog 13 #[.int .u32 16] w fun e w' => e = .returned (.tuple #[.int .i64 0, .bool true]) ∧ Fr [] w w' := by
  have := class_any 16 w (by omega) (by omega)
  rw [show clsV 16 = 0 by decide +kernel, show clsB 16 = true by decide +kernel] at this
  exact this
theorem class_3 (w : World) : Calls Try.prog 13 #[.int .u32 17] w fun e w' => e = .returned (.tuple #[.int .i64 1, .bool true]) ∧ Fr [] w w' := by
  have := class_any 17 w (by omega) (by omega)
  rw [show clsV 17 = 1 by decide +kernel, show clsB 17 = true by decide +kernel] at this
  exact this
theorem class_4 (w : World) : Calls Try.prog 13 #[.int .u32 256] w fun e w' => e = .returned (.tuple #[.int .i64 4, .bool true]) ∧ Fr [] w w' := by
  have := class_any 256 w (by omega) (by omega)
  rw [show clsV 256 = 4 by decide +kernel, show clsB 256 = true by decide +kernel] at this
  exact this
theorem class_5 (w : World) : Calls Try.prog 13 #[.int .u32 257] w fun e w' => e = .returned (.tuple #[.int .i64 0, .bool false]) ∧ Fr [] w w' := by
  have := class_any 257 w (by omega) (by omega)
  rw [show clsV 257 = 0 by decide +kernel, show clsB 257 = false by decide +kernel] at this
  exact this
theorem class_6 (w : World) : Calls Try.prog 13 #[.int .u32 4294967295] w fun e w' => e = .returned (.tuple #[.int .i64 0, .bool false]) ∧ Fr [] w w' := by
  have := class_any 4294967295 w (by omega) (by omega)
  rw [show clsV 4294967295 = 0 by decide +kernel, show clsB 4294967295 = false by decide +kernel] at this
  exact this
theorem pad_0 (w : World) : Calls Try.prog 10 #[.int .u32 1, .int .u32 4096] w fun r w' => r = .returned (.tuple #[.int .u32 16, .int .u32 16, .int .i64 0]) ∧ Fr [] w w' :=
  (pd3 1 4096 16 16 0 (by omega) (by omega) (by decide +kernel)).out w
theorem pad_1 (w : World) : Calls Try.prog 10 #[.int .u32 33, .int .u32 4096] w fun r w' => r = .returned (.tuple #[.int .u32 64, .int .u32 64, .int .i64 0]) ∧ Fr [] w w' :=
  (pd3 33 4096 64 64 0 (by omega) (by omega) (by decide +kernel)).out w
theorem pad_2 (w : World) : Calls Try.prog 10 #[.int .u32 257, .int .u32 4096] w fun r w' => r = .returned (.tuple #[.int .u32 512, .int .u32 256, .int .i64 0]) ∧ Fr [] w w' :=
  (pd3 257 4096 512 256 0 (by omega) (by omega) (by decide +kernel)).out w
theorem pad_3 (w : World) : Calls Try.prog 10 #[.int .u32 200000, .int .u32 1048576] w fun r w' => r = .returned (.tuple #[.int .u32 200192, .int .u32 256, .int .i64 0]) ∧ Fr [] w w' :=
  (pd3 200000 1048576 200192 256 0 (by omega) (by omega) (by decide +kernel)).out w
theorem pad_4 (w : World) : Calls Try.prog 10 #[.int .u32 1048575, .int .u32 16777216] w fun r w' => r = .returned (.tuple #[.int .u32 1048576, .int .u32 512, .int .i64 0]) ∧ Fr [] w w' :=
  (pd3 1048575 16777216 1048576 512 0 (by omega) (by omega) (by decide +kernel)).out w
theorem pad_5 (w : World) : Calls Try.prog 10 #[.int .u32 2097153, .int .u32 16777216] w fun r w' => r = .returned (.tuple #[.int .u32 2099200, .int .u32 2048, .int .i64 0]) ∧ Fr [] w w' :=
  (pd3 2097153 16777216 2099200 2048 0 (by omega) (by omega) (by decide +kernel)).out w
theorem pad_6 (w : World) : Calls Try.prog 10 #[.int .u32 300, .int .u32 512] w fun r w' => r = .returned (.tuple #[.int .u32 512, .int .u32 256, .int .i64 0]) ∧ Fr [] w w' :=
  (pd3 300 512 512 256 0 (by omega) (by omega) (by decide +kernel)).out w
theorem pad_7 (w : World) : Calls Try.prog 10 #[.int .u32 0, .int .u32 4096] w fun r w' => r = .returned (.tuple #[.int .u32 0, .int .u32 0, .int .i64 6]) ∧ Fr [] w w' :=
  (pd3 0 4096 0 0 6 (by omega) (by omega) (by decide +kernel)).out w
theorem pad_8 (w : World) : Calls Try.prog 10 #[.int .u32 300, .int .u32 511] w fun r w' => r = .returned (.tuple #[.int .u32 0, .int .u32 0, .int .i64 6]) ∧ Fr [] w w' :=
  (pd3 300 511 0 0 6 (by omega) (by omega) (by decide +kernel)).out w
theorem pad_9 (w : World) : Calls Try.prog 10 #[.int .u32 4294967295, .int .u32 4294967295] w fun r w' => r = .returned (.tuple #[.int .u32 0, .int .u32 0, .int .i64 6]) ∧ Fr [] w w' :=
  (pd3 4294967295 4294967295 0 0 6 (by omega) (by omega) (by decide +kernel)).out w
theorem pad_10 (w : World) : Calls Try.prog 10 #[.int .u32 4294967040, .int .u32 4294967295] w fun r w' => r = .returned (.tuple #[.int .u32 0, .int .u32 0, .int .i64 6]) ∧ Fr [] w w' :=
  (pd3 4294967040 4294967295 0 0 6 (by omega) (by omega) (by decide +kernel)).out w
theorem pad_11 (w : World) : Calls Try.prog 10 #[.int .u32 1, .int .u32 15] w fun r w' => r = .returned (.tuple #[.int .u32 0, .int .u32 0, .int .i64 6]) ∧ Fr [] w w' :=
  (pd3 1 15 0 0 6 (by omega) (by omega) (by decide +kernel)).out w
def szs : Array Value := #[.int .u32 0, .int .u32 1, .int .u32 16, .int .u32 17, .int .u32 256, .int .u32 257, .int .u32 4294967295]
def rws : Array Value := #[.int .u32 1, .int .u32 4096, .int .u32 16, .int .u32 16, .int .u32 33, .int .u32 4096, .int .u32 64, .int .u32 64, .int .u32 257, .int .u32 4096, .int .u32 512, .int .u32 256, .int .u32 200000, .int .u32 1048576, .int .u32 200192, .int .u32 256, .int .u32 1048575, .int .u32 16777216, .int .u32 1048576, .int .u32 512, .int .u32 2097153, .int .u32 16777216, .int .u32 2099200, .int .u32 2048, .int .u32 300, .int .u32 512, .int .u32 512, .int .u32 256]
def rowN (j k : Nat) : Int := ([[1, 4096, 16, 16], [33, 4096, 64, 64], [257, 4096, 512, 256], [200000, 1048576, 200192, 256], [1048575, 16777216, 1048576, 512], [2097153, 16777216, 2099200, 2048], [300, 512, 512, 256]].getD k []).getD j 0
theorem seven (k : Nat) (h : k < 7) : k = 0 ∨ k = 1 ∨ k = 2 ∨ k = 3 ∨ k = 4 ∨ k = 5 ∨ k = 6 := by omega
theorem row_cells {w : World} {g : Nat} (h : At w g 38 rws) (k : Nat) (hk : k < 7) :
    w.cell? ⟨g, k * 4, none⟩ = some (.int .u32 (rowN 0 k)) ∧ w.cell? ⟨g, k * 4 + 1, none⟩ = some (.int .u32 (rowN 1 k)) ∧ w.cell? ⟨g, k * 4 + 2, none⟩ = some (.int .u32 (rowN 2 k)) ∧ w.cell? ⟨g, k * 4 + 3, none⟩ = some (.int .u32 (rowN 3 k)) := by
  simp only [h.cell]
  obtain rfl | rfl | rfl | rfl | rfl | rfl | rfl := seven k hk <;> exact ⟨rfl, rfl, rfl, rfl⟩
theorem pad_row (k : Nat) (hk : k < 7) : Hid (∀ w, Calls Try.prog 10 #[.int .u32 (rowN 0 k), .int .u32 (rowN 1 k)] w fun r w' => r = .returned (.tuple #[.int .u32 (rowN 2 k), .int .u32 (rowN 3 k), .int .i64 0]) ∧ Fr [] w w') := Lib.hid fun w => by
  obtain rfl | rfl | rfl | rfl | rfl | rfl | rfl := seven k hk
  · exact pad_0 w
  · exact pad_1 w
  · exact pad_2 w
  · exact pad_3 w
  · exact pad_4 w
  · exact pad_5 w
  · exact pad_6 w
theorem five (k : Nat) (h : k < 5) : k = 0 ∨ k = 1 ∨ k = 2 ∨ k = 3 ∨ k = 4 := by omega
theorem pad_bad (k : Nat) (hk : k < 5) : Hid (∀ w, Calls Try.prog 10 #[[Value.int .u32 0, .int .u32 300, .int .u32 4294967295, .int .u32 4294967040, .int .u32 1][k]'(by simpa using hk), [Value.int .u32 4096, .int .u32 511, .int .u32 4294967295, .int .u32 4294967295, .int .u32 15][k]'(by simpa using hk)] w fun r w' => r = .returned (.tuple #[.int .u32 0, .int .u32 0, .int .i64 6]) ∧ Fr [] w w') := Lib.hid fun w => by
  obtain rfl | rfl | rfl | rfl | rfl := five k hk
  · exact pad_7 w
  · exact pad_8 w
  · exact pad_9 w
  · exact pad_10 w
  · exact pad_11 w
set_option maxHeartbeats 4000000 in
set_option maxRecDepth 100000 in
theorem walk (w : World) :
    Calls Try.prog 8 #[] w fun e w' => e = .returned (.bool true) ∧ Fr [] w w' := by
  go_enter Try.func8, Try.ntmps8
  go_wp2_with (first | (go_at_call 14; (with_reducible refine (slot_0 _).mono ?_); rintro e w' ⟨rfl, rfl⟩) | (go_at_call 14; (with_reducible refine (slot_4 _).mono ?_); rintro e w' ⟨rfl, rfl⟩) | (go_at_call 14; refine (slot_out _ _ (by omega)).mono ?_; rintro e w' ⟨rfl, rfl⟩) | (go_at_call 17; refine (classes_any _).mono ?_; rintro e w' ⟨rfl, rfl⟩))
  go_loopw [42] (fun i wr => ∃ k : Nat, k ≤ 7 ∧ i = .int .i64 k ∧ At wr w.heap.size 22 szs ∧ Fr [] w wr) (fun i _ => 7 - (intOf i).toNat)
  case atStart => exact ⟨0, by omega, rfl, At.new _ _ _, (Fr.refl _ _).alloc _⟩
  case round =>
    obtain ⟨k, hk, rfl, hat, hfr⟩ := hrel
    have hc := fun i => hat.cell i
    unfold szs at hc
    obtain rfl | rfl | rfl | rfl | rfl | rfl | rfl | hk7 : k = 0 ∨ k = 1 ∨ k = 2 ∨ k = 3 ∨ k = 4 ∨ k = 5 ∨ k = 6 ∨ 7 ≤ k := by omega
    · go_wp2_with (first | (go_at_call 13; (with_reducible refine (class_0 _).mono ?_); rintro e w1 ⟨rfl, hf1⟩) | (go_at_call 13; (with_reducible refine (class_1 _).mono ?_); rintro e w1 ⟨rfl, hf1⟩) | (go_at_call 13; (with_reducible refine (class_2 _).mono ?_); rintro e w1 ⟨rfl, hf1⟩) | (go_at_call 13; (with_reducible refine (class_3 _).mono ?_); rintro e w1 ⟨rfl, hf1⟩) | (go_at_call 13; (with_reducible refine (class_4 _).mono ?_); rintro e w1 ⟨rfl, hf1⟩) | (go_at_call 13; (with_reducible refine (class_5 _).mono ?_); rintro e w1 ⟨rfl, hf1⟩) | (go_at_call 13; (with_reducible refine (class_6 _).mono ?_); rintro e w1 ⟨rfl, hf1⟩))
      go_roundw
      case rel => exact ⟨1, by omega, rfl, (hat.fr hf1 (by simp)).old _, (hfr.trans0 hf1).alloc _⟩
      case measure => simp [intOf]
    · go_wp2_with (first | (go_at_call 13; (with_reducible refine (class_0 _).mono ?_); rintro e w1 ⟨rfl, hf1⟩) | (go_at_call 13; (with_reducible refine (class_1 _).mono ?_); rintro e w1 ⟨rfl, hf1⟩) | (go_at_call 13; (with_reducible refine (class_2 _).mono ?_); rintro e w1 ⟨rfl, hf1⟩) | (go_at_call 13; (with_reducible refine (class_3 _).mono ?_); rintro e w1 ⟨rfl, hf1⟩) | (go_at_call 13; (with_reducible refine (class_4 _).mono ?_); rintro e w1 ⟨rfl, hf1⟩) | (go_at_call 13; (with_reducible refine (class_5 _).mono ?_); rintro e w1 ⟨rfl, hf1⟩) | (go_at_call 13; (with_reducible refine (class_6 _).mono ?_); rintro e w1 ⟨rfl, hf1⟩))
      go_roundw
      case rel => exact ⟨2, by omega, rfl, (hat.fr hf1 (by simp)).old _, (hfr.trans0 hf1).alloc _⟩
      case measure => simp [intOf]
    · go_wp2_with (first | (go_at_call 13; (with_reducible refine (class_0 _).mono ?_); rintro e w1 ⟨rfl, hf1⟩) | (go_at_call 13; (with_reducible refine (class_1 _).mono ?_); rintro e w1 ⟨rfl, hf1⟩) | (go_at_call 13; (with_reducible refine (class_2 _).mono ?_); rintro e w1 ⟨rfl, hf1⟩) | (go_at_call 13; (with_reducible refine (class_3 _).mono ?_); rintro e w1 ⟨rfl, hf1⟩) | (go_at_call 13; (with_reducible refine (class_4 _).mono ?_); rintro e w1 ⟨rfl, hf1⟩) | (go_at_call 13; (with_reducible refine (class_5 _).mono ?_); rintro e w1 ⟨rfl, hf1⟩) | (go_at_call 13; (with_reducible refine (class_6 _).mono ?_); rintro e w1 ⟨rfl, hf1⟩))
      go_roundw
      case rel => exact ⟨3, by omega, rfl, (hat.fr hf1 (by simp)).old _, (hfr.trans0 hf1).alloc _⟩
      case measure => simp [intOf]
    · go_wp2_with (first | (go_at_call 13; (with_reducible refine (class_0 _).mono ?_); rintro e w1 ⟨rfl, hf1⟩) | (go_at_call 13; (with_reducible refine (class_1 _).mono ?_); rintro e w1 ⟨rfl, hf1⟩) | (go_at_call 13; (with_reducible refine (class_2 _).mono ?_); rintro e w1 ⟨rfl, hf1⟩) | (go_at_call 13; (with_reducible refine (class_3 _).mono ?_); rintro e w1 ⟨rfl, hf1⟩) | (go_at_call 13; (with_reducible refine (class_4 _).mono ?_); rintro e w1 ⟨rfl, hf1⟩) | (go_at_call 13; (with_reducible refine (class_5 _).mono ?_); rintro e w1 ⟨rfl, hf1⟩) | (go_at_call 13; (with_reducible refine (class_6 _).mono ?_); rintro e w1 ⟨rfl, hf1⟩))
      go_roundw
      case rel => exact ⟨4, by omega, rfl, (hat.fr hf1 (by simp)).old _, (hfr.trans0 hf1).alloc _⟩
      case measure => simp [intOf]
    · go_wp2_with (first | (go_at_call 13; (with_reducible refine (class_0 _).mono ?_); rintro e w1 ⟨rfl, hf1⟩) | (go_at_call 13; (with_reducible refine (class_1 _).mono ?_); rintro e w1 ⟨rfl, hf1⟩) | (go_at_call 13; (with_reducible refine (class_2 _).mono ?_); rintro e w1 ⟨rfl, hf1⟩) | (go_at_call 13; (with_reducible refine (class_3 _).mono ?_); rintro e w1 ⟨rfl, hf1⟩) | (go_at_call 13; (with_reducible refine (class_4 _).mono ?_); rintro e w1 ⟨rfl, hf1⟩) | (go_at_call 13; (with_reducible refine (class_5 _).mono ?_); rintro e w1 ⟨rfl, hf1⟩) | (go_at_call 13; (with_reducible refine (class_6 _).mono ?_); rintro e w1 ⟨rfl, hf1⟩))
      go_roundw
      case rel => exact ⟨5, by omega, rfl, (hat.fr hf1 (by simp)).old _, (hfr.trans0 hf1).alloc _⟩
      case measure => simp [intOf]
    · go_wp2_with (first | (go_at_call 13; (with_reducible refine (class_0 _).mono ?_); rintro e w1 ⟨rfl, hf1⟩) | (go_at_call 13; (with_reducible refine (class_1 _).mono ?_); rintro e w1 ⟨rfl, hf1⟩) | (go_at_call 13; (with_reducible refine (class_2 _).mono ?_); rintro e w1 ⟨rfl, hf1⟩) | (go_at_call 13; (with_reducible refine (class_3 _).mono ?_); rintro e w1 ⟨rfl, hf1⟩) | (go_at_call 13; (with_reducible refine (class_4 _).mono ?_); rintro e w1 ⟨rfl, hf1⟩) | (go_at_call 13; (with_reducible refine (class_5 _).mono ?_); rintro e w1 ⟨rfl, hf1⟩) | (go_at_call 13; (with_reducible refine (class_6 _).mono ?_); rintro e w1 ⟨rfl, hf1⟩))
      go_roundw
      case rel => exact ⟨6, by omega, rfl, (hat.fr hf1 (by simp)).old _, (hfr.trans0 hf1).alloc _⟩
      case measure => simp [intOf]
    · go_wp2_with (first | (go_at_call 13; (with_reducible refine (class_0 _).mono ?_); rintro e w1 ⟨rfl, hf1⟩) | (go_at_call 13; (with_reducible refine (class_1 _).mono ?_); rintro e w1 ⟨rfl, hf1⟩) | (go_at_call 13; (with_reducible refine (class_2 _).mono ?_); rintro e w1 ⟨rfl, hf1⟩) | (go_at_call 13; (with_reducible refine (class_3 _).mono ?_); rintro e w1 ⟨rfl, hf1⟩) | (go_at_call 13; (with_reducible refine (class_4 _).mono ?_); rintro e w1 ⟨rfl, hf1⟩) | (go_at_call 13; (with_reducible refine (class_5 _).mono ?_); rintro e w1 ⟨rfl, hf1⟩) | (go_at_call 13; (with_reducible refine (class_6 _).mono ?_); rintro e w1 ⟨rfl, hf1⟩))
      go_roundw
      case rel => exact ⟨7, by omega, rfl, (hat.fr hf1 (by simp)).old _, (hfr.trans0 hf1).alloc _⟩
      case measure => simp [intOf]
    · clear hc hat
      go_wp2
      obtain ⟨wo, rfl⟩ : ∃ wo : World, wo = wr := ⟨_, rfl⟩
      go_loopw [6] (fun i wq => ∃ k : Nat, k ≤ 7 ∧ i = .int .i64 k ∧ At wq wo.heap.size 38 rws ∧ Fr [] wo wq) (fun i _ => 7 - (intOf i).toNat)
      case atStart => exact ⟨0, by omega, rfl, At.new _ _ _, (Fr.refl _ _).alloc _⟩
      case round =>
        obtain ⟨k, hk, rfl, hat, hfq⟩ := hrel
        by_cases hlt : k < 7
        · have hc := row_cells hat k hlt
          obtain ⟨hc0, hc1, hc2, hc3⟩ := hc
          have C := pad_row k hlt
          go_wp2
          go_region_with (go_at_call 10; refine (C.out _).mono ?_; rintro e w1 ⟨rfl, hf1⟩; have hat1 := hat.frh hf1 rfl (by simp); obtain ⟨hd0, hd1, hd2, hd3⟩ := row_cells hat1 k hlt)
          all_goals go_wp2
          all_goals
            go_roundw
            case rel => exact ⟨k + 1, by omega, by go_num, hat1, hfq.trans0 (hf1.hd rfl rfl rfl rfl)⟩
            case measure => simp [intOf]; omega
        · clear hat
          go_wp2
          obtain ⟨wq, rfl⟩ : ∃ wq : World, wq = wr := ⟨_, rfl⟩
          go_loopw [10] (fun i wp => ∃ k : Nat, k ≤ 5 ∧ i = .int .i64 k ∧ Fr [] wq wp) (fun i _ => 5 - (intOf i).toNat)
          case atStart => exact ⟨0, by omega, rfl, Fr.refl _ _⟩
          case round =>
            obtain ⟨k, hk, rfl, hfp⟩ := hrel
            by_cases hlt : k < 5
            · have C := pad_bad k hlt
              go_wp2
              go_region_with (go_at_call 10; refine (C.out _).mono ?_; rintro e w1 ⟨rfl, hf1⟩)
              all_goals go_wp2
              all_goals
                go_roundw
                case rel => exact ⟨k + 1, by omega, by go_num, hfp.trans0 ((((Fr.refl _ _).alloc _).alloc _).trans0 (hf1.hd rfl rfl rfl rfl))⟩
                case measure => simp [intOf]; omega
            · go_wp2_with (first | (go_at_call 18; refine (pages_any _ _ (by omega) (by omega)).mono ?_; rintro e w' ⟨rfl, rfl⟩) | (go_at_call 12; refine (works_any _).mono ?_; rintro e w9 ⟨rfl, hf9⟩))
              go_ret
              exact ⟨rfl, (by repeat (first | exact Fr.refl _ _ | assumption | refine Fr.trans0 ?_ (by assumption) | refine Fr.drewN ?_ _ | refine Fr.alloc ?_ _ | refine Fr.drew ?_))⟩
set_option maxRecDepth 100000 in
theorem lifted (os : Os) (started : os.Started) (H : Type) (enc : TypeId × Value → H) :
    ReturnsInHanded {} Try.checked os 8 .any (Rows.sizesKnownSpec.pre6 enc Try.prog Try.f8 Rows.sizesKnownRow.domain false) (Rows.sizesKnownSpec.post enc Try.prog Try.f8 false true false false) := by
  refine returnsInHanded_of_change (C := Try.checked) own started (by kernel_rfl) Try.func8
    (ChangeSpec.witness6 (enc := enc) (C := Try.checked) false ⟨#[], #[], []⟩ 8 (by kernel_rfl) (by kernel_rfl) (by kernel_rfl) (by kernel_rfl)) ?_
  intro W base args ds gs before hval0 hW hcnd _
  have hval : ∀ (j : Nat) t v, Try.f8.params[j]? = some t → args[j]? = some v → Value.okWide Try.prog W .any base t v := hval0
  have hW' := hW
  obtain ⟨p, q, hA0, hV, rfl, hfz, hnd⟩ := hW
  have hA : DataW.TrodAll enc Try.prog W 0 (fun _ => true) true Try.f8.params.toList args.toList ds p := hA0
  rw [Try.params8] at hA hval
  obtain ⟨rfl, rfl, rfl⟩ := trodAll_none hA
  obtain ⟨rfl, rfl⟩ := trodVars_none hV
  clear hA0 hval0
  simp only [List.append_nil] at hW'
  refine (walk  W).mono fun e W' ⟨he, hg⟩ => ?_
  subst he
  exact ⟨_, rfl, post_fr (pa := []) (pv := []) hW' (fun _ _ _ => (trodAll_cons_mk (shut_bool Try.underlying4 _) trodAll_mk0)) (fun sp _ => rfl) (fun _ _ => rfl) rfl
    hg (ok_one (by kernel_rfl) rfl (okWide_bool_mk Try.underlying4 _))⟩
theorem over : Rows.sizesKnownRow.holds Try.pinned (OpenSpec.ofChange Rows.sizesKnownSpec) :=
  OpenClaim.holds_of_wide 8 Try.f8 rfl rfl rfl rfl rfl rfl rfl ⟨rfl, rfl, rfl, rfl, rfl⟩ rfl rfl rfl rfl rfl (by kernel_rfl) Try.func8 (by kernel_rfl)
    (of_decide_eq_true (by kernel_rfl)) (by unfold Func.isWrapper; first | (rw [if_pos (by decide +kernel)]; kernel_rfl) | (rw [if_neg (by decide +kernel)]; exact ⟨rfl, rfl⟩))
    (fun os started H enc _ => lifted os started H enc)
/-- The statement, proved. -/
theorem proved : Rows.SizesKnownSaid :=
  over
end sizesKnown
end Go.Proofs.Ytkhklljmoigciaa
