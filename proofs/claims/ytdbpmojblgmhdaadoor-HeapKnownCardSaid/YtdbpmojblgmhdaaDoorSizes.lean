/-
  What the functions of sizes and their references compute. Conditions: sizes below 2^32.
-/
import Derived.Test.YtdbpmojblgmhdaaDoorBounds
namespace Go.Proofs.YtdbpmojblgmhdaaDoor
open Go.ChangeShapes Go.WideShapes Go.ChangeAt Go.RowKit
def slotV (c : Int) : Int := if c = 0 then 16 else if c = 1 then 32 else if c = 2 then 64 else if c = 3 then 128 else if c = 4 then 256 else 0
def clsV (s : Int) : Int := if s ≤ 16 then 0 else if s ≤ 32 then 1 else if s ≤ 64 then 2 else if s ≤ 128 then 3 else if s ≤ 256 then 4 else 0
def clsB (s : Int) : Bool := decide (0 < s ∧ s ≤ 256)
def pageUp (s : Int) : Int := (s + 255) / 256 * 256
def padV (s h : Int) : Int × Int × Int :=
  if s = 0 then (0, 0, 6) else
  if s ≤ 256 then (if slotV (clsV s) ≤ h then (slotV (clsV s), slotV (clsV s), 0) else (0, 0, 6)) else
  if 4294967296 ≤ pageUp s then (0, 0, 6) else
  if (padB (pageUp s)).2 = 0 ∨ h < (padB (pageUp s)).1 then (0, 0, 6) else ((padB (pageUp s)).1, max (padB (pageUp s)).2 256, 0)

theorem slot_any (c : Int) (w : World) :
    Calls Tryd.prog 25 #[.int .i64 c] w fun e w' => e = .returned (.int .u32 (slotV c)) ∧ w = w' := by
  by_cases h0 : 0 ≤ c ∧ c < 5
  · obtain ⟨h0, h1⟩ := h0
    obtain rfl | rfl | rfl | rfl | rfl : c = 0 ∨ c = 1 ∨ c = 2 ∨ c = 3 ∨ c = 4 := by omega
    all_goals
      go_enter Tryd.func25, Tryd.ntmps25
      go_wp2
      go_rounds 6
      go_ret
      exact ⟨rfl, rfl⟩
  · have hz : slotV c = 0 := by unfold slotV; omega
    rw [hz]
    have e0 : ((0:Int) == c) = false := by simp; omega
    have e1 : ((1:Int) == c) = false := by simp; omega
    have e2 : ((2:Int) == c) = false := by simp; omega
    have e3 : ((3:Int) == c) = false := by simp; omega
    have e4 : ((4:Int) == c) = false := by simp; omega
    clear hz h0
    go_enter Tryd.func25, Tryd.ntmps25
    go_wp2
    go_rounds 6
    go_ret
    exact ⟨rfl, rfl⟩
theorem cls1_zero (c : Int) (a : Addr) (w : World) (hc : w.cell? a = some (.int .u32 0)) :
    Calls Tryd.prog 49 #[.int .i64 c, .pointer (some a)] w fun e w' => e = .returned (.bool false) ∧ ∃ n, w' = w.drewN n := by
  go_enter Tryd.func49, Tryd.ntmps49
  go_wp2
  go_quiet ((go_at_call 25; exact q_same (slot_any _ _)))
  go_wp2
  go_ret
  exact ⟨rfl, _, rfl⟩
theorem cls1_any (c s : Int) (b : Bool) (a : Addr) (w : World) (hc : w.cell? a = some (.int .u32 s)) (hs : 0 < s) (hb : decide (s ≤ slotV c) = b) :
    Calls Tryd.prog 49 #[.int .i64 c, .pointer (some a)] w fun e w' => e = .returned (.bool b) ∧ ∃ n, w' = w.drewN n := by
  have H := Lib.hid hb; clear hb
  go_enter Tryd.func49, Tryd.ntmps49
  go_wp2
  go_quiet ((go_at_call 25; exact q_same (slot_any _ _)))
  go_wp2
  go_ret
  exact ⟨ret_bool H.out, _, rfl⟩
theorem cls_at (s : Int) (k : Nat) (hs : 0 < s) (hk : k < 5) (h1 : ∀ j : Nat, j < k → slotV j < s) (h2 : s ≤ slotV k) : clsV s = k ∧ clsB s = true := by
  obtain rfl | rfl | rfl | rfl | rfl : k = 0 ∨ k = 1 ∨ k = 2 ∨ k = 3 ∨ k = 4 := by omega
  all_goals
    first | (have := h1 3 (by omega); simp [slotV] at this h2; unfold clsV clsB; simp; omega) | (have := h1 2 (by omega); simp [slotV] at this h2; unfold clsV clsB; simp; omega) | (have := h1 1 (by omega); simp [slotV] at this h2; unfold clsV clsB; simp; omega) | (have := h1 0 (by omega); simp [slotV] at this h2; unfold clsV clsB; simp; omega) | (simp [slotV] at h2; unfold clsV clsB; simp; omega)
theorem cls_not (s : Int) (h : s ≤ 0 ∨ 256 < s) : clsV s = 0 ∧ clsB s = false := by
  unfold clsV clsB; simp; omega
theorem class_any (s : Int) (w : World) (h1 : 0 ≤ s) (h2 : s < 4294967296) : Calls Tryd.prog 28 #[.int .u32 s] w fun e w' => e = .returned (.tuple #[.int .i64 (clsV s), .bool (clsB s)]) ∧ Fr [] w w' := by
  go_enter Tryd.func28, Tryd.ntmps28
  go_wp2
  go_loopw [7] (fun i wr => ∃ k n : Nat, k ≤ 5 ∧ i = .int .i64 k ∧ wr = (w.alloc (.cells #[.int .u32 s] 29)).drewN n ∧ (0 < s → ∀ j : Nat, j < k → slotV j < s)) (fun i _ => 5 - (intOf i).toNat)
  case atStart => exact ⟨0, 0, by omega, rfl, rfl, fun _ j hj => by omega⟩
  case round =>
    obtain ⟨k, n, hk, rfl, rfl, hj⟩ := hrel
    have Hj := Lib.hid hj; clear hj
    have hcell : ((w.alloc (.cells #[.int .u32 s] 29)).drewN n).cell? ⟨w.heap.size, 0, none⟩ = some (.int .u32 s) := by simp
    by_cases hlt : k < 5
    · by_cases hs : 0 < s
      · cases hb : decide (s ≤ slotV k)
        · have Hb := Lib.hid hb; clear hb
          go_wp2_with (go_at_call 49; refine (cls1_any k s false _ _ hcell hs Hb.out).mono ?_; rintro e w' ⟨rfl, n, rfl⟩)
          go_roundw
          case rel =>
            refine ⟨k + 1, _, by omega, by go_num, rfl, fun _ j hj => ?_⟩
            have := Hb.out
            by_cases e : j = k
            · subst e; simpa using this
            · exact Hj.out hs j (by omega)
          case measure => simp [intOf]; omega
        · have Hb := Lib.hid hb; clear hb
          go_wp2_with (go_at_call 49; refine (cls1_any k s true _ _ hcell hs Hb.out).mono ?_; rintro e w' ⟨rfl, n, rfl⟩)
          go_ret2
          have q := cls_at s k hs hlt (Hj.out hs) (by simpa using Hb.out)
          exact ⟨by rw [q.1, q.2]; rfl, (Fr.alloc (Fr.refl _ _) _).drewN _⟩
      · obtain rfl : s = 0 := by omega
        go_wp2_with (go_at_call 49; refine (cls1_zero k _ _ hcell).mono ?_; rintro e w' ⟨rfl, n, rfl⟩)
        go_roundw
        case rel => exact ⟨k + 1, _, by omega, by go_num, rfl, fun h => by omega⟩
        case measure => simp [intOf]; omega
    · obtain rfl : k = 5 := by omega
      go_wp2
      go_ret2
      have q := cls_not s (by
        by_cases hs : 0 < s
        · have := Hj.out hs 4 (by omega); simp [slotV] at this; omega
        · omega)
      exact ⟨by rw [q.1, q.2]; rfl, (Fr.alloc (Fr.refl _ _) _).drewN _⟩
end Go.Proofs.YtdbpmojblgmhdaaDoor
