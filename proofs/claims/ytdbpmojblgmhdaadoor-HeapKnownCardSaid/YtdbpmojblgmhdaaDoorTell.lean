/-
  Plain: the set places of a map, rising, word by word; the lowest bit of a word. No condition.
-/

import Derived.Test.YtdbpmojblgmhdaaDoorWords
import Derived.Lib.TrailingZeros
set_option linter.unusedVariables false
namespace Go.Proofs.YtdbpmojblgmhdaaDoor
open Go.ChangeShapes Go.WideShapes Go.ChangeAt Go.RowKit
/-- The set places below s, rising. -/
def told (f : Nat → Bool) (s : Nat) : List Nat := (List.range s).filter fun i => f i
theorem told_succ (f : Nat → Bool) (s : Nat) : told f (s + 1) = if f s = true then told f s ++ [s] else told f s := by
  unfold told
  rw [List.range_succ, List.filter_append]
  by_cases h : f s = true
  · simp [h]
  · simp [h]
theorem told_skip (f : Nat → Bool) (s : Nat) : ∀ d, (∀ j, j < d → f (s + j) = false) → told f (s + d) = told f s
  | 0, _ => rfl
  | d + 1, h => by
    rw [← Nat.add_assoc, told_succ, h d (by omega), if_neg (by simp)]
    exact told_skip f s d fun j hj => h j (by omega)
theorem told_next (f : Nat → Bool) (s d : Nat) (h : ∀ j, j < d → f (s + j) = false) (hd : f (s + d) = true) : told f (s + d + 1) = told f s ++ [s + d] := by
  rw [told_succ, if_pos hd, told_skip f s d h]
theorem told_mem (f : Nat → Bool) (s x : Nat) : x ∈ told f s ↔ x < s ∧ f x = true := by
  unfold told; simp [List.mem_filter]
theorem told_out (f : Nat → Bool) (n m : Nat) (h : ∀ i, n ≤ i → f i = false) (hm : n ≤ m) : told f m = told f n := by
  obtain ⟨d, rfl⟩ : ∃ d, m = n + d := ⟨m - n, by omega⟩
  exact told_skip f n d fun j _ => h _ (by omega)
theorem told_len (f : Nat → Bool) (s : Nat) : (told f s).length ≤ s := by
  unfold told; exact Nat.le_trans (List.length_filter_le _ _) (by simp)
theorem told_prefix (f : Nat → Bool) (s m : Nat) (h : s ≤ m) : told f s <+: told f m := by
  obtain ⟨d, rfl⟩ : ∃ d, m = s + d := ⟨m - s, by omega⟩
  clear h
  induction d with
  | zero => exact List.prefix_refl _
  | succ d ih =>
    rw [← Nat.add_assoc, told_succ]
    split
    · exact ih.trans (List.prefix_append _ _)
    · exact ih
/-- What is left of a map from a place on. -/
def from_ (f : Nat → Bool) (s : Nat) : Nat → Bool := fun i => f i && decide (s ≤ i)
theorem from_low (f : Nat → Bool) (k : Nat) : wrd (from_ f (64 * k)) k = wrd f k := bitsN_congr 64 fun j _ => by
  unfold from_; rw [decide_eq_true (show 64 * k ≤ 64 * k + j by omega), Bool.and_true]
theorem ctz_bit (x : Nat) (h0 : x ≠ 0) (h : x < 18446744073709551616) : Lib.ctz 64 x < 64 ∧ x.testBit (Lib.ctz 64 x) = true ∧ ∀ j, j < Lib.ctz 64 x → x.testBit j = false := by
  unfold Lib.ctz
  rw [if_neg h0]
  obtain ⟨m, h1, h2⟩ := Lib.ctzFrom_spec 64 x (by omega) h
  generalize Lib.ctzFrom 64 x = t at *
  subst h1
  refine ⟨h2, ?_, fun j hj => ?_⟩
  · rw [Nat.testBit_two_pow_mul]; simp [show (2 * m + 1) % 2 = 1 by omega]
  · rw [Nat.testBit_two_pow_mul]; simp; omega
theorem low_clear (x : Nat) (h0 : x ≠ 0) (h : x < 18446744073709551616) (j : Nat) : (x &&& (x - 1)).testBit j = (x.testBit j && decide (Lib.ctz 64 x < j)) := by
  have hb := ctz_bit x h0 h
  unfold Lib.ctz at hb ⊢
  rw [if_neg h0] at hb ⊢
  obtain ⟨m, h1, h2⟩ := Lib.ctzFrom_spec 64 x (by omega) h
  generalize Lib.ctzFrom 64 x = t at *
  have hp : 1 ≤ 2 ^ t := Nat.one_le_two_pow
  have e : x - 1 = 2 ^ t * (2 * m) + (2 ^ t - 1) := by rw [h1, Nat.mul_add]; omega
  rw [Nat.testBit_and, e, Nat.testBit_two_pow_mul_add _ (by omega)]
  by_cases hj : j < t
  · rw [hb.2.2 j hj]; rfl
  · rw [if_neg hj]
    by_cases hjt : j = t
    · subst hjt; simp
    · rw [decide_eq_true (by omega), h1, Nat.testBit_two_pow_mul]
      obtain ⟨d, rfl⟩ : ∃ d, j = t + (d + 1) := ⟨j - t - 1, by omega⟩
      rw [show t + (d + 1) - t = d + 1 by omega, Nat.testBit_succ, Nat.testBit_succ, show 2 * m / 2 = m by omega, show (2 * m + 1) / 2 = m by omega]
      simp
theorem and_low (x : Nat) (h0 : x ≠ 0) (h : x < 18446744073709551616) (a : Nat) (ha : x &&& (18446744073709551616 - x) = a) :
    IntKind.u64.wrap (bits BinOp.and IntKind.u64 (x : Int) (IntKind.u64.wrap (-(x : Int))) * 285870213051353865) / 288230376151711744 = ((a * 285870213051353865 % 18446744073709551616 / 288230376151711744 : Nat) : Int) := by
  have e1 : IntKind.u64.wrap (-(x : Int)) = ((18446744073709551616 - x : Nat) : Int) := by rw [IntKind.wrap_u64]; omega
  rw [e1, u64_and_nat x _ h (by omega), ha, IntKind.wrap_u64]
  omega
/-- The next place, out of a word's lowest bit. -/
theorem next_place (f : Nat → Bool) (k s : Nat) (hs1 : 64 * k ≤ s) (hs2 : s ≤ 64 * k + 64) (h0 : wrd (from_ f s) k ≠ 0) :
    let t := Lib.ctz 64 (wrd (from_ f s) k)
    t < 64 ∧ s ≤ 64 * k + t ∧ f (64 * k + t) = true ∧ told f (64 * k + t + 1) = told f s ++ [64 * k + t] ∧ wrd (from_ f s) k &&& (wrd (from_ f s) k - 1) = wrd (from_ f (64 * k + t + 1)) k := by
  intro t
  have hb := ctz_bit _ h0 (wrd_lt _ _)
  have ht : t = Lib.ctz 64 (wrd (from_ f s) k) := rfl
  rw [← ht] at hb
  obtain ⟨h1, h2, h3⟩ := hb
  rw [wrd_test, decide_eq_true h1, Bool.true_and] at h2
  unfold from_ at h2
  simp only [Bool.and_eq_true, decide_eq_true_eq] at h2
  have hz : ∀ i, s ≤ i → i < 64 * k + t → f i = false := fun i hi1 hi2 => by
    have := h3 (i - 64 * k) (by omega)
    rw [wrd_test, decide_eq_true (show i - 64 * k < 64 by omega), Bool.true_and] at this
    unfold from_ at this
    rw [show 64 * k + (i - 64 * k) = i by omega, decide_eq_true hi1, Bool.and_true] at this
    exact this
  refine ⟨h1, h2.2, h2.1, ?_, ?_⟩
  · have := told_next f s (64 * k + t - s) (fun j hj => hz _ (by omega) (by omega)) (by rw [show s + (64 * k + t - s) = 64 * k + t by omega]; exact h2.1)
    rw [show s + (64 * k + t - s) = 64 * k + t by omega] at this
    exact this
  · refine Nat.eq_of_testBit_eq fun j => ?_
    rw [low_clear _ h0 (wrd_lt _ _), ← ht, wrd_test, wrd_test]
    by_cases hj : j < 64
    · rw [decide_eq_true hj]
      unfold from_
      by_cases e : t < j
      · rw [decide_eq_true e, decide_eq_true (show 64 * k + t + 1 ≤ 64 * k + j by omega), decide_eq_true (show s ≤ 64 * k + j by omega)]; simp
      · rw [decide_eq_false e, decide_eq_false (show ¬ 64 * k + t + 1 ≤ 64 * k + j by omega)]; simp
    · rw [decide_eq_false hj]; simp
theorem word_done (f : Nat → Bool) (k s : Nat) (hs1 : 64 * k ≤ s) (hs2 : s ≤ 64 * k + 64) (h0 : wrd (from_ f s) k = 0) : told f (64 * (k + 1)) = told f s := by
  obtain ⟨d, hd⟩ : ∃ d, 64 * (k + 1) = s + d := ⟨64 * (k + 1) - s, by omega⟩
  rw [hd]
  refine told_skip f s d fun j hj => ?_
  have := (wrd_zero _ k).1 h0 (s + j - 64 * k) (by omega)
  unfold from_ at this
  rw [show 64 * k + (s + j - 64 * k) = s + j by omega, decide_eq_true (show s ≤ s + j by omega), Bool.and_true] at this
  exact this
end Go.Proofs.YtdbpmojblgmhdaaDoor
