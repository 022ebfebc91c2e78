/-
  Plain facts on sets of places kept in words of 64 bits. No program here.
-/

import Derived.Test.YtdbpmojblgmhdaaDoorPop
set_option linter.unusedVariables false
namespace Go.Proofs.YtdbpmojblgmhdaaDoor
open Go.ChangeShapes Go.WideShapes Go.ChangeAt Go.RowKit
def bitsN (g : Nat → Bool) : Nat → Nat
  | 0 => 0
  | m + 1 => bitsN g m + if g m = true then 2 ^ m else 0
theorem bitsN_lt (g : Nat → Bool) : ∀ m, bitsN g m < 2 ^ m
  | 0 => by simp [bitsN]
  | m + 1 => by have := bitsN_lt g m; simp only [bitsN, Nat.pow_succ]; split <;> omega
theorem bitsN_test (g : Nat → Bool) : ∀ m j, (bitsN g m).testBit j = (decide (j < m) && g j)
  | 0, j => by simp [bitsN]
  | m + 1, j => by
    have hlt := bitsN_lt g m
    have ih := bitsN_test g m j
    simp only [bitsN]
    by_cases hg : g m = true
    · rw [if_pos hg, Nat.add_comm, show 2 ^ m + bitsN g m = 2 ^ m * 1 + bitsN g m by omega, Nat.testBit_two_pow_mul_add 1 hlt j]
      by_cases h1 : j < m
      · rw [if_pos h1, ih]; simp [h1, show j < m + 1 by omega]
      · rw [if_neg h1]
        by_cases h2 : j = m
        · subst h2; simp [hg]
        · have : ¬ j < m + 1 := by omega
          have h3 : Nat.testBit 1 (j - m) = false := Nat.testBit_lt_two_pow (Nat.one_lt_two_pow (by omega))
          simp [this, h3]
    · rw [if_neg hg, Nat.add_zero, ih]
      by_cases h2 : j = m
      · subst h2; simp at hg; simp [hg]
      · by_cases h1 : j < m
        · simp [h1, show j < m + 1 by omega]
        · simp [h1, show ¬ j < m + 1 by omega]
theorem bitsN_congr {g h : Nat → Bool} (m : Nat) (e : ∀ j, j < m → g j = h j) : bitsN g m = bitsN h m := by
  apply Nat.eq_of_testBit_eq
  intro j
  rw [bitsN_test, bitsN_test]
  by_cases hj : j < m
  · rw [e j hj]
  · simp [hj]
def wrd (f : Nat → Bool) (k : Nat) : Nat := bitsN (fun j => f (64 * k + j)) 64
theorem wrd_lt (f : Nat → Bool) (k : Nat) : wrd f k < 18446744073709551616 := bitsN_lt _ 64
theorem wrd_test (f : Nat → Bool) (k j : Nat) : (wrd f k).testBit j = (decide (j < 64) && f (64 * k + j)) := bitsN_test _ 64 j
def upd (f : Nat → Bool) (i : Nat) (b : Bool) : Nat → Bool := fun j => if j = i then b else f j
theorem wrd_other (f : Nat → Bool) (i : Nat) (b : Bool) (k : Nat) (h : k ≠ i / 64) : wrd (upd f i b) k = wrd f k :=
  bitsN_congr 64 fun j hj => by
    have hne : 64 * k + j ≠ i := by omega
    simp [upd, hne]
theorem wrd_set (f : Nat → Bool) (i : Nat) : wrd f (i / 64) ||| 2 ^ (i % 64) = wrd (upd f i true) (i / 64) := by
  apply Nat.eq_of_testBit_eq
  intro j
  rw [Nat.testBit_or, wrd_test, wrd_test, Nat.testBit_two_pow]
  unfold upd
  by_cases h : j = i % 64
  · subst h
    have : i % 64 < 64 := by omega
    simp [this, show 64 * (i / 64) + i % 64 = i by omega]
  · by_cases hj : j < 64
    · have h1 : 64 * (i / 64) + j ≠ i := by omega
      simp [h1, show ¬ i % 64 = j by omega]
    · simp [hj, show ¬ i % 64 = j by omega]
theorem test_not (x j : Nat) (hx : x < 2 ^ 64) (hj : j < 64) : (2 ^ 64 - 1 - x).testBit j = !x.testBit j := by
  rw [show 2 ^ 64 - 1 - x = 2 ^ 64 - (x + 1) by omega, Nat.testBit_two_pow_sub_succ hx]
  simp [hj]
theorem wrd_clr (f : Nat → Bool) (i : Nat) : wrd f (i / 64) &&& (18446744073709551615 - 2 ^ (i % 64)) = wrd (upd f i false) (i / 64) := by
  have hp : 2 ^ (i % 64) < 2 ^ 64 := Nat.pow_lt_pow_right (by omega) (by omega)
  apply Nat.eq_of_testBit_eq
  intro j
  rw [Nat.testBit_and, wrd_test, wrd_test]
  unfold upd
  by_cases hj : j < 64
  · rw [show (18446744073709551615 : Nat) = 2 ^ 64 - 1 by rfl, test_not _ _ hp hj, Nat.testBit_two_pow]
    by_cases h : j = i % 64
    · subst h
      simp [show 64 * (i / 64) + i % 64 = i by omega]
    · have h1 : 64 * (i / 64) + j ≠ i := by omega
      simp [h1, show ¬ i % 64 = j by omega]
  · simp [hj]
theorem wrd_get (f : Nat → Bool) (i : Nat) : ((wrd f (i / 64) / 2 ^ (i % 64)) &&& 1 == 1) = f i := by
  have h := wrd_test f (i / 64) (i % 64)
  have h2 : i % 64 < 64 := by omega
  rw [show 64 * (i / 64) + i % 64 = i by omega] at h
  simp only [h2, decide_true, Bool.true_and] at h
  rw [← h, Nat.testBit, Nat.shiftRight_eq_div_pow, Nat.and_comm 1]
  rw [show ∀ y : Nat, y &&& 1 = y % 2 from fun y => Nat.and_two_pow_sub_one_eq_mod y 1]
  rcases Nat.mod_two_eq_zero_or_one (wrd f (i / 64) / 2 ^ (i % 64)) with e | e <;> rw [e] <;> rfl
/-- The places of word k that stand between two ends. -/
def inw (a b k : Nat) : Nat := bitsN (fun j => decide (a ≤ 64 * k + j) && decide (64 * k + j < b)) 64
theorem inw_lt (a b k : Nat) : inw a b k < 18446744073709551616 := bitsN_lt _ 64
theorem inw_none (a b k : Nat) (h : b ≤ a ∨ b ≤ 64 * k ∨ 64 * k + 64 ≤ a) : inw a b k = 0 := by
  apply Nat.eq_of_testBit_eq
  intro j
  unfold inw
  rw [bitsN_test, Nat.zero_testBit]
  simp
  omega
/-- The mask as the program makes it. -/
theorem inw_mask (a b k l r : Nat) (hlr : l < r) (hr : r ≤ 64) (hl1 : l = a - 64 * k) (hr1 : r = min (b - 64 * k) 64) (hb : 64 * k ≤ b) :
    inw a b k = (2 ^ (r - l) - 1) * 2 ^ l := by
  apply Nat.eq_of_testBit_eq
  intro j
  unfold inw
  rw [bitsN_test, Nat.testBit_mul_two_pow, Nat.testBit_two_pow_sub_one]
  by_cases h1 : l ≤ j
  · by_cases h2 : j < r
    · have e1 : j < 64 := by omega
      have e2 : a ≤ 64 * k + j := by omega
      have e3 : 64 * k + j < b := by omega
      simp [e1, e2, e3, h1, show j - l < r - l by omega]
    · by_cases e1 : j < 64
      · have e3 : ¬ 64 * k + j < b := by omega
        simp [e3, show ¬ j - l < r - l by omega]
      · simp [e1, show ¬ j - l < r - l by omega]
  · have e2 : ¬ a ≤ 64 * k + j := by omega
    simp [e2, h1]
def clr (f : Nat → Bool) (a b : Nat) : Nat → Bool := fun i => f i && !(decide (a ≤ i) && decide (i < b))
def btw (f : Nat → Bool) (a b : Nat) : Nat → Bool := fun i => f i && (decide (a ≤ i) && decide (i < b))
theorem wrd_and (f : Nat → Bool) (a b k : Nat) : wrd f k &&& inw a b k = wrd (btw f a b) k := by
  apply Nat.eq_of_testBit_eq
  intro j
  unfold inw
  rw [Nat.testBit_and, bitsN_test, wrd_test, wrd_test]
  unfold btw
  by_cases hj : j < 64 <;> simp [hj]
theorem wrd_andNot (f : Nat → Bool) (a b k : Nat) : wrd f k &&& (18446744073709551615 - inw a b k) = wrd (clr f a b) k := by
  apply Nat.eq_of_testBit_eq
  intro j
  rw [Nat.testBit_and, wrd_test, wrd_test]
  by_cases hj : j < 64
  · rw [show (18446744073709551615 : Nat) = 2 ^ 64 - 1 by rfl, test_not _ _ (inw_lt a b k) hj]
    unfold inw clr
    rw [bitsN_test]
    simp [hj]
  · simp [hj]
theorem cnt_wrd (f : Nat → Bool) (k : Nat) : cnt (wrd f k).testBit 64 = cnt (fun j => f (64 * k + j)) 64 :=
  cnt_congr 64 fun i hi => by rw [wrd_test]; simp [hi]
theorem cnt_word (f : Nat → Bool) (k : Nat) : cnt f (64 * k) + cnt (wrd f k).testBit 64 = cnt f (64 * (k + 1)) := by
  rw [cnt_wrd, show 64 * (k + 1) = 64 * k + 64 by omega, cnt_add]
theorem wrd_zero (f : Nat → Bool) (k : Nat) : wrd f k = 0 ↔ ∀ j, j < 64 → f (64 * k + j) = false := by
  constructor
  · intro h j hj
    have := wrd_test f k j
    rw [h, Nat.zero_testBit] at this
    simpa [hj] using this.symm
  · intro h
    apply Nat.eq_of_testBit_eq
    intro j
    rw [wrd_test, Nat.zero_testBit]
    by_cases hj : j < 64
    · simp [hj, h j hj]
    · simp [hj]
/-- How many between two ends. -/
def cntB (f : Nat → Bool) (a b : Nat) : Nat := cnt (btw f a b) b
theorem cnt_out (g : Nat → Bool) (b m : Nat) (h : ∀ i, b ≤ i → g i = false) (hm : b ≤ m) : cnt g m = cnt g b := by
  obtain ⟨d, rfl⟩ : ∃ d, m = b + d := ⟨m - b, by omega⟩
  rw [cnt_add, cnt_zero _ d (fun i _ => h _ (by omega))]
  omega
theorem cntB_up (f : Nat → Bool) (a b m : Nat) (hm : b ≤ m) : cnt (btw f a b) m = cntB f a b :=
  cnt_out _ b m (fun i hi => by unfold btw; simp [show ¬ i < b by omega]) hm
theorem cntB_none (f : Nat → Bool) (a b : Nat) (h : b ≤ a) : cntB f a b = 0 :=
  cnt_zero _ b fun i hi => by unfold btw; simp; omega
/-- The words of a map of n places. -/
def wa (n : Nat) (f : Nat → Bool) : Array Value := ((List.range ((n + 63) / 64)).map fun k => Value.int .u64 (wrd f k)).toArray
theorem wa_size (n : Nat) (f : Nat → Bool) : (wa n f).size = (n + 63) / 64 := by simp [wa]
theorem wa_get (n : Nat) (f : Nat → Bool) (k : Nat) (h : k < (n + 63) / 64) : (wa n f)[k]? = some (.int .u64 (wrd f k)) := by
  unfold wa
  simp [List.getElem?_map, List.getElem?_range h]
theorem wa_set (n : Nat) (f g : Nat → Bool) (k : Nat) (v : Nat) (hv : v = wrd g k) (ho : ∀ j, j ≠ k → wrd g j = wrd f j) : (wa n f).setIfInBounds k (.int .u64 v) = wa n g := by
  subst hv
  refine Array.ext_getElem? fun i => ?_
  rw [Array.getElem?_setIfInBounds]
  by_cases hi : i < (n + 63) / 64
  · rw [wa_get n g i hi, wa_get n f i hi, wa_size]
    by_cases e : k = i
    · subst e; simp [hi]
    · rw [if_neg e, ho i (fun h => e h.symm)]
  · have h1 : (wa n g)[i]? = none := Array.getElem?_eq_none (by rw [wa_size]; omega)
    have h2 : (wa n f)[i]? = none := Array.getElem?_eq_none (by rw [wa_size]; omega)
    rw [h1, h2, wa_size]
    by_cases e : k = i
    · subst e; simp [hi]
    · rw [if_neg e]
theorem wa_new (n : Nat) : (wa n fun _ => false) = Array.replicate ((n + 63) / 64) (Value.int .u64 0) := by
  apply Array.ext
  · simp [wa]
  · intro i h1 h2
    simp only [wa, List.getElem_toArray, List.getElem_map, List.getElem_range, Array.getElem_replicate]
    rw [(wrd_zero (fun _ => false) i).2 fun _ _ => rfl]; rfl
end Go.Proofs.YtdbpmojblgmhdaaDoor
