/-
  What bounds.tell and bounds.Decode compute, and the same of the reference of layer 3. No condition.
-/

import Derived.Test.YtfgmcoepldekaaaBase
import Derived.Deep.RegionHeld3
import Derived.BigRegion
import Derived.StillTailTactics
import Derived.Laws.EntriesVeiled
set_option linter.unusedVariables false
namespace Go.Proofs.Ytfgmcoepldekaaa
open Go.ChangeShapes Go.WideShapes Go.ChangeAt Go.RowKit
/-- The edge, and what is told of a mantissa. -/
def edgeN (b : Nat) : Nat := (b + 3072) % 4096
def trn (x g : Nat) : Int := if x < g then 1 else 0
def hiI (e b c : Nat) : Int := ((c / 2 ^ e / 4096 : Nat) : Int) - trn (c / 2 ^ e % 4096) (edgeN b)
def ofI (hi : Int) (e b x : Nat) : Int := ((hi + trn x (edgeN b)) * 4096 + x) * 2 ^ e
theorem trn_bd (x g : Nat) : 0 ≤ trn x g ∧ trn x g ≤ 1 := by unfold trn; split <;> omega
theorem hi_bd (e b c : Nat) (hc : c < 4294967296) : -1 ≤ hiI e b c ∧ hiI e b c ≤ 1048576 := by
  have h1 := trn_bd (c / 2 ^ e % 4096) (edgeN b)
  have h2 : c / 2 ^ e ≤ c := Nat.div_le_self _ _
  unfold hiI
  generalize c / 2 ^ e = q at *
  omega
theorem pw (e : Nat) (he : e ≤ 21) : 1 ≤ 2 ^ e ∧ 2 ^ e ≤ 2097152 := ⟨Nat.one_le_two_pow, Nat.pow_le_pow_right (n := 2) (by omega) he⟩
theorem hi_lt (e b c : Nat) (hc : c < 4294967296) (he : e ≤ 21) : hiI e b c * 2 ^ e ≤ 1048576 ∧ -2097152 ≤ hiI e b c * 2 ^ e := by
  have h1 := trn_bd (c / 2 ^ e % 4096) (edgeN b)
  have hp := pw e he
  have h2 : c / 2 ^ e / 4096 * 2 ^ e ≤ 1048576 := by
    rw [Nat.div_div_eq_div_mul, Nat.mul_comm (2 ^ e) 4096, ← Nat.div_div_eq_div_mul]
    have h3 : c / 4096 / 2 ^ e * 2 ^ e ≤ c / 4096 := Nat.div_mul_le_self _ _
    omega
  unfold hiI
  rw [Int.sub_mul]
  have e1 : ((c / 2 ^ e / 4096 : Nat) : Int) * 2 ^ e = ((c / 2 ^ e / 4096 * 2 ^ e : Nat) : Int) := by simp
  rw [e1]
  have e2 : (2 : Int) ^ e = ((2 ^ e : Nat) : Int) := by simp
  rw [e2]
  generalize c / 2 ^ e / 4096 * 2 ^ e = A at *
  generalize 2 ^ e = P at *
  rcases (show trn (c / P % 4096) (edgeN b) = 0 ∨ trn (c / P % 4096) (edgeN b) = 1 by omega) with h | h <;> rw [h] <;> omega
theorem of_bd (e b c x : Nat) (hc : c < 4294967296) (he : e ≤ 21) (hx : x < 4096) : -8589934592 ≤ ofI (hiI e b c) e b x ∧ ofI (hiI e b c) e b x ≤ 21474836480 := by
  have h1 := trn_bd x (edgeN b)
  have h2 := hi_lt e b c hc he
  have hp := pw e he
  unfold ofI
  generalize hiI e b c = H at *
  have e2 : (2 : Int) ^ e = ((2 ^ e : Nat) : Int) := by simp
  rw [e2] at h2 ⊢
  generalize 2 ^ e = P at *
  have e3 : ((H + trn x (edgeN b)) * 4096 + (x : Int)) * (P : Int) = H * P * 4096 + (trn x (edgeN b) * 4096 + x) * P := by
    rw [Int.add_mul, Int.add_mul, Int.add_mul, Int.add_mul, Int.mul_assoc H 4096, Int.mul_comm 4096 (P : Int), ← Int.mul_assoc]; omega
  have h5 : (0 : Int) ≤ (trn x (edgeN b) * 4096 + x) * P := Int.mul_nonneg (by omega) (by omega)
  have h6 : (trn x (edgeN b) * 4096 + x) * (P : Int) ≤ 8191 * P := Int.mul_le_mul_of_nonneg_right (by omega) (by omega)
  rw [e3]
  omega
def mayB (e b t : Nat) : Bool := decide (e ≤ 21) && (decide (b < 4096) && decide (t < 4096))
def okB (x y : Int) : Bool := decide (0 ≤ x) && (decide (x ≤ y) && decide (y ≤ 4294967296))
theorem i64_and4095 (n : Nat) (h : n < 9223372036854775808) : bits .and .i64 (n : Int) 4095 = ((n % 4096 : Nat) : Int) := by
  show IntKind.i64.wrap ((BitVec.ofInt 64 (n : Int) &&& BitVec.ofInt 64 4095).toNat : Int) = _
  rw [BitVec.toNat_and, show (4095 : Int) = ((4095 : Nat) : Int) by rfl, ofInt_u64 n (by omega), ofInt_u64 4095 (by omega), show n &&& 4095 = n % 4096 from Nat.and_two_pow_sub_one_eq_mod n 12, IntWalk.i64_in _ (by omega)]
/-- The bounds that parts tell at a cursor. -/
def dOk (e b t c : Nat) : Bool := mayB e b t && (okB (ofI (hiI e b c) e b b) (ofI (hiI e b c) e b t) && !(ofI (hiI e b c) e b b == 4294967296))
def dBase (e b t c : Nat) : Int := if dOk e b t c = true then ofI (hiI e b c) e b b else 0
def dTop (e b t c : Nat) : Int := if dOk e b t c = true then ofI (hiI e b c) e b t else 0
end Go.Proofs.Ytfgmcoepldekaaa
