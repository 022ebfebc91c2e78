/-
  Plain: the bounds of what is made of a region are the region's, wherever the cursor stands within. No program here.
-/

import Derived.Test.YtilgklpponaoeaaCaps
set_option linter.unusedVariables false
namespace Go.Proofs.Ytilgklpponaoeaa
open Go.ChangeShapes Go.WideShapes Go.ChangeAt Go.RowKit
/-- The turns of two mantissas that lie a half of the ring apart at most. -/
theorem turn_same (A M : Nat) (h1 : A ≤ M) (h2 : M ≤ A + 2048) : ((M / 4096 : Nat) : Int) - trn (M % 4096) (edgeN (A % 4096)) = ((A / 4096 : Nat) : Int) - trn (A % 4096) (edgeN (A % 4096)) := by
  have key : ∀ x g : Nat, trn x g = if x < g then 1 else 0 := fun x g => rfl
  rw [key, key]
  unfold edgeN
  by_cases hb : A % 4096 < 1024
  · have e : (A % 4096 + 3072) % 4096 = A % 4096 + 3072 := by omega
    rw [e]
    by_cases hq : M / 4096 = A / 4096
    · rw [if_pos (by omega), if_pos (by omega), hq]
    · omega
  · have e : (A % 4096 + 3072) % 4096 = A % 4096 - 1024 := by omega
    rw [e]
    by_cases hq : M / 4096 = A / 4096
    · rw [if_neg (by omega), if_neg (by omega), hq]
    · have h3 : M / 4096 = A / 4096 + 1 := by omega
      rw [if_pos (by omega), if_neg (by omega), h3]
      omega
/-- What is told of a mantissa, the turn being that of the bottom. -/
theorem of_same (e A c X : Nat) (hc1 : A ≤ c / 2 ^ e) (hc2 : c / 2 ^ e ≤ A + 2048) (h1 : A ≤ X) (h2 : X ≤ A + 2048) :
    ofI (hiI e (A % 4096) c) e (A % 4096) (X % 4096) = ((X * 2 ^ e : Nat) : Int) := by
  have k1 := turn_same A (c / 2 ^ e) hc1 hc2
  have k2 := turn_same A X h1 h2
  unfold ofI hiI
  rw [k1, ← k2]
  have : ((X / 4096 : Nat) : Int) - trn (X % 4096) (edgeN (A % 4096)) + trn (X % 4096) (edgeN (A % 4096)) = ((X / 4096 : Nat) : Int) := by omega
  rw [this, Int.natCast_mul]
  have e2 : ((2 ^ e : Nat) : Int) = (2 : Int) ^ e := by simp
  rw [e2]
  have e3 : ((X / 4096 : Nat) : Int) * 4096 + ((X % 4096 : Nat) : Int) = (X : Int) := by omega
  rw [e3]
theorem expo_goes (b t : Nat) (h : b ≤ t) (h2 : t ≤ 4294967296) : goes (b : Int) (t : Int) (expo (b : Int) (t : Int)) = true := by
  have key : ∀ n e, n + e = 21 → goes (b : Int) (t : Int) (expoF (b : Int) (t : Int) n e) = true := fun n => by
    induction n with
    | zero =>
      intro e he
      obtain rfl : e = 21 := by omega
      exact goes_last _ _ (by omega) (by omega) (by omega)
    | succ n ih =>
      intro e he
      by_cases hg : goes (b : Int) (t : Int) e = true
      · rw [expoF_yes _ _ _ _ hg (by omega)]; exact hg
      · rw [Bool.not_eq_true] at hg
        rw [expoF_no _ _ _ _ hg (by omega)]
        exact ih (e + 1) (by omega)
  exact key 21 0 rfl
/-- What is exact has both ends at multiples, and not too far apart. -/
theorem exact_parts (b t : Nat) (h : b ≤ t) (h2 : t ≤ 4294967296) (hx : exB b t = true) :
    ∃ A T : Nat, b = A * 2 ^ expo b t ∧ t = T * 2 ^ expo b t ∧ A ≤ T ∧ T ≤ A + 2048 ∧ m1 b t = A % 4096 ∧ m2 b t = T % 4096 ∧ b / 2 ^ expo b t = A ∧ t / 2 ^ expo b t = T := by
  have hg := expo_goes b t h h2
  unfold exB at hx
  simp only [Bool.and_eq_true, decide_eq_true_eq] at hx
  obtain ⟨x1, x2⟩ := hx
  rw [goes_iff, decide_eq_true_eq, rup_nat, rdn_nat] at hg
  have y1 := (rdn_eq b (expo b t)).2 x1
  have y2 := (up_eq t (expo b t)).2 x2
  unfold m1 m2
  generalize expo (b : Int) (t : Int) = e at *
  have hp : 0 < 2 ^ e := Nat.two_pow_pos e
  rw [y1, y2] at hg
  have hup : up t e = t / 2 ^ e := by
    have : up t e * 2 ^ e / 2 ^ e = t / 2 ^ e := by rw [y2]
    rw [Nat.mul_div_cancel _ hp] at this
    exact this
  rw [hup] at y2 ⊢
  refine ⟨b / 2 ^ e, t / 2 ^ e, y1.symm, y2.symm, Nat.div_le_div_right h, ?_, rfl, rfl, rfl, rfl⟩
  have e2 : (2 : Int) ^ e = ((2 ^ e : Nat) : Int) := by simp
  rw [e2] at hg
  have hg2 : t ≤ b + 2048 * 2 ^ e := by omega
  generalize b / 2 ^ e = A at *
  generalize t / 2 ^ e = T at *
  generalize 2 ^ e = P at *
  subst y1
  subst y2
  rw [← Nat.add_mul] at hg2
  exact Nat.le_of_mul_le_mul_right hg2 hp
/-- The bounds of a region that is exact, wherever the cursor stands within. -/
theorem dec_exact (b t c : Nat) (h : b ≤ t) (h2 : t ≤ 4294967296) (h3 : b < 4294967296) (hx : exB b t = true) (hc1 : b ≤ c) (hc2 : c ≤ t) :
    dBase (expo b t) (m1 b t) (m2 b t) c = b ∧ dTop (expo b t) (m1 b t) (m2 b t) c = t := by
  obtain ⟨A, T, eA, eT, h4, h5, e1, e2, e3, e4⟩ := exact_parts b t h h2 hx
  have he := expo_le (b : Int) (t : Int)
  rw [e1, e2]
  unfold dBase dTop dOk mayB
  have c1 : b / 2 ^ expo b t ≤ c / 2 ^ expo b t := Nat.div_le_div_right hc1
  have c2 : c / 2 ^ expo b t ≤ t / 2 ^ expo b t := Nat.div_le_div_right hc2
  rw [e3] at c1
  rw [e4] at c2
  generalize expo (b : Int) (t : Int) = e at *
  rw [of_same e A c A c1 (by omega) (Nat.le_refl _) (by omega), of_same e A c T c1 (by omega) h4 h5, ← eA, ← eT]
  have o1 : okB (b : Int) (t : Int) = true := by unfold okB; simp; omega
  have o2 : ((b : Int) == 4294967296) = false := by simp; omega
  rw [o1, o2, decide_eq_true he, decide_eq_true (show A % 4096 < 4096 by omega), decide_eq_true (show T % 4096 < 4096 by omega)]
  exact ⟨rfl, rfl⟩
/-- What goes without an exponent is exact. -/
theorem small_exact (b t : Nat) (h : b ≤ t) (h2 : t ≤ b + 2048) : expo (b : Int) (t : Int) = 0 ∧ exB b t = true := by
  have hg : goes (b : Int) (t : Int) 0 = true := by
    rw [goes_iff, rup_nat, rdn_nat]
    simp [up]
    omega
  have e : expo (b : Int) (t : Int) = 0 := by unfold expo; exact expoF_yes _ _ _ _ hg (by omega)
  refine ⟨e, ?_⟩
  unfold exB
  rw [e]
  simp [Nat.mod_one]
end Go.Proofs.Ytilgklpponaoeaa
