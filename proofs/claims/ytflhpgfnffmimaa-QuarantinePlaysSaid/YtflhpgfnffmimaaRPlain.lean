/-
  The reference's lists of layer 16, in plain Lean: what meets what, where a region goes. No condition.
-/



import Derived.Test.YtflhpgfnffmimaaModel
set_option linter.unusedVariables false
namespace Go.Proofs.Ytflhpgfnffmimaa
open Go.ChangeShapes Go.WideShapes Go.ChangeAt Go.RowKit
namespace ref16
def cmn (a b : Nat × Nat) : Bool := decide (max a.1 b.1 < min (a.1 + a.2) (b.1 + b.2))
def mts (l : List (Nat × Nat)) (r : Nat × Nat) : Bool := l.any fun q => cmn q r
def wth : List (Nat × Nat) → Nat × Nat → List (Nat × Nat)
  | [], r => [r]
  | q :: l, r => if r.1 < q.1 then r :: q :: l else q :: wth l r
theorem mts_tch (l : List (Nat × Nat)) (hl : ∀ q ∈ l, q.1 % 16 = 0 ∧ q.2 % 16 = 0) (A R : Nat) (hR : 0 < R) : mts l (16 * A, 16 * R) = tch (cov l) A R := by
  unfold mts tch cov cmn
  rw [Bool.eq_iff_iff, List.any_eq_true, List.any_eq_true]
  constructor
  · rintro ⟨q, hq, h⟩
    have h := of_decide_eq_true h
    obtain ⟨e1, e2⟩ := hl q hq
    dsimp only at h
    refine ⟨max (q.1 / 16) A - A, List.mem_range.2 (by omega), List.any_eq_true.2 ⟨q, hq, ?_⟩⟩
    rw [Bool.and_eq_true]
    exact ⟨decide_eq_true (by omega), decide_eq_true (by omega)⟩
  · rintro ⟨k, hk, h⟩
    rw [List.mem_range] at hk
    obtain ⟨q, hq, h⟩ := List.any_eq_true.1 h
    rw [Bool.and_eq_true] at h
    have h1 := of_decide_eq_true h.1
    have h2 := of_decide_eq_true h.2
    refine ⟨q, hq, decide_eq_true ?_⟩
    dsimp only
    omega
theorem mts_cov (l : List (Nat × Nat)) (hl : ∀ q ∈ l, q.1 % 16 = 0 ∧ q.2 % 16 = 0) (a : Nat) : mts l (a, 1) = cov l (a / 16) := by
  unfold mts cov cmn
  rw [Bool.eq_iff_iff, List.any_eq_true, List.any_eq_true]
  constructor
  · rintro ⟨q, hq, h⟩
    have h := of_decide_eq_true h
    obtain ⟨e1, e2⟩ := hl q hq
    dsimp only at h
    refine ⟨q, hq, ?_⟩
    rw [Bool.and_eq_true]
    exact ⟨decide_eq_true (by omega), decide_eq_true (by omega)⟩
  · rintro ⟨q, hq, h⟩
    obtain ⟨e1, e2⟩ := hl q hq
    rw [Bool.and_eq_true] at h
    have h1 := of_decide_eq_true h.1
    have h2 := of_decide_eq_true h.2
    refine ⟨q, hq, decide_eq_true ?_⟩
    dsimp only
    omega
theorem wth_put : ∀ (l : List (Nat × Nat)) (r : Nat × Nat), (∀ q ∈ l, q.1 ≠ r.1) → wth l r = put l r
  | [], r, _ => rfl
  | q :: l, r, h => by
    have hq := h q (by simp)
    unfold wth put pl
    by_cases e : r.1 < q.1
    · rw [if_pos e, List.takeWhile_cons_of_neg (by simp; omega)]
      rfl
    · have ih := wth_put l r fun x hx => h x (by simp [hx])
      rw [if_neg e, List.takeWhile_cons_of_pos (by simp; omega), ih]
      rfl
/-- What meets nothing begins nowhere else. -/
theorem mts_ne {l : List (Nat × Nat)} {r : Nat × Nat} (h : mts l r = false) (hr : 0 < r.2) (hl : ∀ q ∈ l, 0 < q.2) : ∀ q ∈ l, q.1 ≠ r.1 := fun q hq e => by
  unfold mts at h
  rw [List.any_eq_false] at h
  refine h q hq (decide_eq_true ?_)
  have := hl q hq
  omega
theorem wth_len : ∀ (l : List (Nat × Nat)) (r : Nat × Nat), (wth l r).length = l.length + 1
  | [], _ => rfl
  | q :: l, r => by
    unfold wth
    split
    · rfl
    · rw [List.length_cons, wth_len l r, List.length_cons]
end ref16
end Go.Proofs.Ytflhpgfnffmimaa
