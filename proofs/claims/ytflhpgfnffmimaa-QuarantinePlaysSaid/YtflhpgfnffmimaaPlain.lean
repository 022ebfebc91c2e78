/-
  Regions in a list, and the granules that they paint. No condition; no program in sight.
-/



import Derived.Test.YtflhpgfnffmimaaInsert
import Derived.Test.YtflhpgfnffmimaaSearch
import Derived.Test.YtflhpgfnffmimaaAdd
set_option linter.unusedVariables false
namespace Go.Proofs.Ytflhpgfnffmimaa
open Go.ChangeShapes Go.WideShapes Go.ChangeAt Go.RowKit
def cov (l : List (Nat × Nat)) (j : Nat) : Bool := l.any fun r => decide (r.1 ≤ 16 * j) && decide (16 * j < r.1 + r.2)
structure Good (n : Nat) (l : List (Nat × Nat)) : Prop where
  al : ∀ r ∈ l, r.1 % 16 = 0 ∧ r.2 % 16 = 0 ∧ 0 < r.2 ∧ r.1 + r.2 ≤ 16 * n
  rise : Rise l
theorem good_nil (n : Nat) : Good n [] := ⟨(fun r h => by cases h), fun i j r s _ h => by simp at h⟩
theorem Good.place {n : Nat} {l : List (Nat × Nat)} (h : Good n l) : ∀ (i : Nat) (r : Nat × Nat), l[i]? = some r → 16 * i ≤ r.1
  | 0, r, hr => by omega
  | i + 1, r, hr => by
    obtain ⟨hlt, _⟩ := List.getElem?_eq_some_iff.1 hr
    obtain ⟨s, hs⟩ : ∃ s, l[i]? = some s := ⟨_, List.getElem?_eq_getElem (by omega)⟩
    have h1 := h.place i s hs
    have h2 := h.rise i (i + 1) s r (by omega) hs hr
    have h3 := (h.al s (List.mem_of_getElem? hs)).1
    have h4 := (h.al r (List.mem_of_getElem? hr)).1
    omega
theorem Good.len {n : Nat} {l : List (Nat × Nat)} (h : Good n l) : l.length ≤ n := by
  rcases Nat.eq_zero_or_pos l.length with h0 | h0
  · omega
  · obtain ⟨s, hs⟩ : ∃ s, l[l.length - 1]? = some s := ⟨_, List.getElem?_eq_getElem (by omega)⟩
    have h1 := h.place _ s hs
    have h2 := h.al s (List.mem_of_getElem? hs)
    omega
theorem insL_mem (l : List (Nat × Nat)) (k : Nat) (r x : Nat × Nat) : x ∈ insL l k r ↔ x = r ∨ x ∈ l := by
  unfold insL
  rw [List.mem_append, List.mem_cons]
  constructor
  · rintro (h | h | h)
    · exact .inr (List.mem_of_mem_take h)
    · exact .inl h
    · exact .inr (List.mem_of_mem_drop h)
  · rintro (h | h)
    · exact .inr (.inl h)
    · rw [← List.take_append_drop k l, List.mem_append] at h
      rcases h with h | h
      · exact .inl h
      · exact .inr (.inr h)
theorem cov_ins (l : List (Nat × Nat)) (k : Nat) (r : Nat × Nat) (j : Nat) : cov (insL l k r) j = (cov [r] j || cov l j) := by
  rw [Bool.eq_iff_iff]
  unfold cov
  rw [Bool.or_eq_true, List.any_eq_true, List.any_eq_true, List.any_eq_true]
  constructor
  · rintro ⟨x, hx, h⟩
    rcases (insL_mem l k r x).1 hx with rfl | hx
    · exact .inl ⟨x, by simp, h⟩
    · exact .inr ⟨x, hx, h⟩
  · rintro (⟨x, hx, h⟩ | ⟨x, hx, h⟩)
    · exact ⟨x, (insL_mem l k r x).2 (.inl (by simpa using hx)), h⟩
    · exact ⟨x, (insL_mem l k r x).2 (.inr hx), h⟩
/-- Whether one of a region's granules is painted. -/
def tch (f : Nat → Bool) (A R : Nat) : Bool := (List.range R).any fun k => f (A + k)
theorem tch_no {f : Nat → Bool} {A R : Nat} (h : tch f A R = false) : ∀ j, A ≤ j → j < A + R → f j = false := fun j h1 h2 => by
  unfold tch at h
  rw [List.any_eq_false] at h
  have := h (j - A) (List.mem_range.2 (by omega))
  rw [show A + (j - A) = j by omega] at this
  simpa using this
theorem cov_one (A R j : Nat) : cov [(16 * A, 16 * R)] j = (decide (A ≤ j) && decide (j < A + R)) := by
  unfold cov
  simp only [List.any_cons, List.any_nil, Bool.or_false]
  congr 1
  · rw [decide_eq_decide]; omega
  · rw [decide_eq_decide]; omega
theorem ins_get (l : List (Nat × Nat)) (k : Nat) (hk : k ≤ l.length) (r : Nat × Nat) (i : Nat) : (insL l k r)[i]? = if i < k then l[i]? else if i = k then some r else l[i - 1]? := by
  have htl : (l.take k).length = k := by rw [List.length_take]; omega
  unfold insL
  by_cases h1 : i < k
  · rw [if_pos h1, List.getElem?_append_left (by omega), List.getElem?_take, if_pos h1]
  · rw [if_neg h1, List.getElem?_append_right (by omega), htl]
    by_cases h2 : i = k
    · rw [if_pos h2, h2, Nat.sub_self]; rfl
    · rw [if_neg h2, show i - k = (i - 1 - k) + 1 by omega, List.getElem?_cons_succ, List.getElem?_drop]
      congr 1; omega
/-- A region that touches nothing, put in its place. -/
theorem Good.ins {n : Nat} {l : List (Nat × Nat)} (h : Good n l) (A R k : Nat) (hR : 0 < R) (hn : A + R ≤ n) (hp : Place l (16 * A) k) (ht : tch (cov l) A R = false) : Good n (insL l k (16 * A, 16 * R)) := by
  obtain ⟨hk, h1, h2⟩ := hp
  have hno := tch_no ht A (by omega) (by omega)
  have hne : ∀ j s, k ≤ j → l[j]? = some s → 16 * A < s.1 := fun j s hj hs => by
    have h3 := h2 j s hj hs
    rcases Nat.lt_or_ge (16 * A) s.1 with h4 | h4
    · exact h4
    · exfalso
      have h5 := h.al s (List.mem_of_getElem? hs)
      unfold cov at hno
      rw [List.any_eq_false] at hno
      have := hno s (List.mem_of_getElem? hs)
      simp at this
      omega
  refine ⟨fun r hr => ?_, fun i j r s hij hr hs => ?_⟩
  · rcases (insL_mem l k _ r).1 hr with rfl | hr
    · dsimp only; omega
    · exact h.al r hr
  · rw [ins_get l k hk] at hr hs
    by_cases hjk : j < k
    · rw [if_pos (by omega)] at hr
      rw [if_pos hjk] at hs
      exact h.rise i j r s hij hr hs
    · rw [if_neg hjk] at hs
      by_cases hik : i < k
      · rw [if_pos hik] at hr
        by_cases hj : j = k
        · rw [if_pos hj] at hs
          injection hs with hs
          subst hs
          exact h1 i r hik hr
        · rw [if_neg hj] at hs
          exact h.rise i (j - 1) r s (by omega) hr hs
      · rw [if_neg hik] at hr
        rw [if_neg (by omega)] at hs
        by_cases hi : i = k
        · rw [if_pos hi] at hr
          injection hr with hr
          subst hr
          exact hne (j - 1) s (by omega) hs
        · rw [if_neg hi] at hr
          exact h.rise (i - 1) (j - 1) r s (by omega) hr hs
theorem paint_ins {n : Nat} (l : List (Nat × Nat)) (A R k : Nat) (hR : 1 ≤ R) (hn : A + R ≤ n) (ht : tch (cov l) A R = false) : okC n (cov l) ((16 * A : Nat) : Int) ((16 * R : Nat) : Int) true = true ∧ newC n (cov l) ((16 * A : Nat) : Int) ((16 * R : Nat) : Int) true = cov (insL l k (16 * A, 16 * R)) := by
  have ho : okP (cov l) A R true = true := okP_yes (fun j j1 j2 => by rw [tch_no ht j j1 j2]; simp)
  obtain ⟨h1, h2⟩ := @okC_nat n (cov l) A R true hR hn
  refine ⟨by rw [h1, ho], ?_⟩
  rw [h2]
  unfold chgF
  rw [ho, if_pos rfl]
  funext j
  rw [cov_ins, cov_one]
  unfold setP
  by_cases e : A ≤ j ∧ j < A + R
  · rw [if_pos e]; simp [e.1, e.2]
  · rw [if_neg e]
    have : (decide (A ≤ j) && decide (j < A + R)) = false := by simp; omega
    rw [this, Bool.false_or]
end Go.Proofs.Ytflhpgfnffmimaa
