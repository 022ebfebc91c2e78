/-
  Plain: a rising list of pages, where one stands or would, and what a list is once one came or went. No condition.
-/

import Derived.Test.YtggcmeoafbmckaaDoorCalls
import Derived.Test.YtggcmeoafbmckaaDoorTake
set_option linter.unusedVariables false
namespace Go.Proofs.YtggcmeoafbmckaaDoor
open Go.ChangeShapes Go.WideShapes Go.ChangeAt Go.RowKit
/-! ### the places from one on -/
def rst (f : Nat → Bool) (a d : Nat) : List Nat := ((List.range d).map fun j => a + j).filter fun i => f i
theorem told_add (f : Nat → Bool) (a d : Nat) : told f (a + d) = told f a ++ rst f a d := by
  unfold told rst
  rw [List.range_add, List.filter_append]
theorem rst_mem (f : Nat → Bool) (a d x : Nat) : x ∈ rst f a d ↔ a ≤ x ∧ x < a + d ∧ f x = true := by
  unfold rst
  simp only [List.mem_filter, List.mem_map, List.mem_range]
  constructor
  · rintro ⟨⟨j, hj, rfl⟩, h⟩
    exact ⟨by omega, by omega, h⟩
  · rintro ⟨h1, h2, h3⟩
    exact ⟨⟨x - a, by omega, by omega⟩, h3⟩
theorem rst_congr (f g : Nat → Bool) (a d : Nat) (h : ∀ i, a ≤ i → f i = g i) : rst f a d = rst g a d := by
  unfold rst
  refine List.filter_congr fun x hx => ?_
  obtain ⟨j, _, rfl⟩ := List.mem_map.1 hx
  rw [h _ (by omega)]
theorem told_congr (f g : Nat → Bool) (a : Nat) (h : ∀ i, i < a → f i = g i) : told f a = told g a := by
  unfold told
  exact List.filter_congr fun x hx => by rw [h _ (by simpa using hx)]
theorem told_at (f : Nat → Bool) (p : Nat) (h : p < 1024) : told f 1024 = told f p ++ (if f p = true then p :: rst f (p + 1) (1023 - p) else rst f (p + 1) (1023 - p)) := by
  have e : (1024 : Nat) = (p + 1) + (1023 - p) := by omega
  conv => lhs; rw [e]
  rw [told_add, told_succ]
  split
  · rw [List.append_assoc]; rfl
  · rfl
/-! ### where a page stands, or would -/
def fnd (L : List Nat) (p : Int) : Nat := (L.takeWhile fun n : Nat => decide ((n : Int) < p)).length
def fis (L : List Nat) (p : Int) : Bool := match L[fnd L p]? with | some n => decide ((n : Int) = p) | none => false
theorem takeWhile_all {α : Type} (q : α → Bool) : ∀ (l r : List α), (∀ x ∈ l, q x = true) → (l ++ r).takeWhile q = l ++ r.takeWhile q
  | [], _, _ => rfl
  | a :: l, r, h => by
    rw [List.cons_append, List.takeWhile_cons, if_pos (h a (by simp)), takeWhile_all q l r fun x hx => h x (by simp [hx])]; rfl
theorem takeWhile_none {α : Type} (q : α → Bool) (l : List α) (h : ∀ x, l[0]? = some x → q x = false) : l.takeWhile q = [] := by
  cases l with
  | nil => rfl
  | cons a l => rw [List.takeWhile_cons, if_neg (by rw [h a rfl]; simp)]
theorem fnd_is (L : List Nat) (p : Int) (k : Nat) (hk : k ≤ L.length) (h1 : ∀ j n, j < k → L[j]? = some n → (n : Int) < p) (h2 : ∀ n, L[k]? = some n → p ≤ n) : fnd L p = k := by
  unfold fnd
  have e : L = L.take k ++ L.drop k := (List.take_append_drop k L).symm
  rw [e, takeWhile_all _ _ _ (fun x hx => ?_), takeWhile_none _ _ (fun x hx => ?_), List.append_nil, List.length_take]
  · omega
  · rw [List.getElem?_drop, Nat.add_zero] at hx
    have := h2 x hx
    simp; omega
  · obtain ⟨j, hj, rfl⟩ := List.getElem_of_mem hx
    rw [List.length_take] at hj
    rw [List.getElem_take]
    simpa using h1 j _ (by omega) (List.getElem?_eq_getElem (by omega))
theorem fnd_at (T : Nat → Bool) (p : Nat) (h : p < 1024) : fnd (told T 1024) (p : Nat) = (told T p).length ∧ fis (told T 1024) (p : Nat) = T p := by
  have hs := told_at T p h
  have key : fnd (told T 1024) (p : Nat) = (told T p).length := by
    rw [hs]
    unfold fnd
    rw [takeWhile_all _ _ _ (fun x hx => ?_), takeWhile_none _ _ (fun x hx => ?_), List.append_nil]
    · split at hx
      · simp at hx; subst hx; simp
      · have := List.mem_of_getElem? hx
        rw [rst_mem] at this
        simp; omega
    · rw [told_mem] at hx
      simp; omega
  refine ⟨key, ?_⟩
  unfold fis
  rw [key, hs, List.getElem?_append_right (Nat.le_refl _), Nat.sub_self]
  cases hT : T p
  · simp only [Bool.false_eq_true, if_false]
    cases hr : (rst T (p + 1) (1023 - p))[0]? with
    | none => rfl
    | some n =>
      have := List.mem_of_getElem? hr
      rw [rst_mem] at this
      simp; omega
  · simp
theorem fis_bad (T : Nat → Bool) (p : Int) (h : p < 0 ∨ 1024 ≤ p) : fis (told T 1024) p = false := by
  unfold fis
  split
  · rename_i n hn
    have := List.mem_of_getElem? hn
    rw [told_mem] at this
    simp; omega
  · rfl
theorem fnd_le (L : List Nat) (p : Int) : fnd L p ≤ L.length := by
  unfold fnd
  exact (List.takeWhile_prefix _).length_le
/-! ### one came, one went -/
theorem told_upd (T : Nat → Bool) (p : Nat) (b : Bool) (h : p < 1024) : told (upd T p b) 1024 = told T p ++ (if b = true then p :: rst T (p + 1) (1023 - p) else rst T (p + 1) (1023 - p)) := by
  rw [told_at _ p h, told_congr (upd T p b) T p (fun i hi => by unfold upd; rw [if_neg (by omega)]), rst_congr (upd T p b) T (p + 1) _ (fun i hi => by unfold upd; rw [if_neg (by omega)])]
  rw [show upd T p b p = b from if_pos rfl]
theorem told_came (T : Nat → Bool) (p : Nat) (h : p < 1024) (hT : T p = false) : told (upd T p true) 1024 = (told T 1024).take (told T p).length ++ p :: (told T 1024).drop (told T p).length := by
  rw [told_upd T p true h, if_pos rfl, told_at T p h, if_neg (by rw [hT]; simp), List.take_left, List.drop_left]
theorem told_went (T : Nat → Bool) (p : Nat) (h : p < 1024) (hT : T p = true) : told (upd T p false) 1024 = (told T 1024).take (told T p).length ++ (told T 1024).drop ((told T p).length + 1) := by
  rw [told_upd T p false h, if_neg (by simp), told_at T p h, if_pos hT, List.take_left, ← List.drop_drop, List.drop_left]
  rfl
theorem told_nodup (T : Nat → Bool) (m : Nat) : (told T m).Nodup := by unfold told; exact List.Pairwise.filter _ List.nodup_range
/-! ### how many are free -/
def sumF (F : Nat → Nat → Bool) (per : Nat) (L : List Nat) : Nat := (L.map fun n => cnt (F n) per).sum
theorem cnt_per (f : Nat → Bool) (per : Nat) (h : per ≤ 16) (hf : ∀ s, f s = true → s < per) : cnt f 16 = cnt f per := by
  obtain ⟨d, hd⟩ : ∃ d, 16 = per + d := ⟨16 - per, by omega⟩
  rw [hd, cnt_add, cnt_zero (fun j => f (per + j)) d (fun i _ => by
    cases e : f (per + i)
    · rfl
    · have := hf _ e; omega)]
  rfl
theorem tot_sum (per : Nat) (F : Nat → Nat → Bool) (T : Nat → Bool) (h : Sound per F T) : ∀ m, tot F m = sumF F per (told T m)
  | 0 => rfl
  | m + 1 => by
    obtain ⟨h1, h2, h3, h4⟩ := h
    rw [tot, tot_sum per F T ⟨h1, h2, h3, h4⟩ m, told_succ]
    cases hT : T m
    · rw [if_neg (by simp), cnt_zero (F m) 16 (fun s _ => by
        cases e : F m s
        · rfl
        · rw [(h3 m s e).2] at hT; cases hT)]
      rfl
    · rw [if_pos rfl]
      unfold sumF
      rw [List.map_append, List.sum_append, cnt_per (F m) per h2 fun s hs => (h3 m s hs).1]
      simp
theorem sumF_le (F : Nat → Nat → Bool) (per : Nat) (hp : per ≤ 16) (L : List Nat) : sumF F per L ≤ 16 * L.length := by
  unfold sumF
  induction L with
  | nil => exact Nat.le_refl _
  | cons n L ih => rw [List.map_cons, List.sum_cons, List.length_cons]; have := cnt_le (F n) per; omega
theorem sumF_take (F : Nat → Nat → Bool) (per : Nat) (L : List Nat) (k n : Nat) (h : L[k]? = some n) : sumF F per (L.take (k + 1)) = sumF F per (L.take k) + cnt (F n) per := by
  obtain ⟨hk, he⟩ := List.getElem?_eq_some_iff.1 h
  unfold sumF
  rw [List.take_succ_eq_append_getElem hk, List.map_append, List.sum_append, he]
  simp
/-- The least free slot, where there is one. -/
theorem least_free (F : Nat → Nat → Bool) : (∀ n s, F n s = false) ∨ ∃ n s, F n s = true ∧ (∀ x, x < n → ∀ t, F x t = false) ∧ ∀ t, t < s → F n t = false := by
  by_cases h : ∃ n, ∃ s, F n s = true
  · obtain ⟨n, hn, hmin⟩ : ∃ n, (∃ s, F n s = true) ∧ ∀ x, x < n → ¬ ∃ s, F x s = true := by
      obtain ⟨n, hn⟩ := h
      induction n using Nat.strongRecOn with
      | _ n ih =>
        by_cases hx : ∃ x, x < n ∧ ∃ s, F x s = true
        · obtain ⟨x, hx, hs⟩ := hx
          exact ih x hx hs
        · exact ⟨n, hn, fun x hxn hs => hx ⟨x, hxn, hs⟩⟩
    obtain ⟨s, hs, hsm⟩ : ∃ s, F n s = true ∧ ∀ t, t < s → ¬ F n t = true := by
      obtain ⟨s, hs⟩ := hn
      induction s using Nat.strongRecOn with
      | _ s ih =>
        by_cases hx : ∃ t, t < s ∧ F n t = true
        · obtain ⟨t, ht, hft⟩ := hx
          exact ih t ht hft
        · exact ⟨s, hs, fun t ht hft => hx ⟨t, ht, hft⟩⟩
    refine .inr ⟨n, s, hs, fun x hx t => ?_, fun t ht => by simpa using hsm t ht⟩
    cases e : F x t
    · rfl
    · exact (hmin x hx ⟨t, e⟩).elim
  · refine .inl fun n s => ?_
    cases e : F n s
    · rfl
    · exact (h ⟨n, s, e⟩).elim
end Go.Proofs.YtggcmeoafbmckaaDoor
