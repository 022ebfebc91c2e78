/-
  What a look at a page of an arena leaves, in plain words: which tags go, how many. No condition.
-/







import Derived.Test.YtilgklpponaoeaaBoth
import Derived.Test.YtilgklpponaoeaaScan
set_option linter.unusedVariables false
namespace Go.Proofs.Ytilgklpponaoeaa
open Go.ChangeShapes Go.WideShapes Go.ChangeAt Go.RowKit
/-- Is the capability of a tagged granule stale? -/
def sU (bs : List Nat) (hs : Int → Bool) (a : Nat) : Bool := stB hs (ofB (sub bs a 16) true)
/-- The tags behind a look at some granules. -/
def pgT (bs : List Nat) (hs : Int → Bool) (f : Nat → Bool) (l : List Nat) : Nat → Bool := fun i => f i && !(decide (16 * i ∈ l) && sU bs hs (16 * i))
def pgN (bs : List Nat) (hs : Int → Bool) (l : List Nat) : Nat := (l.filter (sU bs hs)).length
theorem pgT_nil (bs : List Nat) (hs : Int → Bool) (f : Nat → Bool) : pgT bs hs f [] = f := by
  funext i; unfold pgT; simp
/-- Granules of a list: tagged, within, each once. -/
structure Grs (N : Nat) (f : Nat → Bool) (l : List Nat) : Prop where
  nd : l.Nodup
  mod : ∀ a ∈ l, a % 16 = 0
  fit : ∀ a ∈ l, a + 16 ≤ N
  set : ∀ a ∈ l, f (a / 16) = true
theorem tagL_mem (f : Nat → Bool) (k j a : Nat) : a ∈ tagL f k j ↔ ∃ i, i < j ∧ f (k + i) = true ∧ a = (k + i) * 16 := by
  unfold tagL
  rw [List.mem_map]
  constructor
  · rintro ⟨i, hi, rfl⟩
    rw [List.mem_filter, List.mem_range] at hi
    exact ⟨i, hi.1, hi.2, rfl⟩
  · rintro ⟨i, h1, h2, rfl⟩
    exact ⟨i, List.mem_filter.2 ⟨List.mem_range.2 h1, h2⟩, rfl⟩
theorem tagL_grs (N : Nat) (f : Nat → Bool) (k j : Nat) (h : 16 * (k + j) ≤ N) : Grs N f (tagL f k j) := by
  refine ⟨?_, fun a ha => ?_, fun a ha => ?_, fun a ha => ?_⟩
  · unfold tagL
    refine List.Pairwise.map (R := fun i i' => i ≠ i') _ (fun i i' h => by omega) ?_
    exact List.Pairwise.filter _ List.nodup_range
  · obtain ⟨i, _, _, rfl⟩ := (tagL_mem f k j a).1 ha; omega
  · obtain ⟨i, _, _, rfl⟩ := (tagL_mem f k j a).1 ha; omega
  · obtain ⟨i, _, h2, rfl⟩ := (tagL_mem f k j a).1 ha
    rw [Nat.mul_div_cancel _ (by omega)]; exact h2
theorem tgP_grs (N : Nat) (f : Nat → Bool) (page : Int) : Grs N f (tgP N f page) := by
  unfold tgP
  split
  · exact tagL_grs N f _ _ (by omega)
  · exact ⟨List.nodup_nil, by simp, by simp, by simp⟩
theorem tgP_mem (N : Nat) (f : Nat → Bool) (P i : Nat) (hP : P < N / 256) : 16 * i ∈ tgP N f P ↔ i / 16 = P ∧ f i = true := by
  unfold tgP
  rw [if_pos ⟨by omega, by omega⟩, tagL_mem, Int.toNat_natCast]
  constructor
  · rintro ⟨j, h1, h2, h3⟩
    have e : i = 16 * P + j := by omega
    exact ⟨by omega, by rw [e]; exact h2⟩
  · rintro ⟨h1, h2⟩
    exact ⟨i - 16 * P, by omega, by rw [show 16 * P + (i - 16 * P) = i by omega]; exact h2, by omega⟩
section
variable {N : Nat} {f : Nat → Bool} {l : List Nat} (h : Grs N f l) (bs : List Nat) (hs : Int → Bool) (k a : Nat) (hk : l[k]? = some a)
include h hk
theorem Grs.not_before : a ∉ l.take k := fun hm => by
  obtain ⟨j, hj, he⟩ := List.getElem_of_mem hm
  rw [List.getElem_take] at he
  have hjk : j < k := by simp at hj; omega
  have hkl := (List.getElem?_eq_some_iff.1 hk)
  obtain ⟨hlt, he2⟩ := hkl
  have := (List.nodup_iff_pairwise_ne.1 h.nd)
  rw [List.pairwise_iff_getElem] at this
  exact this j k (by omega) hlt hjk (he.trans he2.symm)
theorem Grs.still : pgT bs hs f (l.take k) (a / 16) = true := by
  have hm := List.mem_of_getElem? hk
  unfold pgT
  have e : 16 * (a / 16) = a := by have := h.mod a hm; omega
  rw [e, decide_eq_false (h.not_before k a hk), h.set a hm]
  rfl
theorem Grs.taken (hs1 : sU bs hs a = true) : upd (pgT bs hs f (l.take k)) (a / 16) false = pgT bs hs f (l.take (k + 1)) := by
  have hm := List.mem_of_getElem? hk
  have e : 16 * (a / 16) = a := by have := h.mod a hm; omega
  funext i
  unfold upd
  have ht : l.take (k + 1) = l.take k ++ [a] := by rw [List.take_add_one, hk]; rfl
  by_cases hi : i = a / 16
  · subst hi
    rw [if_pos rfl]
    unfold pgT
    rw [e, hs1, ht, decide_eq_true (by simp)]
    simp
  · rw [if_neg hi]
    unfold pgT
    rw [ht]
    have : (16 * i ∈ l.take k ++ [a]) ↔ 16 * i ∈ l.take k := by
      rw [List.mem_append, List.mem_singleton]
      constructor
      · rintro (h | h)
        · exact h
        · omega
      · exact .inl
    simp only [this]
omit h in
theorem pgT_kept (hs1 : sU bs hs a = false) : pgT bs hs f (l.take k) = pgT bs hs f (l.take (k + 1)) := by
  funext i
  unfold pgT
  have ht : l.take (k + 1) = l.take k ++ [a] := by rw [List.take_add_one, hk]; rfl
  rw [ht]
  by_cases hi : 16 * i = a
  · rw [hi, hs1]; simp
  · have : (16 * i ∈ l.take k ++ [a]) ↔ 16 * i ∈ l.take k := by
      rw [List.mem_append, List.mem_singleton]
      exact ⟨fun h => h.resolve_right hi, .inl⟩
    simp only [this]
omit h in
theorem pgN_snoc : pgN bs hs (l.take (k + 1)) = pgN bs hs (l.take k) + (if sU bs hs a = true then 1 else 0) := by
  have ht : l.take (k + 1) = l.take k ++ [a] := by rw [List.take_add_one, hk]; rfl
  unfold pgN
  rw [ht, List.filter_append, List.length_append]
  by_cases hi : sU bs hs a = true
  · simp [hi]
  · simp [hi]
end
end Go.Proofs.Ytilgklpponaoeaa
