/-
  What a look at all pages leaves, in plain words. No condition.
-/







import Derived.Test.YtilgklpponaoeaaPagePlain
set_option linter.unusedVariables false
namespace Go.Proofs.Ytilgklpponaoeaa
open Go.ChangeShapes Go.WideShapes Go.ChangeAt Go.RowKit
section
variable (N : Nat) (bs : List Nat) (hs : Int → Bool) (f : Nat → Bool)
/-- The tags behind a look at the first j pages. -/
def clT (j : Nat) : Nat → Bool := fun i => f i && !(decide (i / 16 < j) && sU bs hs (16 * i))
/-- Is granule i's capability taken? -/
def clB (i : Nat) : Bool := f i && sU bs hs (16 * i)
def clN (n : Nat) : Nat := ((List.range n).filter (clB bs hs f)).length
theorem clT_zero : clT bs hs f 0 = f := by funext i; unfold clT; simp
theorem clT_page (j : Nat) (hj : j < N / 256) : pgT bs hs (clT bs hs f j) (tgP N (clT bs hs f j) j) = clT bs hs f (j + 1) := by
  funext i
  unfold pgT
  have hm := tgP_mem N (clT bs hs f j) j i hj
  by_cases h : i / 16 = j
  · by_cases hF : clT bs hs f j i = true
    · rw [decide_eq_true (hm.2 ⟨h, hF⟩), hF]
      unfold clT at hF ⊢
      rw [decide_eq_false (show ¬ i / 16 < j by omega)] at hF
      rw [decide_eq_true (show i / 16 < j + 1 by omega)]
      simp at hF
      rw [hF]
    · rw [Bool.not_eq_true] at hF
      rw [hF]
      unfold clT at hF ⊢
      rw [decide_eq_false (show ¬ i / 16 < j by omega)] at hF
      simp at hF
      rw [hF]; simp
  · rw [decide_eq_false (fun hx => h (hm.1 hx).1)]
    unfold clT
    by_cases h2 : i / 16 < j
    · rw [decide_eq_true h2, decide_eq_true (show i / 16 < j + 1 by omega)]; simp
    · rw [decide_eq_false h2, decide_eq_false (show ¬ i / 16 < j + 1 by omega)]; simp
theorem clN_page (j : Nat) (hj : j < N / 256) : clN bs hs f (16 * (j + 1)) = clN bs hs f (16 * j) + pgN bs hs (tgP N (clT bs hs f j) j) := by
  unfold clN pgN tgP tagL
  rw [if_pos ⟨by omega, by omega⟩, Int.toNat_natCast, show 16 * (j + 1) = 16 * j + 16 by omega, List.range_add, List.filter_append, List.length_append]
  congr 1
  rw [List.filter_map, List.length_map, List.filter_map, List.length_map, List.filter_filter]
  congr 1
  refine List.filter_congr fun i hi => ?_
  rw [List.mem_range] at hi
  unfold clB clT
  simp only [Function.comp]
  rw [decide_eq_false (show ¬ (16 * j + i) / 16 < j by omega), Bool.false_and, Bool.not_false, Bool.and_true, Nat.mul_comm (16 * j + i) 16, Bool.and_comm]
theorem clN_succ (n : Nat) : clN bs hs f (n + 1) = clN bs hs f n + (if clB bs hs f n = true then 1 else 0) := by
  unfold clN
  rw [List.range_succ, List.filter_append, List.length_append]
  congr 1
  by_cases h : clB bs hs f n = true
  · simp [h]
  · simp [h]
theorem clN_le (n : Nat) : clN bs hs f n ≤ n := by
  unfold clN; exact Nat.le_trans (List.length_filter_le _ _) (by simp)
theorem clN_mono (n m : Nat) (h : n ≤ m) : clN bs hs f n ≤ clN bs hs f m := by
  obtain ⟨d, rfl⟩ := Nat.le.dest h
  induction d with
  | zero => exact Nat.le_refl _
  | succ d ih => rw [← Nat.add_assoc, clN_succ]; have := ih (Nat.le_add_right _ _); omega
theorem stB_ofB (s : List Nat) (v : Bool) : stB hs (ofB s v) = (v && stB hs (ofB s true)) := by
  unfold stB ofB Cp.base
  dsimp only
  cases v <;> simp
/-- Behind the look at all pages: what is loaded is not stale, and what was stale lost its tag. -/
theorem loaded (i : Nat) (hi : i / 16 < 16) : stB hs (ofB (sub bs (16 * i) 16) (clT bs hs f 16 i)) = false ∧ stB hs (ofB (sub bs (16 * i) 16) (f i)) = clB bs hs f i ∧
    (clB bs hs f i = true → { ofB (sub bs (16 * i) 16) (f i) with v := false } = ofB (sub bs (16 * i) 16) (clT bs hs f 16 i)) ∧ (clB bs hs f i = false → ofB (sub bs (16 * i) 16) (f i) = ofB (sub bs (16 * i) 16) (clT bs hs f 16 i)) := by
  have h1 : clT bs hs f 16 i = (f i && !(sU bs hs (16 * i))) := by unfold clT; rw [decide_eq_true hi, Bool.true_and]
  refine ⟨?_, ?_, fun h => ?_, fun h => ?_⟩
  · rw [stB_ofB, h1]
    change ((f i && !(sU bs hs (16 * i))) && sU bs hs (16 * i)) = false
    cases f i <;> cases sU bs hs (16 * i) <;> rfl
  · rw [stB_ofB]; rfl
  · have h2 : clT bs hs f 16 i = false := by
      rw [h1]; unfold clB at h; rw [Bool.and_eq_true] at h; rw [h.2]; simp
    rw [h2]
    unfold ofB
    simp
  · have h2 : clT bs hs f 16 i = f i := by
      rw [h1]; unfold clB at h; revert h; cases f i <;> cases sU bs hs (16 * i) <;> simp
    rw [h2]
/-- Whoever looks again finds nothing. -/
theorem again (hN : N / 256 = 16) (j : Nat) (hj : j < 16) : pgN bs hs (tgP N (clT bs hs f 16) j) = 0 ∧ pgT bs hs (clT bs hs f 16) (tgP N (clT bs hs f 16) j) = clT bs hs f 16 := by
  have hg := tgP_grs N (clT bs hs f 16) j
  have key : ∀ a ∈ tgP N (clT bs hs f 16) j, sU bs hs a = false := fun a ha => by
    have h1 := hg.set a ha
    have h2 := hg.mod a ha
    have e : 16 * (a / 16) = a := by omega
    have hm := (tgP_mem N (clT bs hs f 16) j (a / 16) (by omega)).1 (by rw [e]; exact ha)
    unfold clT at h1
    rw [e, decide_eq_true (show a / 16 / 16 < 16 by omega)] at h1
    simp at h1
    exact h1.2
  constructor
  · unfold pgN
    rw [List.length_eq_zero_iff, List.filter_eq_nil_iff]
    exact fun a ha => by rw [key a ha]; simp
  · funext i
    unfold pgT
    by_cases h : 16 * i ∈ tgP N (clT bs hs f 16) j
    · rw [key _ h]; simp
    · rw [decide_eq_false h]; simp
end
end Go.Proofs.Ytilgklpponaoeaa
