/-
  What Malloc, Free, Release, Live, Resting of a heap do, over its two lists. Condition: the table of math/bits is as the library lays it; sizes below 2^32.
-/



import Derived.Test.YtdbpmojblgmhdaaDoorMalloc
set_option linter.unusedVariables false
namespace Go.Proofs.YtdbpmojblgmhdaaDoor
open Go.ChangeShapes Go.WideShapes Go.ChangeAt Go.RowKit
/-! ### plain: lists by their places -/
def insS : List Rg → Rg → List Rg
  | [], r => [r]
  | x :: l, r => if r.1 < x.1 then r :: x :: l else x :: insS l r
theorem insS_perm (r : Rg) : ∀ l, (insS l r).Perm (r :: l)
  | [] => List.Perm.refl _
  | x :: l => by
    unfold insS
    split
    · exact List.Perm.refl _
    · exact ((insS_perm r l).cons x).trans (List.Perm.swap r x l)
theorem insS_mem (l : List Rg) (r x : Rg) : x ∈ insS l r ↔ x = r ∨ x ∈ l := by rw [(insS_perm r l).mem_iff, List.mem_cons]
theorem insS_sorted (r : Rg) : ∀ l : List Rg, l.Pairwise (fun a b => a.1 < b.1) → (∀ x ∈ l, x.1 ≠ r.1) → (insS l r).Pairwise (fun a b => a.1 < b.1)
  | [], _, _ => by simp [insS]
  | x :: l, h, hn => by
    obtain ⟨h1, h2⟩ := List.pairwise_cons.1 h
    unfold insS
    split
    · rename_i hlt
      exact List.pairwise_cons.2 ⟨fun y hy => by
        rcases List.mem_cons.1 hy with rfl | hy
        · exact hlt
        · have := h1 y hy; omega, h⟩
    · rename_i hlt
      have hx := hn x (by simp)
      refine List.pairwise_cons.2 ⟨fun y hy => ?_, insS_sorted r l h2 fun y hy => hn y (by simp [hy])⟩
      rcases (insS_mem l r y).1 hy with rfl | hy
      · omega
      · exact h1 y hy
theorem less_sorted {l : List Rg} (r : Rg) (h : l.Pairwise (fun a b => a.1 < b.1)) : (less l r).Pairwise (fun a b => a.1 < b.1) := h.filter _
theorem srt_len : ∀ (l : List Rg) (m : Nat), l.Pairwise (fun a b => a.1 < b.1) → (∀ x ∈ l, m ≤ x.1 ∧ x.1 < 262144) → m + l.length ≤ 262144 ∨ l = []
  | [], _, _, _ => .inr rfl
  | x :: l, m, h, hb => by
    obtain ⟨h1, h2⟩ := List.pairwise_cons.1 h
    have hx := hb x (by simp)
    rcases srt_len l (m + 1) h2 (fun y hy => ⟨by have := h1 y hy; omega, (hb y (by simp [hy])).2⟩) with h3 | h3
    · left; simp; omega
    · subst h3; left; simp; omega
/-! ### plain: where a region goes -/
def frs (A : List Rg) (c n : Nat) : Bool := (List.range 16).any (fcl A c n)
def slotP (own : Rg) (A : List Rg) (c : Nat) : Option Nat :=
  if lst (frs A c) 1024 < 1024 then some (256 * lst (frs A c) 1024 + lst (fcl A c (lst (frs A c) 1024)) 16 * sz c)
  else if findI (frP own A) 1024 1 1 = -1 then none else some (256 * (findI (frP own A) 1024 1 1).toNat)
def runP (own : Rg) (A : List Rg) (k b : Nat) : Option Nat :=
  if findI (frP own A) 1024 k b = -1 then none else some (256 * (findI (frP own A) 1024 k b).toNat)
def plcP (own : Rg) (A : List Rg) (pd al : Nat) : Option Nat := if pd ≤ 256 then slotP own A (clsV pd).toNat else runP own A (pd / 256) (al / 256)
def malP (own : Rg) (A : List Rg) (size : Nat) : Option Rg × Int :=
  if (padV (size : Int) own.2).2.2 = 0 then
    match plcP own A (padV (size : Int) own.2).1.toNat (padV (size : Int) own.2).2.1.toNat with
    | none => (none, 7)
    | some at_ => (some (at_, (padV (size : Int) own.2).1.toNat), 0)
  else (none, 6)
theorem frs_iff (A : List Rg) (c n : Nat) : frs A c n = true ↔ ∃ s, s < 16 ∧ fcl A c n s = true := by
  unfold frs; simp [List.any_eq_true]
theorem fcl_lt {A : List Rg} {c n s : Nat} (hc : c < 5) (h : fcl A c n s = true) : s < 16 := by
  have := ((fcl_iff A c n s).1 h).2.1
  have := per_bd hc
  omega
section
variable {own : Rg} {A L R : List Rg} {c : Nat}
theorem slotP_cases (h : Good own A) (hc : c < 5) :
    (∃ n s, n < 1024 ∧ s < per c ∧ tcl A c n = true ∧ fcl A c n s = true ∧ (∀ x, x < n → ∀ t, fcl A c x t = false) ∧ (∀ t, t < s → fcl A c n t = false) ∧ slotP own A c = some (256 * n + s * sz c)) ∨
    ((∀ n s, fcl A c n s = false) ∧ ∃ a : Nat, a < 1024 ∧ frP own A a = true ∧ findI (frP own A) 1024 1 1 = a ∧ (∀ j, j < a → frP own A j = false) ∧ slotP own A c = some (256 * a)) ∨
    ((∀ n s, fcl A c n s = false) ∧ findI (frP own A) 1024 1 1 = -1 ∧ (∀ j, frP own A j = false) ∧ slotP own A c = none) := by
  have hno : ∀ n, frs A c n = false → ∀ s, fcl A c n s = false := fun n hn s => by
    rw [← Bool.not_eq_true]
    intro hs
    have := (frs_iff A c n).2 ⟨s, fcl_lt hc hs, hs⟩
    rw [hn] at this; cases this
  unfold slotP
  rcases lst_cases (frs A c) 1024 with ⟨h1, h2, h3⟩ | ⟨h1, h2⟩
  · left
    rw [if_pos h1]
    generalize lst (frs A c) 1024 = n at *
    obtain ⟨s0, hs0, hf0⟩ := (frs_iff A c n).1 h2
    rcases lst_cases (fcl A c n) 16 with ⟨g1, g2, g3⟩ | ⟨g1, g2⟩
    · generalize lst (fcl A c n) 16 = s at *
      obtain ⟨q1, q2, _⟩ := (fcl_iff A c n s).1 g2
      exact ⟨n, s, h1, q2, q1, g2, fun x hx t => hno x (h3 x hx) t, g3, rfl⟩
    · rw [g2 s0 hs0] at hf0; cases hf0
  · right
    rw [if_neg (by omega)]
    have hall : ∀ n s, fcl A c n s = false := fun n s => by
      rcases Nat.lt_or_ge n 1024 with hn | hn
      · exact hno n (h2 n hn) s
      · rw [← Bool.not_eq_true]
        intro hs
        have := h.inn_bd (h.tcl_own hc ((fcl_iff A c n s).1 hs).1)
        omega
    have hg1 : ∀ j, good (frP own A) 1024 1 1 j = false → j < 1024 → frP own A j = false := fun j hj hj2 => by
      unfold good at hj
      rw [show j % 1 = 0 by omega] at hj
      simp only [decide_true, Bool.true_and, Bool.and_eq_false_iff, decide_eq_false_iff_not] at hj
      rcases hj with hj | hj
      · omega
      · rw [← Bool.not_eq_true] at hj
        rw [← Bool.not_eq_true]
        intro hf
        exact hj ((alls_iff _ j 1).2 fun i hi => by rw [show j + i = j by omega]; exact hf)
    rcases findI_range (frP own A) 1024 1 1 with h4 | ⟨a, h4, _, _, h5, _, h6, h7⟩
    · right
      rw [if_pos h4]
      refine ⟨hall, h4, fun j => ?_, rfl⟩
      rcases Nat.lt_or_ge j 1024 with hj | hj
      · exact hg1 j (findI_no _ 1024 1 1 (by omega) (by omega) h4 j) hj
      · rw [← Bool.not_eq_true]
        intro hf
        have := h.inn_bd ((frP_iff own A j).1 hf).1
        omega
    · left
      rw [if_neg (by omega), h4]
      refine ⟨hall, a, h5, ?_, rfl, fun j hj => hg1 j (h7 j hj) (by omega), by simp⟩
      unfold good at h6
      simp only [Bool.and_eq_true, decide_eq_true_eq] at h6
      have := (alls_iff _ a _).1 h6.2.2 0 (by simp)
      simpa using this
theorem runP_cases {k b : Nat} (hk : 1 ≤ k) (hb : 1 ≤ b) :
    (∃ a : Nat, findI (frP own A) 1024 k b = a ∧ a % b = 0 ∧ a + k ≤ 1024 ∧ (∀ i, i < k → frP own A (a + i) = true) ∧ (∀ j, j < a → good (frP own A) 1024 k b j = false) ∧ runP own A k b = some (256 * a)) ∨
    (findI (frP own A) 1024 k b = -1 ∧ (∀ j, good (frP own A) 1024 k b j = false) ∧ runP own A k b = none) := by
  unfold runP
  rcases findI_range (frP own A) 1024 k b with h4 | ⟨a, h4, _, _, h5, h6, h7, h8⟩
  · right
    rw [if_pos h4]
    exact ⟨h4, fun j => findI_no _ 1024 k b hk hb h4 j, rfl⟩
  · left
    rw [if_neg (by omega), h4]
    simp only [Int.toNat_natCast] at h7 h8
    have h9 := h7
    unfold good at h7
    simp only [Bool.and_eq_true, decide_eq_true_eq] at h7
    exact ⟨a, rfl, h7.1, by omega, (alls_iff _ a k).1 h7.2.2, h8, by simp⟩
/-- What padding gives. -/
theorem pad_cases (size h : Nat) (hh : h ≤ 262144) :
    padV (size : Int) h = (0, 0, 6) ∨ ∃ pd al : Nat, padV (size : Int) h = ((pd : Int), (al : Int), 0) ∧ size ≤ pd ∧ 0 < pd ∧ pd ≤ h ∧ padR (size : Int) = some ((pd : Int), (al : Int)) ∧ padR (pd : Int) = some ((pd : Int), (al : Int)) ∧
      ((∃ c, c < 5 ∧ pd = sz c ∧ al = sz c ∧ clsV (pd : Int) = c ∧ clsB (pd : Int) = true ∧ pd ≤ 256) ∨ (256 < pd ∧ ∃ k b, pd = 256 * k ∧ al = 256 * b ∧ 1 < k ∧ 1 ≤ b ∧ al < 4294967296)) := by
  rw [padV_eq]
  cases hp : padR (size : Int) with
  | none => exact .inl rfl
  | some v =>
    obtain ⟨p, a⟩ := v
    obtain ⟨g1, g2, g3, g4, g5⟩ := padR_ge _ _ _ (by omega) hp
    obtain ⟨⟨j, e1⟩, _, e3⟩ := padR_exact _ _ _ (by omega) hp
    unfold padO
    by_cases hle : p ≤ (h : Int)
    · simp only [if_pos hle]
      right
      have hpn : ((p.toNat : Nat) : Int) = p := by omega
      have han : ((a.toNat : Nat) : Int) = a := by omega
      refine ⟨p.toNat, a.toNat, by rw [hpn, han], by omega, by omega, by omega, by rw [hpn, han], by rw [hpn, han]; exact e3, ?_⟩
      rcases padR_some _ _ _ (by omega) hp with ⟨s1, s2, s3, s4⟩ | ⟨s1, s2, s3, s4, s5⟩
      · left
        rw [hpn]
        have hcl : ∃ c : Nat, c < 5 ∧ clsV (size : Int) = c := ⟨(clsV (size : Int)).toNat, by unfold clsV; omega, by unfold clsV; omega⟩
        obtain ⟨c, hc, hcs⟩ := hcl
        rw [hcs, slotV_sz hc] at s3
        have hz := sz_cases hc
        have hz2 : p.toNat = sz c := by omega
        refine ⟨c, hc, hz2, by omega, ?_, ?_, by omega⟩
        · subst s3
          rcases five hc with rfl | rfl | rfl | rfl | rfl <;> rfl
        · unfold clsB; simp; omega
      · right
        have hb := pageUp_bd (size : Int) (by omega)
        obtain ⟨⟨j1, hj1⟩, _⟩ := pad_page (pageUp (size : Int)) (by omega) (pageUp_dvd _)
        have hr := rup_bd (pageUp (size : Int)) _ (expo_le 0 (pageUp (size : Int))) (by omega)
        rw [← s3] at hj1 hr
        have ha : ∃ b : Int, a = 256 * b := by
          rw [s5]
          by_cases he : 8 ≤ expo 0 (pageUp (size : Int))
          · obtain ⟨q, hq⟩ := page_pow (2 ^ expo 0 (pageUp (size : Int))) _ he 1 (by omega)
            exact ⟨max q 1, by rw [hq]; omega⟩
          · have : (2 : Int) ^ expo 0 (pageUp (size : Int)) ≤ 2 ^ 7 := by
              rcases Nat.lt_or_ge (expo 0 (pageUp (size : Int))) 8 with h | h
              · have := pow_split (expo 0 (pageUp (size : Int))) 7 (by omega)
                have h1 := pow_pos' (7 - expo 0 (pageUp (size : Int)))
                have h2 := pow_pos' (expo 0 (pageUp (size : Int)))
                rw [this]
                have h3 := Int.mul_le_mul_of_nonneg_left (show (1 : Int) ≤ 2 ^ (7 - expo 0 (pageUp (size : Int))) by omega) (show (0 : Int) ≤ 2 ^ expo 0 (pageUp (size : Int)) by omega)
                omega
              · exact absurd h he
            exact ⟨1, by omega⟩
        obtain ⟨b, hb2⟩ := ha
        exact ⟨by omega, j1.toNat, b.toNat, by omega, by omega, by omega, by omega, by omega⟩
    · simp only [if_neg hle]
      exact .inl trivial
end
end Go.Proofs.YtdbpmojblgmhdaaDoor
