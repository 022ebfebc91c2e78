/-
  An arena's functions, each whatever comes: what is told, and what is kept of lengths. Condition: numbers in their types' ranges.
-/





import Derived.Test.YtilgklpponaoeaaSub
import Derived.Test.YtilgklpponaoeaaFitsCap
set_option linter.unusedVariables false
namespace Go.Proofs.Ytilgklpponaoeaa
open Go.ChangeShapes Go.WideShapes Go.ChangeAt Go.RowKit
def okE (N a : Nat) (k : Int) : Bool := widB k && decide (a + k.toNat ≤ N)
theorem okE_yes (N a k : Nat) (h : k = 1 ∨ k = 2 ∨ k = 4) : okE N a k = decide (a + k ≤ N) := by
  unfold okE widB
  rw [decide_eq_true (by omega), Bool.true_and, Int.toNat_natCast]
theorem okE_no (N a : Nat) (k : Int) (h : k ≠ 1 ∧ k ≠ 2 ∧ k ≠ 4) : okE N a k = false := by
  unfold okE widB
  rw [decide_eq_false (by omega), Bool.false_and]
theorem wid_cases (k : Int) : (∃ n : Nat, k = n ∧ (n = 1 ∨ n = 2 ∨ n = 4)) ∨ (k ≠ 1 ∧ k ≠ 2 ∧ k ≠ 4) := by
  by_cases h1 : k = 1
  · exact .inl ⟨1, h1, by omega⟩
  · by_cases h2 : k = 2
    · exact .inl ⟨2, h2, by omega⟩
    · by_cases h4 : k = 4
      · exact .inl ⟨4, h4, by omega⟩
      · exact .inr ⟨h1, h2, h4⟩
/-- The number loaded. -/
def ldN (bs : List Nat) (a : Nat) (k : Int) : Nat := if okE bs.length a k = true then unle (sub bs a k.toNat) else 0
section
variable (w : World) (ap p g bg cap : Nat) (bs : List Nat) (f : Nat → Bool) (h : Ar w ap p g bg cap bs f) (a : Nat) (ha : a < 4294967296)
include h ha
theorem aload_b (k : Int) (k1 : -9223372036854775808 ≤ k) (k2 : k ≤ 9223372036854775807) :
    Calls Try.prog 48 #[.pointer (some ⟨ap, 0, none⟩), .int .u32 a, .int .i64 k] w fun r w' => r = .returned (.tuple #[.int .u32 (ldN bs a k : Nat), .bool (okE bs.length a k)]) ∧ Fr [] w w' := by
  unfold ldN
  rcases wid_cases k with ⟨n, rfl, hn⟩ | hk
  · rw [okE_yes _ _ _ hn]
    by_cases hf : a + n ≤ bs.length
    · rw [decide_eq_true hf, if_pos rfl]
      exact aload_yes w ap p g bg cap bs f h a n ha hn hf
    · rw [decide_eq_false hf, if_neg (by simp)]
      exact (aload_no w ap p g bg cap bs f h a n ha k1 k2 (.inl (by rw [thB_nat, decide_eq_false hf]))).mono fun e w' ⟨h1, h2⟩ => ⟨h1, h2 ▸ Fr.refl _ _⟩
  · rw [okE_no _ _ _ hk, if_neg (by simp)]
    exact (aload_no w ap p g bg cap bs f h a k ha k1 k2 (.inr hk)).mono fun e w' ⟨h1, h2⟩ => ⟨h1, h2 ▸ Fr.refl _ _⟩
/-- The bytes and the tags behind a number's storing. -/
def stL (bs : List Nat) (a : Nat) (k : Int) (v : Nat) : List Nat := if widB k = true then wrL bs a (le k.toNat v) else bs
def stT (bs : List Nat) (f : Nat → Bool) (a : Nat) (k : Int) (v : Nat) : Nat → Bool := if widB k = true then wrF bs f a (le k.toNat v) else f
theorem astore_b (k : Int) (v : Nat) (hv : v < 4294967296) :
    Calls Try.prog 12 #[.pointer (some ⟨ap, 0, none⟩), .int .u32 a, .int .i64 k, .int .u32 v] w fun r w' => r = .returned (.bool (okE bs.length a k)) ∧ Ar w' ap p g bg cap (stL bs a k v) (stT bs f a k v) ∧ Fr [g, bg] w w' := by
  unfold stL stT
  rcases wid_cases k with ⟨n, rfl, hn⟩ | hk
  · have hw : widB (n : Int) = true := by unfold widB; simp; omega
    rw [okE_yes _ _ _ hn, if_pos hw, if_pos hw, Int.toNat_natCast]
    exact astore_any w ap p g bg cap bs f h a ha n v hn hv
  · have hw : ¬ widB k = true := by unfold widB; simp; omega
    rw [okE_no _ _ _ hk, if_neg hw, if_neg hw]
    exact (astore_no w _ a v k hk).mono fun e w' ⟨h1, h2⟩ => ⟨h1, h2 ▸ h, h2 ▸ Fr.refl _ _⟩
theorem aread_b (n : Int) (k1 : -9223372036854775808 ≤ n) (k2 : n ≤ 9223372036854775807) :
    Calls Try.prog 18 #[.pointer (some ⟨ap, 0, none⟩), .int .u32 a, .int .i64 n] w fun r w' => r = .returned (.tuple #[strV (if thB bs.length a n = true then sub bs a n.toNat else []), .bool (thB bs.length a n)]) ∧ w = w' := by
  by_cases ht : thB bs.length a n = true
  · rw [if_pos ht, ht]
    have h0 : 0 ≤ n := by unfold thB at ht; simp at ht; omega
    obtain ⟨m, rfl⟩ := Int.eq_ofNat_of_zero_le h0
    have hf := ht
    rw [thB_nat, decide_eq_true_eq] at hf
    exact aread_yes w ap p g bg cap bs f h a m ha hf
  · rw [if_neg ht]
    rw [Bool.not_eq_true] at ht
    rw [ht]
    exact aread_no w ap p g bg cap bs f h a n ha k1 k2 ht
def ldC (bs : List Nat) (f : Nat → Bool) (a : Nat) : Cp := if whB bs.length a = true then ofB (sub bs a 16) (f (a / 16)) else noC
theorem aloadc_b : Calls Try.prog 30 #[.pointer (some ⟨ap, 0, none⟩), .int .u32 a] w fun r w' => r = .returned (.tuple #[.agg (ldC bs f a).cells, .bool (whB bs.length a)]) ∧ Fr [] w w' := by
  unfold ldC
  by_cases hw : whB bs.length a = true
  · rw [if_pos hw, hw]
    unfold whB at hw
    simp only [Bool.and_eq_true, decide_eq_true_eq] at hw
    exact aloadc_yes w ap p g bg cap bs f h a hw.1 hw.2
  · rw [if_neg hw]
    rw [Bool.not_eq_true] at hw
    rw [hw]
    exact aloadc_no w _ a (fun W hW => awhole_no w ap p g bg cap bs f h a ha hw W hW)
def scL (bs : List Nat) (a : Nat) (c : Cp) : List Nat := if whB bs.length a = true then wrL bs a (bytesC c) else bs
def scF (bs : List Nat) (f : Nat → Bool) (a : Nat) (c : Cp) : Nat → Bool := if whB bs.length a = true then stF bs f a c else f
theorem astorec_b (c : Cp) (hc : c.Ok) : Calls Try.prog 11 #[.pointer (some ⟨ap, 0, none⟩), .int .u32 a, .agg c.cells] w fun r w' => r = .returned (.bool (whB bs.length a)) ∧ Ar w' ap p g bg cap (scL bs a c) (scF bs f a c) ∧ Fr [g, bg] w w' := by
  unfold scL scF
  by_cases hw : whB bs.length a = true
  · rw [if_pos hw, if_pos hw, hw]
    unfold whB at hw
    simp only [Bool.and_eq_true, decide_eq_true_eq] at hw
    exact astorec_yes w ap p g bg cap bs f h a hw.1 hw.2 c hc
  · rw [if_neg hw, if_neg hw]
    rw [Bool.not_eq_true] at hw
    rw [hw]
    exact (astorec_no w _ a c (fun W hW => awhole_no w ap p g bg cap bs f h a ha hw W hW)).mono fun e w' ⟨h1, h2⟩ => ⟨h1, h.fr0 h2, h2.more (by simp)⟩
end
theorem stL_len (bs : List Nat) (a : Nat) (k : Int) (v : Nat) : (stL bs a k v).length = bs.length := by unfold stL; split <;> simp [wrL_len]
theorem scL_len (bs : List Nat) (a : Nat) (c : Cp) : (scL bs a c).length = bs.length := by unfold scL; split <;> simp [wrL_len]
theorem scF_at (bs : List Nat) (f : Nat → Bool) (a : Nat) (c : Cp) (h : whB bs.length a = true) : scF bs f a c (a / 16) = (c.v && soundB c) := by
  unfold scF stF upd
  rw [if_pos h, if_pos rfl]
end Go.Proofs.Ytilgklpponaoeaa
