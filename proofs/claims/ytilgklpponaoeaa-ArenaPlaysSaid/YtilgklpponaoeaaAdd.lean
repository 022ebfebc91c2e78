/-
  Add and Remove of a paint, at every region; nil paints. Condition: at most 16384 granules.
-/



import Derived.Test.YtilgklpponaoeaaChange
set_option linter.unusedVariables false
namespace Go.Proofs.Ytilgklpponaoeaa
open Go.ChangeShapes Go.WideShapes Go.ChangeAt Go.RowKit
def okC (n : Nat) (f : Nat → Bool) (a s : Int) (to : Bool) : Bool := decide (a % 16 = 0 ∧ s % 16 = 0 ∧ 0 < s ∧ a + s ≤ 16 * n) && okP f (a / 16).toNat (s / 16).toNat to
def newC (n : Nat) (f : Nat → Bool) (a s : Int) (to : Bool) : Nat → Bool := if okC n f a s to = true then setP f (a / 16).toNat (s / 16).toNat to else f
theorem okC_no {n : Nat} {f : Nat → Bool} {a s : Int} {to : Bool} (h : ¬ (a % 16 = 0 ∧ s % 16 = 0 ∧ 0 < s ∧ a + s ≤ 16 * n)) : okC n f a s to = false ∧ newC n f a s to = f := by
  have e : okC n f a s to = false := by unfold okC; rw [decide_eq_false h]; rfl
  unfold newC
  rw [e]; exact ⟨rfl, if_neg (by simp)⟩
theorem okC_nat {n : Nat} {f : Nat → Bool} {A R : Nat} {to : Bool} (hR : 1 ≤ R) (hAR : A + R ≤ n) :
    okC n f (16 * A : Nat) (16 * R : Nat) to = okP f A R to ∧ newC n f (16 * A : Nat) (16 * R : Nat) to = chgF f A R to := by
  have e : okC n f (16 * A : Nat) (16 * R : Nat) to = okP f A R to := by
    unfold okC
    rw [decide_eq_true (by omega), show (((16 * A : Nat) : Int) / 16).toNat = A by omega, show (((16 * R : Nat) : Int) / 16).toNat = R by omega]; rfl
  unfold newC chgF
  rw [e, show (((16 * A : Nat) : Int) / 16).toNat = A by omega, show (((16 * R : Nat) : Int) / 16).toNat = R by omega]
  exact ⟨rfl, rfl⟩
theorem okC_cases (n : Nat) (a s : Int) (ha : 0 ≤ a) (hs : 0 ≤ s) : (¬ (a % 16 = 0 ∧ s % 16 = 0 ∧ 0 < s ∧ a + s ≤ 16 * n)) ∨ ∃ A R : Nat, a = (16 * A : Nat) ∧ s = (16 * R : Nat) ∧ 1 ≤ R ∧ A + R ≤ n := by
  by_cases h : a % 16 = 0 ∧ s % 16 = 0 ∧ 0 < s ∧ a + s ≤ 16 * n
  · exact .inr ⟨(a / 16).toNat, (s / 16).toNat, by omega, by omega, by omega, by omega⟩
  · exact .inl h
theorem ptchg_any (w : World) (pp p g n : Nat) (f : Nat → Bool) (h : Pt w pp p g n f) (a s : Int) (to : Bool) (ha : 0 ≤ a) (ha2 : a ≤ 4294967295) (hs : 0 ≤ s) (hs2 : s ≤ 4294967295) :
    Calls Try.prog 63 #[.pointer (some ⟨pp, 0, none⟩), .agg #[.int .u32 a, .int .u32 s], .bool to] w fun r w' => r = .returned (.bool (okC n f a s to)) ∧ Pt w' pp p g n (newC n f a s to) ∧ Fr [g] w w' := by
  rcases okC_cases n a s ha hs with hb | ⟨A, R, rfl, rfl, hR, hAR⟩
  · rw [(okC_no hb).1, (okC_no hb).2]
    exact (ptchg_bad w pp p g n f h a s to ha ha2 hs hs2 hb).mono fun e w' ⟨he, hf⟩ => ⟨he, h.fr hf (by simp) (by simp) (by simp), hf.more (by simp)⟩
  · rw [(okC_nat hR hAR).1, (okC_nat hR hAR).2]
    exact (ptchg_ok w pp p g n f h A R to hR hAR).mono fun e w' ⟨he, ht, hf⟩ => ⟨he, h.put hf ht, hf⟩
theorem ptadd_any (w : World) (pp p g n : Nat) (f : Nat → Bool) (h : Pt w pp p g n f) (a s : Int) (ha : 0 ≤ a) (ha2 : a ≤ 4294967295) (hs : 0 ≤ s) (hs2 : s ≤ 4294967295) :
    Calls Try.prog 25 #[.pointer (some ⟨pp, 0, none⟩), .agg #[.int .u32 a, .int .u32 s]] w fun r w' => r = .returned (.bool (okC n f a s true)) ∧ Pt w' pp p g n (newC n f a s true) ∧ Fr [g] w w' := by
  have C := Lib.hid fun (W : World) (hW : Fr [] w W) => ptchg_any W pp p g n f (h.fr hW (by simp) (by simp) (by simp)) a s true ha ha2 hs hs2
  have H := Lib.hid h.lt
  clear h
  generalize okC n f a s true = ok at *
  generalize newC n f a s true = f' at *
  go_enter Try.func25, Try.ntmps25
  go_wp2_with (go_at_call 63; refine (C.out _ (by repeat (first | exact Fr.refl _ _ | assumption | refine Fr.trans0 ?_ (by assumption) | refine Fr.drewN ?_ _ | refine Fr.alloc ?_ _ | refine Fr.drew ?_))).mono ?_; rintro e w2 ⟨rfl, h2, hf2⟩)
  go_ret
  exact ⟨rfl, h2, Fr.trans (by repeat (first | exact Fr.refl _ _ | assumption | refine Fr.trans0 ?_ (by assumption) | refine Fr.drewN ?_ _ | refine Fr.alloc ?_ _ | refine Fr.drew ?_)) hf2 (by simp)⟩
theorem ptadd_nil (w : World) (a s : Int) : Calls Try.prog 25 #[.pointer none, .agg #[.int .u32 a, .int .u32 s]] w fun r w' => r = .returned (.bool false) ∧ Fr [] w w' := by
  go_enter Try.func25, Try.ntmps25
  go_wp2_with (go_at_call 63; refine (ptchg_nil _ a s true).mono ?_; rintro e w2 ⟨rfl, hf2⟩)
  go_ret
  exact ⟨rfl, Fr.trans0 (by repeat (first | exact Fr.refl _ _ | assumption | refine Fr.trans0 ?_ (by assumption) | refine Fr.drewN ?_ _ | refine Fr.alloc ?_ _ | refine Fr.drew ?_)) hf2⟩
end Go.Proofs.Ytilgklpponaoeaa
