/-
  Contracts of a paint at known answers; the small check 'works' of layer 15. No condition.
-/


import Derived.Test.YtkkbbadcickicaaAdd
set_option linter.unusedVariables false
namespace Go.Proofs.Ytkkbbadcickicaa
open Go.ChangeShapes Go.WideShapes Go.ChangeAt Go.RowKit
def R32 (a : Int) : Prop := 0 ≤ a ∧ a ≤ 4294967295
section
variable {w : World} {pp p g n : Nat} {f : Nat → Bool}
theorem ptadd_is (h : Pt w pp p g n f) (a s : Int) (b : Bool) (f' : Nat → Bool) (ha : R32 a) (hs : R32 s) (hb : okC n f a s true = b) (hf : newC n f a s true = f') :
    Calls Try.prog 8 #[.pointer (some ⟨pp, 0, none⟩), .agg #[.int .u32 a, .int .u32 s]] w fun r w' => r = .returned (.bool b) ∧ Pt w' pp p g n f' ∧ Fr [g] w w' := by
  have := ptadd_any w pp p g n f h a s ha.1 ha.2 hs.1 hs.2; rw [hb, hf] at this; exact this
theorem ptrem_is (h : Pt w pp p g n f) (a s : Int) (b : Bool) (f' : Nat → Bool) (ha : R32 a) (hs : R32 s) (hb : okC n f a s false = b) (hf : newC n f a s false = f') :
    Calls Try.prog 9 #[.pointer (some ⟨pp, 0, none⟩), .agg #[.int .u32 a, .int .u32 s]] w fun r w' => r = .returned (.bool b) ∧ Pt w' pp p g n f' ∧ Fr [g] w w' := by
  have := ptrem_any w pp p g n f h a s ha.1 ha.2 hs.1 hs.2; rw [hb, hf] at this; exact this
theorem pthas_is (h : Pt w pp p g n f) (a : Int) (b : Bool) (ha : R32 a) (hb : hasP n f a = b) :
    Calls Try.prog 10 #[.pointer (some ⟨pp, 0, none⟩), .int .u32 a] w fun r w' => r = .returned (.bool b) ∧ w = w' := by
  have := pthas_any w pp p g n f h a ha.1 ha.2; rw [hb] at this; exact this
theorem ptcount_is (h : Pt w pp p g n f) (c : Nat) (hc : cnt f n = c) :
    Calls Try.prog 11 #[.pointer (some ⟨pp, 0, none⟩)] w fun r w' => r = .returned (.int .i64 c) ∧ w = w' := by
  have := ptcount_any w pp p g n f h; rw [hc] at this; exact this
end
def z0 : Nat → Bool := fun _ => false
def z1 : Nat → Bool := newC 16 z0 32 32 true
def z2 : Nat → Bool := newC 16 z1 32 32 false
theorem works15_any (w : World) : Calls Try.prog 12 #[] w fun e w' => e = .returned (.bool true) ∧ Fr [] w w' := by
  go_enter Try.func12, Try.ntmps12
  go_wp2_with fail
  refine (ptnew_any 16 _ (by omega)).mono ?_
  rintro e w1 ⟨pp, p, g, rfl, h1, hpp, hp, hg, hf1⟩
  have hs1 := hf1.size
  have hl1 := h1.lt
  have A1 := At.new w1 28 #[.int .u32 32, .int .u32 32]
  have hfa : Fr [] w1 (w1.alloc (.cells #[.int .u32 32, .int .u32 32] 28)) := (by repeat (first | exact Fr.refl _ _ | assumption | refine Fr.trans0 ?_ (by assumption) | refine Fr.drewN ?_ _ | refine Fr.alloc ?_ _ | refine Fr.drew ?_))
  have H2 := h1.fr hfa (by simp) (by simp) (by simp)
  go_wp2_with fail
  refine (ptadd_is H2 32 32 true z1 ⟨by omega, by omega⟩ ⟨by omega, by omega⟩ (by decide +kernel) rfl).mono ?_
  rintro e w3 ⟨rfl, h3, hf3⟩
  have A3 := A1.fr hf3 (by simp; omega)
  go_wp2_with fail
  refine (pthas_is h3 63 true ⟨by omega, by omega⟩ (by decide +kernel)).mono ?_
  rintro e w' ⟨rfl, rfl⟩
  go_wp2_with fail
  refine (pthas_is h3 64 false ⟨by omega, by omega⟩ (by decide +kernel)).mono ?_
  rintro e w' ⟨rfl, rfl⟩
  go_wp2_with fail
  refine (ptcount_is h3 2 (by decide +kernel)).mono ?_
  rintro e w' ⟨rfl, rfl⟩
  have c0 := A3.cell 0
  have c1 := A3.cell 1
  simp only [List.getElem?_toArray, List.getElem?_cons_zero, List.getElem?_cons_succ] at c0 c1
  go_wp2_with fail
  refine (ptrem_is h3 32 32 true z2 ⟨by omega, by omega⟩ ⟨by omega, by omega⟩ (by decide +kernel) rfl).mono ?_
  rintro e w4 ⟨rfl, h4, hf4⟩
  go_wp2_with fail
  refine (ptcount_is h4 0 (by decide +kernel)).mono ?_
  rintro e w' ⟨rfl, rfl⟩
  go_wp2_with fail
  go_ret
  refine ⟨rfl, ?_⟩
  exact ((hf1.trans0 hfa).trans hf3 (by simp; omega)).trans hf4 (by simp; omega)
end Go.Proofs.Ytkkbbadcickicaa
