/-
  Copy of a pool; pools at known values; the small check 'works' of layer 12. No condition.
-/


import Derived.Test.YtnbdjnhdneboiaaPool
import Derived.Test.YtnbdjnhdneboiaaCopy
set_option linter.unusedVariables false
namespace Go.Proofs.Ytnbdjnhdneboiaa
open Go.ChangeShapes Go.WideShapes Go.ChangeAt Go.RowKit
theorem pcopy_nil (w : World) : Calls Try.prog 18 #[.pointer none] w fun r w' => r = .returned (.pointer none) ∧ w = w' := by
  go_enter Try.func18, Try.ntmps18
  go_wp2_with (go_at_call 21; refine (none_nil _).mono ?_; rintro e w' ⟨rfl, rfl⟩)
  go_ret
  exact ⟨rfl, rfl⟩
theorem pcopy_any (w : World) (pp p g n : Nat) (f : Nat → Bool) (h : Pl w pp p g n f) :
    Calls Try.prog 18 #[.pointer (some ⟨pp, 0, none⟩)] w fun r w' => ∃ pp' p' g', r = .returned (.pointer (some ⟨pp', 0, none⟩)) ∧ Pl w' pp' p' g' n f ∧ w.heap.size ≤ pp' ∧ w.heap.size ≤ p' ∧ w.heap.size ≤ g' ∧ Fr [] w w' := by
  have c := h.c
  have H := Lib.hid h
  have C := Lib.hid (copy_any w p g n f h.2.1)
  clear h
  go_enter Try.func18, Try.ntmps18
  go_wp2_with (first | (go_at_call 21; refine (none_any _ _ _ _ _ _ H.out).mono ?_; rintro e w' ⟨rfl, rfl⟩) | (go_at_call 30; refine (C.out).mono ?_; rintro e w2 ⟨p', g', rfl, h2, hp, hg, hf2⟩))
  go_ret
  have hs := hf2.size
  have hl := h2.lt
  exact ⟨w2.heap.size, p', g', rfl, ⟨At.new _ _ _, h2.fr (S := []) ((Fr.refl _ _).alloc _) (by simp) (by simp), by omega, by omega, H.out.2.2.2.2⟩, hs, hp, hg, hf2.alloc _⟩
theorem take_is {w : World} {pp p g n : Nat} {f : Nat → Bool} (h : Pl w pp p g n f) (run a : Nat) (al : Int) (hal : al ≤ 9223372036854775807) (hf : findI f n run al = a) (ha : a + run ≤ n) :
    Calls Try.prog 10 #[.pointer (some ⟨pp, 0, none⟩), .int .i64 run, .int .i64 al] w fun r w' => r = .returned (.tuple #[.int .i64 a, .bool true]) ∧ Pl w' pp p g n (clr f a (a + run)) ∧ Fr [g] w w' :=
  take_yes w pp p g n f h run a al hal hf ha
theorem pcount_is {w : World} {pp p g n : Nat} {f : Nat → Bool} (h : Pl w pp p g n f) (c : Nat) (hc : cnt f n = c) :
    Calls Try.prog 12 #[.pointer (some ⟨pp, 0, none⟩)] w fun r w' => r = .returned (.int .i64 c) ∧ w = w' := by
  have := pcount_any w pp p g n f h; rw [hc] at this; exact this
theorem free_is {w : World} {pp p g n : Nat} {f : Nat → Bool} (h : Pl w pp p g n f) (i : Int) (b : Bool) (hb : (inR i n && f i.toNat) = b) :
    Calls Try.prog 11 #[.pointer (some ⟨pp, 0, none⟩), .int .i64 i] w fun r w' => r = .returned (.bool b) ∧ w = w' := by
  have := free_any w pp p g n f h i; rw [hb] at this; exact this
def f0 : Nat → Bool := fun _ => false
def f1 : Nat → Bool := setr f0 1 6
def f2 : Nat → Bool := clr f1 2 4
def f3 : Nat → Bool := clr f2 4 6
theorem works_any (w : World) : Calls Try.prog 7 #[] w fun e w' => e = .returned (.bool true) ∧ Fr [] w w' := by
  go_enter Try.func7, Try.ntmps7
  go_wp2_with fail
  refine (pnew_any 8 _ (by omega)).mono ?_
  rintro e w1 ⟨pp, p, g, rfl, h1, hpp, hp, hg, hf1⟩
  go_wp2_with fail
  refine (pput_yes _ pp p g 8 _ h1 1 6 (by decide +kernel)).mono ?_
  rintro e w2 ⟨rfl, h2, hf2⟩
  go_wp2_with fail
  refine (pcount_is (f := f1) h2 6 (by decide +kernel)).mono ?_
  rintro e w' ⟨rfl, rfl⟩
  go_wp2_with fail
  refine (take_is (f := f1) h2 2 2 2 (by omega) (by decide +kernel) (by omega)).mono ?_
  rintro e w3 ⟨rfl, h3, hf3⟩
  go_wp2_with fail
  refine (take_is (f := f2) h3 2 4 1 (by omega) (by decide +kernel) (by omega)).mono ?_
  rintro e w4 ⟨rfl, h4, hf4⟩
  go_wp2_with fail
  refine (take_no _ pp p g 8 f3 h4 3 1 (by omega) (by decide +kernel)).mono ?_
  rintro e w' ⟨rfl, rfl⟩
  go_wp2_with fail
  refine (pcount_is (f := f3) h4 2 (by decide +kernel)).mono ?_
  rintro e w' ⟨rfl, rfl⟩
  go_wp2_with fail
  refine (free_is (f := f3) h4 1 true (by decide)).mono ?_
  rintro e w' ⟨rfl, rfl⟩
  go_wp2_with fail
  refine (free_is (f := f3) h4 2 false (by decide)).mono ?_
  rintro e w' ⟨rfl, rfl⟩
  go_wp2_with fail
  go_ret
  refine ⟨rfl, ?_⟩
  have q1 := hf1.trans hf2 (T := [g]) (by simp; exact hg)
  have q2 := q1.trans hf3 (T := [g]) (by simp; exact hg)
  exact q2.trans hf4 (T := [g]) (by simp; exact hg)
end Go.Proofs.Ytnbdjnhdneboiaa
