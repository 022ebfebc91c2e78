/-
  Contracts of tags at known values, and the small check 'works' of layer 2. No condition.
-/


import Derived.Test.YtgbffcbkipecnaaDoorTags
set_option linter.unusedVariables false
namespace Go.Proofs.YtgbffcbkipecnaaDoor
open Go.ChangeShapes Go.WideShapes Go.ChangeAt Go.RowKit
theorem get_is {w : World} {p g n : Nat} {f : Nat → Bool} (h : Tg w p g n f) (i : Int) (b : Bool) (hb : (inR i n && f i.toNat) = b) :
    Calls Tryd.prog 10 #[.pointer (some ⟨p, 0, none⟩), .int .i64 i] w fun r w' => r = .returned (.bool b) ∧ w = w' := by
  have := get_any w p g n f h i; rw [hb] at this; exact this
theorem count_is {w : World} {p g n : Nat} {f : Nat → Bool} (h : Tg w p g n f) (c : Nat) (hc : cnt f n = c) :
    Calls Tryd.prog 11 #[.pointer (some ⟨p, 0, none⟩)] w fun r w' => r = .returned (.int .i64 c) ∧ w = w' := by
  have := count_any w p g n f h; rw [hc] at this; exact this
theorem any_is {w : World} {p g n : Nat} {f : Nat → Bool} (h : Tg w p g n f) (a b : Int) (r : Bool) (hr : decide (0 < hit f n a b) = r) :
    Calls Tryd.prog 13 #[.pointer (some ⟨p, 0, none⟩), .int .i64 a, .int .i64 b] w fun e w' => e = .returned (.bool r) ∧ ∃ m, w' = w.drewN m := by
  have := any_any w p g n f h a b; rw [hr] at this; exact this
theorem clear_is {w : World} {p g n : Nat} {f : Nat → Bool} (h : Tg w p g n f) (a b : Int) (c : Nat) (hc : hit f n a b = c) :
    Calls Tryd.prog 9 #[.pointer (some ⟨p, 0, none⟩), .int .i64 a, .int .i64 b] w fun r w' => r = .returned (.int .i64 c) ∧ Tg w' p g n (clr f (max a 0).toNat (min b n).toNat) ∧ Fr [g] w w' := by
  have := clear_any w p g n f h a b; rw [hc] at this; exact this
def f0 : Nat → Bool := fun _ => false
def f1 : Nat → Bool := upd f0 3 true
def f2 : Nat → Bool := upd f1 70 true
def f3 : Nat → Bool := clr f2 0 70
theorem works_any (w : World) : Calls Tryd.prog 4 #[] w fun e w' => e = .returned (.bool true) ∧ Fr [] w w' := by
  go_enter Tryd.func4, Tryd.ntmps4
  go_wp2_with fail
  refine (new_any 100 _ (by omega)).mono ?_
  rintro e w1 ⟨p, g, rfl, h1, hp, hg, hf1⟩
  go_wp2_with fail
  refine (len_any _ p g 100 _ h1).mono ?_
  rintro e w' ⟨rfl, rfl⟩
  go_wp2_with fail
  refine (put_yes _ p g 100 _ h1 3 true (by omega)).mono ?_
  rintro e w2 ⟨rfl, h2, hf2⟩
  go_wp2_with fail
  refine (put_yes _ p g 100 _ h2 70 true (by omega)).mono ?_
  rintro e w3 ⟨rfl, h3, hf3⟩
  go_wp2_with fail
  refine (get_is (f := f2) h3 3 true (by decide)).mono ?_
  rintro e w' ⟨rfl, rfl⟩
  go_wp2_with fail
  refine (get_is (f := f2) h3 4 false (by decide)).mono ?_
  rintro e w' ⟨rfl, rfl⟩
  go_wp2_with fail
  refine (count_is (f := f2) h3 2 (by decide +kernel)).mono ?_
  rintro e w' ⟨rfl, rfl⟩
  go_wp2_with fail
  refine (any_is (f := f2) h3 64 71 true (by decide +kernel)).mono ?_
  rintro e w' ⟨rfl, m1, rfl⟩
  go_wp2_with fail
  refine (any_is (f := f2) (h3.drewN _) 64 70 false (by decide +kernel)).mono ?_
  rintro e w' ⟨rfl, m2, rfl⟩
  go_wp2_with fail
  refine (clear_is (f := f2) (h3.drewN _) 0 70 1 (by decide +kernel)).mono ?_
  rintro e w4 ⟨rfl, h4, hf4⟩
  go_wp2_with fail
  refine (get_is (f := f3) h4 3 false (by decide)).mono ?_
  rintro e w' ⟨rfl, rfl⟩
  go_wp2_with fail
  refine (get_is (f := f3) h4 70 true (by decide)).mono ?_
  rintro e w' ⟨rfl, rfl⟩
  go_wp2_with fail
  go_ret
  refine ⟨rfl, ?_⟩
  have q1 := hf1.trans hf2 (T := [g]) (by simp; exact hg)
  have q2 := q1.trans hf3 (T := [g]) (by simp; exact hg)
  exact q2.trans (hf4.hd rfl rfl rfl rfl) (T := [g]) (by simp; exact hg)
end Go.Proofs.YtgbffcbkipecnaaDoor
