/-
  Contracts of barrier at known values, and the small check 'works' of layer 18. Condition: the table of math/bits is as the library lays it.
-/



import Derived.Test.YtechmgnoaillmaaDoorGens
set_option linter.unusedVariables false
namespace Go.Proofs.YtechmgnoaillmaaDoor
open Go.ChangeShapes Go.WideShapes Go.ChangeAt Go.RowKit
theorem gold_is {w : World} {gp p g n : Nat} {f : Nat → Bool} {ep : Int} (h : Gn w gp p g n f ep) (i : Int) (b : Bool) (hb : (inR i n && f i.toNat) = b) :
    Calls Tryd.prog 13 #[.pointer (some ⟨gp, 0, none⟩), .int .i64 i] w fun r w' => r = .returned (.bool b) ∧ w = w' := by
  have := gold_any w gp p g n f ep h i; rw [hb] at this; exact this
theorem gleft_is {w : World} {gp p g n : Nat} {f : Nat → Bool} {ep : Int} (h : Gn w gp p g n f ep) (c : Nat) (hc : cnt f n = c) :
    Calls Tryd.prog 10 #[.pointer (some ⟨gp, 0, none⟩)] w fun r w' => r = .returned (.int .i64 c) ∧ w = w' := by
  have := gleft_any w gp p g n f ep h; rw [hc] at this; exact this
theorem gnext_is {w : World} {gp p g n : Nat} {f : Nat → Bool} {ep : Int} (h : Gn w gp p g n f ep) (hT : Tab w) (x : Nat) (b : Bool) (hx : nxtP f n = x) (hb : nxtB f n = b) :
    Calls Tryd.prog 12 #[.pointer (some ⟨gp, 0, none⟩)] w fun r w' => r = .returned (.tuple #[.int .i64 x, .bool b]) ∧ Fr [] w w' := by
  have := gnext_any w gp p g n f ep h hT; rw [hx, hb] at this; exact this
def z0 : Nat → Bool := fun _ => false
def z1 : Nat → Bool := fstF 3
def z2 : Nat → Bool := upd z1 0 false
theorem works_any (w : World) (hT : Tab w) : Calls Tryd.prog 7 #[] w fun e w' => e = .returned (.bool true) ∧ Fr [] w w' := by
  go_enter Tryd.func7, Tryd.ntmps7
  go_wp2_with fail
  refine (gnew_any 3 _ (by omega)).mono ?_
  rintro e w1 ⟨gp, p, g, rfl, h1, hgp, hp, hg, hf1⟩
  go_wp2_with fail
  refine (gleft_is (f := z0) h1 0 (by decide)).mono ?_
  rintro e w' ⟨rfl, rfl⟩
  go_wp2_with fail
  refine (gold_is (f := z0) h1 0 false (by decide)).mono ?_
  rintro e w' ⟨rfl, rfl⟩
  go_wp2_with fail
  refine (gstart_no _ gp p g 3 z0 0 h1 0 (.inl (by decide))).mono ?_
  rintro e w' ⟨rfl, rfl⟩
  go_wp2_with fail
  refine (gstart_yes _ gp p g 3 z0 0 h1 5 (by decide) (by decide)).mono ?_
  rintro e w2 ⟨rfl, h2, hf2⟩
  go_wp2_with fail
  refine (gleft_is (f := z1) h2 3 (by decide)).mono ?_
  rintro e w' ⟨rfl, rfl⟩
  have q2 := hf1.trans hf2 (by simp; exact ⟨hgp, hg⟩)
  go_wp2_with fail
  refine (gnext_is (f := z1) h2 (hT.fr q2 (by simp)) 0 true (by decide) (by decide)).mono ?_
  rintro e w3 ⟨rfl, hf3⟩
  have h3 := h2.fr hf3 (by simp) (by simp) (by simp)
  have q3 := q2.trans0 hf3
  go_wp2_with fail
  refine (gmark_yes _ gp p g 3 z1 5 h3 0 (by decide) (by decide)).mono ?_
  rintro e w4 ⟨rfl, h4, hf4⟩
  have q4 := q3.trans hf4 (by simp; exact hg)
  go_wp2_with fail
  refine (gmark_no _ gp p g 3 z2 5 h4 0 (by decide)).mono ?_
  rintro e w' ⟨rfl, rfl⟩
  go_wp2_with fail
  refine (gold_is (f := z2) h4 0 false (by decide)).mono ?_
  rintro e w' ⟨rfl, rfl⟩
  go_wp2_with fail
  refine (gold_is (f := z2) h4 1 true (by decide)).mono ?_
  rintro e w' ⟨rfl, rfl⟩
  go_wp2_with fail
  refine (gstart_no _ gp p g 3 z2 5 h4 6 (.inr (by decide))).mono ?_
  rintro e w' ⟨rfl, rfl⟩
  go_wp2_with fail
  go_ret
  exact ⟨rfl, q4⟩
end Go.Proofs.YtechmgnoaillmaaDoor
