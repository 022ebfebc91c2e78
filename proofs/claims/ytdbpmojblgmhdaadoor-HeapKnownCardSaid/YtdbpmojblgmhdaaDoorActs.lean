/-
  What Add, Put, Drop, Whole, Free of a book do. Conditions: numbers in their types' ranges.
-/


import Derived.Test.YtdbpmojblgmhdaaDoorBook
import Derived.Deep.RegionHeld3
import Derived.Deep.DeepCutAuto
set_option linter.unusedVariables false
namespace Go.Proofs.YtdbpmojblgmhdaaDoor
open Go.ChangeShapes Go.WideShapes Go.ChangeAt Go.RowKit
/-! ### plain: words of 16 slots -/
def ful (per : Nat) : Nat → Bool := fun s => decide (s < per)
theorem ful_word (per : Nat) (h : per ≤ 16) : 2 ^ per - 1 = bitsN (ful per) 16 := by
  apply Nat.eq_of_testBit_eq
  intro j
  rw [bitsN_test, Nat.testBit_two_pow_sub_one]
  unfold ful
  by_cases hj : j < per
  · simp [hj, show j < 16 by omega]
  · simp [hj]
theorem bits_upd (g : Nat → Bool) (s : Nat) (h : s < 16) : bitsN g 16 ||| 2 ^ s = bitsN (upd g s true) 16 := by
  apply Nat.eq_of_testBit_eq
  intro j
  rw [Nat.testBit_or, bitsN_test, bitsN_test, Nat.testBit_two_pow]
  unfold upd
  by_cases e : j = s
  · subst e; simp [h]
  · simp [e, show ¬ s = j from fun h => e h.symm]
theorem bits_clr (g : Nat → Bool) (s : Nat) (h : s < 16) : bitsN g 16 &&& (4294967295 - 2 ^ s) = bitsN (upd g s false) 16 := by
  have hp : 2 ^ s < 2 ^ 32 := Nat.pow_lt_pow_right (by omega) (by omega)
  apply Nat.eq_of_testBit_eq
  intro j
  rw [Nat.testBit_and, bitsN_test, bitsN_test]
  unfold upd
  by_cases hj : j < 16
  · rw [show (4294967295 : Nat) - 2 ^ s = 2 ^ 32 - (2 ^ s + 1) by omega, Nat.testBit_two_pow_sub_succ hp, Nat.testBit_two_pow]
    by_cases e : j = s
    · subst e; simp
    · simp [e, show ¬ s = j from fun h => e h.symm, show j < 32 by omega]
  · simp [hj]
theorem bits_get (g : Nat → Bool) (s : Nat) (h : s < 16) : (bitsN g 16 / 2 ^ s) &&& 1 = if g s = true then 1 else 0 := by
  have h1 := bitsN_test g 16 s
  simp only [h, decide_true, Bool.true_and] at h1
  rw [← h1, Nat.testBit, Nat.shiftRight_eq_div_pow, Nat.and_comm 1]
  rw [show ∀ y : Nat, y &&& 1 = y % 2 from fun y => Nat.and_two_pow_sub_one_eq_mod y 1]
  rcases Nat.mod_two_eq_zero_or_one (bitsN g 16 / 2 ^ s) with e | e <;> rw [e] <;> rfl
/-! ### the closures -/
theorem shl_u32 : ∀ s : Fin 16, (2 : Int) ^ s.val % 4294967296 = ((2 ^ s.val : Nat) : Int) := by decide +kernel
section
variable {w : World} {bp per n q : Nat} {F : Nat → Nat → Bool} {T : Nat → Bool} {r0 : Int}
theorem badd1_do (hq : At w q 50 #[.pointer (some ⟨bp, 0, none⟩)]) (hne : q ≠ bp) (hp : per ≤ 16) (hn : n < 1024) :
    Doing 70 #[.pointer (some ⟨q, 0, none⟩)] bp per n F (upp F n (ful per)) T (upd T n true) r0 w := fun W h hf => by
  have c := (hq.fr hf (by simp; exact hne)).cell 0
  simp only [List.getElem?_toArray, List.getElem?_cons_zero] at c
  have H := Lib.hid h
  have f1 := h.froz (1 + n * 2)
  have f2 := h.froz (1 + n * 2 + 1)
  have C := Lib.hid (ball_any h hp)
  have c1 := h.cw n hn
  have c2 := h.ct n hn
  have HF := Lib.hid (ful_word per hp)
  obtain ⟨x, hx⟩ : ∃ x, 2 ^ per - 1 = x := ⟨_, rfl⟩
  rw [hx] at HF C
  clear h hf hq hx
  go_enter Tryd.func70, Tryd.ntmps70
  go_wp2_with (go_at_call 71; refine (C.out).mono ?_; rintro e w' ⟨rfl, rfl⟩)
  go_end0
  refine ⟨⟨_, rfl⟩, ?_, ((Fr.refl _ _).set (.inl (by simp)) _).set (.inl (by simp)) _⟩
  have := (At.set H.out (1 + n * 2) (.int .u32 x)).set (1 + n * 2 + 1) (.bool true)
  rw [ba_setword _ _ _ _ n x (ful per) hn HF.out, ba_setthere _ _ _ _ n true hn] at this
  exact this
theorem bput1_do (s : Nat) (hs : s < 16) (hq : At w q 3 #[.int .i64 s]) (hne : q ≠ bp) (hn : n < 1024) :
    Doing 56 #[.pointer (some ⟨q, 0, none⟩)] bp per n F (upp F n (upd (F n) s true)) T T r0 w := fun W h hf => by
  have c := (hq.fr hf (by simp; exact hne)).cell 0
  simp only [List.getElem?_toArray, List.getElem?_cons_zero] at c
  have H := Lib.hid h
  have f1 := h.froz (1 + n * 2)
  have c1 := h.cw n hn
  have HF := Lib.hid (bits_upd (F n) s hs)
  have hsh := shl_u32 ⟨s, hs⟩
  have hlt := wd_lt F n
  have hp : 2 ^ s < 65536 := Nat.pow_lt_pow_right (n := 16) (by omega) hs
  have hor := u32_or_nat (wd F n) (2 ^ s) (by omega) (by omega)
  simp only at hsh
  rw [← hsh] at hor
  change Hid (wd F n ||| 2 ^ s = _) at HF
  generalize wd F n ||| 2 ^ s = V at *
  generalize wd F n = x at *
  clear h hf hq hlt hp hsh
  go_enter Tryd.func56, Tryd.ntmps56
  go_region
  all_goals
    go_end0
    refine ⟨⟨_, rfl⟩, ?_, ((Fr.refl _ _).drew.set (.inl (by simp)) _)⟩
    have := (At.set H.out (1 + n * 2) (.int .u32 V))
    rw [ba_setword _ _ _ _ n V _ hn HF.out] at this
    exact this
theorem btake1_do (s : Nat) (hs : s < 16) (hq : At w q 3 #[.int .i64 s]) (hne : q ≠ bp) (hn : n < 1024) :
    Doing 74 #[.pointer (some ⟨q, 0, none⟩)] bp per n F (upp F n (upd (F n) s false)) T T r0 w := fun W h hf => by
  have c := (hq.fr hf (by simp; exact hne)).cell 0
  simp only [List.getElem?_toArray, List.getElem?_cons_zero] at c
  have H := Lib.hid h
  have f1 := h.froz (1 + n * 2)
  have c1 := h.cw n hn
  have HF := Lib.hid (bits_clr (F n) s hs)
  have hsh := shl_u32 ⟨s, hs⟩
  have hlt := wd_lt F n
  have hp : 2 ^ s < 65536 := Nat.pow_lt_pow_right (n := 16) (by omega) hs
  have hor := u32_andNot_nat (wd F n) (2 ^ s) (by omega) (by omega)
  simp only at hsh
  rw [← hsh] at hor
  change Hid (wd F n &&& (4294967295 - 2 ^ s) = _) at HF
  generalize wd F n &&& (4294967295 - 2 ^ s) = V at *
  generalize wd F n = x at *
  clear h hf hq hlt hp hsh
  go_enter Tryd.func74, Tryd.ntmps74
  go_region
  all_goals
    go_end0
    refine ⟨⟨_, rfl⟩, ?_, ((Fr.refl _ _).drew.set (.inl (by simp)) _)⟩
    have := (At.set H.out (1 + n * 2) (.int .u32 V))
    rw [ba_setword _ _ _ _ n V _ hn HF.out] at this
    exact this
theorem bdrop1_do (hn : n < 1024) :
    Doing 58 #[] bp per n F (upp F n (fun _ => false)) T (upd T n false) r0 w := fun W h hf => by
  have H := Lib.hid h
  have f1 := h.froz (1 + n * 2)
  have f2 := h.froz (1 + n * 2 + 1)
  have c1 := h.cw n hn
  have c2 := h.ct n hn
  clear h hf
  go_enter Tryd.func58, Tryd.ntmps58
  go_wp2
  go_end0
  refine ⟨⟨_, rfl⟩, ?_, ((Fr.refl _ _).set (.inl (by simp)) _).set (.inl (by simp)) _⟩
  have := (At.set H.out (1 + n * 2) (.int .u32 0)).set (1 + n * 2 + 1) (.bool false)
  rw [show (0 : Int) = ((0 : Nat) : Int) from rfl, ba_setword _ _ _ _ n 0 (fun _ => false) hn (by decide), ba_setthere _ _ _ _ n false hn] at this
  exact this
end
end Go.Proofs.YtdbpmojblgmhdaaDoor
