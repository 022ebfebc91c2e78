/-
  SlotsKnown: the chapter's examples. Condition: the table of math/bits is as the library lays it (the row lists it).
-/


import Derived.Test.YtggcmeoafbmckaaDoorWorks
import Derived.Test.YtggcmeoafbmckaaDoorDoor
set_option linter.unusedVariables false
namespace Go.Proofs.YtggcmeoafbmckaaDoor
open Go.ChangeShapes Go.WideShapes Go.ChangeAt Go.RowKit
namespace slotsKnown
/-- Pages 3 and 5 of two slots each. -/
def K (a b c d : Bool) : Nat → Nat → Bool := fun p s => if p = 3 then (if s = 0 then a else if s = 1 then b else false) else if p = 5 then (if s = 0 then c else if s = 1 then d else false) else false
def KT (x y : Bool) : Nat → Bool := fun p => if p = 3 then x else if p = 5 then y else false
theorem K_none : noF = K false false false false := by
  funext p s; unfold K noF; repeat' split
  all_goals rfl
theorem KT_none : noT = KT false false := by
  funext p; unfold KT noT; repeat' split
  all_goals rfl
theorem K_tot : ∀ a b c d : Bool, tot (K a b c d) 1024 = a.toNat + b.toNat + c.toNat + d.toNat := by decide +kernel
theorem K_wh3 : ∀ a b c d : Bool, wh 2 (K a b c d) 3 = (a && b) := by decide +kernel
theorem K_wh5 : ∀ a b c d : Bool, wh 2 (K a b c d) 5 = (c && d) := by decide +kernel
theorem KT_told : told (KT true false) 1024 = [3] := by decide +kernel
section
variable {a b c d x y z : Bool}
theorem T5 : upd (KT x y) 5 z = KT x z := by
  funext p; unfold upd KT
  by_cases h5 : p = 5
  · subst h5; simp
  · simp [h5]
theorem T3 : upd (KT x y) 3 z = KT z y := by
  funext p; unfold upd KT
  by_cases h5 : p = 3
  · subst h5; simp
  · simp [h5]
theorem F5 (g : Nat → Bool) (u v : Bool) (h0 : g 0 = u) (h1 : g 1 = v) (h2 : ∀ s, 2 ≤ s → g s = false) : upp (K a b c d) 5 g = K a b u v := by
  funext p s; unfold upp K
  by_cases h5 : p = 5
  · subst h5
    rw [if_pos rfl, if_neg (by decide), if_pos rfl]
    by_cases s0 : s = 0
    · subst s0; exact h0
    · by_cases s1 : s = 1
      · subst s1; exact h1
      · rw [if_neg s0, if_neg s1]; exact h2 s (by omega)
  · simp [h5]
theorem F3 (g : Nat → Bool) (u v : Bool) (h0 : g 0 = u) (h1 : g 1 = v) (h2 : ∀ s, 2 ≤ s → g s = false) : upp (K a b c d) 3 g = K u v c d := by
  funext p s; unfold upp K
  by_cases h5 : p = 3
  · subst h5
    rw [if_pos rfl, if_pos rfl]
    by_cases s0 : s = 0
    · subst s0; exact h0
    · by_cases s1 : s = 1
      · subst s1; exact h1
      · rw [if_neg s0, if_neg s1]; exact h2 s (by omega)
  · simp [h5]
theorem K_far (p s : Nat) (h : p ≠ 3 ∧ p ≠ 5 ∨ 2 ≤ s) : K a b c d p s = false := by
  unfold K
  rcases h with ⟨h1, h2⟩ | h
  · rw [if_neg h1, if_neg h2]
  · rw [if_neg (show ¬ s = 0 by omega), if_neg (show ¬ s = 1 by omega), if_neg (show ¬ s = 0 by omega), if_neg (show ¬ s = 1 by omega)]; repeat' split
    all_goals rfl
theorem K_off (p s : Nat) : K false false false false p s = false := by rw [← K_none]; rfl
variable {w : World} {bp : Nat}
theorem kadd5 (h : Book w bp 2 (K a b c d) (KT x false)) : Calls Tryd.prog 8 #[.pointer (some ⟨bp, 0, none⟩), .int .i64 5] w fun e w' => e = .returned (.bool true) ∧ Book w' bp 2 (K a b true true) (KT x true) ∧ Fr [bp] w w' := by
  have := badd_yes h 5 (by omega) rfl
  rw [T5, F5 (ful 2) true true rfl rfl ful2.2.2] at this
  exact this
theorem kadd3 (h : Book w bp 2 (K a b c d) (KT false y)) : Calls Tryd.prog 8 #[.pointer (some ⟨bp, 0, none⟩), .int .i64 3] w fun e w' => e = .returned (.bool true) ∧ Book w' bp 2 (K true true c d) (KT true y) ∧ Fr [bp] w w' := by
  have := badd_yes h 3 (by omega) rfl
  rw [T3, F3 (ful 2) true true rfl rfl ful2.2.2] at this
  exact this
theorem kput31 (h : Book w bp 2 (K a false c d) (KT true y)) : Calls Tryd.prog 10 #[.pointer (some ⟨bp, 0, none⟩), .int .i64 3, .int .i64 1] w fun e w' => e = .returned (.bool true) ∧ Book w' bp 2 (K a true c d) (KT true y) ∧ Fr [bp] w w' := by
  have := bput_yes h 3 1 rfl (by omega) rfl
  rw [F3 _ a true rfl rfl (fun s hs => by unfold upd; rw [if_neg (by omega)]; exact K_far 3 s (.inr hs))] at this
  exact this
theorem kput50 (h : Book w bp 2 (K a b false d) (KT x true)) : Calls Tryd.prog 10 #[.pointer (some ⟨bp, 0, none⟩), .int .i64 5, .int .i64 0] w fun e w' => e = .returned (.bool true) ∧ Book w' bp 2 (K a b true d) (KT x true) ∧ Fr [bp] w w' := by
  have := bput_yes h 5 0 rfl (by omega) rfl
  rw [F5 _ true d rfl rfl (fun s hs => by unfold upd; rw [if_neg (by omega)]; exact K_far 5 s (.inr hs))] at this
  exact this
theorem ktake30 (h : Book w bp 2 (K true b c d) (KT true y)) (hT : Tab32 w) (hbt : bp ≠ 0) : Calls Tryd.prog 9 #[.pointer (some ⟨bp, 0, none⟩)] w fun e w' => e = .returned (.tuple #[.int .i64 3, .int .i64 0, .bool true]) ∧ Book w' bp 2 (K false b c d) (KT true y) ∧ Fr [bp] w w' := by
  have := btake_is h hT hbt 3 0 rfl (fun p hp s => K_far p s (.inl (by omega))) (fun s hs => by omega)
  rw [F3 _ false b rfl rfl (fun s hs => by unfold upd; rw [if_neg (by omega)]; exact K_far 3 s (.inr hs))] at this
  exact this
theorem ktake31 (h : Book w bp 2 (K false true c d) (KT true y)) (hT : Tab32 w) (hbt : bp ≠ 0) : Calls Tryd.prog 9 #[.pointer (some ⟨bp, 0, none⟩)] w fun e w' => e = .returned (.tuple #[.int .i64 3, .int .i64 1, .bool true]) ∧ Book w' bp 2 (K false false c d) (KT true y) ∧ Fr [bp] w w' := by
  have := btake_is h hT hbt 3 1 rfl (fun p hp s => K_far p s (.inl (by omega))) (fun s hs => by obtain rfl : s = 0 := (by omega); rfl)
  rw [F3 _ false false rfl rfl (fun s hs => by unfold upd; rw [if_neg (by omega)]; exact K_far 3 s (.inr hs))] at this
  exact this
theorem ktake50 (h : Book w bp 2 (K false false true d) (KT x true)) (hT : Tab32 w) (hbt : bp ≠ 0) : Calls Tryd.prog 9 #[.pointer (some ⟨bp, 0, none⟩)] w fun e w' => e = .returned (.tuple #[.int .i64 5, .int .i64 0, .bool true]) ∧ Book w' bp 2 (K false false false d) (KT x true) ∧ Fr [bp] w w' := by
  have := btake_is h hT hbt 5 0 rfl (fun p hp s => by
    by_cases h3 : p = 3
    · subst h3; unfold K; rw [if_pos rfl]; repeat' split
      all_goals rfl
    · exact K_far p s (.inl (by omega))) (fun s hs => by omega)
  rw [F5 _ false d rfl rfl (fun s hs => by unfold upd; rw [if_neg (by omega)]; exact K_far 5 s (.inr hs))] at this
  exact this
theorem kdrop5 (h : Book w bp 2 (K a b true true) (KT x true)) : Calls Tryd.prog 15 #[.pointer (some ⟨bp, 0, none⟩), .int .i64 5] w fun e w' => e = .returned (.bool true) ∧ Book w' bp 2 (K a b false false) (KT x false) ∧ Fr [bp] w w' := by
  have := bdrop_yes h 5 rfl (K_wh5 _ _ _ _)
  rw [T5, F5 _ false false rfl rfl (fun _ _ => rfl)] at this
  exact this
theorem kwhole {n : Nat} {F : Nat → Nat → Bool} {T : Nat → Bool} (h : Book w bp 2 F T) (hn : n < 1024) (v : Bool) (hv : (T n && wh 2 F n) = v) : Calls Tryd.prog 14 #[.pointer (some ⟨bp, 0, none⟩), .int .i64 n] w fun e w' => e = .returned (.bool v) ∧ ∃ nd, w' = w.drewN nd := by
  have := bwhole_any h n hn; rw [hv] at this; exact this
end
set_option maxHeartbeats 4000000 in
set_option maxRecDepth 100000 in
theorem walk (w : World) (hT : Tab32 w) : Calls Tryd.prog 6 #[] w fun e w' => e = .returned (.bool true) ∧ Fr [] w w' := by
  have hTl := hT.lt
  have HT := Lib.hid hT
  clear hT
  go_enter Tryd.func6, Tryd.ntmps6
  go_wp2_with fail
  refine (bnew_bad 0 (.inl (by omega)) _).mono ?_
  rintro e w' ⟨rfl, rfl⟩
  go_wp2_with fail
  refine (bnew_bad 17 (.inr (by omega)) _).mono ?_
  rintro e w' ⟨rfl, rfl⟩
  go_wp2_with fail
  refine (bnew_bad (-1) (.inl (by omega)) _).mono ?_
  rintro e w' ⟨rfl, rfl⟩
  go_wp2_with fail
  refine (bnew_any 16 (by omega) (by omega) _).mono ?_
  rintro e w1 ⟨b16, rfl, h16, hb16, hf1⟩
  have q1 := Lib.hid hf1
  clear h16 hf1
  go_wp2_with fail
  refine (bnew_any 2 (by omega) (by omega) _).mono ?_
  rintro e w2 ⟨bp, rfl, hb2, hbp0, hf2⟩
  rw [K_none, KT_none] at hb2
  have q2 := Lib.hid (q1.out.trans0 hf2)
  have h2 := Lib.hid hb2
  have hbp : w.heap.size ≤ bp := by have := q1.out.size; omega
  have hbt : bp ≠ 0 := by omega
  clear hf2 hb2 hbp0 hb16
  go_wp2_with fail
  refine (btake_no h2.out (HT.out.fr q2.out (by simp)) hbt K_off).mono ?_
  rintro e w3 ⟨rfl, hf3⟩
  have q3 := Lib.hid (q2.out.trans0 hf3)
  have h3 := Lib.hid (h2.out.fr hf3 (by simp))
  clear hf3
  go_wp2_with fail
  refine (bfree_is h3.out 0 (K_tot _ _ _ _)).mono ?_
  rintro e w' ⟨rfl, rfl⟩
  go_wp2_with fail
  refine (kadd5 h3.out).mono ?_
  rintro e w4 ⟨rfl, hb4, hf4⟩
  have q4 := Lib.hid (q3.out.trans hf4 (by simp; exact hbp))
  have h4 := Lib.hid hb4
  clear hf4 hb4
  go_wp2_with fail
  refine (badd_twice h4.out 5 rfl).mono ?_
  rintro e w5 ⟨rfl, hf5⟩
  have q5 := Lib.hid (q4.out.trans0 hf5)
  have h5 := Lib.hid (h4.out.fr hf5 (by simp))
  clear hf5
  go_wp2_with fail
  refine (kadd3 h5.out).mono ?_
  rintro e w6 ⟨rfl, hb6, hf6⟩
  have q6 := Lib.hid (q5.out.trans hf6 (by simp; exact hbp))
  have h6 := Lib.hid hb6
  clear hf6 hb6
  go_wp2_with fail
  refine (badd_bad h6.out 1024 (.inr (by omega))).mono ?_
  rintro e w7 ⟨rfl, hf7⟩
  have q7 := Lib.hid (q6.out.trans0 hf7)
  have h7 := Lib.hid (h6.out.fr hf7 (by simp))
  clear hf7
  go_wp2_with fail
  refine (badd_bad h7.out (-1) (.inl (by omega))).mono ?_
  rintro e w8 ⟨rfl, hf8⟩
  have q8 := Lib.hid (q7.out.trans0 hf8)
  have h8 := Lib.hid (h7.out.fr hf8 (by simp))
  clear hf8
  go_wp2_with fail
  refine (bfree_is h8.out 4 (K_tot _ _ _ _)).mono ?_
  rintro e w' ⟨rfl, rfl⟩
  go_wp2_with fail
  refine wp_loop_rounds 4 ?_
  rw [rounds_succ]
  go_wp2_with fail
  refine (ktake30 h8.out (HT.out.fr q8.out (by simp)) hbt).mono ?_
  rintro e w9 ⟨rfl, hb9, hf9⟩
  have q9 := Lib.hid (q8.out.trans hf9 (by simp; exact hbp))
  have h9 := Lib.hid hb9
  clear hf9 hb9
  go_wp2_with fail
  obtain ⟨w10, hw10⟩ : ∃ W, (w9.alloc (.cells #[.int .i64 3, .int .i64 3, .int .i64 5] 3)).alloc (.cells #[.int .i64 0, .int .i64 1, .int .i64 0] 3) = W := ⟨_, rfl⟩
  have hf10 : Fr [] w9 w10 := by rw [← hw10]; exact ((Fr.refl _ _).alloc _).alloc _
  rw [hw10]
  have q10 := Lib.hid (q9.out.trans0 hf10)
  have h10 := Lib.hid (h9.out.fr hf10 (by simp))
  clear hf10 hw10
  rw [rounds_succ]
  go_wp2_with fail
  refine (ktake31 h10.out (HT.out.fr q10.out (by simp)) hbt).mono ?_
  rintro e w11 ⟨rfl, hb11, hf11⟩
  have q11 := Lib.hid (q10.out.trans hf11 (by simp; exact hbp))
  have h11 := Lib.hid hb11
  clear hf11 hb11
  go_wp2_with fail
  obtain ⟨w12, hw12⟩ : ∃ W, (w11.alloc (.cells #[.int .i64 3, .int .i64 3, .int .i64 5] 3)).alloc (.cells #[.int .i64 0, .int .i64 1, .int .i64 0] 3) = W := ⟨_, rfl⟩
  have hf12 : Fr [] w11 w12 := by rw [← hw12]; exact ((Fr.refl _ _).alloc _).alloc _
  rw [hw12]
  have q12 := Lib.hid (q11.out.trans0 hf12)
  have h12 := Lib.hid (h11.out.fr hf12 (by simp))
  clear hf12 hw12
  rw [rounds_succ]
  go_wp2_with fail
  refine (ktake50 h12.out (HT.out.fr q12.out (by simp)) hbt).mono ?_
  rintro e w13 ⟨rfl, hb13, hf13⟩
  have q13 := Lib.hid (q12.out.trans hf13 (by simp; exact hbp))
  have h13 := Lib.hid hb13
  clear hf13 hb13
  go_wp2_with fail
  obtain ⟨w14, hw14⟩ : ∃ W, (w13.alloc (.cells #[.int .i64 3, .int .i64 3, .int .i64 5] 3)).alloc (.cells #[.int .i64 0, .int .i64 1, .int .i64 0] 3) = W := ⟨_, rfl⟩
  have hf14 : Fr [] w13 w14 := by rw [← hw14]; exact ((Fr.refl _ _).alloc _).alloc _
  rw [hw14]
  have q14 := Lib.hid (q13.out.trans0 hf14)
  have h14 := Lib.hid (h13.out.fr hf14 (by simp))
  clear hf14 hw14
  rw [rounds_succ]
  go_wp2_with fail
  refine (bfree_is h14.out 1 (K_tot _ _ _ _)).mono ?_
  rintro e w' ⟨rfl, rfl⟩
  go_wp2_with fail
  refine (kput31 h14.out).mono ?_
  rintro e w15 ⟨rfl, hb15, hf15⟩
  have q15 := Lib.hid (q14.out.trans hf15 (by simp; exact hbp))
  have h15 := Lib.hid hb15
  clear hf15 hb15
  go_wp2_with fail
  refine (bput_no h15.out 3 1 (by omega) (.inr (.inr (.inr rfl)))).mono ?_
  rintro e w16 ⟨rfl, hf16⟩
  have q16 := Lib.hid (q15.out.trans0 hf16)
  have h16 := Lib.hid (h15.out.fr hf16 (by simp))
  clear hf16
  go_wp2_with fail
  refine (bput_no h16.out 4 0 (by omega) (.inl rfl)).mono ?_
  rintro e w17 ⟨rfl, hf17⟩
  have q17 := Lib.hid (q16.out.trans0 hf17)
  have h17 := Lib.hid (h16.out.fr hf17 (by simp))
  clear hf17
  go_wp2_with fail
  refine (bput_no h17.out 5 2 (by omega) (.inr (.inr (.inl (by omega))))).mono ?_
  rintro e w18 ⟨rfl, hf18⟩
  have q18 := Lib.hid (q17.out.trans0 hf18)
  have h18 := Lib.hid (h17.out.fr hf18 (by simp))
  clear hf18
  go_wp2_with fail
  refine (bput_no h18.out 5 (-1) (by omega) (.inr (.inl (by omega)))).mono ?_
  rintro e w19 ⟨rfl, hf19⟩
  have q19 := Lib.hid (q18.out.trans0 hf19)
  have h19 := Lib.hid (h18.out.fr hf19 (by simp))
  clear hf19
  go_wp2_with fail
  refine (bput_bad h19.out (-1) 0 (.inl (by omega))).mono ?_
  rintro e w20 ⟨rfl, hf20⟩
  have q20 := Lib.hid (q19.out.trans0 hf20)
  have h20 := Lib.hid (h19.out.fr hf20 (by simp))
  clear hf20
  go_wp2_with fail
  refine (kwhole h20.out (n := 3) (by omega) false (K_wh3 _ _ _ _)).mono ?_
  rintro e w21 ⟨rfl, nd21, hw21⟩
  have hf21 : Fr [] w20 w21 := by rw [hw21]; exact (Fr.refl _ _).drewN _
  have q21 := Lib.hid (q20.out.trans0 hf21)
  have h21 := Lib.hid (h20.out.fr hf21 (by simp))
  clear hf21 hw21
  go_wp2_with fail
  refine (bwhole_bad h21.out 99999 (.inr (by omega))).mono ?_
  rintro e w22 ⟨rfl, nd22, hw22⟩
  have hf22 : Fr [] w21 w22 := by rw [hw22]; exact (Fr.refl _ _).drewN _
  have q22 := Lib.hid (q21.out.trans0 hf22)
  have h22 := Lib.hid (h21.out.fr hf22 (by simp))
  clear hf22 hw22
  go_wp2_with fail
  refine (ktake31 h22.out (HT.out.fr q22.out (by simp)) hbt).mono ?_
  rintro e w23 ⟨rfl, hb23, hf23⟩
  have q23 := Lib.hid (q22.out.trans hf23 (by simp; exact hbp))
  have h23 := Lib.hid hb23
  clear hf23 hb23
  go_wp2_with fail
  refine (kput50 h23.out).mono ?_
  rintro e w24 ⟨rfl, hb24, hf24⟩
  have q24 := Lib.hid (q23.out.trans hf24 (by simp; exact hbp))
  have h24 := Lib.hid hb24
  clear hf24 hb24
  go_wp2_with fail
  refine (kdrop5 h24.out).mono ?_
  rintro e w25 ⟨rfl, hb25, hf25⟩
  have q25 := Lib.hid (q24.out.trans hf25 (by simp; exact hbp))
  have h25 := Lib.hid hb25
  clear hf25 hb25
  go_wp2_with fail
  refine (bdrop_no h25.out 3 (by omega) (K_wh3 _ _ _ _)).mono ?_
  rintro e w26 ⟨rfl, hf26⟩
  have q26 := Lib.hid (q25.out.trans0 hf26)
  have h26 := Lib.hid (h25.out.fr hf26 (by simp))
  clear hf26
  go_wp2_with fail
  refine (bdrop_no h26.out 5 (by omega) rfl).mono ?_
  rintro e w27 ⟨rfl, hf27⟩
  have q27 := Lib.hid (q26.out.trans0 hf27)
  have h27 := Lib.hid (h26.out.fr hf27 (by simp))
  clear hf27
  go_wp2_with fail
  refine (bdrop_bad h27.out (-1) (.inl (by omega))).mono ?_
  rintro e w28 ⟨rfl, hf28⟩
  have q28 := Lib.hid (q27.out.trans0 hf28)
  have h28 := Lib.hid (h27.out.fr hf28 (by simp))
  clear hf28
  go_wp2_with fail
  refine (bcopy_any h28.out).mono ?_
  rintro e w29 ⟨cp, rfl, hc29, hcp0, hf29⟩
  have hcp : w.heap.size ≤ cp ∧ cp ≠ bp := by have := q28.out.size; have := h28.out.lt; omega
  have q29 := Lib.hid (q28.out.trans0 hf29)
  have h29 := Lib.hid (h28.out.fr hf29 (by simp))
  have c29 := Lib.hid hc29
  clear hf29 hc29 hcp0
  go_wp2_with fail
  refine (bpages_any h29.out).mono ?_
  rintro e w30 ⟨v, rfl, ho, hf30⟩
  rw [KT_told] at ho
  obtain ⟨g, c, rfl, hc1, hg, hgl, hcell, _⟩ := own_open ho (by decide)
  have hg2 : w.heap.size ≤ g ∧ g ≠ cp := by have := q29.out.size; have := c29.out.lt; omega
  have cg := Lib.hid (hcell 0 (by decide))
  have q30 := Lib.hid (q29.out.trans0 hf30)
  have h30 := Lib.hid (h29.out.fr hf30 (by simp))
  have c30 := Lib.hid (c29.out.fr hf30 (by simp))
  have g30 := Lib.hid (Fr.refl [cp] w30)
  clear hf30 ho hcell hc1 hg
  go_wp2_with fail
  refine (btake_nil _).mono ?_
  rintro e w31 ⟨rfl, hf31⟩
  have q31 := Lib.hid (q30.out.trans0 hf31)
  have h31 := Lib.hid (h30.out.fr hf31 (by simp))
  have c31 := Lib.hid (c30.out.fr hf31 (by simp))
  have g31 := Lib.hid (g30.out.trans0 hf31)
  clear hf31
  go_wp2_with fail
  refine (badd_yes c31.out 7 (by omega) rfl).mono ?_
  rintro e w32 ⟨rfl, _, hf32⟩
  have q32 := Lib.hid (q31.out.trans hf32 (by simp; exact hcp.1))
  have h32 := Lib.hid (h31.out.fr hf32 (by simp; exact fun e => hcp.2 e.symm))
  have g32 := Lib.hid (g31.out.trans hf32 (by simp))
  clear hf32
  have cg2 := (g32.out.cell (a := ⟨g, 0, none⟩) hgl (by simp; exact hg2.2)).trans cg.out
  change _ = some (Value.int .i64 3) at cg2
  go_wp2_with fail
  refine (bpages_any h32.out).mono ?_
  rintro e w33 ⟨v, rfl, ho, hf33⟩
  rw [KT_told] at ho
  obtain ⟨g', c', rfl, _⟩ := own_open ho (by decide)
  have q33 := Lib.hid (q32.out.trans0 hf33)
  clear hf33 ho cg2
  go_wp2_with fail
  refine (badd_nil _ 1).mono ?_
  rintro e w34 ⟨rfl, hf34⟩
  have q34 := Lib.hid (q33.out.trans0 hf34)
  clear hf34
  go_wp2_with fail
  refine (bput_nil _ 1 0).mono ?_
  rintro e w35 ⟨rfl, hf35⟩
  have q35 := Lib.hid (q34.out.trans0 hf35)
  clear hf35
  go_wp2_with fail
  refine (bdrop_nil _ 1).mono ?_
  rintro e w36 ⟨rfl, hf36⟩
  have q36 := Lib.hid (q35.out.trans0 hf36)
  clear hf36
  go_wp2_with fail
  refine (bwhole_nil _ 1).mono ?_
  rintro e w37 ⟨rfl, nd37, hw37⟩
  have q37 := Lib.hid (show Fr [] w w37 by rw [hw37]; exact q36.out.drewN _)
  clear hw37
  go_wp2_with fail
  refine (bfree_nil _).mono ?_
  rintro e w' ⟨rfl, rfl⟩
  go_wp2_with fail
  refine (bpages_nil _).mono ?_
  rintro e w38 ⟨rfl, hf38⟩
  have q38 := Lib.hid (q37.out.trans0 hf38)
  clear hf38
  go_wp2_with fail
  refine (bcopy_nil _).mono ?_
  rintro e w' ⟨rfl, rfl⟩
  go_wp2_with fail
  refine (works_any _ (HT.out.fr q38.out (by simp))).mono ?_
  rintro e w39 ⟨rfl, hf39⟩
  go_wp2_with fail
  go_ret
  exact ⟨rfl, q38.out.trans0 hf39⟩
theorem laidOut : laidOutB Tryd.prog = true := by kernel_rfl
set_option maxRecDepth 100000 in
theorem lifted (os : Os) (started : os.Started) (H : Type) (enc : TypeId × Value → H) :
    ReturnsInHanded {} Tryd.checked os 6 .any (fun w args => (Rows.slotsKnownSpec.pre enc Tryd.prog Tryd.f6 [] false w args ∧ laidMetH Tryd.prog laidL w) ∧ sizedMet enc Tryd.prog Tryd.f6 (OpenSpec.ofChange Rows.slotsKnownSpec) false w args) (Rows.slotsKnownSpec.post enc Tryd.prog Tryd.f6 false true false false) := by
  refine returnsInHanded_of_change_and (C := Tryd.checked) (X := fun w _ => laidMetH Tryd.prog laidL w) (fun _ _ _ hh h => h.of_heap hh) own started (by kernel_rfl) Tryd.func6
    (ChangeSpec.witness_at (enc := enc) (C := Tryd.checked) (os := os) (X := fun w _ => laidMetH Tryd.prog laidL w) false (laidWorld os) #[] 8 rfl (by kernel_rfl) (by kernel_rfl) (by kernel_rfl) (by kernel_rfl) (by kernel_rfl) (laidWorld_met os _)) ?_
  intro W base args ds gs before hval0 hW _ _ hL _
  have hT := tab_of_laid hL
  have hval : ∀ (j : Nat) t v, Tryd.f6.params[j]? = some t → args[j]? = some v → Value.okWide Tryd.prog W .any base t v := hval0
  have hW' := hW
  obtain ⟨p, q, hA0, hV, rfl, hfz, hnd⟩ := hW
  have hA : DataW.TrodAll enc Tryd.prog W 0 (fun _ => true) true Tryd.f6.params.toList args.toList ds p := hA0
  rw [Tryd.params6] at hA hval
  obtain ⟨rfl, rfl, rfl⟩ := trodAll_none hA
  obtain ⟨rfl, rfl⟩ := trodVars_none hV
  clear hA0 hval0
  simp only [List.append_nil] at hW'
  refine (walk  W hT).mono fun e W' ⟨he, hg⟩ => ?_
  subst he
  exact ⟨_, rfl, post_fr (pa := []) (pv := []) hW' (fun _ _ _ => (trodAll_cons_mk (shut_bool Tryd.underlying4 _) trodAll_mk0)) (fun sp _ => rfl) (fun _ _ => rfl) rfl
    hg (ok_one (by kernel_rfl) rfl (okWide_bool_mk Tryd.underlying4 _))⟩
theorem over : Rows.slotsKnownRow.holds Tryd.pinned (OpenSpec.ofChange Rows.slotsKnownSpec) :=
  OpenClaim.holds_of_wide 6 Tryd.f6 rfl rfl rfl rfl rfl rfl rfl ⟨rfl, rfl, rfl, rfl, rfl⟩ rfl rfl rfl rfl rfl (by kernel_rfl) Tryd.func6 (by kernel_rfl)
    (of_decide_eq_true (by kernel_rfl)) (by unfold Func.isWrapper; first | (rw [if_pos (by decide +kernel)]; kernel_rfl) | (rw [if_neg (by decide +kernel)]; exact ⟨rfl, rfl⟩))
    (fun os started H enc _ => lifted os started H enc)
set_option maxRecDepth 100000 in
/-- The card, tied. -/
theorem proved : Rows.SlotsKnownCardSaid :=
  Claim7.holds_tied_plain_at .later [] [.data] true (true, "cf9a7591cfa8dce3dcc3bf8a48b51dd81b21bd8b37a86308b919ccced3aca6f0") false
    over (fun _ h => by cases h) (by kernel_rfl) (fun _ h => by cases h) slotsKnown_row_tie rfl ⟨rfl, rfl⟩ (by kernel_rfl) rfl
    (fun f fn hf hfn => by
      obtain rfl : f = 6 := Option.some.inj ((show Tryd.prog.funcNamed "fallow/fallowlaw13.SlotsKnown" = some 6 by kernel_rfl).symm.trans hf) |>.symm
      obtain rfl : fn = Tryd.f6 := (Option.some.inj (Tryd.func6.symm.trans hfn)).symm
      exact ⟨by kernel_rfl, fun j t ht => by
        have hm : t ∈ Tryd.f6.params.toList := by simpa using Array.mem_of_getElem? ht
        have hall : (Tryd.f6.params.toList.all fun u => !Tryd.prog.wantsStandIn u) = true := by kernel_rfl
        exact (show Tryd.prog.wantsStandIn t = false by simpa using List.all_eq_true.1 hall t hm)⟩)
    (by kernel_rfl)
end slotsKnown
end Go.Proofs.YtggcmeoafbmckaaDoor
