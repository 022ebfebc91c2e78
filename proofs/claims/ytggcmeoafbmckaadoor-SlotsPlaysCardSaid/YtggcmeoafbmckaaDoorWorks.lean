/-
  The small check 'works' of layer 13. Condition: the table of math/bits is as the library lays it.
-/


import Derived.Test.YtggcmeoafbmckaaDoorPages
set_option linter.unusedVariables false
namespace Go.Proofs.YtggcmeoafbmckaaDoor
open Go.ChangeShapes Go.WideShapes Go.ChangeAt Go.RowKit
def F1 : Nat → Nat → Bool := upp noF 5 (ful 2)
def T1 : Nat → Bool := upd noT 5 true
/-- Take of a book at known values. -/
theorem btake_is {w : World} {bp per : Nat} {F : Nat → Nat → Bool} {T : Nat → Bool} (h : Book w bp per F T) (hT : Tab32 w) (hbt : bp ≠ 0) (n s : Nat) (h1 : F n s = true) (h2 : ∀ x, x < n → ∀ t, F x t = false) (h3 : ∀ t, t < s → F n t = false) :
    Calls Tryd.prog 9 #[.pointer (some ⟨bp, 0, none⟩)] w fun e w' => e = .returned (.tuple #[.int .i64 n, .int .i64 s, .bool true]) ∧ Book w' bp per (upp F n (upd (F n) s false)) T ∧ Fr [bp] w w' := by
  have hs := h.2.2.2.1 n s h1
  have hp := h.2.2.1
  have hw := wd_pos F n s (by omega) h1
  obtain ⟨q1, q2, q3⟩ := sl_spec F n hw
  have e : sl F n = s := by
    rcases Nat.lt_trichotomy (sl F n) s with hl | hl | hl
    · rw [h3 _ hl] at q2; cases q2
    · exact hl
    · rw [q3 s hl] at h1; cases h1
  refine btake_any h hT hbt _ (fun hz => ?_) (fun y hy hy0 hmin w' hb hf => ?_)
  · exact (hw (hz n hs.2)).elim
  · have hyn : y = n := by
      rcases Nat.lt_trichotomy y n with hl | hl | hl
      · exact (hy0 (wd_zero F y (h2 y hl))).elim
      · exact hl
      · exact (hw (hmin n hl hs.2)).elim
    subst hyn
    rw [e] at hb ⊢
    exact ⟨rfl, hb, hf⟩
theorem btake_no {w : World} {bp per : Nat} {F : Nat → Nat → Bool} {T : Nat → Bool} (h : Book w bp per F T) (hT : Tab32 w) (hbt : bp ≠ 0) (h1 : ∀ n s, F n s = false) :
    Calls Tryd.prog 9 #[.pointer (some ⟨bp, 0, none⟩)] w fun e w' => e = .returned (.tuple #[.int .i64 0, .int .i64 0, .bool false]) ∧ Fr [] w w' := by
  refine btake_any h hT hbt _ (fun _ w' hf => ⟨rfl, hf⟩) (fun y hy hy0 hmin w' hb hf => ?_)
  exact (hy0 (wd_zero F y (h1 y))).elim
theorem bfree_is {w : World} {bp per : Nat} {F : Nat → Nat → Bool} {T : Nat → Bool} (h : Book w bp per F T) (c : Nat) (hc : tot F 1024 = c) :
    Calls Tryd.prog 11 #[.pointer (some ⟨bp, 0, none⟩)] w fun e w' => e = .returned (.int .i64 c) ∧ w = w' := by
  have := bfree_any h; rw [hc] at this; exact this
theorem ful2 : ful 2 0 = true ∧ ful 2 1 = true ∧ ∀ s, 2 ≤ s → ful 2 s = false := ⟨rfl, rfl, fun s h => by unfold ful; simp; omega⟩
theorem tot_at (F : Nat → Nat → Bool) (n : Nat) (g : Nat → Bool) (h : n < 1024) : tot (upp F n g) 1024 = tot F 1024 - cnt (F n) 16 + cnt g 16 := by
  have := tot_upp F n g 1024 h
  have := cnt_tot F n 1024 h
  omega
theorem upp_same (F : Nat → Nat → Bool) (n : Nat) (g : Nat → Bool) : upp F n g n = g := if_pos rfl
theorem upp_far (F : Nat → Nat → Bool) (n m : Nat) (g : Nat → Bool) (h : m ≠ n) : upp F n g m = F m := if_neg h
def F2 : Nat → Nat → Bool := upp F1 5 (upd (F1 5) 0 false)
def F3 : Nat → Nat → Bool := upp F2 5 (upd (F2 5) 1 false)
def F4 : Nat → Nat → Bool := upp F3 5 (upd (F3 5) 0 true)
theorem f5_eq : F4 5 = fun s => decide (s = 0) := by
  unfold F4 F3 F2 F1 upp
  funext s
  simp only [if_pos]
  unfold upd ful
  by_cases h0 : s = 0
  · simp [h0]
  · by_cases h1 : s = 1
    · simp [h1]
    · simp [h0, h1]; omega
theorem f_far (n : Nat) (h : n ≠ 5) : (∀ s, F1 n s = false) ∧ (∀ s, F2 n s = false) ∧ (∀ s, F3 n s = false) := by
  unfold F3 F2 F1 upp
  simp only [if_neg h]
  exact ⟨fun _ => rfl, fun _ => rfl, fun _ => rfl⟩
theorem F3_none (n s : Nat) : F3 n s = false := by
  by_cases h : n = 5
  · subst h
    unfold F3 F2 F1 upp
    simp only [if_pos]
    unfold upd ful
    by_cases h1 : s = 1
    · simp [h1]
    · by_cases h0 : s = 0
      · simp [h0]
      · simp [h0, h1]; omega
  · exact (f_far n h).2.2 s
theorem tot_zero (F : Nat → Nat → Bool) (h : ∀ n s, F n s = false) : ∀ m, tot F m = 0
  | 0 => rfl
  | m + 1 => by simp only [tot, tot_zero F h m]; rw [cnt_zero _ _ fun s _ => h m s]
theorem F4_tot : tot F4 1024 = 1 := by
  have := tot_at F3 5 (upd (F3 5) 0 true) (by omega)
  rw [tot_zero F3 F3_none] at this
  rw [show F4 = upp F3 5 (upd (F3 5) 0 true) from rfl, this]
  have e : upd (F3 5) 0 true = fun s => decide (s = 0) := by rw [← f5_eq]; exact (upp_same _ _ _).symm
  rw [e]
  decide
theorem works_any (w : World) (hT : Tab32 w) : Calls Tryd.prog 12 #[] w fun e w' => e = .returned (.bool true) ∧ Fr [] w w' := by
  have hTl := hT.lt
  go_enter Tryd.func12, Tryd.ntmps12
  go_wp2_with fail
  refine (bnew_any 2 (by omega) (by omega) _).mono ?_
  rintro e w1 ⟨bp, rfl, h1, hbp, hf1⟩
  have hbt : bp ≠ 0 := by omega
  go_wp2_with fail
  refine (badd_yes h1 5 (by omega) rfl).mono ?_
  rintro e w2 ⟨rfl, h2, hf2⟩
  have q2 := hf1.trans hf2 (by simp; exact hbp)
  go_wp2_with fail
  refine (btake_is (F := F1) h2 (hT.fr q2 (by simp)) hbt 5 0 rfl (fun x hx t => (f_far x (by omega)).1 t) (fun t ht => by omega)).mono ?_
  rintro e w3 ⟨rfl, h3, hf3⟩
  have q3 := q2.trans hf3 (by simp; exact hbp)
  go_wp2_with fail
  refine (btake_is (F := F2) h3 (hT.fr q3 (by simp)) hbt 5 1 rfl (fun x hx t => (f_far x (by omega)).2.1 t) (fun t ht => by obtain rfl : t = 0 := (by omega); rfl)).mono ?_
  rintro e w4 ⟨rfl, h4, hf4⟩
  have q4 := q3.trans hf4 (by simp; exact hbp)
  go_wp2_with fail
  refine (btake_no (F := F3) h4 (hT.fr q4 (by simp)) hbt F3_none).mono ?_
  rintro e w5 ⟨rfl, hf5⟩
  have h5 := h4.fr hf5 (by simp)
  have q5 := q4.trans0 hf5
  go_wp2_with fail
  refine (bput_yes (F := F3) h5 5 0 rfl (by omega) (F3_none 5 0)).mono ?_
  rintro e w6 ⟨rfl, h6, hf6⟩
  have q6 := q5.trans hf6 (by simp; exact hbp)
  go_wp2_with fail
  refine (bfree_is (F := F4) h6 1 F4_tot).mono ?_
  rintro e w' ⟨rfl, rfl⟩
  go_wp2_with fail
  go_ret
  exact ⟨rfl, q6⟩
end Go.Proofs.YtggcmeoafbmckaaDoor
