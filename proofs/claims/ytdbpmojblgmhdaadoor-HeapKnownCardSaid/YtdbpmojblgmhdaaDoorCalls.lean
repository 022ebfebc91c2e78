/-
  What Add, Put, Drop, Whole, Free of a book do. Conditions: numbers in their types' ranges.
-/


import Derived.Test.YtdbpmojblgmhdaaDoorActs
import Derived.Deep.RegionHeld3
import Derived.Deep.DeepCutAuto
set_option linter.unusedVariables false
namespace Go.Proofs.YtdbpmojblgmhdaaDoor
open Go.ChangeShapes Go.WideShapes Go.ChangeAt Go.RowKit
/-! ### plain: how many are free -/
theorem tot_other (F : Nat → Nat → Bool) (n : Nat) (g : Nat → Bool) : ∀ m, m ≤ n → tot (upp F n g) m = tot F m
  | 0, _ => rfl
  | m + 1, h => by
    simp only [tot]
    rw [tot_other F n g m (by omega)]
    unfold upp; rw [if_neg (by omega)]
theorem tot_upp (F : Nat → Nat → Bool) (n : Nat) (g : Nat → Bool) : ∀ m, n < m → tot (upp F n g) m + cnt (F n) 16 = tot F m + cnt g 16
  | 0, h => by omega
  | m + 1, h => by
    simp only [tot]
    by_cases e : n = m
    · subst e
      rw [tot_other F n g n (Nat.le_refl _)]
      unfold upp; rw [if_pos rfl]; omega
    · have ih := tot_upp F n g m (by omega)
      rw [show upp F n g m = F m from by unfold upp; rw [if_neg (fun h => e h.symm)]]
      omega
theorem tot_le (F : Nat → Nat → Bool) : ∀ m, tot F m ≤ 16 * m
  | 0 => Nat.le_refl _
  | m + 1 => by have := tot_le F m; have := cnt_le (F m) 16; simp only [tot]; omega
theorem cnt_tot (F : Nat → Nat → Bool) (n : Nat) : ∀ m, n < m → cnt (F n) 16 ≤ tot F m
  | 0, h => by omega
  | m + 1, h => by
    simp only [tot]
    by_cases e : n = m
    · subst e; omega
    · have := cnt_tot F n m (by omega); omega
theorem tot_step (F : Nat → Nat → Bool) (n : Nat) (g : Nat → Bool) (h : n < 1024) : ((tot F 1024 : Nat) : Int) - (cnt (F n) 16 : Nat) + (cnt g 16 : Nat) = (tot (upp F n g) 1024 : Nat) := by
  have := tot_upp F n g 1024 h; omega
/-- A book as it is between two calls. -/
def Sound (per : Nat) (F : Nat → Nat → Bool) (T : Nat → Bool) : Prop :=
  1 ≤ per ∧ per ≤ 16 ∧ (∀ n s, F n s = true → s < per ∧ T n = true) ∧ ∀ n, T n = true → n < 1024
def Book (w : World) (bp per : Nat) (F : Nat → Nat → Bool) (T : Nat → Bool) : Prop := Bk w bp per F T (tot F 1024 : Nat) ∧ Sound per F T
section
variable {w w' : World} {bp per : Nat} {F : Nat → Nat → Bool} {T : Nat → Bool} {S : List Nat}
theorem Book.fr (h : Book w bp per F T) (f : Fr S w w') (hS : bp ∉ S) : Book w' bp per F T := ⟨h.1.fr f hS, h.2⟩
theorem Book.hp (h : Book w bp per F T) (hv : w'.heap = w.heap) : Book w' bp per F T := ⟨h.1.hp hv, h.2⟩
theorem Book.lt (h : Book w bp per F T) : bp < w.heap.size := At.lt h.1
theorem Sound.add (h : Sound per F T) (n : Nat) (hn : n < 1024) : Sound per (upp F n (ful per)) (upd T n true) := by
  obtain ⟨h1, h2, h3, h4⟩ := h
  refine ⟨h1, h2, fun m s hm => ?_, fun m hm => ?_⟩
  · unfold upp at hm
    unfold upd
    by_cases e : m = n
    · subst e; rw [if_pos rfl] at hm; unfold ful at hm; exact ⟨by simpa using hm, if_pos rfl⟩
    · rw [if_neg e] at hm ⊢; exact h3 m s hm
  · unfold upd at hm
    by_cases e : m = n
    · omega
    · rw [if_neg e] at hm; exact h4 m hm
theorem Sound.slot (h : Sound per F T) (n s : Nat) (b : Bool) (hs : s < per) (hT : T n = true) : Sound per (upp F n (upd (F n) s b)) T := by
  obtain ⟨h1, h2, h3, h4⟩ := h
  refine ⟨h1, h2, fun m k hm => ?_, h4⟩
  unfold upp at hm
  by_cases e : m = n
  · subst e; rw [if_pos rfl] at hm; unfold upd at hm
    by_cases e2 : k = s
    · subst e2; exact ⟨hs, hT⟩
    · rw [if_neg e2] at hm; exact h3 m k hm
  · rw [if_neg e] at hm; exact h3 m k hm
theorem Sound.drop (h : Sound per F T) (n : Nat) : Sound per (upp F n fun _ => false) (upd T n false) := by
  obtain ⟨h1, h2, h3, h4⟩ := h
  refine ⟨h1, h2, fun m k hm => ?_, fun m hm => ?_⟩
  · unfold upp at hm
    unfold upd
    by_cases e : m = n
    · subst e; rw [if_pos rfl] at hm; cases hm
    · rw [if_neg e] at hm ⊢; exact h3 m k hm
  · unfold upd at hm
    by_cases e : m = n
    · rw [if_pos e] at hm; cases hm
    · rw [if_neg e] at hm; exact h4 m hm
end
section
variable {w : World} {bp per : Nat} {F : Nat → Nat → Bool} {T : Nat → Bool}
theorem badd_yes (h : Book w bp per F T) (n : Nat) (hn : n < 1024) (hT : T n = false) :
    Calls Tryd.prog 50 #[.pointer (some ⟨bp, 0, none⟩), .int .i64 n] w fun e w' => e = .returned (.bool true) ∧ Book w' bp per (upp F n (ful per)) (upd T n true) ∧ Fr [bp] w w' := by
  have hl := h.lt
  have ha : Fr [] w (w.alloc (.cells #[.pointer (some ⟨bp, 0, none⟩)] 50)) := (by repeat (first | exact Fr.refl _ _ | assumption | refine Fr.trans0 ?_ (by assumption) | refine Fr.drewN ?_ _ | refine Fr.alloc ?_ _ | refine Fr.drew ?_))
  have H := Lib.hid (h.fr ha (by simp))
  have HQ := At.new w 50 #[.pointer (some ⟨bp, 0, none⟩)]
  have CA := Lib.hid (bat_any H.out.1 H.out.2.1 n hn)
  have CH := Lib.hid (chg_any H.out.1 hn (by have := cnt_tot F n 1024 hn; omega) (by have := tot_le F 1024; omega) 70 #[.pointer (some ⟨w.heap.size, 0, none⟩)] (fun _ _ => by kernel_rfl) (badd1_do (T := T) HQ (by omega) H.out.2.2.1 hn))
  have hs := H.out.2.add n hn
  have ct := H.out.1.ct n hn
  rw [hT] at ct
  have HS := Lib.hid hs
  have HA := Lib.hid ha
  have HX := Lib.hid (tot_step F n (ful per) hn)
  clear h hs ha HQ hT
  go_enter Tryd.func50, Tryd.ntmps50
  go_wp2_with (first | (go_at_call 54; refine (CA.out).mono ?_; rintro e w' ⟨rfl, rfl⟩) | (go_at_call 55; refine (CH.out).mono ?_; rintro e w5 ⟨⟨v, rfl⟩, h5, hf5⟩))
  go_ret
  refine ⟨rfl, ⟨?_, HS.out⟩, (HA.out.more (by simp)).trans hf5 (by simp)⟩
  rw [← HX.out]
  have hu : upp F n (ful per) n = ful per := if_pos rfl
  rw [hu] at h5
  exact h5
theorem badd_bad (h : Book w bp per F T) (n : Int) (hn : n < 0 ∨ 1024 ≤ n) :
    Calls Tryd.prog 50 #[.pointer (some ⟨bp, 0, none⟩), .int .i64 n] w fun e w' => e = .returned (.bool false) ∧ Fr [] w w' := by
  have ha : Fr [] w (w.alloc (.cells #[.pointer (some ⟨bp, 0, none⟩)] 50)) := (by repeat (first | exact Fr.refl _ _ | assumption | refine Fr.trans0 ?_ (by assumption) | refine Fr.drewN ?_ _ | refine Fr.alloc ?_ _ | refine Fr.drew ?_))
  have H := Lib.hid (h.fr ha (by simp))
  have CA := Lib.hid (bat_bad H.out.1 H.out.2.1 n hn)
  clear h hn ha
  go_enter Tryd.func50, Tryd.ntmps50
  go_wp2_with (go_at_call 54; refine (CA.out).mono ?_; rintro e w' ⟨rfl, rfl⟩)
  go_ret
  exact ⟨rfl, (by repeat (first | exact Fr.refl _ _ | assumption | refine Fr.trans0 ?_ (by assumption) | refine Fr.drewN ?_ _ | refine Fr.alloc ?_ _ | refine Fr.drew ?_))⟩
theorem badd_twice (h : Book w bp per F T) (n : Nat) (hT : T n = true) :
    Calls Tryd.prog 50 #[.pointer (some ⟨bp, 0, none⟩), .int .i64 n] w fun e w' => e = .returned (.bool false) ∧ Fr [] w w' := by
  have hn := h.2.2.2.2 n hT
  have ha : Fr [] w (w.alloc (.cells #[.pointer (some ⟨bp, 0, none⟩)] 50)) := (by repeat (first | exact Fr.refl _ _ | assumption | refine Fr.trans0 ?_ (by assumption) | refine Fr.drewN ?_ _ | refine Fr.alloc ?_ _ | refine Fr.drew ?_))
  have H := Lib.hid (h.fr ha (by simp))
  have CA := Lib.hid (bat_any H.out.1 H.out.2.1 n hn)
  have ct := H.out.1.ct n hn
  rw [hT] at ct
  clear h ha hT
  go_enter Tryd.func50, Tryd.ntmps50
  go_wp2_with (go_at_call 54; refine (CA.out).mono ?_; rintro e w' ⟨rfl, rfl⟩)
  go_ret
  exact ⟨rfl, (by repeat (first | exact Fr.refl _ _ | assumption | refine Fr.trans0 ?_ (by assumption) | refine Fr.drewN ?_ _ | refine Fr.alloc ?_ _ | refine Fr.drew ?_))⟩
theorem badd_nil (w : World) (n : Int) :
    Calls Tryd.prog 50 #[.pointer none, .int .i64 n] w fun e w' => e = .returned (.bool false) ∧ Fr [] w w' := by
  go_enter Tryd.func50, Tryd.ntmps50
  go_wp2_with (go_at_call 54; refine (bat_nil _ _).mono ?_; rintro e w' ⟨rfl, rfl⟩)
  go_ret
  exact ⟨rfl, (by repeat (first | exact Fr.refl _ _ | assumption | refine Fr.trans0 ?_ (by assumption) | refine Fr.drewN ?_ _ | refine Fr.alloc ?_ _ | refine Fr.drew ?_))⟩
/-- What a page's word tells of a slot, as the program asks it. -/
theorem ask_slot (F : Nat → Nat → Bool) (n s : Nat) (hs : s < 16) : (bits .and .u32 ((wd F n : Int) / 2 ^ s) 1 == 1) = F n s := by
  have h1 := bits_get (F n) s hs
  have hlt := wd_lt F n
  have h2 : wd F n / 2 ^ s < 4294967296 := Nat.lt_of_le_of_lt (Nat.div_le_self _ _) (by omega)
  have := u32_and_nat (wd F n / 2 ^ s) 1 h2 (by omega)
  rw [show ((wd F n / 2 ^ s : Nat) : Int) = (wd F n : Int) / 2 ^ s by simp] at this
  have e1 : ((1 : Nat) : Int) = 1 := rfl
  rw [e1] at this
  rw [this]
  unfold wd
  rw [h1]
  cases F n s <;> rfl
theorem bput_yes (h : Book w bp per F T) (n s : Nat) (hT : T n = true) (hs : s < per) (hF : F n s = false) :
    Calls Tryd.prog 36 #[.pointer (some ⟨bp, 0, none⟩), .int .i64 n, .int .i64 s] w fun e w' => e = .returned (.bool true) ∧ Book w' bp per (upp F n (upd (F n) s true)) T ∧ Fr [bp] w w' := by
  have hn := h.2.2.2.2 n hT
  have hl := h.lt
  have hp16 := h.2.2.1
  have ha : Fr [] w (w.alloc (.cells #[.int .i64 s] 3)) := (by repeat (first | exact Fr.refl _ _ | assumption | refine Fr.trans0 ?_ (by assumption) | refine Fr.drewN ?_ _ | refine Fr.alloc ?_ _ | refine Fr.drew ?_))
  have H := Lib.hid (h.fr ha (by simp))
  have HQ := At.new w 3 #[.int .i64 s]
  have CA := Lib.hid (bat_any H.out.1 H.out.2.1 n hn)
  have CH := Lib.hid fun nd => chg_any (T := T) (Bk.hp (w' := (w.alloc (.cells #[.int .i64 s] 3)).drewN nd) H.out.1 rfl) hn (by have := cnt_tot F n 1024 hn; omega) (by have := tot_le F 1024; omega) 56 #[.pointer (some ⟨w.heap.size, 0, none⟩)] (fun _ _ => by kernel_rfl) (bput1_do (T := T) (r0 := (tot F 1024 : Nat) - (cnt (F n) 16 : Nat)) s (by omega) (HQ.drewN nd) (by omega) hn)
  have HS := Lib.hid (H.out.2.slot n s true hs hT)
  have ct := H.out.1.ct n hn
  have c0 := H.out.1.c0
  have cw := H.out.1.cw n hn
  have ask := ask_slot F n s (by omega)
  rw [hT] at ct
  rw [hF] at ask
  have HA := Lib.hid ha
  have HX := Lib.hid (tot_step F n (upd (F n) s true) hn)
  have s0 : (0 : Int) ≤ (s : Int) := by omega
  have s1 : decide ((s : Int) < 0) = false := by simp
  have s2 : decide ((per : Int) ≤ (s : Int)) = false := by simp; omega
  clear h ha HQ hT hF
  go_enter Tryd.func36, Tryd.ntmps36
  go_wp2_with (go_at_call 54; refine (CA.out).mono ?_; rintro e w' ⟨rfl, rfl⟩)
  go_quiet (fail)
  go_wp2_with (go_at_call 55; refine (CH.out nq).mono ?_; rintro e w5 ⟨⟨v, rfl⟩, h5, hf5⟩)
  go_ret
  refine ⟨rfl, ⟨?_, HS.out⟩, (HA.out.more (by simp)).trans (hf5.hd rfl rfl rfl rfl) (by simp)⟩
  rw [← HX.out]
  have hu : upp F n (upd (F n) s true) n = upd (F n) s true := if_pos rfl
  rw [hu] at h5
  exact h5
theorem bput_bad (h : Book w bp per F T) (n s : Int) (hn : n < 0 ∨ 1024 ≤ n) :
    Calls Tryd.prog 36 #[.pointer (some ⟨bp, 0, none⟩), .int .i64 n, .int .i64 s] w fun e w' => e = .returned (.bool false) ∧ Fr [] w w' := by
  have ha : Fr [] w (w.alloc (.cells #[.int .i64 s] 3)) := (by repeat (first | exact Fr.refl _ _ | assumption | refine Fr.trans0 ?_ (by assumption) | refine Fr.drewN ?_ _ | refine Fr.alloc ?_ _ | refine Fr.drew ?_))
  have H := Lib.hid (h.fr ha (by simp))
  have CA := Lib.hid (bat_bad H.out.1 H.out.2.1 n hn)
  clear h hn ha
  go_enter Tryd.func36, Tryd.ntmps36
  go_wp2_with (go_at_call 54; refine (CA.out).mono ?_; rintro e w' ⟨rfl, rfl⟩)
  go_quiet (fail)
  go_wp2
  go_ret
  exact ⟨rfl, (by repeat (first | exact Fr.refl _ _ | assumption | refine Fr.trans0 ?_ (by assumption) | refine Fr.drewN ?_ _ | refine Fr.alloc ?_ _ | refine Fr.drew ?_))⟩
theorem bput_nil (w : World) (n s : Int) :
    Calls Tryd.prog 36 #[.pointer none, .int .i64 n, .int .i64 s] w fun e w' => e = .returned (.bool false) ∧ Fr [] w w' := by
  go_enter Tryd.func36, Tryd.ntmps36
  go_wp2_with (go_at_call 54; refine (bat_nil _ _).mono ?_; rintro e w' ⟨rfl, rfl⟩)
  go_quiet (fail)
  go_wp2
  go_ret
  exact ⟨rfl, (by repeat (first | exact Fr.refl _ _ | assumption | refine Fr.trans0 ?_ (by assumption) | refine Fr.drewN ?_ _ | refine Fr.alloc ?_ _ | refine Fr.drew ?_))⟩
theorem bput_no (h : Book w bp per F T) (n : Nat) (s : Int) (hn : n < 1024) (hs : T n = false ∨ s < 0 ∨ (per : Int) ≤ s ∨ F n s.toNat = true) :
    Calls Tryd.prog 36 #[.pointer (some ⟨bp, 0, none⟩), .int .i64 n, .int .i64 s] w fun e w' => e = .returned (.bool false) ∧ Fr [] w w' := by
  have ha : Fr [] w (w.alloc (.cells #[.int .i64 s] 3)) := (by repeat (first | exact Fr.refl _ _ | assumption | refine Fr.trans0 ?_ (by assumption) | refine Fr.drewN ?_ _ | refine Fr.alloc ?_ _ | refine Fr.drew ?_))
  have H := Lib.hid (h.fr ha (by simp))
  have hp16 := h.2.2.1
  have CA := Lib.hid (bat_any H.out.1 H.out.2.1 n hn)
  have ct := H.out.1.ct n hn
  have c0 := H.out.1.c0
  have cw := H.out.1.cw n hn
  by_cases hT : T n = false
  · rw [hT] at ct
    clear h ha hT hs
    go_enter Tryd.func36, Tryd.ntmps36
    go_wp2_with (go_at_call 54; refine (CA.out).mono ?_; rintro e w' ⟨rfl, rfl⟩)
    go_quiet (fail)
    go_wp2
    go_ret
    exact ⟨rfl, (by repeat (first | exact Fr.refl _ _ | assumption | refine Fr.trans0 ?_ (by assumption) | refine Fr.drewN ?_ _ | refine Fr.alloc ?_ _ | refine Fr.drew ?_))⟩
  · rw [Bool.not_eq_false] at hT
    rw [hT] at ct
    by_cases h0 : s < 0
    · have s1 : decide (s < 0) = true := by simpa using h0
      clear h ha hT hs
      go_enter Tryd.func36, Tryd.ntmps36
      go_wp2_with (go_at_call 54; refine (CA.out).mono ?_; rintro e w' ⟨rfl, rfl⟩)
      go_quiet (fail)
      go_wp2
      go_ret
      exact ⟨rfl, (by repeat (first | exact Fr.refl _ _ | assumption | refine Fr.trans0 ?_ (by assumption) | refine Fr.drewN ?_ _ | refine Fr.alloc ?_ _ | refine Fr.drew ?_))⟩
    · have s1 : decide (s < 0) = false := by simpa using h0
      by_cases h1 : (per : Int) ≤ s
      · have s2 : decide ((per : Int) ≤ s) = true := by simpa using h1
        clear h ha hT hs
        go_enter Tryd.func36, Tryd.ntmps36
        go_wp2_with (go_at_call 54; refine (CA.out).mono ?_; rintro e w' ⟨rfl, rfl⟩)
        go_quiet (fail)
        go_wp2
        go_ret
        exact ⟨rfl, (by repeat (first | exact Fr.refl _ _ | assumption | refine Fr.trans0 ?_ (by assumption) | refine Fr.drewN ?_ _ | refine Fr.alloc ?_ _ | refine Fr.drew ?_))⟩
      · obtain ⟨k, rfl⟩ := Int.eq_ofNat_of_zero_le (show 0 ≤ s by omega)
        have s2 : decide ((per : Int) ≤ (k : Int)) = false := by simpa using h1
        have ask := ask_slot F n k (by omega)
        have hF : F n k = true := by
          rcases hs with h2 | h2 | h2 | h2
          · rw [hT] at h2; cases h2
          · omega
          · omega
          · simpa using h2
        rw [hF] at ask
        have k0 : (0 : Int) ≤ (k : Int) := by omega
        have hk : k < per := by omega
        clear h ha hT hs hF h0 h1
        go_enter Tryd.func36, Tryd.ntmps36
        go_wp2_with (go_at_call 54; refine (CA.out).mono ?_; rintro e w' ⟨rfl, rfl⟩)
        go_quiet (fail)
        go_wp2
        go_ret
        exact ⟨rfl, (by repeat (first | exact Fr.refl _ _ | assumption | refine Fr.trans0 ?_ (by assumption) | refine Fr.drewN ?_ _ | refine Fr.alloc ?_ _ | refine Fr.drew ?_))⟩
def wh (per : Nat) (F : Nat → Nat → Bool) (n : Nat) : Bool := decide (wd F n = 2 ^ per - 1)
theorem wh_iff (hS : Sound per F T) (n : Nat) : wh per F n = true ↔ F n = ful per := by
  unfold wh
  rw [decide_eq_true_iff, ful_word per hS.2.1]
  constructor
  · intro e
    funext s
    have := congrArg (fun x => x.testBit s) e
    simp only [wd, bitsN_test] at this
    by_cases hs : s < 16
    · simpa [hs] using this
    · have h1 : F n s = false := by
        cases e : F n s with
        | false => rfl
        | true => have := (hS.2.2.1 n s e).1; have := hS.2.1; omega
      rw [h1]; unfold ful; have := hS.2.1; simp; omega
  · intro e; unfold wd; rw [e]
theorem bwhole_any (h : Book w bp per F T) (n : Nat) (hn : n < 1024) :
    Calls Tryd.prog 57 #[.pointer (some ⟨bp, 0, none⟩), .int .i64 n] w fun e w' => e = .returned (.bool (T n && wh per F n)) ∧ ∃ nd, w' = w.drewN nd := by
  have H := Lib.hid h
  have CA := Lib.hid (bat_any H.out.1 H.out.2.1 n hn)
  have ct := H.out.1.ct n hn
  by_cases hT : T n = true
  · rw [hT] at ct ⊢
    have cw := H.out.1.cw n hn
    have CL := Lib.hid fun nd => ball_any (Bk.hp (w' := w.drewN nd) H.out.1 rfl) H.out.2.2.1
    have HW := Lib.hid (show ((wd F n : Int) == ((2 ^ per - 1 : Nat) : Int)) = wh per F n by unfold wh; rw [Bool.eq_iff_iff]; simp only [beq_iff_eq, decide_eq_true_eq]; omega)
    obtain ⟨x, hx⟩ : ∃ x, 2 ^ per - 1 = x := ⟨_, rfl⟩
    rw [hx] at CL HW
    clear h hT hx
    go_enter Tryd.func57, Tryd.ntmps57
    go_wp2_with (go_at_call 54; refine (CA.out).mono ?_; rintro e w' ⟨rfl, rfl⟩)
    go_quiet ((go_at_call 71; exact q_same (CL.out _)))
    go_wp2
    go_ret
    exact ⟨ret_bool (by rw [Bool.true_and]; exact HW.out), _, rfl⟩
  · rw [Bool.not_eq_true] at hT
    rw [hT] at ct ⊢
    clear h hT
    go_enter Tryd.func57, Tryd.ntmps57
    go_wp2_with (go_at_call 54; refine (CA.out).mono ?_; rintro e w' ⟨rfl, rfl⟩)
    go_quiet (fail)
    go_wp2
    go_ret
    exact ⟨rfl, _, rfl⟩
theorem bwhole_bad (h : Book w bp per F T) (n : Int) (hn : n < 0 ∨ 1024 ≤ n) :
    Calls Tryd.prog 57 #[.pointer (some ⟨bp, 0, none⟩), .int .i64 n] w fun e w' => e = .returned (.bool false) ∧ ∃ nd, w' = w.drewN nd := by
  have H := Lib.hid h
  have CA := Lib.hid (bat_bad H.out.1 H.out.2.1 n hn)
  clear h hn
  go_enter Tryd.func57, Tryd.ntmps57
  go_wp2_with (go_at_call 54; refine (CA.out).mono ?_; rintro e w' ⟨rfl, rfl⟩)
  go_quiet (fail)
  go_wp2
  go_ret
  exact ⟨rfl, _, rfl⟩
theorem bwhole_nil (w : World) (n : Int) :
    Calls Tryd.prog 57 #[.pointer none, .int .i64 n] w fun e w' => e = .returned (.bool false) ∧ ∃ nd, w' = w.drewN nd := by
  go_enter Tryd.func57, Tryd.ntmps57
  go_wp2_with (go_at_call 54; refine (bat_nil _ _).mono ?_; rintro e w' ⟨rfl, rfl⟩)
  go_quiet (fail)
  go_wp2
  go_ret
  exact ⟨rfl, _, rfl⟩
theorem bdrop_yes (h : Book w bp per F T) (n : Nat) (hT : T n = true) (hw : wh per F n = true) :
    Calls Tryd.prog 37 #[.pointer (some ⟨bp, 0, none⟩), .int .i64 n] w fun e w' => e = .returned (.bool true) ∧ Book w' bp per (upp F n fun _ => false) (upd T n false) ∧ Fr [bp] w w' := by
  have hn := h.2.2.2.2 n hT
  have C := Lib.hid (bwhole_any h n hn)
  rw [hT, hw] at C
  have CA := Lib.hid fun nd => bat_any (Bk.hp (w' := w.drewN nd) h.1 rfl) h.2.1 n hn
  have CH := Lib.hid fun nd => chg_any (T := T) (Bk.hp (w' := w.drewN nd) h.1 rfl) hn (by have := cnt_tot F n 1024 hn; omega) (by have := tot_le F 1024; omega) 58 #[] (fun _ _ => by kernel_rfl) (bdrop1_do (T := T) (r0 := (tot F 1024 : Nat) - (cnt (F n) 16 : Nat)) hn)
  have HS := Lib.hid (h.2.drop n)
  have HX := Lib.hid (tot_step F n (fun _ => false) hn)
  clear h hT hw
  go_enter Tryd.func37, Tryd.ntmps37
  go_wp2_with (first | (go_at_call 57; refine (C.out).mono ?_; rintro e w' ⟨rfl, nd, rfl⟩) | (go_at_call 54; refine (CA.out _).mono ?_; rintro e w' ⟨rfl, rfl⟩) | (go_at_call 55; refine (CH.out _).mono ?_; rintro e w5 ⟨⟨v, rfl⟩, h5, hf5⟩))
  go_ret
  refine ⟨rfl, ⟨?_, HS.out⟩, hf5.hd rfl rfl rfl rfl⟩
  rw [← HX.out]
  have hu : upp F n (fun _ => false) n = fun _ => false := if_pos rfl
  rw [hu] at h5
  exact h5
theorem bdrop_no (h : Book w bp per F T) (n : Nat) (hn : n < 1024) (hw : (T n && wh per F n) = false) :
    Calls Tryd.prog 37 #[.pointer (some ⟨bp, 0, none⟩), .int .i64 n] w fun e w' => e = .returned (.bool false) ∧ Fr [] w w' := by
  have C := Lib.hid (bwhole_any h n hn)
  rw [hw] at C
  clear h hw
  go_enter Tryd.func37, Tryd.ntmps37
  go_wp2_with (go_at_call 57; refine (C.out).mono ?_; rintro e w' ⟨rfl, nd, rfl⟩)
  go_ret
  exact ⟨rfl, (by repeat (first | exact Fr.refl _ _ | assumption | refine Fr.trans0 ?_ (by assumption) | refine Fr.drewN ?_ _ | refine Fr.alloc ?_ _ | refine Fr.drew ?_))⟩
theorem bdrop_bad (h : Book w bp per F T) (n : Int) (hn : n < 0 ∨ 1024 ≤ n) :
    Calls Tryd.prog 37 #[.pointer (some ⟨bp, 0, none⟩), .int .i64 n] w fun e w' => e = .returned (.bool false) ∧ Fr [] w w' := by
  have C := Lib.hid (bwhole_bad h n hn)
  clear h hn
  go_enter Tryd.func37, Tryd.ntmps37
  go_wp2_with (go_at_call 57; refine (C.out).mono ?_; rintro e w' ⟨rfl, nd, rfl⟩)
  go_ret
  exact ⟨rfl, (by repeat (first | exact Fr.refl _ _ | assumption | refine Fr.trans0 ?_ (by assumption) | refine Fr.drewN ?_ _ | refine Fr.alloc ?_ _ | refine Fr.drew ?_))⟩
theorem bdrop_nil (w : World) (n : Int) :
    Calls Tryd.prog 37 #[.pointer none, .int .i64 n] w fun e w' => e = .returned (.bool false) ∧ Fr [] w w' := by
  go_enter Tryd.func37, Tryd.ntmps37
  go_wp2_with (go_at_call 57; refine (bwhole_nil _ _).mono ?_; rintro e w' ⟨rfl, nd, rfl⟩)
  go_ret
  exact ⟨rfl, (by repeat (first | exact Fr.refl _ _ | assumption | refine Fr.trans0 ?_ (by assumption) | refine Fr.drewN ?_ _ | refine Fr.alloc ?_ _ | refine Fr.drew ?_))⟩
theorem bfree_any (h : Book w bp per F T) :
    Calls Tryd.prog 39 #[.pointer (some ⟨bp, 0, none⟩)] w fun e w' => e = .returned (.int .i64 (tot F 1024 : Nat)) ∧ w = w' := by
  have H := Lib.hid h
  have c := h.1.cf
  clear h
  go_enter Tryd.func39, Tryd.ntmps39
  go_wp2_with (go_at_call 60; refine (bnone_any H.out.1 H.out.2.1).mono ?_; rintro e w' ⟨rfl, rfl⟩)
  go_ret
  exact ⟨rfl, rfl⟩
theorem bfree_nil (w : World) :
    Calls Tryd.prog 39 #[.pointer none] w fun e w' => e = .returned (.int .i64 0) ∧ w = w' := by
  go_enter Tryd.func39, Tryd.ntmps39
  go_wp2_with (go_at_call 60; refine (bnone_nil _).mono ?_; rintro e w' ⟨rfl, rfl⟩)
  go_ret
  exact ⟨rfl, rfl⟩
end
end Go.Proofs.YtdbpmojblgmhdaaDoor
