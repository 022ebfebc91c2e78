/-
  What the functions of pages compute: a pool at block pp over a map of tags. Conditions: numbers fit an int.
-/


import Derived.Test.YtdbpmojblgmhdaaDoorTags
set_option linter.unusedVariables false
namespace Go.Proofs.YtdbpmojblgmhdaaDoor
open Go.ChangeShapes Go.WideShapes Go.ChangeAt Go.RowKit
/-! ### plain -/
def alls (f : Nat → Bool) (at_ : Nat) : Nat → Bool
  | 0 => true
  | r + 1 => alls f at_ r && f (at_ + r)
theorem alls_iff (f : Nat → Bool) (a : Nat) : ∀ r, alls f a r = true ↔ ∀ i, i < r → f (a + i) = true
  | 0 => by simp [alls]
  | r + 1 => by
    simp only [alls, Bool.and_eq_true, alls_iff f a r]
    constructor
    · rintro ⟨h1, h2⟩ i hi
      by_cases e : i = r
      · subst e; exact h2
      · exact h1 i (by omega)
    · intro h; exact ⟨fun i hi => h i (by omega), h r (by omega)⟩
def good (f : Nat → Bool) (n run al a : Nat) : Bool := decide (a % al = 0) && (decide (a + run ≤ n) && alls f a run)
def lstF (g : Nat → Bool) : Nat → Nat → Nat
  | 0, k => k
  | m + 1, k => if g k = true then k else lstF g m (k + 1)
def lst (g : Nat → Bool) (m : Nat) : Nat := lstF g m 0
theorem lstF_at (g : Nat → Bool) : ∀ m k a, k ≤ a → a < k + m → g a = true → (∀ j, k ≤ j → j < a → g j = false) → lstF g m k = a
  | 0, k, a, h1, h2, _, _ => by omega
  | m + 1, k, a, h1, h2, h3, h4 => by
    simp only [lstF]
    by_cases e : k = a
    · subst e; rw [if_pos h3]
    · rw [h4 k (by omega) (by omega), if_neg (by simp)]
      exact lstF_at g m (k + 1) a (by omega) (by omega) h3 fun j hj => h4 j (by omega)
theorem lstF_none (g : Nat → Bool) : ∀ m k, (∀ j, k ≤ j → j < k + m → g j = false) → lstF g m k = k + m
  | 0, k, _ => rfl
  | m + 1, k, h => by
    simp only [lstF]
    rw [h k (by omega) (by omega), if_neg (by simp), lstF_none g m (k + 1) fun j h1 h2 => h j (by omega) (by omega)]
    omega
theorem lst_at (g : Nat → Bool) (m a : Nat) (h1 : a < m) (h2 : g a = true) (h3 : ∀ j, j < a → g j = false) : lst g m = a := lstF_at g m 0 a (by omega) (by omega) h2 fun j _ hj => h3 j hj
theorem lst_none (g : Nat → Bool) (m : Nat) (h : ∀ j, j < m → g j = false) : lst g m = m := by have := lstF_none g m 0 fun j _ hj => h j (by omega); unfold lst; omega
theorem lst_cases (g : Nat → Bool) (m : Nat) : (lst g m < m ∧ g (lst g m) = true ∧ ∀ j, j < lst g m → g j = false) ∨ (lst g m = m ∧ ∀ j, j < m → g j = false) := by
  by_cases h : ∃ a, a < m ∧ g a = true ∧ ∀ j, j < a → g j = false
  · obtain ⟨a, h1, h2, h3⟩ := h
    rw [lst_at g m a h1 h2 h3]; exact .inl ⟨h1, h2, h3⟩
  · have key : ∀ j, j < m → g j = false := by
      intro j
      induction j using Nat.strongRecOn with
      | _ j ih =>
        intro hj
        cases e : g j with
        | false => rfl
        | true => exact (h ⟨j, hj, e, fun i hi => ih i hi (by omega)⟩).elim
    rw [lst_none g m key]; exact .inr ⟨rfl, key⟩
/-- Where a run fits; -1: nowhere. -/
def findI (f : Nat → Bool) (n : Nat) (run al : Int) : Int :=
  if run < 1 ∨ al < 1 ∨ (n : Int) < run then -1 else
  let a := lst (good f n run.toNat al.toNat) n
  if a < n then a else -1
theorem findI_at (f : Nat → Bool) (n run al a : Nat) (hr : 1 ≤ run) (hal : 1 ≤ al) (hn : run ≤ n) (h2 : good f n run al a = true) (h3 : ∀ j, j < a → good f n run al j = false) : findI f n run al = a := by
  unfold findI
  rw [if_neg (by omega)]
  simp only [Int.toNat_natCast]
  have hg := h2
  unfold good at hg
  simp only [Bool.and_eq_true, decide_eq_true_eq] at hg
  rw [lst_at _ n a (by omega) h2 h3, if_pos (by omega)]
theorem findI_none (f : Nat → Bool) (n run al : Nat) (hr : 1 ≤ run) (hal : 1 ≤ al) (hn : run ≤ n) (h : ∀ j, j < n → good f n run al j = false) : findI f n run al = -1 := by
  unfold findI
  rw [if_neg (by omega)]
  simp only [Int.toNat_natCast]
  rw [lst_none _ n h, if_neg (by omega)]
/-! ### the pool in memory -/
def Pl (w : World) (pp p g n : Nat) (f : Nat → Bool) : Prop := At w pp 86 #[.pointer (some ⟨p, 0, none⟩)] ∧ Tg w p g n f ∧ pp ≠ p ∧ pp ≠ g ∧ n ≤ 1024
section
variable {w w' v : World} {pp p g n : Nat} {f f' : Nat → Bool} {S : List Nat}
theorem Pl.c (h : Pl w pp p g n f) : w.cell? ⟨pp, 0, none⟩ = some (.pointer (some ⟨p, 0, none⟩)) := h.1.cell 0
theorem Pl.fr (h : Pl w pp p g n f) (hf : Fr S w w') (h1 : pp ∉ S) (h2 : p ∉ S) (h3 : g ∉ S) : Pl w' pp p g n f := ⟨h.1.fr hf h1, h.2.1.fr hf h2 h3, h.2.2⟩
theorem Pl.put (h : Pl w pp p g n f) (hf : Fr [g] w w') (ht : Tg w' p g n f') : Pl w' pp p g n f' := ⟨h.1.fr hf (by simp; exact h.2.2.2.1), ht, h.2.2⟩
theorem Pl.drewN (h : Pl w pp p g n f) (m : Nat) : Pl (w.drewN m) pp p g n f := ⟨h.1, h.2.1.drewN m, h.2.2⟩
end
theorem Pl.heap {w w' : World} {pp p g n : Nat} {f : Nat → Bool} (h : Pl w pp p g n f) (hv : w'.heap = w.heap) : Pl w' pp p g n f := by unfold Pl Tg At at *; rw [hv]; exact h
theorem none_any (w : World) (pp p g n : Nat) (f : Nat → Bool) (h : Pl w pp p g n f) :
    Calls Tryd.prog 44 #[.pointer (some ⟨pp, 0, none⟩)] w fun r w' => r = .returned (.bool false) ∧ w = w' := by
  have c := h.c
  go_enter Tryd.func44, Tryd.ntmps44
  go_wp2
  go_ret
  exact ⟨rfl, rfl⟩
theorem none_nil (w : World) : Calls Tryd.prog 44 #[.pointer none] w fun r w' => r = .returned (.bool true) ∧ w = w' := by
  go_enter Tryd.func44, Tryd.ntmps44
  go_wp2
  go_ret
  exact ⟨rfl, rfl⟩
theorem find_bad (w : World) (pp p g n : Nat) (f : Nat → Bool) (h : Pl w pp p g n f) (run al : Int) (hb : run < 1 ∨ al < 1 ∨ (n : Int) < run) :
    Calls Tryd.prog 52 #[.pointer (some ⟨pp, 0, none⟩), .int .i64 run, .int .i64 al] w fun r w' => r = .returned (.int .i64 (findI f n run al)) ∧ w = w' := by
  rw [show findI f n run al = -1 by unfold findI; rw [if_pos hb]]
  have c := h.c
  have H := Lib.hid h
  clear h
  by_cases h1 : run < 1
  · clear hb
    go_enter Tryd.func52, Tryd.ntmps52
    go_wp2
    go_step3
    go_wp2_with (first | (go_at_call 44; refine (none_any _ _ _ _ _ _ H.out).mono ?_; rintro e w' ⟨rfl, rfl⟩) | (go_at_call 45; refine (len_any _ _ _ _ _ H.out.2.1).mono ?_; rintro e w' ⟨rfl, rfl⟩))
    (try rw [Exit.noGoto_ret])
    go_ret
    exact ⟨rfl, rfl⟩
  · by_cases h2 : al < 1
    · clear hb
      go_enter Tryd.func52, Tryd.ntmps52
      go_wp2
      go_step3
      go_wp2_with (first | (go_at_call 44; refine (none_any _ _ _ _ _ _ H.out).mono ?_; rintro e w' ⟨rfl, rfl⟩) | (go_at_call 45; refine (len_any _ _ _ _ _ H.out.2.1).mono ?_; rintro e w' ⟨rfl, rfl⟩))
      (try rw [Exit.noGoto_ret])
      go_ret
      exact ⟨rfl, rfl⟩
    · have h3 : (n : Int) < run := by omega
      clear hb
      go_enter Tryd.func52, Tryd.ntmps52
      go_wp2
      go_step3
      go_wp2_with (first | (go_at_call 44; refine (none_any _ _ _ _ _ _ H.out).mono ?_; rintro e w' ⟨rfl, rfl⟩) | (go_at_call 45; refine (len_any _ _ _ _ _ H.out.2.1).mono ?_; rintro e w' ⟨rfl, rfl⟩))
      (try rw [Exit.noGoto_ret])
      go_ret
      exact ⟨rfl, rfl⟩
theorem find_ok (w : World) (pp p g n : Nat) (f : Nat → Bool) (h : Pl w pp p g n f) (run al : Nat) (hr : 1 ≤ run) (hal : 1 ≤ al) (hal2 : (al : Int) ≤ 9223372036854775807) (hn : run ≤ n) :
    Calls Tryd.prog 52 #[.pointer (some ⟨pp, 0, none⟩), .int .i64 run, .int .i64 al] w fun r w' => r = .returned (.int .i64 (findI f n run al)) ∧ w = w' := by
  have c := h.c
  have hn1 := h.2.2.2.2
  have H := Lib.hid h
  clear h
  have hd1 : decide ((run : Int) < 1) = false := by simp; omega
  have hd2 : decide ((al : Int) < 1) = false := by simp; omega
  have hd3 : decide (n < run) = false := by simp; omega
  go_enter Tryd.func52, Tryd.ntmps52
  go_wp2
  go_step3
  go_wp2_with (first | (go_at_call 44; refine (none_any _ _ _ _ _ _ H.out).mono ?_; rintro e w' ⟨rfl, rfl⟩) | (go_at_call 45; refine (len_any _ _ _ _ _ H.out.2.1).mono ?_; rintro e w' ⟨rfl, rfl⟩))
  go_step3
  go_wp2_with (first | (go_at_call 44; refine (none_any _ _ _ _ _ _ H.out).mono ?_; rintro e w' ⟨rfl, rfl⟩) | (go_at_call 45; refine (len_any _ _ _ _ _ H.out.2.1).mono ?_; rintro e w' ⟨rfl, rfl⟩))
  go_loop [7] (fun i => ∃ a : Nat, i = .int .i64 a ∧ a % al = 0 ∧ (∀ j, j < a → good f n run al j = false)) (fun i => n + 1 - (intOf i).toNat)
  case atStart => exact ⟨0, rfl, by simp, fun j hj => by omega⟩
  case round =>
    obtain ⟨a, rfl, ham, hno⟩ := hrel
    have Ham := Lib.hid ham
    have Hno := Lib.hid hno
    clear hno
    by_cases hle : (a : Int) ≤ n - run
    · have hal3 : (a : Int) + al ≤ 9223372036854775807 := by
        by_cases h0 : a = 0
        · omega
        · have h1 := Nat.div_add_mod a al
          rw [ham, Nat.add_zero] at h1
          have h2 : 1 ≤ a / al := by
            rcases Nat.eq_zero_or_pos (a / al) with e | e
            · rw [e, Nat.mul_zero] at h1; omega
            · exact e
          have h3 : al * 1 ≤ al * (a / al) := Nat.mul_le_mul_left _ h2
          omega
      clear ham
      go_wp2_with (first | (go_at_call 45; refine (len_any _ _ _ _ _ H.out.2.1).mono ?_; rintro e w' ⟨rfl, rfl⟩))
      go_loop [43] (fun i => ∃ t : Nat, t ≤ run ∧ i = .int .i64 t ∧ alls f a t = true) (fun i => run - (intOf i).toNat)
      case atStart => exact ⟨0, by omega, rfl, rfl⟩
      case round =>
        obtain ⟨t, ht, rfl, hall⟩ := hrel
        have Hall := Lib.hid hall
        clear hall
        by_cases htr : t < run
        · cases hft : f (a + t)
          · have C := Lib.hid (get_any w p g n f H.out.2.1 (a + t))
            rw [show (inR (a + t) n && f ((a : Int) + t).toNat) = false by rw [show ((a : Int) + t).toNat = a + t by omega, hft]; simp] at C
            have Hf := Lib.hid hft
            clear hft
            go_wp2_with (go_at_call 75; refine (C.out).mono ?_; rintro e w' ⟨rfl, rfl⟩)
            go_round
            case rel =>
              refine ⟨a + al, by go_num, by rw [Nat.add_mod_right]; exact Ham.out, fun j hj => ?_⟩
              by_cases e1 : j < a
              · exact Hno.out j e1
              · by_cases e2 : j = a
                · subst e2
                  have : alls f j run = false := by
                    cases e3 : alls f j run with
                    | false => rfl
                    | true => have := (alls_iff f j run).1 e3 t htr; rw [Hf.out] at this; cases this
                  unfold good; rw [this]; simp
                · have : ¬ j % al = 0 := by
                    intro e3
                    have q1 := Nat.div_add_mod a al
                    have q2 := Nat.div_add_mod j al
                    have h5 : al * (a / al) < al * (j / al) := by have := Ham.out; omega
                    have h6 : a / al < j / al := Nat.lt_of_mul_lt_mul_left h5
                    have h7 : al * (a / al + 1) ≤ al * (j / al) := Nat.mul_le_mul_left _ h6
                    rw [Nat.mul_add] at h7
                    have := Ham.out
                    omega
                  unfold good; simp [this]
            case measure => simp [intOf]; omega
          · have C := Lib.hid (get_any w p g n f H.out.2.1 (a + t))
            rw [show (inR (a + t) n && f ((a : Int) + t).toNat) = true by rw [show ((a : Int) + t).toNat = a + t by omega, hft]; simp [inR]; omega] at C
            have Hf := Lib.hid hft
            clear hft
            go_wp2_with (go_at_call 75; refine (C.out).mono ?_; rintro e w' ⟨rfl, rfl⟩)
            go_round
            case rel => exact ⟨t + 1, by omega, by go_num, by simp only [alls, Hall.out, Hf.out]; rfl⟩
            case measure => simp [intOf]; omega
        · obtain rfl : t = run := by omega
          go_wp2
          go_ret
          have hg : good f n t al a = true := by unfold good; simp [Ham.out, Hall.out]; omega
          exact ⟨ret_int (findI_at f n t al a hr hal hn hg Hno.out).symm, rfl⟩
    · go_wp2_with (first | (go_at_call 45; refine (len_any _ _ _ _ _ H.out.2.1).mono ?_; rintro e w' ⟨rfl, rfl⟩))
      rw [Exit.noGoto_ret]
      go_ret
      refine ⟨ret_int (findI_none f n run al hr hal hn fun j hj => ?_).symm, rfl⟩
      by_cases e : j < a
      · exact Hno.out j e
      · unfold good; simp; omega
theorem find_any (w : World) (pp p g n : Nat) (f : Nat → Bool) (h : Pl w pp p g n f) (run al : Int) (hal2 : al ≤ 9223372036854775807) :
    Calls Tryd.prog 52 #[.pointer (some ⟨pp, 0, none⟩), .int .i64 run, .int .i64 al] w fun r w' => r = .returned (.int .i64 (findI f n run al)) ∧ w = w' := by
  by_cases hb : run < 1 ∨ al < 1 ∨ (n : Int) < run
  · exact find_bad w pp p g n f h run al hb
  · obtain ⟨R, rfl⟩ := Int.eq_ofNat_of_zero_le (show 0 ≤ run by omega)
    obtain ⟨A, rfl⟩ := Int.eq_ofNat_of_zero_le (show 0 ≤ al by omega)
    exact find_ok w pp p g n f h R A (by omega) (by omega) hal2 (by omega)
theorem find_nil (w : World) (run al : Int) :
    Calls Tryd.prog 52 #[.pointer none, .int .i64 run, .int .i64 al] w fun r w' => r = .returned (.int .i64 (-1)) ∧ w = w' := by
  go_enter Tryd.func52, Tryd.ntmps52
  go_wp2
  go_step3
  go_wp2_with (go_at_call 44; refine (none_nil _).mono ?_; rintro e w' ⟨rfl, rfl⟩)
  (try rw [Exit.noGoto_ret])
  go_ret
  exact ⟨rfl, rfl⟩
theorem findI_range (f : Nat → Bool) (n : Nat) (run al : Int) : findI f n run al = -1 ∨ ∃ a : Nat, findI f n run al = a ∧ 1 ≤ run ∧ 1 ≤ al ∧ a < n ∧ (a : Int) + run ≤ n ∧ good f n run.toNat al.toNat a = true ∧ ∀ j, j < a → good f n run.toNat al.toNat j = false := by
  unfold findI
  by_cases hb : run < 1 ∨ al < 1 ∨ (n : Int) < run
  · rw [if_pos hb]; exact .inl rfl
  · rw [if_neg hb]
    simp only
    rcases lst_cases (good f n run.toNat al.toNat) n with ⟨h1, h2, h3⟩ | ⟨h1, h2⟩
    · rw [if_pos h1]
      generalize lst (good f n run.toNat al.toNat) n = a at *
      refine .inr ⟨a, rfl, by omega, by omega, h1, ?_, h2, h3⟩
      unfold good at h2
      simp only [Bool.and_eq_true, decide_eq_true_eq] at h2
      obtain ⟨_, h5, _⟩ := h2
      omega
    · rw [h1, if_neg (by omega)]; exact .inl rfl
theorem findI_no (f : Nat → Bool) (n run al : Nat) (h1 : 1 ≤ run) (h2 : 1 ≤ al) (h : findI f n run al = -1) (j : Nat) : good f n run al j = false := by
  by_cases hn : run ≤ n
  · unfold findI at h
    rw [if_neg (by omega)] at h
    simp only [Int.toNat_natCast] at h
    rcases lst_cases (good f n run al) n with ⟨h3, _, _⟩ | ⟨h3, h4⟩
    · rw [if_pos h3] at h; omega
    · by_cases hj : j < n
      · exact h4 j hj
      · unfold good; simp; omega
  · unfold good; simp; omega
theorem take_no (w : World) (pp p g n : Nat) (f : Nat → Bool) (h : Pl w pp p g n f) (run al : Int) (hal2 : al ≤ 9223372036854775807) (hf : findI f n run al = -1) :
    Calls Tryd.prog 31 #[.pointer (some ⟨pp, 0, none⟩), .int .i64 run, .int .i64 al] w fun r w' => r = .returned (.tuple #[.int .i64 0, .bool false]) ∧ w = w' := by
  have C := Lib.hid (find_any w pp p g n f h run al hal2)
  rw [hf] at C
  clear hf
  go_enter Tryd.func31, Tryd.ntmps31
  go_wp2_with (go_at_call 52; refine (C.out).mono ?_; rintro e w' ⟨rfl, rfl⟩)
  go_ret2
  exact ⟨rfl, rfl⟩
theorem take_yes (w : World) (pp p g n : Nat) (f : Nat → Bool) (h : Pl w pp p g n f) (run a : Nat) (al : Int) (hal2 : al ≤ 9223372036854775807) (hf : findI f n run al = a) (har : a + run ≤ n) :
    Calls Tryd.prog 31 #[.pointer (some ⟨pp, 0, none⟩), .int .i64 run, .int .i64 al] w fun r w' => r = .returned (.tuple #[.int .i64 a, .bool true]) ∧ Pl w' pp p g n (clr f a (a + run)) ∧ Fr [g] w w' := by
  have C := Lib.hid (find_any w pp p g n f h run al hal2)
  rw [hf] at C
  have hn1 := h.2.2.2.2
  have c := h.c
  have C2 := Lib.hid (clear_any w p g n f h.2.1 a (a + run))
  have H := Lib.hid h
  rw [show (max (a : Int) 0).toNat = a by omega, show (min ((a : Int) + run) n).toNat = a + run by omega] at C2
  clear hf h
  go_enter Tryd.func31, Tryd.ntmps31
  go_wp2_with (first | (go_at_call 52; refine (C.out).mono ?_; rintro e w' ⟨rfl, rfl⟩) | (go_at_call 53; refine (C2.out).mono ?_; rintro e w2 ⟨rfl, h2, hf2⟩))
  go_ret2
  exact ⟨rfl, H.out.put hf2 h2, hf2⟩
theorem pcount_any (w : World) (pp p g n : Nat) (f : Nat → Bool) (h : Pl w pp p g n f) :
    Calls Tryd.prog 38 #[.pointer (some ⟨pp, 0, none⟩)] w fun r w' => r = .returned (.int .i64 (cnt f n)) ∧ w = w' := by
  have c := h.c
  have H := Lib.hid h
  have C := Lib.hid (count_any w p g n f h.2.1)
  clear h
  go_enter Tryd.func38, Tryd.ntmps38
  go_wp2_with (first | (go_at_call 44; refine (none_any _ _ _ _ _ _ H.out).mono ?_; rintro e w' ⟨rfl, rfl⟩) | (go_at_call 59; refine (C.out).mono ?_; rintro e w' ⟨rfl, rfl⟩))
  go_ret
  exact ⟨rfl, rfl⟩
theorem pcount_nil (w : World) : Calls Tryd.prog 38 #[.pointer none] w fun r w' => r = .returned (.int .i64 0) ∧ w = w' := by
  go_enter Tryd.func38, Tryd.ntmps38
  go_wp2_with (go_at_call 44; refine (none_nil _).mono ?_; rintro e w' ⟨rfl, rfl⟩)
  go_ret
  exact ⟨rfl, rfl⟩
theorem pnew_any (n : Nat) (w : World) (hn : n ≤ 1024) :
    Calls Tryd.prog 22 #[.int .i64 n] w fun r w' => ∃ pp p g, r = .returned (.pointer (some ⟨pp, 0, none⟩)) ∧ Pl w' pp p g n (fun _ => false) ∧ w.heap.size ≤ pp ∧ w.heap.size ≤ p ∧ w.heap.size ≤ g ∧ Fr [] w w' := by
  go_enter Tryd.func22, Tryd.ntmps22
  go_wp2_with (go_at_call 43; refine (new_any n _ (by omega)).mono ?_; rintro e w2 ⟨p, g, rfl, h2, hp, hg, hf2⟩)
  go_ret
  have hs := hf2.size
  have hl := h2.lt
  exact ⟨w2.heap.size, p, g, rfl, ⟨At.new _ _ _, h2.fr (S := []) ((Fr.refl _ _).alloc _) (by simp) (by simp), by omega, by omega, hn⟩, hs, hp, hg, hf2.alloc _⟩
theorem pnew_bad (n : Int) (w : World) (hn : n < 0 ∨ 1024 < n) :
    Calls Tryd.prog 22 #[.int .i64 n] w fun r w' => r = .returned (.pointer none) ∧ w = w' := by
  rcases hn with h | h
  · go_enter Tryd.func22, Tryd.ntmps22
    go_wp2
    go_ret
    exact ⟨rfl, rfl⟩
  · have h2 : 0 ≤ n := by omega
    go_enter Tryd.func22, Tryd.ntmps22
    go_wp2
    go_ret
    exact ⟨rfl, rfl⟩
def setr (f : Nat → Bool) (a r : Nat) : Nat → Bool := fun i => f i || (decide (a ≤ i) && decide (i < a + r))
theorem setr_zero (f : Nat → Bool) (a : Nat) : setr f a 0 = f := funext fun i => by unfold setr; simp; omega
theorem setr_succ (f : Nat → Bool) (a r : Nat) : upd (setr f a r) (a + r) true = setr f a (r + 1) := funext fun i => by
  unfold upd setr
  by_cases e : i = a + r
  · subst e; simp
  · rw [if_neg e]
    congr 2
    rw [decide_eq_decide]; omega
/-- May pages be put there? -/
def okPut (f : Nat → Bool) (n : Nat) (a r : Int) : Bool := decide (0 ≤ a) && (decide (1 ≤ r) && (decide (a + r ≤ n) && decide (hit f n a (a + r) = 0)))
theorem pput_no (w : World) (pp p g n : Nat) (f : Nat → Bool) (h : Pl w pp p g n f) (a r : Int) (hr : r ≤ 9223372036854775807) (hk : okPut f n a r = false) :
    Calls Tryd.prog 23 #[.pointer (some ⟨pp, 0, none⟩), .int .i64 a, .int .i64 r] w fun e w' => e = .returned (.bool false) ∧ ∃ m, w' = w.drewN m := by
  have c := h.c
  have hn1 := h.2.2.2.2
  have H := Lib.hid h
  by_cases h1 : a < 0
  · clear h hk
    go_enter Tryd.func23, Tryd.ntmps23
    go_wp2_with (first | (go_at_call 44; refine (none_any _ _ _ _ _ _ H.out).mono ?_; rintro e w' ⟨rfl, rfl⟩) | (go_at_call 45; refine (len_any _ _ _ _ _ H.out.2.1).mono ?_; rintro e w' ⟨rfl, rfl⟩))
    go_ret
    exact ⟨rfl, 0, rfl⟩
  · by_cases h2 : r < 1
    · clear h hk
      go_enter Tryd.func23, Tryd.ntmps23
      go_wp2_with (first | (go_at_call 44; refine (none_any _ _ _ _ _ _ H.out).mono ?_; rintro e w' ⟨rfl, rfl⟩) | (go_at_call 45; refine (len_any _ _ _ _ _ H.out.2.1).mono ?_; rintro e w' ⟨rfl, rfl⟩))
      go_ret
      exact ⟨rfl, 0, rfl⟩
    · by_cases h3 : (n : Int) < r
      · clear h hk
        go_enter Tryd.func23, Tryd.ntmps23
        go_wp2_with (first | (go_at_call 44; refine (none_any _ _ _ _ _ _ H.out).mono ?_; rintro e w' ⟨rfl, rfl⟩) | (go_at_call 45; refine (len_any _ _ _ _ _ H.out.2.1).mono ?_; rintro e w' ⟨rfl, rfl⟩))
        go_ret
        exact ⟨rfl, 0, rfl⟩
      · by_cases h4 : (n : Int) - r < a
        · clear h hk
          go_enter Tryd.func23, Tryd.ntmps23
          go_wp2_with (first | (go_at_call 44; refine (none_any _ _ _ _ _ _ H.out).mono ?_; rintro e w' ⟨rfl, rfl⟩) | (go_at_call 45; refine (len_any _ _ _ _ _ H.out.2.1).mono ?_; rintro e w' ⟨rfl, rfl⟩))
          go_ret
          exact ⟨rfl, 0, rfl⟩
        · have C := Lib.hid (any_any w p g n f h.2.1 a (a + r))
          have hh : decide (0 < hit f n a (a + r)) = true := by
            unfold okPut at hk
            rw [decide_eq_true (show 0 ≤ a by omega), decide_eq_true (show 1 ≤ r by omega), decide_eq_true (show a + r ≤ n by omega)] at hk
            simp at hk
            simp; omega
          rw [hh] at C
          clear h hk hh
          go_enter Tryd.func23, Tryd.ntmps23
          go_wp2_with (first | (go_at_call 44; refine (none_any _ _ _ _ _ _ H.out).mono ?_; rintro e w' ⟨rfl, rfl⟩) | (go_at_call 45; refine (len_any _ _ _ _ _ H.out.2.1).mono ?_; rintro e w' ⟨rfl, rfl⟩) | (go_at_call 46; refine (C.out).mono ?_; rintro e w' ⟨rfl, m, rfl⟩))
          go_ret
          exact ⟨rfl, _, rfl⟩
theorem pput_yes (w : World) (pp p g n : Nat) (f : Nat → Bool) (h : Pl w pp p g n f) (a r : Nat) (hk : okPut f n a r = true) :
    Calls Tryd.prog 23 #[.pointer (some ⟨pp, 0, none⟩), .int .i64 a, .int .i64 r] w fun e w' => e = .returned (.bool true) ∧ Pl w' pp p g n (setr f a r) ∧ Fr [g] w w' := by
  have c := h.c
  have hn1 := h.2.2.2.2
  have H := Lib.hid h
  have C := Lib.hid (any_any w p g n f h.2.1 a (a + r))
  unfold okPut at hk
  simp only [Bool.and_eq_true, decide_eq_true_eq] at hk
  obtain ⟨h1, h2, h3, h4⟩ := hk
  rw [h4] at C
  clear h h4
  have hd1 : decide ((a : Int) < 0) = false := by simp
  have hd2 : decide ((r : Int) < 1) = false := by simp; omega
  have hd3 : decide (n < r) = false := by simp; omega
  have hd4 : decide ((n : Int) - r < a) = false := by simp; omega
  go_enter Tryd.func23, Tryd.ntmps23
  go_wp2_with (first | (go_at_call 44; refine (none_any _ _ _ _ _ _ H.out).mono ?_; rintro e w' ⟨rfl, rfl⟩) | (go_at_call 45; refine (len_any _ _ _ _ _ H.out.2.1).mono ?_; rintro e w' ⟨rfl, rfl⟩) | (go_at_call 46; refine (C.out).mono ?_; rintro e w' ⟨rfl, m, rfl⟩))
  go_loopw [53] (fun i wr => ∃ t : Nat, t ≤ r ∧ i = .int .i64 t ∧ Pl wr pp p g n (setr f a t) ∧ Fr [g] w wr) (fun i _ => r - (intOf i).toNat)
  case atStart => exact ⟨0, by omega, rfl, by rw [setr_zero]; exact H.out.drewN _, (Fr.refl _ _).drewN _⟩
  case round =>
    obtain ⟨t, ht, rfl, hp, hf⟩ := hrel
    have HP := Lib.hid hp
    have cr := hp.c
    clear hp
    by_cases htr : t < r
    · have C2 := Lib.hid (put_yes wr p g n _ HP.out.2.1 (a + t) true (by omega))
      rw [setr_succ] at C2
      go_wp2_with (go_at_call 47; refine (C2.out).mono ?_; rintro e w5 ⟨rfl, h5, hf5⟩)
      go_roundw
      case rel => exact ⟨t + 1, by omega, by go_num, HP.out.put hf5 h5, hf.trans hf5 (by simp)⟩
      case measure => simp [intOf]; omega
    · obtain rfl : t = r := by omega
      go_wp2
      go_ret
      exact ⟨rfl, HP.out, hf⟩
end Go.Proofs.YtdbpmojblgmhdaaDoor
