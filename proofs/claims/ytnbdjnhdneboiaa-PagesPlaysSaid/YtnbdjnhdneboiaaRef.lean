/-
  What the reference of layer 12 computes: a list of truths at block q. Conditions: at most 1024 pages.
-/

import Derived.Test.YtnbdjnhdneboiaaPool
set_option linter.unusedVariables false
namespace Go.Proofs.Ytnbdjnhdneboiaa
open Go.ChangeShapes Go.WideShapes Go.ChangeAt Go.RowKit
def barr (n : Nat) (f : Nat → Bool) : Array Value := ((List.range n).map fun k => Value.bool (f k)).toArray
theorem barr_get (n : Nat) (f : Nat → Bool) (k : Nat) (h : k < n) : (barr n f)[k]? = some (.bool (f k)) := by
  unfold barr
  simp [List.getElem?_map, List.getElem?_range h]
theorem barr_size (n : Nat) (f : Nat → Bool) : (barr n f).size = n := by simp [barr]
theorem barr_set (n : Nat) (f : Nat → Bool) (i : Nat) (b : Bool) : (barr n f).setIfInBounds i (.bool b) = barr n (upd f i b) := by
  refine Array.ext_getElem? fun j => ?_
  rw [Array.getElem?_setIfInBounds]
  by_cases hj : j < n
  · rw [barr_get _ _ _ hj, barr_get _ _ _ hj, barr_size]
    unfold upd
    by_cases e : i = j
    · subst e; simp [hj]
    · rw [if_neg e, if_neg (fun h => e h.symm)]
  · have h1 : ∀ g, (barr n g)[j]? = none := fun g => Array.getElem?_eq_none (by rw [barr_size]; omega)
    rw [h1, h1, barr_size]
    by_cases e : i = j
    · subst e; simp [hj]
    · rw [if_neg e]
theorem barr_new (n : Nat) : barr n (fun _ => false) = Array.replicate n (Value.bool false) := by
  refine Array.ext_getElem? fun j => ?_
  by_cases hj : j < n
  · rw [barr_get _ _ _ hj]; simp [hj]
  · rw [Array.getElem?_eq_none (by rw [barr_size]; omega), Array.getElem?_eq_none (by simp; omega)]
def Rf (w : World) (q n : Nat) (f : Nat → Bool) : Prop := At w q 4 (barr n f) ∧ n ≤ 1024
theorem Rf.heap {w w' : World} {q n : Nat} {f : Nat → Bool} (h : Rf w q n f) (hv : w'.heap = w.heap) : Rf w' q n f := by unfold Rf At at *; rw [hv]; exact h
theorem infoB : (Try.prog.info? 4).map (fun i => (i.zero, i.size, i.bytes)) = some (some (.bool false), 1, 1) := by kernel_rfl
theorem rnew_yes (n : Nat) (w : World) (hn : n ≤ 1024) :
    Calls Try.prog 14 #[.int .i64 n] w fun r w' => ∃ q, r = .returned (.tuple #[.slice (some ⟨q, 0, none⟩) n n, .bool true]) ∧ Rf w' q n (fun _ => false) ∧ w.heap.size ≤ q ∧ Fr [] w w' := by
  have hmk := run_make_row' (P := Try.prog) 37 4 (.bool false) 1 Try.underlying37 infoB rfl .i64 .i64 n (by omega) (by omega)
  go_enter Try.func14, Try.ntmps14
  go_wp2
  go_ret2
  refine ⟨w.heap.size, rfl, ⟨?_, hn⟩, Nat.le_refl _, (Fr.refl _ _).alloc _⟩
  rw [barr_new, ← made_rep]
  exact At.new _ _ _
theorem rnew_no (n : Int) (w : World) (hn : n < 0 ∨ 1024 < n) :
    Calls Try.prog 14 #[.int .i64 n] w fun r w' => r = .returned (.tuple #[.slice none 0 0, .bool false]) ∧ w = w' := by
  rcases hn with h | h
  · go_enter Try.func14, Try.ntmps14
    go_wp2
    go_ret2
    exact ⟨rfl, rfl⟩
  · have h2 : 0 ≤ n := by omega
    go_enter Try.func14, Try.ntmps14
    go_wp2
    go_ret2
    exact ⟨rfl, rfl⟩
theorem rfits_any (w : World) (q n : Nat) (f : Nat → Bool) (h : Rf w q n f) (a : Nat) (run : Int) (hr : run ≤ 9223372036854775807) (ha : a < n) :
    Calls Try.prog 29 #[.slice (some ⟨q, 0, none⟩) n n, .int .i64 a, .int .i64 run] w fun r w' => r = .returned (.bool (decide (1 ≤ run) && (decide ((a : Int) + run ≤ n) && alls f a run.toNat))) ∧ w = w' := by
  have hn := h.2
  have hc := Lib.hid fun k hk => (h.1.cell k).trans (barr_get n f k hk)
  clear h
  by_cases h1 : run < 1
  · have e : decide (1 ≤ run) = false := by simp; omega
    rw [e, Bool.false_and]
    clear e
    go_enter Try.func29, Try.ntmps29
    go_wp2
    go_ret
    exact ⟨rfl, rfl⟩
  · by_cases h2 : (a : Int) + run ≤ n
    · obtain ⟨R, rfl⟩ := Int.eq_ofNat_of_zero_le (show 0 ≤ run by omega)
      have e : (decide (1 ≤ (R : Int)) && (decide ((a : Int) + R ≤ n) && alls f a (R : Int).toNat)) = alls f a R := by
        rw [decide_eq_true h2, decide_eq_true (show 1 ≤ (R : Int) by omega)]; simp
      rw [e]
      clear e
      have hd1 : decide ((R : Int) < 1) = false := by simp; omega
      have hd2 : decide (n < R) = false := by simp; omega
      have hd3 : decide ((n : Int) - R < a) = false := by simp; omega
      go_enter Try.func29, Try.ntmps29
      go_wp2
      go_loop [7] (fun i => ∃ t : Nat, t ≤ R ∧ i = .int .i64 ((a + t : Nat) : Int) ∧ alls f a t = true) (fun i => a + R - (intOf i).toNat)
      case atStart => exact ⟨0, by omega, by simp, rfl⟩
      case round =>
        obtain ⟨t, ht, rfl, hall⟩ := hrel
        have Hall := Lib.hid hall
        clear hall
        by_cases htr : t < R
        · have hct := hc.out (a + t) (by omega)
          cases hft : f (a + t)
          · rw [hft] at hct
            have HF := Lib.hid hft
            clear hft
            go_wp2
            go_ret
            refine ⟨ret_bool ?_, rfl⟩
            cases e3 : alls f a R with
            | false => rfl
            | true => have := (alls_iff f a R).1 e3 t htr; rw [HF.out] at this; cases this
          · rw [hft] at hct
            have HF := Lib.hid hft
            clear hft
            go_wp2
            go_round
            case rel => exact ⟨t + 1, by omega, by go_num, by simp only [alls, Hall.out, HF.out]; rfl⟩
            case measure => simp [intOf]; omega
        · obtain rfl : t = R := by omega
          go_wp2
          go_ret
          exact ⟨ret_bool Hall.out.symm, rfl⟩
    · have e : decide ((a : Int) + run ≤ n) = false := by simp; omega
      rw [e, Bool.false_and, Bool.and_false]
      clear e
      by_cases h3 : (n : Int) < run
      · go_enter Try.func29, Try.ntmps29
        go_wp2
        go_ret
        exact ⟨rfl, rfl⟩
      · go_enter Try.func29, Try.ntmps29
        go_wp2
        go_ret
        exact ⟨rfl, rfl⟩
def atI (x : Int) : Int := if x = -1 then 0 else x
def isI (x : Int) : Bool := decide (0 ≤ x)
theorem atI_yes (a : Nat) : atI a = a ∧ isI a = true := by unfold atI isI; rw [if_neg (by omega)]; simp
theorem findI_big (f : Nat → Bool) (n run al a : Nat) (h : findI f n run al = a) : 1 ≤ run ∧ 1 ≤ al ∧ run ≤ n ∧ a < n ∧ a + run ≤ n ∧ good f n run al a = true ∧ ∀ j, j < a → good f n run al j = false := by
  rcases findI_range f n run al with h1 | ⟨b, h1, h2, h3, h4, h5, h6, h7⟩
  · omega
  · obtain rfl : a = b := by omega
    simp only [Int.toNat_natCast] at h6 h7
    refine ⟨by omega, by omega, by omega, h4, by omega, h6, h7⟩
theorem rfind_bad (w : World) (q n : Nat) (f : Nat → Bool) (h : Rf w q n f) (run al : Int) (hb : run < 1 ∨ al < 1) :
    Calls Try.prog 17 #[.slice (some ⟨q, 0, none⟩) n n, .int .i64 run, .int .i64 al] w fun r w' => r = .returned (.tuple #[.int .i64 0, .bool false]) ∧ w = w' := by
  by_cases h1 : run < 1
  · go_enter Try.func17, Try.ntmps17
    go_wp2
    go_ret2
    exact ⟨rfl, rfl⟩
  · have h2 : al < 1 := by omega
    go_enter Try.func17, Try.ntmps17
    go_wp2
    go_ret2
    exact ⟨rfl, rfl⟩
/-- Find, as the program's own find. -/
theorem rfind_ok (w : World) (q n : Nat) (f : Nat → Bool) (h : Rf w q n f) (run al : Nat) (hr : (run : Int) ≤ 9223372036854775807) (hr1 : 1 ≤ run) (hal : 1 ≤ al) :
    Calls Try.prog 17 #[.slice (some ⟨q, 0, none⟩) n n, .int .i64 run, .int .i64 al] w fun r w' => r = .returned (.tuple #[.int .i64 (atI (findI f n run al)), .bool (isI (findI f n run al))]) ∧ w = w' := by
  have hn := h.2
  have hd1 : decide ((run : Int) < 1) = false := by simp; omega
  have hd2 : decide ((al : Int) < 1) = false := by simp; omega
  have halz : ¬ al = 0 := by omega
  have halz1 : ((al : Int) == 0) = false := by simp; omega
  have H := Lib.hid h
  clear h
  go_enter Try.func17, Try.ntmps17
  go_wp2
  go_loop [8] (fun i => ∃ a : Nat, a ≤ n ∧ i = .int .i64 a ∧ ∀ j, j < a → good f n run al j = false) (fun i => n - (intOf i).toNat)
  case atStart => exact ⟨0, by omega, rfl, fun j hj => by omega⟩
  case round =>
    obtain ⟨a, ha, rfl, hno⟩ := hrel
    have Hno := Lib.hid hno
    clear hno
    by_cases han : a < n
    · have hdm : ((a : Int) % al == 0) = decide (a % al = 0) := by
        rw [show ((a : Int) % al) = ((a % al : Nat) : Int) by simp, Bool.eq_iff_iff]; simp; omega
      by_cases hm : a % al = 0
      · rw [decide_eq_true hm] at hdm
        have C := Lib.hid (rfits_any w q n f H.out a run hr han)
        have hg : (decide (1 ≤ (run : Int)) && (decide ((a : Int) + run ≤ n) && alls f a (run : Int).toNat)) = good f n run al a := by
          unfold good
          rw [decide_eq_true (show 1 ≤ (run : Int) by omega), decide_eq_true hm, Int.toNat_natCast]
          simp only [Bool.true_and]
          congr 1
          rw [decide_eq_decide]; omega
        rw [hg] at C
        clear hg
        cases hgd : good f n run al a
        · rw [hgd] at C
          have Hgd := Lib.hid hgd
          clear hgd hm
          go_wp2_with (go_at_call 29; refine (C.out).mono ?_; rintro e w' ⟨rfl, rfl⟩)
          go_round
          case rel =>
            refine ⟨a + 1, by omega, by go_num, fun j hj => ?_⟩
            by_cases e : j = a
            · subst e; exact Hgd.out
            · exact Hno.out j (by omega)
          case measure => simp [intOf]; omega
        · rw [hgd] at C
          have hrn : run ≤ n := by
            unfold good at hgd
            simp only [Bool.and_eq_true, decide_eq_true_eq] at hgd
            omega
          have HF := Lib.hid (findI_at f n run al a hr1 hal hrn hgd Hno.out)
          clear hgd hm
          go_wp2_with (go_at_call 29; refine (C.out).mono ?_; rintro e w' ⟨rfl, rfl⟩)
          go_ret2
          refine ⟨?_, rfl⟩
          rw [HF.out, (atI_yes a).1, (atI_yes a).2]
          rfl
      · rw [decide_eq_false hm] at hdm
        have Hm := Lib.hid hm
        clear hm
        go_wp2
        go_round
        case rel =>
          refine ⟨a + 1, by omega, by go_num, fun j hj => ?_⟩
          by_cases e : j = a
          · subst e; unfold good; simp [Hm.out]
          · exact Hno.out j (by omega)
        case measure => simp [intOf]; omega
    · obtain rfl : a = n := by omega
      have HF : Hid (findI f a run al = -1) := Lib.hid (by
        by_cases hrn : run ≤ a
        · exact findI_none f a run al hr1 hal hrn Hno.out
        · unfold findI; rw [if_pos (by omega)])
      go_wp2
      go_ret2
      refine ⟨?_, rfl⟩
      rw [HF.out]
      rfl
theorem rfind_any (w : World) (q n : Nat) (f : Nat → Bool) (h : Rf w q n f) (run al : Int) (hr : run ≤ 9223372036854775807) :
    Calls Try.prog 17 #[.slice (some ⟨q, 0, none⟩) n n, .int .i64 run, .int .i64 al] w fun r w' => r = .returned (.tuple #[.int .i64 (atI (findI f n run al)), .bool (isI (findI f n run al))]) ∧ w = w' := by
  by_cases hb : run < 1 ∨ al < 1
  · rw [show findI f n run al = -1 by unfold findI; rw [if_pos (by omega)]]
    exact rfind_bad w q n f h run al hb
  · obtain ⟨R, rfl⟩ := Int.eq_ofNat_of_zero_le (show 0 ≤ run by omega)
    obtain ⟨A, rfl⟩ := Int.eq_ofNat_of_zero_le (show 0 ≤ al by omega)
    exact rfind_ok w q n f h R A hr (by omega) (by omega)
theorem rcount_any (w : World) (q n : Nat) (f : Nat → Bool) (h : Rf w q n f) :
    Calls Try.prog 19 #[.slice (some ⟨q, 0, none⟩) n n] w fun r w' => r = .returned (.int .i64 (cnt f n)) ∧ w = w' := by
  have hn := h.2
  have hc := Lib.hid fun k hk => (h.1.cell k).trans (barr_get n f k hk)
  clear h
  go_enter Try.func19, Try.ntmps19
  go_wp2
  go_loop [3, 4] (fun c i => ∃ t : Nat, t ≤ n ∧ i = .int .i64 t ∧ c = .int .i64 (cnt f t)) (fun _ i => n - (intOf i).toNat)
  case atStart => exact ⟨0, by omega, rfl, rfl⟩
  case round =>
    obtain ⟨t, ht, rfl, rfl⟩ := hrel
    have hcl := cnt_le f t
    by_cases htn : t < n
    · have hct := hc.out t htn
      cases hft : f t
      · rw [hft] at hct
        have Hn := Lib.hid (show cnt f (t + 1) = cnt f t by simp [cnt, hft])
        clear hft
        go_wp2
        go_round
        case rel => exact ⟨t + 1, by omega, by go_num, by rw [Hn.out]⟩
        case measure => simp [intOf]; omega
      · rw [hft] at hct
        have Hn := Lib.hid (show cnt f (t + 1) = cnt f t + 1 by simp [cnt, hft])
        clear hft
        go_wp2
        go_round
        case rel => exact ⟨t + 1, by omega, by go_num, by rw [Hn.out]; go_num⟩
        case measure => simp [intOf]; omega
    · obtain rfl : t = n := by omega
      go_wp2
      go_ret
      exact ⟨rfl, rfl⟩
theorem rtake_no (w : World) (q n : Nat) (f : Nat → Bool) (h : Rf w q n f) (run al : Int) (hr : run ≤ 9223372036854775807) (hf : findI f n run al = -1) :
    Calls Try.prog 15 #[.slice (some ⟨q, 0, none⟩) n n, .int .i64 run, .int .i64 al] w fun r w' => r = .returned (.tuple #[.int .i64 0, .bool false]) ∧ w = w' := by
  have C := Lib.hid (rfind_any w q n f h run al hr)
  rw [hf] at C
  have hr0 : Hid (atI (-1) = 0 ∧ isI (-1) = false) := Lib.hid ⟨rfl, rfl⟩
  rw [hr0.out.1, hr0.out.2] at C
  clear hf
  go_enter Try.func15, Try.ntmps15
  go_wp2_with (go_at_call 17; refine (C.out).mono ?_; rintro e w' ⟨rfl, rfl⟩)
  refine wp_loop_rounds 1 ?_
  rw [rounds_succ]
  go_wp2
  go_ret2
  exact ⟨rfl, rfl⟩
theorem clr_zero (f : Nat → Bool) (a : Nat) : clr f a a = f := funext fun i => by unfold clr; rw [show (decide (a ≤ i) && decide (i < a)) = false by simp]; simp
theorem clr_succ (f : Nat → Bool) (a r : Nat) : upd (clr f a (a + r)) (a + r) false = clr f a (a + (r + 1)) := funext fun i => by
  unfold upd clr
  by_cases e : i = a + r
  · subst e; simp
  · rw [if_neg e, decide_eq_decide.2 (show i < a + (r + 1) ↔ i < a + r by omega)]
theorem rtake_yes (w : World) (q n : Nat) (f : Nat → Bool) (h : Rf w q n f) (run a : Nat) (al : Int) (hr : (run : Int) ≤ 9223372036854775807) (hf : findI f n run al = a) (har : a + run ≤ n) :
    Calls Try.prog 15 #[.slice (some ⟨q, 0, none⟩) n n, .int .i64 run, .int .i64 al] w fun r w' => r = .returned (.tuple #[.int .i64 a, .bool true]) ∧ Rf w' q n (clr f a (a + run)) ∧ Fr [q] w w' := by
  have C := Lib.hid (rfind_any w q n f h run al hr)
  rw [hf, (atI_yes a).1, (atI_yes a).2] at C
  have hn := h.2
  have H := Lib.hid h
  clear hf h
  go_enter Try.func15, Try.ntmps15
  go_wp2_with (go_at_call 17; refine (C.out).mono ?_; rintro e w' ⟨rfl, rfl⟩)
  go_loopw [10] (fun i wr => ∃ t : Nat, t ≤ run ∧ i = .int .i64 ((a + t : Nat) : Int) ∧ Rf wr q n (clr f a (a + t)) ∧ Fr [q] w wr) (fun i _ => a + run - (intOf i).toNat)
  case atStart => exact ⟨0, by omega, by simp, by rw [Nat.add_zero, clr_zero]; exact H.out, Fr.refl _ _⟩
  case round =>
    obtain ⟨t, ht, rfl, hR, hfr⟩ := hrel
    by_cases htr : t < run
    · have hct := (hR.1.cell (a + t)).trans (barr_get n _ (a + t) (by omega))
      have hfz := hR.1.froz (a + t)
      have HR := Lib.hid hR
      clear hR
      go_wp2
      go_roundw
      case rel =>
        refine ⟨t + 1, by omega, by go_num, ⟨?_, hn⟩, hfr.set (.inl (by simp)) _⟩
        have := HR.out.1.set (a + t) (.bool false)
        rw [barr_set, clr_succ] at this
        exact this
      case measure => simp [intOf]; omega
    · obtain rfl : t = run := by omega
      have HR := Lib.hid hR
      clear hR
      go_wp2
      go_ret2
      exact ⟨rfl, HR.out, hfr⟩
theorem hit_zero (f : Nat → Bool) (n a r : Nat) (h : a + r ≤ n) : hit f n a ((a : Int) + r) = 0 ↔ ∀ i, i < r → f (a + i) = false := by
  unfold hit cntB
  rw [show (max (a : Int) 0).toNat = a by omega, show (min ((a : Int) + r) n).toNat = a + r by omega]
  constructor
  · intro h0 i hi
    cases e : f (a + i) with
    | false => rfl
    | true =>
      have := cnt_pos (btw f a (a + r)) (a + r) (a + i) (by omega) (by unfold btw; simp [e]; omega)
      omega
  · intro hz
    refine cnt_zero _ _ fun i hi => ?_
    unfold btw
    by_cases hr : a ≤ i
    · have := hz (i - a) (by omega)
      rw [show a + (i - a) = i by omega] at this
      rw [this]; rfl
    · simp [hr]
theorem rput_no (w : World) (q n : Nat) (f : Nat → Bool) (h : Rf w q n f) (a r : Int) (hr : r ≤ 9223372036854775807) (hk : okPut f n a r = false) :
    Calls Try.prog 16 #[.slice (some ⟨q, 0, none⟩) n n, .int .i64 a, .int .i64 r] w fun e w' => e = .returned (.bool false) ∧ w = w' := by
  have hn := h.2
  have hc := Lib.hid fun k hk => (h.1.cell k).trans (barr_get n f k hk)
  clear h
  by_cases h1 : a < 0
  · clear hk
    go_enter Try.func16, Try.ntmps16
    go_wp2
    go_ret
    exact ⟨rfl, rfl⟩
  · by_cases h2 : r < 1
    · clear hk
      go_enter Try.func16, Try.ntmps16
      go_wp2
      go_ret
      exact ⟨rfl, rfl⟩
    · by_cases h3 : (n : Int) < r
      · clear hk
        go_enter Try.func16, Try.ntmps16
        go_wp2
        go_ret
        exact ⟨rfl, rfl⟩
      · by_cases h4 : (n : Int) - r < a
        · clear hk
          go_enter Try.func16, Try.ntmps16
          go_wp2
          go_ret
          exact ⟨rfl, rfl⟩
        · obtain ⟨A, rfl⟩ := Int.eq_ofNat_of_zero_le (show 0 ≤ a by omega)
          obtain ⟨R, rfl⟩ := Int.eq_ofNat_of_zero_le (show 0 ≤ r by omega)
          have hne : ¬ ∀ i, i < R → f (A + i) = false := fun hz => by
            unfold okPut at hk
            rw [decide_eq_true ((hit_zero f n A R (by omega)).2 hz), decide_eq_true (show 0 ≤ (A : Int) by omega), decide_eq_true (show 1 ≤ (R : Int) by omega), decide_eq_true (show (A : Int) + R ≤ n by omega)] at hk
            cases hk
          have Hne := Lib.hid hne
          clear hk hne
          have hd1 : decide ((A : Int) < 0) = false := by simp
          have hd2 : decide ((R : Int) < 1) = false := by simp; omega
          have hd3 : decide (n < R) = false := by simp; omega
          have hd4 : decide ((n : Int) - R < A) = false := by simp; omega
          go_enter Try.func16, Try.ntmps16
          go_wp2
          go_loop [7] (fun i => ∃ t : Nat, t ≤ R ∧ i = .int .i64 ((A + t : Nat) : Int) ∧ ∀ j, j < t → f (A + j) = false) (fun i => A + R - (intOf i).toNat)
          case atStart => exact ⟨0, by omega, by simp, fun j hj => by omega⟩
          case round =>
            obtain ⟨t, ht, rfl, hz⟩ := hrel
            have Hz := Lib.hid hz
            clear hz
            by_cases htr : t < R
            · have hct := hc.out (A + t) (by omega)
              cases hft : f (A + t)
              · rw [hft] at hct
                have HF := Lib.hid hft
                clear hft
                go_wp2
                go_round
                case rel =>
                  refine ⟨t + 1, by omega, by go_num, fun j hj => ?_⟩
                  by_cases e : j = t
                  · subst e; exact HF.out
                  · exact Hz.out j (by omega)
                case measure => simp [intOf]; omega
              · rw [hft] at hct
                clear hft
                go_wp2
                go_ret
                exact ⟨rfl, rfl⟩
            · obtain rfl : t = R := by omega
              exact (Hne.out Hz.out).elim
theorem rput_yes (w : World) (q n : Nat) (f : Nat → Bool) (h : Rf w q n f) (a r : Nat) (hk : okPut f n a r = true) :
    Calls Try.prog 16 #[.slice (some ⟨q, 0, none⟩) n n, .int .i64 a, .int .i64 r] w fun e w' => e = .returned (.bool true) ∧ Rf w' q n (setr f a r) ∧ Fr [q] w w' := by
  have hn := h.2
  have hc := Lib.hid fun k hk => (h.1.cell k).trans (barr_get n f k hk)
  have H := Lib.hid h
  unfold okPut at hk
  simp only [Bool.and_eq_true, decide_eq_true_eq] at hk
  obtain ⟨h1, h2, h3, h4⟩ := hk
  have Hz := Lib.hid ((hit_zero f n a r (by omega)).1 h4)
  clear h h4
  have hd1 : decide ((a : Int) < 0) = false := by simp
  have hd2 : decide ((r : Int) < 1) = false := by simp; omega
  have hd3 : decide (n < r) = false := by simp; omega
  have hd4 : decide ((n : Int) - r < a) = false := by simp; omega
  go_enter Try.func16, Try.ntmps16
  go_wp2
  go_loop [7] (fun i => ∃ t : Nat, t ≤ r ∧ i = .int .i64 ((a + t : Nat) : Int)) (fun i => a + r - (intOf i).toNat)
  case atStart => exact ⟨0, by omega, by simp⟩
  case round =>
    obtain ⟨t, ht, rfl⟩ := hrel
    by_cases htr : t < r
    · have hct := hc.out (a + t) (by omega)
      rw [Hz.out t htr] at hct
      go_wp2
      go_round
      case rel => exact ⟨t + 1, by omega, by go_num⟩
      case measure => simp [intOf]; omega
    · have htr2 : t = r := by omega
      have HT := Lib.hid htr2
      clear htr2
      go_wp2
      go_loopw [8] (fun i wr => ∃ t : Nat, t ≤ r ∧ i = .int .i64 ((a + t : Nat) : Int) ∧ Rf wr q n (setr f a t) ∧ Fr [q] w wr) (fun i _ => a + r - (intOf i).toNat)
      case atStart => exact ⟨0, by omega, by simp, by rw [setr_zero]; exact H.out, Fr.refl _ _⟩
      case round =>
        obtain ⟨s, hs, rfl, hR, hfr⟩ := hrel
        by_cases hsr : s < r
        · have hct := (hR.1.cell (a + s)).trans (barr_get n _ (a + s) (by omega))
          have hfz := hR.1.froz (a + s)
          have HR := Lib.hid hR
          clear hR
          go_wp2
          go_roundw
          case rel =>
            refine ⟨s + 1, by omega, by go_num, ⟨?_, hn⟩, hfr.set (.inl (by simp)) _⟩
            have := HR.out.1.set (a + s) (.bool true)
            rw [barr_set, setr_succ] at this
            exact this
          case measure => simp [intOf]; omega
        · obtain rfl : s = r := by omega
          have HR := Lib.hid hR
          clear hR
          go_wp2
          go_ret
          exact ⟨rfl, HR.out, hfr⟩
end Go.Proofs.Ytnbdjnhdneboiaa
