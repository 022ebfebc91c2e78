/-
  What an arena's functions tell. Condition: numbers in their types' ranges.
-/





import Derived.Test.YtilgklpponaoeaaPut
import Derived.BigRegion
set_option linter.unusedVariables false
namespace Go.Proofs.Ytilgklpponaoeaa
open Go.ChangeShapes Go.WideShapes Go.ChangeAt Go.RowKit
theorem sub_of (bs : List Nat) (a n : Nat) (h : a + n ≤ bs.length) : ((bs.drop a).take n).length = n := by rw [List.length_take, List.length_drop]; omega
set_option maxRecDepth 100000 in
theorem aread_yes (w : World) (ap p g bg cap : Nat) (bs : List Nat) (f : Nat → Bool) (h : Ar w ap p g bg cap bs f) (a n : Nat) (ha : a < 4294967296) (hfit : a + n ≤ bs.length) :
    Calls Try.prog 18 #[.pointer (some ⟨ap, 0, none⟩), .int .u32 a, .int .i64 n] w fun r w' => r = .returned (.tuple #[strV ((bs.drop a).take n), .bool true]) ∧ w = w' := by
  have C := Lib.hid (show Calls Try.prog 59 #[.pointer (some ⟨ap, 0, none⟩), .int .u32 a, .int .i64 n] w fun r w' => r = .returned (.bool true) ∧ w = w' by
    have := athere_any w ap p g bg cap bs f h a ha n (by omega) (by have := h.2.1; omega)
    rw [thB_nat, decide_eq_true hfit] at this
    exact this)
  obtain ⟨c0, c1⟩ := h.top
  have hcap := h.2.2.1
  have hN := h.2.1
  have HL := Lib.hid (sub_of bs a n hfit)
  have HB := Lib.hid ((h.2.2.2.2.1.drop a).take n)
  have hin : BIn w (some ⟨bg, a, none⟩) ((bs.drop a).take n) := .inr ⟨bg, a, rfl, h.lt.2.2.2, fun j v hv => h.at_ a _ (by rw [sub_of bs a n hfit]) j v hv⟩
  have HI := Lib.hid hin
  have HI0 := Lib.hid (show n = 0 → BIn w (some ⟨bg, 0, none⟩) ((bs.drop a).take n) from fun h0 => .inl (by rw [h0]; simp))
  obtain ⟨N, hNN⟩ : ∃ N, bs.length = N := ⟨_, rfl⟩
  rw [hNN] at c1 hcap hfit hN
  obtain ⟨L, hL⟩ : ∃ L, (bs.drop a).take n = L := ⟨_, rfl⟩
  rw [hL] at HL HB HI HI0 ⊢
  obtain ⟨s, hs⟩ : ∃ s, strV L = s := ⟨_, rfl⟩
  have HS := Lib.hid hs
  rw [hs]
  clear h hin hNN hL hs
  have hsub : a + n - a = n := by omega
  by_cases hac : a < cap
  · go_enter Try.func18, Try.ntmps18
    go_wp2_with fail
    refine (C.out).mono ?_
    rintro e w' ⟨rfl, rfl⟩
    go_wp2_with (refine wpList_str rfl ⟨5, Try.underlying31, Try.underlying5⟩ Try.underlying9 (.tmp 23) rfl _ _ _ rfl L (HL.out.trans (by omega)) HB.out HI.out (fun h => by cases h) ?_; rw [HS.out])
    go_ret2
    exact ⟨rfl, rfl⟩
  · have h0 : n = 0 := by omega
    subst h0
    obtain rfl : cap = a := by omega
    obtain rfl : N = cap := by omega
    have hcv := run_str (P := Try.prog) 31 9 5 Try.underlying31 Try.underlying5 Try.underlying9 w (some ⟨bg, 0, none⟩) 0 0 L HL.out HB.out (HI0.out rfl) (fun h => by cases h)
    rw [HS.out] at hcv
    go_enter Try.func18, Try.ntmps18
    go_wp2_with fail
    refine (C.out).mono ?_
    rintro e w' ⟨rfl, rfl⟩
    go_wp2_with fail
    go_ret2
    exact ⟨rfl, rfl⟩
theorem aread_no (w : World) (ap p g bg cap : Nat) (bs : List Nat) (f : Nat → Bool) (h : Ar w ap p g bg cap bs f) (a : Nat) (n : Int) (ha : a < 4294967296) (hn1 : -9223372036854775808 ≤ n) (hn2 : n ≤ 9223372036854775807) (hfit : thB bs.length a n = false) :
    Calls Try.prog 18 #[.pointer (some ⟨ap, 0, none⟩), .int .u32 a, .int .i64 n] w fun r w' => r = .returned (.tuple #[strV [], .bool false]) ∧ w = w' := by
  have C := Lib.hid (athere_any w ap p g bg cap bs f h a ha n hn1 hn2)
  rw [hfit] at C
  clear h hfit
  go_enter Try.func18, Try.ntmps18
  go_wp2_with fail
  refine (C.out).mono ?_
  rintro e w' ⟨rfl, rfl⟩
  go_wp2_with fail
  go_ret2
  exact ⟨rfl, rfl⟩
theorem aload_yes (w : World) (ap p g bg cap : Nat) (bs : List Nat) (f : Nat → Bool) (h : Ar w ap p g bg cap bs f) (a n : Nat) (ha : a < 4294967296) (hk : n = 1 ∨ n = 2 ∨ n = 4) (hfit : a + n ≤ bs.length) :
    Calls Try.prog 48 #[.pointer (some ⟨ap, 0, none⟩), .int .u32 a, .int .i64 n] w fun r w' => r = .returned (.tuple #[.int .u32 (unle ((bs.drop a).take n)), .bool true]) ∧ Fr [] w w' := by
  have C := Lib.hid (show Calls Try.prog 59 #[.pointer (some ⟨ap, 0, none⟩), .int .u32 a, .int .i64 n] w fun r w' => r = .returned (.bool true) ∧ w = w' by
    have := athere_any w ap p g bg cap bs f h a ha n (by omega) (by have := h.2.1; omega)
    rw [thB_nat, decide_eq_true hfit] at this
    exact this)
  obtain ⟨c0, c1⟩ := h.top
  have CG := Lib.hid (oget_any w bg 0 bs.length cap a n hk hfit (by have := h.2.1; omega) h.2.2.1 h.2.2.2.1 ((bs.drop a).take n) (sub_of bs a n hfit) ((h.2.2.2.2.1.drop a).take n) (fun j v hv => by
    rw [Nat.zero_add]; exact h.at_ a _ (by rw [sub_of bs a n hfit]) j v hv))
  obtain ⟨V, hV⟩ : ∃ V, unle ((bs.drop a).take n) = V := ⟨_, rfl⟩
  rw [hV] at CG ⊢
  clear h hV hk
  go_enter Try.func48, Try.ntmps48
  go_wp2_with fail
  refine (C.out).mono ?_
  rintro e w' ⟨rfl, rfl⟩
  go_wp2_with fail
  refine (CG.out).mono ?_
  rintro e w' ⟨rfl, m, rfl⟩
  go_wp2_with fail
  go_ret2
  exact ⟨rfl, (Fr.refl _ _).drewN m⟩
theorem aload_no (w : World) (ap p g bg cap : Nat) (bs : List Nat) (f : Nat → Bool) (h : Ar w ap p g bg cap bs f) (a : Nat) (n : Int) (ha : a < 4294967296) (hn1 : -9223372036854775808 ≤ n) (hn2 : n ≤ 9223372036854775807) (hfit : thB bs.length a n = false ∨ (n ≠ 1 ∧ n ≠ 2 ∧ n ≠ 4)) :
    Calls Try.prog 48 #[.pointer (some ⟨ap, 0, none⟩), .int .u32 a, .int .i64 n] w fun r w' => r = .returned (.tuple #[.int .u32 0, .bool false]) ∧ w = w' := by
  have C := Lib.hid (athere_any w ap p g bg cap bs f h a ha n hn1 hn2)
  obtain ⟨c0, c1⟩ := h.top
  obtain ⟨b, hb⟩ : ∃ b, thB bs.length a n = b := ⟨_, rfl⟩
  rw [hb] at C hfit
  cases b
  · clear h hfit hb
    go_enter Try.func48, Try.ntmps48
    go_wp2_with fail
    refine (C.out).mono ?_
    rintro e w' ⟨rfl, rfl⟩
    go_wp2_with fail
    go_ret2
    exact ⟨rfl, rfl⟩
  · have CG := Lib.hid (oget_no w (some ⟨bg, 0, none⟩) bs.length cap a n (hfit.resolve_left (by simp)))
    clear h hfit hb
    go_enter Try.func48, Try.ntmps48
    go_wp2_with fail
    refine (C.out).mono ?_
    rintro e w' ⟨rfl, rfl⟩
    go_wp2_with fail
    refine (CG.out).mono ?_
    rintro e w' ⟨rfl, rfl⟩
    go_wp2_with fail
    go_ret2
    exact ⟨rfl, rfl⟩
theorem aload_nil (w : World) (a n : Int) : Calls Try.prog 48 #[.pointer none, .int .u32 a, .int .i64 n] w fun r w' => r = .returned (.tuple #[.int .u32 0, .bool false]) ∧ w = w' := by
  have C := Lib.hid (athere_nil w a n)
  go_enter Try.func48, Try.ntmps48
  go_wp2_with fail
  refine (C.out).mono ?_
  rintro e w' ⟨rfl, rfl⟩
  go_wp2_with fail
  go_ret2
  exact ⟨rfl, rfl⟩
theorem aread_nil (w : World) (a n : Int) : Calls Try.prog 18 #[.pointer none, .int .u32 a, .int .i64 n] w fun r w' => r = .returned (.tuple #[strV [], .bool false]) ∧ w = w' := by
  have C := Lib.hid (athere_nil w a n)
  go_enter Try.func18, Try.ntmps18
  go_wp2_with fail
  refine (C.out).mono ?_
  rintro e w' ⟨rfl, rfl⟩
  go_wp2_with fail
  go_ret2
  exact ⟨rfl, rfl⟩
end Go.Proofs.Ytilgklpponaoeaa
