/-
  The reference's width, Load and Read. Condition: numbers in their types' ranges.
-/





import Derived.Test.YtilgklpponaoeaaRCaps
set_option linter.unusedVariables false
namespace Go.Proofs.Ytilgklpponaoeaa
open Go.ChangeShapes Go.WideShapes Go.ChangeAt Go.RowKit
theorem rwidth_any (w : World) (n : Int) : Calls Try.prog 75 #[.int .i64 n] w fun e w' => e = .returned (.bool (widB n)) ∧ w = w' := by
  unfold widB
  rcases wid_cases n with ⟨m, rfl, h⟩ | ⟨h1, h2, h4⟩
  · rcases h with rfl | rfl | rfl
    all_goals
      go_enter Try.func75, Try.ntmps75
      go_wp2_with fail
      go_ret
      exact ⟨rfl, rfl⟩
  · rw [decide_eq_false (show ¬ (n = 1 ∨ n = 2 ∨ n = 4) by omega)]
    have e1 : (n == 1) = false := beq_false_of_ne h1
    have e2 : (n == 2) = false := beq_false_of_ne h2
    have e4 : (n == 4) = false := beq_false_of_ne h4
    go_enter Try.func75, Try.ntmps75
    go_wp2_with fail
    go_ret
    exact ⟨rfl, rfl⟩
set_option maxHeartbeats 1000000 in
set_option maxRecDepth 100000 in
theorem rload_yes (w : World) (r bb tb cb ct : Nat) (bs : List Nat) (f : Nat → Bool) (h : Ra w r bb tb cb ct bs f) (a k : Nat) (ha : a < 4294967296) (hk : k = 1 ∨ k = 2 ∨ k = 4) (hf : a + k ≤ bs.length) :
    Calls Try.prog 49 #[.pointer (some ⟨r, 0, none⟩), .int .u32 a, .int .i64 k] w fun e w' => e = .returned (.tuple #[.int .u32 (unle (sub bs a k) : Nat), .bool true]) ∧ w = w' := by
  have CW := Lib.hid (rwidth_any w k)
  rw [show widB (k : Int) = true by unfold widB; simp; omega] at CW
  have CT := Lib.hid (rthere_any w r bb tb cb ct bs f h a ha k (by omega) (by omega))
  rw [thB_nat, decide_eq_true hf] at CT
  have H := Lib.hid h
  have c0 := h.c0
  have hN := h.le
  obtain ⟨N, hNN⟩ : ∃ N, bs.length = N := ⟨_, rfl⟩
  rw [hNN] at c0 hN hf
  have HN := Lib.hid hNN
  have g1 : IntKind.i64.wrap (a : Int) = a := i64w a (by omega)
  clear h hNN
  go_enter Try.func49, Try.ntmps49
  go_wp2_with fail
  refine (CW.out).mono ?_
  rintro e w' ⟨rfl, rfl⟩
  go_wp2_with fail
  refine (CT.out).mono ?_
  rintro e w' ⟨rfl, rfl⟩
  go_wp2_with fail
  go_loopw [8, 9] (fun v i wr => ∃ j : Nat, j ≤ k ∧ i = .int .i64 j ∧ v = .int .u32 (unle (sub bs a j) : Nat) ∧ w = wr) (fun _ i _ => k - (intOf i).toNat)
  case atStart => exact ⟨0, by omega, rfl, by unfold sub; rw [List.take_zero]; rfl, rfl⟩
  case round =>
    obtain ⟨j, hj, rfl, rfl, rfl⟩ := hrel
    by_cases hjk : j < k
    · obtain ⟨b, hlb⟩ : ∃ b, bs[a + j]? = some b := ⟨_, List.getElem?_eq_getElem (by rw [HN.out]; omega)⟩
      have cb0 := H.out.byte (a + j) b hlb
      have hb8 := H.out.byt.at_ _ _ hlb
      have HV := Lib.hid (tk_or bs H.out.byt a j b hlb (by omega))
      clear hlb
      rcases (show j = 0 ∨ j = 1 ∨ j = 2 ∨ j = 3 by omega) with rfl | rfl | rfl | rfl
      · have HV' := Lib.hid (show bits .or .u32 ((unle (sub bs a 0) : Nat) : Int) (b : Int) = ((unle (sub bs a (0 + 1)) : Nat) : Int) from by rw [← HV.out]; simp)
        simp only [Nat.add_zero] at cb0
        have g2 : IntKind.i64.wrap ((a : Int) + (0 : Nat)) = (a : Int) + (0 : Nat) := by rw [← Int.natCast_add]; exact i64w _ (by omega)
        have g3 : ((a : Int) + (0 : Nat)).toNat = a + 0 := by omega
        have g4 : (0 : Int) ≤ (a : Int) + (0 : Nat) := by omega
        have g5 : (a : Int) + (0 : Nat) < (N : Int) := by omega
        go_wp2_with fail
        go_roundw
        case rel => exact ⟨0 + 1, by omega, rfl, by rw [← HV'.out], trivial⟩
        case measure => simp [intOf] <;> omega
      · have HV' := Lib.hid (show bits .or .u32 ((unle (sub bs a 1) : Nat) : Int) ((b : Int) * 256) = ((unle (sub bs a (1 + 1)) : Nat) : Int) from by rw [← HV.out]; simp)
        have g2 : IntKind.i64.wrap ((a : Int) + (1 : Nat)) = (a : Int) + (1 : Nat) := by rw [← Int.natCast_add]; exact i64w _ (by omega)
        have g3 : ((a : Int) + (1 : Nat)).toNat = a + 1 := by omega
        have g4 : (0 : Int) ≤ (a : Int) + (1 : Nat) := by omega
        have g5 : (a : Int) + (1 : Nat) < (N : Int) := by omega
        go_wp2_with fail
        go_roundw
        case rel => exact ⟨1 + 1, by omega, rfl, by rw [← HV'.out], trivial⟩
        case measure => simp [intOf] <;> omega
      · have HV' := Lib.hid (show bits .or .u32 ((unle (sub bs a 2) : Nat) : Int) ((b : Int) * 65536) = ((unle (sub bs a (2 + 1)) : Nat) : Int) from by rw [← HV.out]; simp)
        have g2 : IntKind.i64.wrap ((a : Int) + (2 : Nat)) = (a : Int) + (2 : Nat) := by rw [← Int.natCast_add]; exact i64w _ (by omega)
        have g3 : ((a : Int) + (2 : Nat)).toNat = a + 2 := by omega
        have g4 : (0 : Int) ≤ (a : Int) + (2 : Nat) := by omega
        have g5 : (a : Int) + (2 : Nat) < (N : Int) := by omega
        go_wp2_with fail
        go_roundw
        case rel => exact ⟨2 + 1, by omega, rfl, by rw [← HV'.out], trivial⟩
        case measure => simp [intOf] <;> omega
      · have HV' := Lib.hid (show bits .or .u32 ((unle (sub bs a 3) : Nat) : Int) ((b : Int) * 16777216) = ((unle (sub bs a (3 + 1)) : Nat) : Int) from by rw [← HV.out]; simp)
        have g2 : IntKind.i64.wrap ((a : Int) + (3 : Nat)) = (a : Int) + (3 : Nat) := by rw [← Int.natCast_add]; exact i64w _ (by omega)
        have g3 : ((a : Int) + (3 : Nat)).toNat = a + 3 := by omega
        have g4 : (0 : Int) ≤ (a : Int) + (3 : Nat) := by omega
        have g5 : (a : Int) + (3 : Nat) < (N : Int) := by omega
        go_wp2_with fail
        go_roundw
        case rel => exact ⟨3 + 1, by omega, rfl, by rw [← HV'.out], trivial⟩
        case measure => simp [intOf] <;> omega
    · obtain rfl : j = k := by omega
      go_wp2_with fail
      go_ret2
      exact ⟨rfl, rfl⟩
theorem rload_no (w : World) (r bb tb cb ct : Nat) (bs : List Nat) (f : Nat → Bool) (h : Ra w r bb tb cb ct bs f) (a : Nat) (ha : a < 4294967296) (k : Int) (k1 : -9223372036854775808 ≤ k) (k2 : k ≤ 9223372036854775807) (ho : okE bs.length a k = false) :
    Calls Try.prog 49 #[.pointer (some ⟨r, 0, none⟩), .int .u32 a, .int .i64 k] w fun e w' => e = .returned (.tuple #[.int .u32 0, .bool false]) ∧ w = w' := by
  have CW := Lib.hid (rwidth_any w k)
  have CT := Lib.hid (rthere_any w r bb tb cb ct bs f h a ha k k1 k2)
  rcases wid_cases k with ⟨n, rfl, hn⟩ | hk
  · rw [okE_yes _ _ _ hn] at ho
    rw [thB_nat, ho] at CT
    rw [show widB (n : Int) = true by unfold widB; simp; omega] at CW
    clear h ho
    go_enter Try.func49, Try.ntmps49
    go_wp2_with fail
    refine (CW.out).mono ?_
    rintro e w' ⟨rfl, rfl⟩
    go_wp2_with fail
    refine (CT.out).mono ?_
    rintro e w' ⟨rfl, rfl⟩
    go_wp2_with fail
    go_ret2
    exact ⟨rfl, rfl⟩
  · rw [show widB k = false by unfold widB; simp; omega] at CW
    clear h ho hk CT
    go_enter Try.func49, Try.ntmps49
    go_wp2_with fail
    refine (CW.out).mono ?_
    rintro e w' ⟨rfl, rfl⟩
    go_wp2_with fail
    go_ret2
    exact ⟨rfl, rfl⟩
theorem rload_b (w : World) (r bb tb cb ct : Nat) (bs : List Nat) (f : Nat → Bool) (h : Ra w r bb tb cb ct bs f) (a : Nat) (ha : a < 4294967296) (k : Int) (k1 : -9223372036854775808 ≤ k) (k2 : k ≤ 9223372036854775807) :
    Calls Try.prog 49 #[.pointer (some ⟨r, 0, none⟩), .int .u32 a, .int .i64 k] w fun e w' => e = .returned (.tuple #[.int .u32 (ldN bs a k : Nat), .bool (okE bs.length a k)]) ∧ w = w' := by
  unfold ldN
  by_cases ho : okE bs.length a k = true
  · rw [if_pos ho, ho]
    rcases wid_cases k with ⟨n, rfl, hn⟩ | hk
    · rw [okE_yes _ _ _ hn, decide_eq_true_eq] at ho
      exact rload_yes w r bb tb cb ct bs f h a n ha hn ho
    · rw [okE_no _ _ _ hk] at ho; cases ho
  · rw [if_neg ho]
    rw [Bool.not_eq_true] at ho
    rw [ho]
    exact rload_no w r bb tb cb ct bs f h a ha k k1 k2 ho
set_option maxRecDepth 100000 in
theorem rread_yes (w : World) (r bb tb cb ct : Nat) (bs : List Nat) (f : Nat → Bool) (h : Ra w r bb tb cb ct bs f) (a n : Nat) (ha : a < 4294967296) (hf : a + n ≤ bs.length) :
    Calls Try.prog 51 #[.pointer (some ⟨r, 0, none⟩), .int .u32 a, .int .i64 n] w fun e w' => e = .returned (.tuple #[strV (sub bs a n), .bool true]) ∧ w = w' := by
  have hN := h.le
  have CT := Lib.hid (rthere_any w r bb tb cb ct bs f h a ha n (by omega) (by omega))
  rw [thB_nat, decide_eq_true hf] at CT
  have hL : (sub bs a n).length = n := sub_len _ _ _ hf
  have HB := Lib.hid (sub_byt bs a n h.byt)
  have HI := Lib.hid (show ∀ v, (v = some ⟨bb, a, none⟩ ∨ n = 0) → BIn w v (sub bs a n) from fun v hv => by
    rcases hv with rfl | rfl
    · refine .inr ⟨bb, a, rfl, h.lt.2.1, fun j v hv => ?_⟩
      have hj : j < n := by have := (List.getElem?_eq_some_iff.1 hv).1; rwa [bys_len, hL] at this
      obtain ⟨b, hb⟩ : ∃ b, bs[a + j]? = some b := ⟨_, List.getElem?_eq_getElem (by omega)⟩
      have hs : (sub bs a n)[j]? = some b := by rw [sub_get, if_pos hj]; exact hb
      rw [bys_get _ _ _ hs] at hv
      injection hv with hv
      rw [← hv]
      exact h.byte (a + j) b hb
    · exact .inl (by unfold sub; rw [List.take_zero]))
  have hcap := h.cb1
  have hcap2 := h.cb2
  have c0 := h.c0
  obtain ⟨N, hNN⟩ : ∃ N, bs.length = N := ⟨_, rfl⟩
  obtain ⟨L, hLL⟩ : ∃ L, sub bs a n = L := ⟨_, rfl⟩
  rw [hNN] at hN hcap hf c0
  rw [hLL] at hL HB HI ⊢
  have g1 : IntKind.i64.wrap (a : Int) = a := i64w a (by omega)
  have g2 : IntKind.i64.wrap ((a : Int) + (n : Int)) = (a : Int) + n := by rw [← Int.natCast_add]; exact i64w _ (by omega)
  have g3 : ((a : Int) + (n : Int)).toNat = a + n := by omega
  have k1 : (0 : Int) ≤ (a : Int) + n := by omega
  have k2 : (a : Int) + n ≤ (cb : Int) := by omega
  have k3 : (a : Int) ≤ (a : Int) + n := by omega
  have k4 : a ≤ a + n := by omega
  have k5 : a + n - a = n := by omega
  have HL := Lib.hid hL
  clear h hNN hLL hL
  by_cases hac : a < cb
  · go_enter Try.func51, Try.ntmps51
    go_wp2_with fail
    refine (CT.out).mono ?_
    rintro e w' ⟨rfl, rfl⟩
    go_wp2_with (refine wpList_str rfl ⟨5, Try.underlying31, Try.underlying5⟩ Try.underlying9 (.tmp 23) rfl _ _ _ rfl L (HL.out.trans (by omega)) HB.out (HI.out _ (.inl rfl)) (fun h => by cases h) ?_)
    go_ret2
    exact ⟨rfl, rfl⟩
  · have h0 : n = 0 := by omega
    subst h0
    obtain rfl : cb = a := by omega
    obtain rfl : N = cb := by omega
    have hcv := run_str (P := Try.prog) 31 9 5 Try.underlying31 Try.underlying5 Try.underlying9 w (some ⟨bb, 0, none⟩) 0 0 L HL.out HB.out (HI.out _ (.inr rfl)) (fun h => by cases h)
    go_enter Try.func51, Try.ntmps51
    go_wp2_with fail
    refine (CT.out).mono ?_
    rintro e w' ⟨rfl, rfl⟩
    go_wp2_with fail
    go_ret2
    exact ⟨rfl, rfl⟩
theorem rread_no (w : World) (r bb tb cb ct : Nat) (bs : List Nat) (f : Nat → Bool) (h : Ra w r bb tb cb ct bs f) (a : Nat) (n : Int) (ha : a < 4294967296) (k1 : -9223372036854775808 ≤ n) (k2 : n ≤ 9223372036854775807) (ht : thB bs.length a n = false) :
    Calls Try.prog 51 #[.pointer (some ⟨r, 0, none⟩), .int .u32 a, .int .i64 n] w fun e w' => e = .returned (.tuple #[strV [], .bool false]) ∧ w = w' := by
  have CT := Lib.hid (rthere_any w r bb tb cb ct bs f h a ha n k1 k2)
  rw [ht] at CT
  clear h ht
  go_enter Try.func51, Try.ntmps51
  go_wp2_with fail
  refine (CT.out).mono ?_
  rintro e w' ⟨rfl, rfl⟩
  go_wp2_with fail
  go_ret2
  exact ⟨rfl, rfl⟩
theorem rread_b (w : World) (r bb tb cb ct : Nat) (bs : List Nat) (f : Nat → Bool) (h : Ra w r bb tb cb ct bs f) (a : Nat) (ha : a < 4294967296) (n : Int) (k1 : -9223372036854775808 ≤ n) (k2 : n ≤ 9223372036854775807) :
    Calls Try.prog 51 #[.pointer (some ⟨r, 0, none⟩), .int .u32 a, .int .i64 n] w fun e w' => e = .returned (.tuple #[strV (if thB bs.length a n = true then sub bs a n.toNat else []), .bool (thB bs.length a n)]) ∧ w = w' := by
  by_cases ht : thB bs.length a n = true
  · rw [if_pos ht, ht]
    have h0 : 0 ≤ n := by unfold thB at ht; simp at ht; omega
    obtain ⟨m, rfl⟩ := Int.eq_ofNat_of_zero_le h0
    have hf := ht
    rw [thB_nat, decide_eq_true_eq] at hf
    exact rread_yes w r bb tb cb ct bs f h a m ha hf
  · rw [if_neg ht]
    rw [Bool.not_eq_true] at ht
    rw [ht]
    exact rread_no w r bb tb cb ct bs f h a n ha k1 k2 ht
end Go.Proofs.Ytilgklpponaoeaa
