/-
  PagesFirst: a run is found just if there is one, and it is the lowest one. No condition.
-/

import Derived.Test.YtnbdjnhdneboiaaWorks
set_option linter.unusedVariables false
namespace Go.Proofs.Ytnbdjnhdneboiaa
open Go.ChangeShapes Go.WideShapes Go.ChangeAt Go.RowKit
namespace pagesFirst
/-- The places below k whose bit is set. -/
def Sb (s k : Nat) : Nat → Bool := fun j => decide (j < k) && s.testBit j
def F (s : Nat) : Nat → Bool := fun j => decide (j < 32) && s.testBit j
theorem Sb_zero (s : Nat) : Sb s 0 = fun _ => false := funext fun j => by simp [Sb]
theorem Sb_skip (s k : Nat) (h : s.testBit k = false) : Sb s (k + 1) = Sb s k := funext fun j => by
  unfold Sb
  by_cases e : j = k
  · subst e; simp [h]
  · rw [decide_eq_decide.2 (show j < k + 1 ↔ j < k by omega)]
theorem Sb_put (s k : Nat) (h : s.testBit k = true) : setr (Sb s k) k 1 = Sb s (k + 1) := funext fun j => by
  unfold setr Sb
  by_cases e : j = k
  · subst e; simp [h]
  · rw [show (decide (k ≤ j) && decide (j < k + 1)) = false by simp; omega, Bool.or_false, decide_eq_decide.2 (show j < k + 1 ↔ j < k by omega)]
theorem Sb_end (s k : Nat) (h : k ≥ 32) (hk : k ≤ 32 := by omega) : Sb s k = F s := by
  obtain rfl : k = 32 := by omega
  rfl
theorem Sb_ok (s k : Nat) (h : k < 32) : okPut (Sb s k) 32 k 1 = true := by
  unfold okPut hit cntB
  rw [cnt_zero _ _ fun i _ => by unfold btw Sb; simp; omega]
  simp; omega
theorem get_u32 (s k : Nat) (h : s < 4294967296) : (bits .and .u32 ((s : Int) / 2 ^ k) 1 == 1) = s.testBit k := by
  have h1 : ((s : Int) / 2 ^ k) = ((s / 2 ^ k : Nat) : Int) := by simp
  have h2 : s / 2 ^ k < 4294967296 := Nat.lt_of_le_of_lt (Nat.div_le_self _ _) h
  rw [h1, show (1 : Int) = ((1 : Nat) : Int) by rfl, u32_and_nat _ _ h2 (by omega), Nat.testBit, Nat.shiftRight_eq_div_pow, Nat.and_comm 1]
  rw [show ∀ y : Nat, y &&& 1 = y % 2 from fun y => Nat.and_two_pow_sub_one_eq_mod y 1]
  rcases Nat.mod_two_eq_zero_or_one (s / 2 ^ k) with e | e <;> rw [e] <;> rfl
theorem alls_low (f : Nat → Bool) (i t n : Nat) (h : t ≤ n) (ha : alls f i t = false) : alls f i n = false := by
  cases e : alls f i n with
  | false => rfl
  | true =>
    have := (alls_iff f i n).1 e
    rw [(alls_iff f i t).2 fun j hj => this j (by omega)] at ha
    exact ha
set_option maxHeartbeats 4000000 in
theorem walkZ (a0 a1 a2 : Int) (n b : Nat) (w : World) (h0 : 0 ≤ a0) (hs : a0.toNat < 4294967296) (h1 : 0 ≤ a1) (h1' : a1 ≤ 255) (h2 : 0 ≤ a2) (h2' : a2 ≤ 255) (hm1 : a1 % 34 = n) (hm2 : a2 % 9 = b) (hz : n = 0 ∨ b = 0) (hV : findI (F a0.toNat) 32 n b = -1) :
    Calls Try.prog 4 #[.int .u32 a0, .int .u8 a1, .int .u8 a2] w fun e w' => e = .returned (.bool true) ∧ Fr [] w w' := by
  have hn33 : n ≤ 33 := by omega
  have hb9 : b ≤ 8 := by omega
  obtain ⟨s, rfl⟩ := Int.eq_ofNat_of_zero_le h0
  rw [Int.toNat_natCast] at hs hV
  have HV := Lib.hid hV
  clear hV
  have Hz := Lib.hid hz
  clear hz
  have Hmod := Lib.hid hm1
  go_enter Try.func4, Try.ntmps4
  go_wp2_with (first | (go_at_call 7; refine (works_any _).mono ?_; rintro e w2 ⟨rfl, hf2⟩) | (go_at_call 8; refine (pnew_any 32 _ (by omega)).mono ?_; rintro e w3 ⟨pp, p, g, rfl, h3, hpp, hp, hg, hf3⟩))
  have hs2 := hf2.size
  have H3 := Lib.hid h3
  have hfw : Fr [] w w3 := hf2.trans0 hf3
  clear h3 hf2 hf3
  go_loopw [8] (fun i wr => ∃ k : Nat, k ≤ 32 ∧ i = .int .i64 k ∧ Pl wr pp p g 32 (Sb s k) ∧ Fr [] w wr) (fun i _ => 32 - (intOf i).toNat)
  case atStart => exact ⟨0, by omega, rfl, by rw [Sb_zero]; exact H3.out, hfw⟩
  case round =>
    obtain ⟨k, hk, rfl, hpl, hf⟩ := hrel
    have HP := Lib.hid hpl
    by_cases hlt : k < 32
    · have hb := get_u32 s k hs
      cases hst : s.testBit k
      · rw [hst] at hb
        have HE := Lib.hid (Sb_skip s k hst)
        clear hst hpl
        go_wp2
        go_roundw
        case rel => exact ⟨k + 1, by omega, by go_num, by rw [HE.out]; exact HP.out, hf⟩
        case measure => simp [intOf]; omega
      · rw [hst] at hb
        have C := Lib.hid (pput_yes wr pp p g 32 _ hpl k 1 (Sb_ok s k hlt))
        have HE := Lib.hid (Sb_put s k hst)
        clear hst hpl
        go_wp2_with (go_at_call 9; refine (C.out).mono ?_; rintro e w5 ⟨rfl, h5, hf5⟩)
        go_roundw
        case rel => exact ⟨k + 1, by omega, by go_num, by rw [← HE.out]; exact h5, hf.trans hf5 (by simp; omega)⟩
        case measure => simp [intOf]; omega
    · obtain ⟨wo, rfl⟩ : ∃ wo : World, wo = wr := ⟨_, rfl⟩
      have HQ : Hid (Pl wo pp p g 32 (F s)) := Lib.hid (by rw [← Sb_end s k (by omega)]; exact HP.out)
      clear hpl HP
      have C1 := Lib.hid (fits_any wo pp p g 32 (F s) HQ.out n b (by omega))
      have C2 := Lib.hid (take_no wo pp p g 32 (F s) HQ.out n b (by omega) HV.out)
      rw [HV.out] at C1
      go_wp2_with (first | (go_at_call 13; refine (C1.out).mono ?_; rintro e w5 ⟨rfl, rfl⟩) | (go_at_call 10; refine (C2.out).mono ?_; rintro e w5 ⟨rfl, rfl⟩))
      rcases Hz.out with rfl | rfl
      all_goals
        refine wp_loop_rounds 1 ?_
        rw [rounds_succ]
        go_wp2
        all_goals go_ret
        all_goals exact ⟨rfl, hf⟩
set_option maxHeartbeats 4000000 in
theorem walkN (a0 a1 a2 : Int) (n b : Nat) (w : World) (h0 : 0 ≤ a0) (hs : a0.toNat < 4294967296) (h1 : 0 ≤ a1) (h1' : a1 ≤ 255) (h2 : 0 ≤ a2) (h2' : a2 ≤ 255) (hm1 : a1 % 34 = n) (hm2 : a2 % 9 = b) (hn1 : 1 ≤ n) (hb1 : 1 ≤ b) (hV : findI (F a0.toNat) 32 n b = -1) :
    Calls Try.prog 4 #[.int .u32 a0, .int .u8 a1, .int .u8 a2] w fun e w' => e = .returned (.bool true) ∧ Fr [] w w' := by
  have hn33 : n ≤ 33 := by omega
  have hb9 : b ≤ 8 := by omega
  obtain ⟨s, rfl⟩ := Int.eq_ofNat_of_zero_le h0
  rw [Int.toNat_natCast] at hs hV
  have HV := Lib.hid hV
  clear hV
  have hbz : ¬ b = 0 := by omega
  have hbz1 : ((b : Int) == 0) = false := by simp; omega
  have hbz2 : (b == 0) = false := by simp; omega
  have HN := Lib.hid (findI_no (F s) 32 n b (by omega) (by omega) HV.out)
  have Hmod := Lib.hid hm1
  go_enter Try.func4, Try.ntmps4
  go_wp2_with (first | (go_at_call 7; refine (works_any _).mono ?_; rintro e w2 ⟨rfl, hf2⟩) | (go_at_call 8; refine (pnew_any 32 _ (by omega)).mono ?_; rintro e w3 ⟨pp, p, g, rfl, h3, hpp, hp, hg, hf3⟩))
  have hs2 := hf2.size
  have H3 := Lib.hid h3
  have hfw : Fr [] w w3 := hf2.trans0 hf3
  clear h3 hf2 hf3
  go_loopw [8] (fun i wr => ∃ k : Nat, k ≤ 32 ∧ i = .int .i64 k ∧ Pl wr pp p g 32 (Sb s k) ∧ Fr [] w wr) (fun i _ => 32 - (intOf i).toNat)
  case atStart => exact ⟨0, by omega, rfl, by rw [Sb_zero]; exact H3.out, hfw⟩
  case round =>
    obtain ⟨k, hk, rfl, hpl, hf⟩ := hrel
    have HP := Lib.hid hpl
    by_cases hlt : k < 32
    · have hb := get_u32 s k hs
      cases hst : s.testBit k
      · rw [hst] at hb
        have HE := Lib.hid (Sb_skip s k hst)
        clear hst hpl
        go_wp2
        go_roundw
        case rel => exact ⟨k + 1, by omega, by go_num, by rw [HE.out]; exact HP.out, hf⟩
        case measure => simp [intOf]; omega
      · rw [hst] at hb
        have C := Lib.hid (pput_yes wr pp p g 32 _ hpl k 1 (Sb_ok s k hlt))
        have HE := Lib.hid (Sb_put s k hst)
        clear hst hpl
        go_wp2_with (go_at_call 9; refine (C.out).mono ?_; rintro e w5 ⟨rfl, h5, hf5⟩)
        go_roundw
        case rel => exact ⟨k + 1, by omega, by go_num, by rw [← HE.out]; exact h5, hf.trans hf5 (by simp; omega)⟩
        case measure => simp [intOf]; omega
    · obtain ⟨wo, rfl⟩ : ∃ wo : World, wo = wr := ⟨_, rfl⟩
      have HQ : Hid (Pl wo pp p g 32 (F s)) := Lib.hid (by rw [← Sb_end s k (by omega)]; exact HP.out)
      clear hpl HP
      have C1 := Lib.hid (fits_any wo pp p g 32 (F s) HQ.out n b (by omega))
      have C2 := Lib.hid (take_no wo pp p g 32 (F s) HQ.out n b (by omega) HV.out)
      rw [HV.out] at C1
      go_wp2_with (first | (go_at_call 13; refine (C1.out).mono ?_; rintro e w5 ⟨rfl, rfl⟩) | (go_at_call 10; refine (C2.out).mono ?_; rintro e w5 ⟨rfl, rfl⟩))
      go_loop [14, 15] (fun ww ii => ∃ i : Nat, i ≤ 32 ∧ ii = .int .i64 i ∧ ww = .int .i64 (-1)) (fun _ ii => 32 - (intOf ii).toNat)
      case atStart => exact ⟨0, by omega, rfl, rfl⟩
      case round =>
        obtain ⟨i, hi, rfl, rfl⟩ := hrel
        by_cases hi2 : i < 32
        · have hdm : ((i : Int) % b == 0) = decide (i % b = 0) := by
            rw [show ((i : Int) % b) = ((i % b : Nat) : Int) by simp, Bool.eq_iff_iff]; simp; omega
          by_cases hm : i % b = 0
          · rw [decide_eq_true hm] at hdm
            by_cases hin : i + n ≤ 32
            · have hin1 : decide (i + n ≤ 32) = true := decide_eq_true hin
              have hin2 : decide ((i : Int) + n ≤ 32) = true := decide_eq_true (by omega)
              go_wp2
              go_loop [16, 17] (fun al kk => ∃ t : Nat, t ≤ n ∧ kk = .int .i64 ((i + t : Nat) : Int) ∧ al = .bool (alls (F s) i t)) (fun _ kk => i + n - (intOf kk).toNat)
              case atStart => exact ⟨0, by omega, by simp, rfl⟩
              case round =>
                obtain ⟨t, ht, rfl, rfl⟩ := hrel
                cases hal : alls (F s) i t
                · clear hal
                  go_wp2
                  go_round
                  case rel => exact ⟨i + 1, by omega, by go_num, rfl⟩
                  case measure => simp [intOf]; omega
                · by_cases htn : t < n
                  · have hb2 := get_u32 s (i + t) hs
                    have hF : F s (i + t) = s.testBit (i + t) := by unfold F; simp; omega
                    have Hal := Lib.hid (show alls (F s) i (t + 1) = s.testBit (i + t) by simp only [alls, hal, hF, Bool.true_and])
                    clear hal hF
                    go_wp2
                    go_round
                    case rel => exact ⟨t + 1, by omega, by go_num, by rw [Hal.out]⟩
                    case measure => simp [intOf]; omega
                  · obtain rfl : t = n := by omega
                    have hgood := HN.out i
                    unfold good at hgood; rw [hal] at hgood; simp [hm, hin] at hgood
            · clear hm
              have hin1 : decide (i + n ≤ 32) = false := decide_eq_false hin
              have hin2 : decide ((i : Int) + n ≤ 32) = false := decide_eq_false (by omega)
              go_wp2
              refine wp_loop_rounds 1 ?_
              rw [rounds_succ]
              go_wp2
              go_round
              case rel => exact ⟨i + 1, by omega, by go_num, rfl⟩
              case measure => simp [intOf]; omega
          · rw [decide_eq_false hm] at hdm
            clear hm
            go_wp2
            refine wp_loop_rounds 1 ?_
            rw [rounds_succ]
            go_wp2
            go_round
            case rel => exact ⟨i + 1, by omega, by go_num, rfl⟩
            case measure => simp [intOf]; omega
        · go_wp2
          go_ret
          exact ⟨rfl, hf⟩
set_option maxHeartbeats 4000000 in
theorem walkY (a0 a1 a2 : Int) (n b : Nat) (w : World) (h0 : 0 ≤ a0) (hs : a0.toNat < 4294967296) (h1 : 0 ≤ a1) (h1' : a1 ≤ 255) (h2 : 0 ≤ a2) (h2' : a2 ≤ 255) (hm1 : a1 % 34 = n) (hm2 : a2 % 9 = b) (hn1 : 1 ≤ n) (hb1 : 1 ≤ b) (a : Nat) (ha : a < 32) (han : a + n ≤ 32) (hV : findI (F a0.toNat) 32 n b = a) (hgood0 : good (F a0.toNat) 32 n b a = true) (hno0 : ∀ j, j < a → good (F a0.toNat) 32 n b j = false) :
    Calls Try.prog 4 #[.int .u32 a0, .int .u8 a1, .int .u8 a2] w fun e w' => e = .returned (.bool true) ∧ Fr [] w w' := by
  have hn33 : n ≤ 33 := by omega
  have hb9 : b ≤ 8 := by omega
  obtain ⟨s, rfl⟩ := Int.eq_ofNat_of_zero_le h0
  rw [Int.toNat_natCast] at hs hV hgood0 hno0
  have HV := Lib.hid hV
  clear hV
  have hbz : ¬ b = 0 := by omega
  have hbz1 : ((b : Int) == 0) = false := by simp; omega
  have hbz2 : (b == 0) = false := by simp; omega
  have Hg := Lib.hid hgood0
  have Hno := Lib.hid hno0
  clear hgood0 hno0
  have Hmod := Lib.hid hm1
  go_enter Try.func4, Try.ntmps4
  go_wp2_with (first | (go_at_call 7; refine (works_any _).mono ?_; rintro e w2 ⟨rfl, hf2⟩) | (go_at_call 8; refine (pnew_any 32 _ (by omega)).mono ?_; rintro e w3 ⟨pp, p, g, rfl, h3, hpp, hp, hg, hf3⟩))
  have hs2 := hf2.size
  have H3 := Lib.hid h3
  have hfw : Fr [] w w3 := hf2.trans0 hf3
  clear h3 hf2 hf3
  go_loopw [8] (fun i wr => ∃ k : Nat, k ≤ 32 ∧ i = .int .i64 k ∧ Pl wr pp p g 32 (Sb s k) ∧ Fr [] w wr) (fun i _ => 32 - (intOf i).toNat)
  case atStart => exact ⟨0, by omega, rfl, by rw [Sb_zero]; exact H3.out, hfw⟩
  case round =>
    obtain ⟨k, hk, rfl, hpl, hf⟩ := hrel
    have HP := Lib.hid hpl
    by_cases hlt : k < 32
    · have hb := get_u32 s k hs
      cases hst : s.testBit k
      · rw [hst] at hb
        have HE := Lib.hid (Sb_skip s k hst)
        clear hst hpl
        go_wp2
        go_roundw
        case rel => exact ⟨k + 1, by omega, by go_num, by rw [HE.out]; exact HP.out, hf⟩
        case measure => simp [intOf]; omega
      · rw [hst] at hb
        have C := Lib.hid (pput_yes wr pp p g 32 _ hpl k 1 (Sb_ok s k hlt))
        have HE := Lib.hid (Sb_put s k hst)
        clear hst hpl
        go_wp2_with (go_at_call 9; refine (C.out).mono ?_; rintro e w5 ⟨rfl, h5, hf5⟩)
        go_roundw
        case rel => exact ⟨k + 1, by omega, by go_num, by rw [← HE.out]; exact h5, hf.trans hf5 (by simp; omega)⟩
        case measure => simp [intOf]; omega
    · obtain ⟨wo, rfl⟩ : ∃ wo : World, wo = wr := ⟨_, rfl⟩
      have HQ : Hid (Pl wo pp p g 32 (F s)) := Lib.hid (by rw [← Sb_end s k (by omega)]; exact HP.out)
      clear hpl HP
      have C1 := Lib.hid (fits_any wo pp p g 32 (F s) HQ.out n b (by omega))
      have C2 := Lib.hid (take_yes wo pp p g 32 (F s) HQ.out n a b (by omega) HV.out (by omega))
      rw [HV.out] at C1
      go_wp2_with (first | (go_at_call 13; refine (C1.out).mono ?_; rintro e w5 ⟨rfl, rfl⟩) | (go_at_call 10; refine (C2.out).mono ?_; rintro e w5 ⟨rfl, h5, hf5⟩))
      have hfz : Fr [] w w5 := hf.trans hf5 (by simp; omega)
      clear h5 hf5
      go_loop [14, 15] (fun ww ii => ∃ i : Nat, i ≤ 32 ∧ ii = .int .i64 i ∧ ((ww = .int .i64 (-1) ∧ i ≤ a) ∨ ww = .int .i64 a)) (fun _ ii => 32 - (intOf ii).toNat)
      case atStart => exact ⟨0, by omega, rfl, .inl ⟨rfl, by omega⟩⟩
      case round =>
        obtain ⟨i, hi, rfl, hww⟩ := hrel
        rcases hww with ⟨rfl, hia0⟩ | rfl
        · have hi2 : i < 32 := by omega
          by_cases hia : i < a
          · have hdm : ((i : Int) % b == 0) = decide (i % b = 0) := by
              rw [show ((i : Int) % b) = ((i % b : Nat) : Int) by simp, Bool.eq_iff_iff]; simp; omega
            by_cases hm : i % b = 0
            · rw [decide_eq_true hm] at hdm
              by_cases hin : i + n ≤ 32
              · have hin1 : decide (i + n ≤ 32) = true := decide_eq_true hin
                have hin2 : decide ((i : Int) + n ≤ 32) = true := decide_eq_true (by omega)
                go_wp2
                go_loop [16, 17] (fun al kk => ∃ t : Nat, t ≤ n ∧ kk = .int .i64 ((i + t : Nat) : Int) ∧ al = .bool (alls (F s) i t)) (fun _ kk => i + n - (intOf kk).toNat)
                case atStart => exact ⟨0, by omega, by simp, rfl⟩
                case round =>
                  obtain ⟨t, ht, rfl, rfl⟩ := hrel
                  cases hal : alls (F s) i t
                  · clear hal
                    go_wp2
                    go_round
                    case rel => exact ⟨i + 1, by omega, by go_num, .inl ⟨rfl, by omega⟩⟩
                    case measure => simp [intOf]; omega
                  · by_cases htn : t < n
                    · have hb2 := get_u32 s (i + t) hs
                      have hF : F s (i + t) = s.testBit (i + t) := by unfold F; simp; omega
                      have Hal := Lib.hid (show alls (F s) i (t + 1) = s.testBit (i + t) by simp only [alls, hal, hF, Bool.true_and])
                      clear hal hF
                      go_wp2
                      go_round
                      case rel => exact ⟨t + 1, by omega, by go_num, by rw [Hal.out]⟩
                      case measure => simp [intOf]; omega
                    · obtain rfl : t = n := by omega
                      have hgood := Hno.out i hia
                      unfold good at hgood; rw [hal] at hgood; simp [hm, hin] at hgood
              · omega
            · rw [decide_eq_false hm] at hdm
              clear hm
              go_wp2
              refine wp_loop_rounds 1 ?_
              rw [rounds_succ]
              go_wp2
              go_round
              case rel => exact ⟨i + 1, by omega, by go_num, .inl ⟨rfl, by omega⟩⟩
              case measure => simp [intOf]; omega
          · obtain rfl : i = a := by omega
            have hgg := Hg.out
            unfold good at hgg
            simp only [Bool.and_eq_true, decide_eq_true_eq] at hgg
            obtain ⟨hm, hin, hall⟩ := hgg
            have hdm : ((i : Int) % b == 0) = true := by
              rw [show ((i : Int) % b) = ((i % b : Nat) : Int) by simp, hm]; rfl
            have hin1 : decide (i + n ≤ 32) = true := decide_eq_true hin
            have hin2 : decide ((i : Int) + n ≤ 32) = true := decide_eq_true (by omega)
            have Hall := Lib.hid ((alls_iff (F s) i n).1 hall)
            clear hm hall
            go_wp2
            go_loop [16, 17] (fun al kk => ∃ t : Nat, t ≤ n ∧ kk = .int .i64 ((i + t : Nat) : Int) ∧ al = .bool true) (fun _ kk => i + n - (intOf kk).toNat)
            case atStart => exact ⟨0, by omega, by simp, rfl⟩
            case round =>
              obtain ⟨t, ht, rfl, rfl⟩ := hrel
              by_cases htn : t < n
              · have hb2 := get_u32 s (i + t) hs
                have hF := Hall.out t htn
                rw [show F s (i + t) = s.testBit (i + t) by unfold F; simp; omega] at hF
                rw [hF] at hb2
                clear hF
                go_wp2
                go_round
                case rel => exact ⟨t + 1, by omega, by go_num, rfl⟩
                case measure => simp [intOf]; omega
              · obtain rfl : t = n := by omega
                go_wp2
                go_round
                case rel => exact ⟨i + 1, by omega, by go_num, .inr rfl⟩
                case measure => simp [intOf]; omega
        · go_wp2
          all_goals go_ret
          all_goals exact ⟨rfl, hfz⟩
theorem walk (a0 : Int) (w0 : (Lit.int .u32 a0).wf = true) (a1 : Int) (w1 : (Lit.int .u8 a1).wf = true) (a2 : Int) (w2 : (Lit.int .u8 a2).wf = true) (w : World) :
    Calls Try.prog 4 #[.int .u32 a0, .int .u8 a1, .int .u8 a2] w fun e w' => e = .returned (.bool true) ∧ Fr [] w w' := by
  have c0 := bounds_u32 w0
  have c1 := bounds_u8 w1
  have c2 := bounds_u8 w2
  have hs : a0.toNat < 4294967296 := by omega
  obtain ⟨n, hn⟩ := Int.eq_ofNat_of_zero_le (show 0 ≤ a1 % 34 by omega)
  obtain ⟨b, hb⟩ := Int.eq_ofNat_of_zero_le (show 0 ≤ a2 % 9 by omega)
  rcases findI_range (F a0.toNat) 32 n b with hV | ⟨a, hV, hn1, hb1, ha, han, hg, hno⟩
  · by_cases hz : n = 0 ∨ b = 0
    · exact walkZ a0 a1 a2 n b w (by omega) hs (by omega) (by omega) (by omega) (by omega) hn hb hz hV
    · exact walkN a0 a1 a2 n b w (by omega) hs (by omega) (by omega) (by omega) (by omega) hn hb (by omega) (by omega) hV
  · exact walkY a0 a1 a2 n b w (by omega) hs (by omega) (by omega) (by omega) (by omega) hn hb (by omega) (by omega) a ha (by omega) hV hg hno
theorem laidOut : laidOutB Try.prog = true := by kernel_rfl
set_option maxRecDepth 100000 in
theorem lifted (os : Os) (started : os.Started) (H : Type) (enc : TypeId × Value → H) :
    ReturnsInHanded {} Try.checked os 4 .any (Rows.pagesFirstSpec.pre6 enc Try.prog Try.f4 Rows.pagesFirstRow.domain false) (Rows.pagesFirstSpec.post enc Try.prog Try.f4 false true false false) := by
  refine returnsInHanded_of_change (C := Try.checked) own started (by kernel_rfl) Try.func4
    (ChangeSpec.witness6 (enc := enc) (C := Try.checked) false ⟨#[], #[.int .u32 0, .int .u8 0, .int .u8 0], []⟩ 8 (by kernel_rfl) (by kernel_rfl) (by kernel_rfl) (by kernel_rfl)) ?_
  intro W base args ds gs before hval0 hW hcnd _
  have hval : ∀ (j : Nat) t v, Try.f4.params[j]? = some t → args[j]? = some v → Value.okWide Try.prog W .any base t v := hval0
  have hW' := hW
  obtain ⟨p, q, hA0, hV, rfl, hfz, hnd⟩ := hW
  have hA : DataW.TrodAll enc Try.prog W 0 (fun _ => true) true Try.f4.params.toList args.toList ds p := hA0
  rw [Try.params4] at hA hval
  obtain ⟨v0, vs0, d0, ds0, p0, q0, hargs, rfl, rfl, h0, r0⟩ := trodAll_cons hA
  obtain ⟨v1, vs1, d1, ds1, p1, q1, rfl, rfl, rfl, h1, r1⟩ := trodAll_cons r0
  obtain ⟨v2, vs2, d2, ds2, p2, q2, rfl, rfl, rfl, h2, r2⟩ := trodAll_cons r1
  obtain ⟨rfl, rfl, rfl⟩ := trodAll_nil r2
  obtain rfl : args = #[v0, v1, v2] := by cases args; simp_all
  obtain ⟨rfl, rfl⟩ := trodVars_none hV
  obtain ⟨a0, rfl, rfl, rfl, w0⟩ := open_int Try.underlying34 (hval 0 34 v0 rfl rfl) h0
  obtain ⟨a1, rfl, rfl, rfl, w1⟩ := open_int Try.underlying5 (hval 1 5 v1 rfl rfl) h1
  obtain ⟨a2, rfl, rfl, rfl, w2⟩ := open_int Try.underlying5 (hval 2 5 v2 rfl rfl) h2
  clear hA0 hval0
  simp only [List.append_nil] at hW'
  refine (walk a0 w0 a1 w1 a2 w2 W ).mono fun e W' ⟨he, hg⟩ => ?_
  subst he
  exact ⟨_, rfl, post_fr (pa := []) (pv := []) hW' (fun _ _ _ => (trodAll_cons_mk (shut_bool Try.underlying4 _) trodAll_mk0)) (fun sp _ => (trodAll_cons_mk (shut_int Try.underlying34 w0) (trodAll_cons_mk (shut_int Try.underlying5 w1) (trodAll_cons_mk (shut_int Try.underlying5 w2) trodAll_mk0)))) (fun _ _ => rfl) rfl
    hg (ok_one (by kernel_rfl) rfl (okWide_bool_mk Try.underlying4 _))⟩
theorem over : Rows.pagesFirstRow.holds Try.pinned (OpenSpec.ofChange Rows.pagesFirstSpec) :=
  OpenClaim.holds_of_wide 4 Try.f4 rfl rfl rfl rfl rfl rfl rfl ⟨rfl, rfl, rfl, rfl, rfl⟩ rfl rfl rfl rfl rfl (by kernel_rfl) Try.func4 (by kernel_rfl)
    (of_decide_eq_true (by kernel_rfl)) (by unfold Func.isWrapper; first | (rw [if_pos (by decide +kernel)]; kernel_rfl) | (rw [if_neg (by decide +kernel)]; exact ⟨rfl, rfl⟩))
    (fun os started H enc _ => lifted os started H enc)
/-- The statement, proved. -/
theorem proved : Rows.PagesFirstSaid :=
  over
end pagesFirst
end Go.Proofs.Ytnbdjnhdneboiaa
