/-
  What the reference of layer 3 tells of parts. No condition.
-/

import Derived.Test.YtilgklpponaoeaaDec
import Derived.Deep.CutBlock
import Derived.Deep.DeepCutAuto
set_option linter.unusedVariables false
namespace Go.Proofs.Ytilgklpponaoeaa
open Go.ChangeShapes Go.WideShapes Go.ChangeAt Go.RowKit
theorem r03turn_any (w : World) (x g : Nat) :
    Calls Try.prog 113 #[.int .i64 x, .int .i64 g] w fun r w' => r = .returned (.int .i64 (trn x g)) ∧ w = w' := by
  by_cases hx : x < g
  · have H : Hid (trn x g = 1) := Lib.hid (if_pos hx)
    go_enter Try.func113, Try.ntmps113
    go_wp2
    go_ret
    exact ⟨ret_int H.out.symm, rfl⟩
  · have H : Hid (trn x g = 0) := Lib.hid (if_neg hx)
    go_enter Try.func113, Try.ntmps113
    go_wp2
    go_ret
    exact ⟨ret_int H.out.symm, rfl⟩
set_option maxRecDepth 100000 in
theorem r03may_any (w : World) (e b t : Nat) :
    Calls Try.prog 112 #[.int .u8 e, .int .u16 b, .int .u16 t] w fun r w' => r = .returned (.bool (mayB e b t)) ∧ w = w' := by
  unfold mayB
  by_cases h1 : e ≤ 21 <;> by_cases h2 : b < 4096 <;> by_cases h3 : t < 4096
  all_goals
    go_enter Try.func112, Try.ntmps112
    go_wp2
    go_ret
    exact ⟨ret_bool (by simp [h1, h2, h3]; try omega), rfl⟩
theorem r03tell_no (w : World) (e b t c : Nat) (h : mayB e b t = false) :
    Calls Try.prog 108 #[.int .u8 e, .int .u16 b, .int .u16 t, .int .u32 c] w fun r w' => r = .returned (.tuple #[.int .i64 0, .int .i64 0, .bool false]) ∧ w = w' := by
  have C := Lib.hid (r03may_any w e b t)
  rw [h] at C
  go_enter Try.func108, Try.ntmps108
  go_wp2_with fail
  refine C.out.mono ?_
  rintro _ _ ⟨rfl, rfl⟩
  go_wp2_with fail
  exact bodyPost_ret (by simp [results, Try.results108, go_sem]) rfl ⟨rfl, rfl⟩
theorem wrap_of {x : Int} {y : Int} (h : x = y) (h1 : -9223372036854775808 ≤ y) (h2 : y ≤ 9223372036854775807) : RowKit.wrap64 x = y := by
  rw [← IntWalk.i64_left, h, IntWalk.i64_in _ (by omega)]
/-- What the reference reckons, part by part. -/
theorem of_parts (e b c x : Nat) (he : e ≤ 21) (hc : c < 4294967296) (hx : x < 4096) : ∃ (q q1 m U XU : Nat) (t1 t2 P : Int), 2 ^ e = U ∧ q = c / U ∧ q1 = c / (U * 4096) ∧ m = q % 4096 ∧ q ≤ c ∧ q1 ≤ 1048576 ∧ t1 = trn x (edgeN b) ∧ t2 = trn m (edgeN b) ∧ 0 ≤ t1 ∧ t1 ≤ 1 ∧ 0 ≤ t2 ∧ t2 ≤ 1 ∧
    P = ((q1 : Int) + t1 - t2) * U ∧ -2097152 ≤ P ∧ P ≤ 4194304 ∧ XU = x * U ∧ XU ≤ 8587837440 ∧ P * 4096 + XU = ofI (hiI e b c) e b x := by
  have hp := pw e he
  have b1 := trn_bd x (edgeN b)
  have b2 := trn_bd (c / 2 ^ e % 4096) (edgeN b)
  have h1 : c / (2 ^ e * 4096) * 2 ^ e ≤ 1048576 := by
    rw [Nat.mul_comm (2 ^ e) 4096, ← Nat.div_div_eq_div_mul]
    have h3 : c / 4096 / 2 ^ e * 2 ^ e ≤ c / 4096 := Nat.div_mul_le_self _ _
    omega
  have h2 : c / (2 ^ e * 4096) ≤ 1048576 := by
    have : c / (2 ^ e * 4096) ≤ c / 4096 := Nat.div_le_div_left (by omega) (by omega)
    omega
  have h4 : x * 2 ^ e ≤ 4095 * 2097152 := Nat.mul_le_mul (by omega) hp.2
  refine ⟨_, _, _, 2 ^ e, _, _, _, _, rfl, rfl, rfl, rfl, Nat.div_le_self _ _, h2, rfl, rfl, b1.1, b1.2, b2.1, b2.2, rfl, ?_, ?_, rfl, by omega, ?_⟩
  · generalize trn x (edgeN b) = t1 at *
    generalize trn (c / 2 ^ e % 4096) (edgeN b) = t2 at *
    have : (((c / (2 ^ e * 4096) : Nat) : Int) + t1 - t2) * ((2 ^ e : Nat) : Int) = ((c / (2 ^ e * 4096) * 2 ^ e : Nat) : Int) + (t1 - t2) * ((2 ^ e : Nat) : Int) := by
      rw [Int.add_sub_assoc, Int.add_mul]; simp
    rw [this]
    generalize c / (2 ^ e * 4096) * 2 ^ e = A at *
    generalize 2 ^ e = U at *
    rcases (show t1 - t2 = -1 ∨ t1 - t2 = 0 ∨ t1 - t2 = 1 by omega) with h | h | h <;> rw [h] <;> omega
  · generalize trn x (edgeN b) = t1 at *
    generalize trn (c / 2 ^ e % 4096) (edgeN b) = t2 at *
    have : (((c / (2 ^ e * 4096) : Nat) : Int) + t1 - t2) * ((2 ^ e : Nat) : Int) = ((c / (2 ^ e * 4096) * 2 ^ e : Nat) : Int) + (t1 - t2) * ((2 ^ e : Nat) : Int) := by
      rw [Int.add_sub_assoc, Int.add_mul]; simp
    rw [this]
    generalize c / (2 ^ e * 4096) * 2 ^ e = A at *
    generalize 2 ^ e = U at *
    rcases (show t1 - t2 = -1 ∨ t1 - t2 = 0 ∨ t1 - t2 = 1 by omega) with h | h | h <;> rw [h] <;> omega
  · unfold ofI hiI
    rw [Nat.div_div_eq_div_mul]
    generalize trn x (edgeN b) = t1 at *
    generalize trn (c / 2 ^ e % 4096) (edgeN b) = t2 at *
    generalize c / (2 ^ e * 4096) = q1 at *
    have e2 : (2 : Int) ^ e = ((2 ^ e : Nat) : Int) := by simp
    rw [e2]
    generalize 2 ^ e = U at *
    rw [Int.natCast_mul, Int.add_mul ((( (q1 : Int) - t2) + t1) * 4096), Int.mul_assoc, Int.mul_comm (U : Int) 4096, ← Int.mul_assoc]
    congr 3
    omega
set_option maxHeartbeats 1000000 in
set_option maxRecDepth 100000 in
theorem r03tell_yes (w : World) (e b t c : Nat) (he : e ≤ 21) (hb : b < 4096) (ht : t < 4096) (hc : c < 4294967296) :
    Calls Try.prog 108 #[.int .u8 e, .int .u16 b, .int .u16 t, .int .u32 c] w fun r w' => r = .returned (.tuple #[.int .i64 (ofI (hiI e b c) e b b), .int .i64 (ofI (hiI e b c) e b t), .bool (okB (ofI (hiI e b c) e b b) (ofI (hiI e b c) e b t))]) ∧ w = w' := by
  have C := Lib.hid (r03may_any w e b t)
  rw [show mayB e b t = true by simp [mayB, he, hb, ht]] at C
  have CT := Lib.hid fun W x g => r03turn_any W x g
  have PK1 := Lib.hid (of_parts e b c b he hc hb)
  have PK2 := Lib.hid (of_parts e b c t he hc ht)
  have hp := pw e he
  have hw : RowKit.wrap64 ((2 : Int) ^ e) = ((2 ^ e : Nat) : Int) := by
    rw [← IntWalk.i64_left, IntWalk.i64_in _ (by have : (2 : Int) ^ e = ((2 ^ e : Nat) : Int) := by simp
                                                 omega)]
    simp
  obtain ⟨U, hU⟩ : ∃ U : Nat, 2 ^ e = U := ⟨_, rfl⟩
  have HU := Lib.hid hU
  rw [hU] at hw hp
  have hw2 : RowKit.wrap64 ((U : Int) * 4096) = (U * 4096 : Nat) := by
    rw [← IntWalk.i64_left, IntWalk.i64_in _ (by omega)]
    simp
  go_enter Try.func108, Try.ntmps108
  go_wp2_with fail
  refine C.out.mono ?_
  rintro _ _ ⟨rfl, rfl⟩
  go_wp2_with fail
  obtain ⟨q, q1, m, U0, BU, t1, t2, P, hU0, hq, hq1, hm, bq, bq1, ht1, ht2, b1, b2, b3, b4, hP, b5, b6, hBU, b7, hX⟩ := PK1.out
  obtain ⟨q', q1', m', U', TU, t3, t2', P', hU', hq', hq1', hm', -, -, ht3, ht2', c1, c2, -, -, hP', c5, c6, hTU, c7, hY⟩ := PK2.out
  clear PK1 PK2
  obtain rfl : U = U0 := by rw [← hU, ← hU0]
  obtain rfl : U = U' := by rw [← hU, ← hU']
  obtain rfl : q = q' := by rw [hq, hq']
  obtain rfl : q1 = q1' := by rw [hq1, hq1']
  obtain rfl : m = m' := by rw [hm, hm']
  obtain rfl : t2 = t2' := by rw [ht2, ht2']
  have HX := Lib.hid hX
  have HY := Lib.hid hY
  obtain ⟨G, hG⟩ : ∃ G, edgeN b = G := ⟨_, rfl⟩
  rw [hG] at ht1 ht2 ht3
  have C1 := Lib.hid fun W => CT.out W b G
  have C2 := Lib.hid fun W => CT.out W m G
  have C3 := Lib.hid fun W => CT.out W t G
  rw [← ht1] at C1
  rw [← ht2] at C2
  rw [← ht3] at C3
  have W2 : RowKit.wrap64 ((c : Int) / ((U : Int) * 4096)) = (q1 : Int) := wrap_of (by rw [hq1]; simp) (by omega) (by omega)
  have W3 : RowKit.wrap64 ((c : Int) / (U : Int)) = (q : Int) := wrap_of (by rw [hq]; simp) (by omega) (by omega)
  have W4 : (q : Int).tmod 4096 = (m : Int) := by rw [hm]; rfl
  have W5 : ((b : Int) + 3072) % 4096 = (G : Int) := by rw [← hG]; unfold edgeN; omega
  have W6 := Lib.hid (show RowKit.wrap64 (((q1 : Int) + t1 - t2) * (U : Int)) = P from wrap_of hP.symm (by omega) (by omega))
  have W7 := Lib.hid (show RowKit.wrap64 (((q1 : Int) + t3 - t2) * (U : Int)) = P' from wrap_of hP'.symm (by omega) (by omega))
  have W8 := Lib.hid (show RowKit.wrap64 ((b : Int) * (U : Int)) = (BU : Int) from wrap_of (by rw [hBU]; simp) (by omega) (by omega))
  have W9 := Lib.hid (show RowKit.wrap64 ((t : Int) * (U : Int)) = (TU : Int) from wrap_of (by rw [hTU]; simp) (by omega) (by omega))
  simp only [W2, W3, W4, W5, hw]
  have HX1 := Lib.hid (And.intro b5 b6)
  have HX2 := Lib.hid (And.intro c5 c6)
  have HB7 := Lib.hid (And.intro b7 c7)
  have HC := Lib.hid (And.intro c1 c2)
  have HB3 := Lib.hid (And.intro b3 b4)
  clear W2 W3 W4 W5 hX hY hU hU' hq hq' hq1 hq1' hm hm' ht1 ht2 ht2' ht3 hP hP' hBU hTU hG bq b5 b6 b7 c5 c6 c7 b3 b4 c1 c2 hw hw2 hp CT
  refine (C1.out _).mono ?_
  rintro _ _ ⟨rfl, rfl⟩
  go_wp2_with fail
  refine (C2.out _).mono ?_
  rintro _ _ ⟨rfl, rfl⟩
  have b3 := HB3.out
  have w6 := W6.out
  have w8 := W8.out
  have b5 := HX1.out
  have b7 := HB7.out.1
  go_wp2_with fail
  obtain ⟨X, hXe⟩ : ∃ X : Int, P * 4096 + (BU : Int) = X := ⟨_, rfl⟩
  have hXb : -8589934592 ≤ X ∧ X ≤ 25769803776 := by omega
  rw [hXe]
  have HXe := Lib.hid hXe
  have HXb := Lib.hid hXb
  clear hXe hXb b5 b7 w6 w8
  refine (C3.out _).mono ?_
  rintro _ _ ⟨rfl, rfl⟩
  have b1 := HC.out
  go_wp2_with fail
  refine (C2.out _).mono ?_
  rintro _ _ ⟨rfl, rfl⟩
  have b3 := HB3.out
  have w6 := W7.out
  have w8 := W9.out
  have b5 := HX2.out
  have b7 := HB7.out.2
  go_upto_region 9 with (fail)
  obtain ⟨Y, hYe⟩ : ∃ Y : Int, P' * 4096 + (TU : Int) = Y := ⟨_, rfl⟩
  have hYb : -8589934592 ≤ Y ∧ Y ≤ 25769803776 := by omega
  rw [hYe]
  have HYe := Lib.hid hYe
  have hXb := HXb.out
  clear hYe b5 b7 w6 w8 b3 b1 bq1 hc hb ht he
  have HE : Hid (ofI (hiI e b c) e b b = X) := Lib.hid (by rw [← HX.out, HXe.out])
  have HF : Hid (ofI (hiI e b c) e b t = Y) := Lib.hid (by rw [← HY.out, HYe.out])
  clear HX HY HXe HYe
  rcases Int.lt_or_le X 0 with h0 | h0
  · have d0 : decide (0 ≤ X) = false := by simpa using h0
    go_wp2_with fail
    refine bodyPost_ret (v := .tuple #[.int .i64 X, .int .i64 Y, .bool (false)]) (by simp [results, Try.results108, go_sem]) rfl ⟨?_, rfl⟩
    rw [HE.out, HF.out]
    simp [okB]
    intros
    omega
  · rcases Int.lt_or_le Y X with h1 | h1
    · go_wp2_with fail
      refine bodyPost_ret (v := .tuple #[.int .i64 X, .int .i64 Y, .bool (false)]) (by simp [results, Try.results108, go_sem]) rfl ⟨?_, rfl⟩
      rw [HE.out, HF.out]
      simp [okB, h0]
      intros
      omega
    · go_wp2_with fail
      refine bodyPost_ret (v := .tuple #[.int .i64 X, .int .i64 Y, .bool (decide (Y ≤ 4294967296))]) (by simp [results, Try.results108, go_sem]) rfl ⟨?_, rfl⟩
      rw [HE.out, HF.out]
      simp [okB, h0, h1]
/-- Decode, by definition. -/
theorem r03dec_any (w : World) (e b t c : Nat) (hc : c < 4294967296) :
    Calls Try.prog 104 #[.int .u8 e, .int .u16 b, .int .u16 t, .int .u32 c] w fun r w' => r = .returned (.tuple #[.int .u32 (dBase e b t c), .int .u64 (dTop e b t c)]) ∧ w = w' := by
  unfold dBase dTop
  by_cases hm : mayB e b t = true
  · have hm2 := hm
    unfold mayB at hm2
    simp only [Bool.and_eq_true, decide_eq_true_eq] at hm2
    obtain ⟨h1, h2, h3⟩ := hm2
    have C := Lib.hid (r03tell_yes w e b t c h1 h2 h3 hc)
    have HD := Lib.hid (show dOk e b t c = (okB (ofI (hiI e b c) e b b) (ofI (hiI e b c) e b t) && !(ofI (hiI e b c) e b b == 4294967296)) by unfold dOk; rw [hm, Bool.true_and])
    rw [HD.out]
    generalize ofI (hiI e b c) e b b = X at *
    generalize ofI (hiI e b c) e b t = Y at *
    by_cases hk : okB X Y = true
    · rw [hk] at C ⊢
      have hk2 := hk
      unfold okB at hk2
      simp only [Bool.and_eq_true, decide_eq_true_eq] at hk2
      obtain ⟨k1, k2, k3⟩ := hk2
      by_cases hx : X = 4294967296
      · rw [hx]
        rw [hx] at C
        simp only [beq_self_eq_true, Bool.not_true, Bool.and_false, Bool.false_eq_true, if_false]
        clear hk hm HD hx k1 k2 k3
        go_enter Try.func104, Try.ntmps104
        go_wp2_with fail
        refine C.out.mono ?_
        rintro _ _ ⟨rfl, rfl⟩
        go_wp2_with fail
        go_ret2
        exact ⟨rfl, rfl⟩
      · have hx2 : (X == 4294967296) = false := by simpa using hx
        simp only [hx2, Bool.not_false, Bool.and_true, if_true]
        clear hk hm HD
        have k4 : X < 4294967296 := by omega
        go_enter Try.func104, Try.ntmps104
        go_wp2_with fail
        refine C.out.mono ?_
        rintro _ _ ⟨rfl, rfl⟩
        go_wp2_with fail
        go_ret2
        exact ⟨rfl, rfl⟩
    · have hk2 : okB X Y = false := by simpa using hk
      rw [hk2] at C ⊢
      simp only [Bool.false_and, Bool.false_eq_true, if_false]
      clear hk hm HD
      go_enter Try.func104, Try.ntmps104
      go_wp2_with fail
      refine C.out.mono ?_
      rintro _ _ ⟨rfl, rfl⟩
      go_wp2_with fail
      go_ret2
      exact ⟨rfl, rfl⟩
  · have hm2 : mayB e b t = false := by simpa using hm
    have C := Lib.hid (r03tell_no w e b t c hm2)
    have HD := Lib.hid (show dOk e b t c = false by unfold dOk; rw [hm2, Bool.false_and])
    rw [HD.out]
    simp only [Bool.false_eq_true, if_false]
    clear hm hm2
    go_enter Try.func104, Try.ntmps104
    go_wp2_with fail
    refine C.out.mono ?_
    rintro _ _ ⟨rfl, rfl⟩
    go_wp2_with fail
    go_ret2
    exact ⟨rfl, rfl⟩
end Go.Proofs.Ytilgklpponaoeaa
