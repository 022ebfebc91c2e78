/-
  What bounds.tell and bounds.Decode compute, and the same of the reference of layer 3. No condition.
-/
import Derived.Deep.RegionHeld3
import Derived.BigRegion
import Derived.StillTailTactics
import Derived.Laws.EntriesVeiled
import Derived.Test.YthjbnbimfpbccaaGreatDoorJ6

set_option linter.unusedVariables false
namespace Go.Proofs.YthjbnbimfpbccaaGreatDoor
open Go.ChangeShapes Go.WideShapes Go.ChangeAt Go.RowKit
/-- The edge, and what is told of a mantissa. -/
def edgeN (b : Nat) : Nat := (b + 3072) % 4096
def trn (x g : Nat) : Int := if x < g then 1 else 0
def hiI (e b c : Nat) : Int := ((c / 2 ^ e / 4096 : Nat) : Int) - trn (c / 2 ^ e % 4096) (edgeN b)
def ofI (hi : Int) (e b x : Nat) : Int := ((hi + trn x (edgeN b)) * 4096 + x) * 2 ^ e
theorem trn_bd (x g : Nat) : 0 ≤ trn x g ∧ trn x g ≤ 1 := by unfold trn; split <;> omega
theorem hi_bd (e b c : Nat) (hc : c < 4294967296) : -1 ≤ hiI e b c ∧ hiI e b c ≤ 1048576 := by
  have h1 := trn_bd (c / 2 ^ e % 4096) (edgeN b)
  have h2 : c / 2 ^ e ≤ c := Nat.div_le_self _ _
  unfold hiI
  generalize c / 2 ^ e = q at *
  omega
theorem pw (e : Nat) (he : e ≤ 21) : 1 ≤ 2 ^ e ∧ 2 ^ e ≤ 2097152 := ⟨Nat.one_le_two_pow, Nat.pow_le_pow_right (n := 2) (by omega) he⟩
theorem hi_lt (e b c : Nat) (hc : c < 4294967296) (he : e ≤ 21) : hiI e b c * 2 ^ e ≤ 1048576 ∧ -2097152 ≤ hiI e b c * 2 ^ e := by
  have h1 := trn_bd (c / 2 ^ e % 4096) (edgeN b)
  have hp := pw e he
  have h2 : c / 2 ^ e / 4096 * 2 ^ e ≤ 1048576 := by
    rw [Nat.div_div_eq_div_mul, Nat.mul_comm (2 ^ e) 4096, ← Nat.div_div_eq_div_mul]
    have h3 : c / 4096 / 2 ^ e * 2 ^ e ≤ c / 4096 := Nat.div_mul_le_self _ _
    omega
  unfold hiI
  rw [Int.sub_mul]
  have e1 : ((c / 2 ^ e / 4096 : Nat) : Int) * 2 ^ e = ((c / 2 ^ e / 4096 * 2 ^ e : Nat) : Int) := by simp
  rw [e1]
  have e2 : (2 : Int) ^ e = ((2 ^ e : Nat) : Int) := by simp
  rw [e2]
  generalize c / 2 ^ e / 4096 * 2 ^ e = A at *
  generalize 2 ^ e = P at *
  rcases (show trn (c / P % 4096) (edgeN b) = 0 ∨ trn (c / P % 4096) (edgeN b) = 1 by omega) with h | h <;> rw [h] <;> omega
theorem of_bd (e b c x : Nat) (hc : c < 4294967296) (he : e ≤ 21) (hx : x < 4096) : -8589934592 ≤ ofI (hiI e b c) e b x ∧ ofI (hiI e b c) e b x ≤ 21474836480 := by
  have h1 := trn_bd x (edgeN b)
  have h2 := hi_lt e b c hc he
  have hp := pw e he
  unfold ofI
  generalize hiI e b c = H at *
  have e2 : (2 : Int) ^ e = ((2 ^ e : Nat) : Int) := by simp
  rw [e2] at h2 ⊢
  generalize 2 ^ e = P at *
  have e3 : ((H + trn x (edgeN b)) * 4096 + (x : Int)) * (P : Int) = H * P * 4096 + (trn x (edgeN b) * 4096 + x) * P := by
    rw [Int.add_mul, Int.add_mul, Int.add_mul, Int.add_mul, Int.mul_assoc H 4096, Int.mul_comm 4096 (P : Int), ← Int.mul_assoc]; omega
  have h5 : (0 : Int) ≤ (trn x (edgeN b) * 4096 + x) * P := Int.mul_nonneg (by omega) (by omega)
  have h6 : (trn x (edgeN b) * 4096 + x) * (P : Int) ≤ 8191 * P := Int.mul_le_mul_of_nonneg_right (by omega) (by omega)
  rw [e3]
  omega
theorem turn_any (w : World) (q g x : Nat) (h : w.cell? ⟨q, 0, none⟩ = some (.int .u16 g)) :
    Calls Tryz.prog 154 #[.int .u16 x, .pointer (some ⟨q, 0, none⟩)] w fun r w' => r = .returned (.int .i64 (trn x g)) ∧ w = w' := by
  by_cases hx : x < g
  · have H : Hid (trn x g = 1) := Lib.hid (if_pos hx)
    go_enter Tryz.func154, Tryz.ntmps154
    go_wp2
    go_ret
    exact ⟨ret_int H.out.symm, rfl⟩
  · have H : Hid (trn x g = 0) := Lib.hid (if_neg hx)
    go_enter Tryz.func154, Tryz.ntmps154
    go_wp2
    go_ret
    exact ⟨ret_int H.out.symm, rfl⟩
theorem of_core (w : World) (q1 q2 q3 q4 e x g : Nat) (H t V : Int) (h1 : w.cell? ⟨q1, 0, none⟩ = some (.int .i64 H)) (h2 : w.cell? ⟨q2, 0, none⟩ = some (.func (.func 154) #[] #[.pointer (some ⟨q4, 0, none⟩)])) (h3 : w.cell? ⟨q3, 0, none⟩ = some (.int .u8 e)) (h4 : w.cell? ⟨q4, 0, none⟩ = some (.int .u16 g))
    (ht : trn x g = t) (t0 : 0 ≤ t) (t1 : t ≤ 1) (b0 : -1 ≤ H) (b1 : H ≤ 1048576) (hx : x < 4096) (he : e ≤ 21) (hV : ((H + t) * 4096 + x) * 2 ^ e = V) (v0 : -8589934592 ≤ V) (v1 : V ≤ 21474836480) :
    Calls Tryz.prog 155 #[.int .u16 x, .pointer (some ⟨q1, 0, none⟩), .pointer (some ⟨q2, 0, none⟩), .pointer (some ⟨q3, 0, none⟩)] w fun r w' => r = .returned (.int .i64 V) ∧ ∃ nd, w' = w.drewN nd := by
  have C := Lib.hid fun nd => turn_any (w.drewN nd) q4 g x h4
  rw [ht] at C
  have HV := Lib.hid hV
  clear hV ht h4
  go_enter Tryz.func155, Tryz.ntmps155
  go_wp2
  go_quiet ((go_at_call 154; exact q_same (C.out _)))
  go_wp2
  go_ret
  refine ⟨ret_int ?_, _, rfl⟩
  show RowKit.wrap64 _ = V
  rw [← IntWalk.i64_left, HV.out]
  exact IntWalk.i64_in _ (by omega)
theorem of_any (w : World) (q1 q2 q3 q4 e b c x : Nat) (h1 : w.cell? ⟨q1, 0, none⟩ = some (.int .i64 (hiI e b c))) (h2 : w.cell? ⟨q2, 0, none⟩ = some (.func (.func 154) #[] #[.pointer (some ⟨q4, 0, none⟩)])) (h3 : w.cell? ⟨q3, 0, none⟩ = some (.int .u8 e)) (h4 : w.cell? ⟨q4, 0, none⟩ = some (.int .u16 (edgeN b)))
    (hc : c < 4294967296) (hx : x < 4096) (he : e ≤ 21) :
    Calls Tryz.prog 155 #[.int .u16 x, .pointer (some ⟨q1, 0, none⟩), .pointer (some ⟨q2, 0, none⟩), .pointer (some ⟨q3, 0, none⟩)] w fun r w' => r = .returned (.int .i64 (ofI (hiI e b c) e b x)) ∧ ∃ nd, w' = w.drewN nd := by
  have h5 := trn_bd x (edgeN b)
  have h6 := hi_bd e b c hc
  have h7 := of_bd e b c x hc he hx
  exact of_core w q1 q2 q3 q4 e x (edgeN b) _ _ _ h1 h2 h3 h4 rfl h5.1 h5.2 h6.1 h6.2 hx he rfl h7.1 h7.2
def mayB (e b t : Nat) : Bool := decide (e ≤ 21) && (decide (b < 4096) && decide (t < 4096))
def okB (x y : Int) : Bool := decide (0 ≤ x) && (decide (x ≤ y) && decide (y ≤ 4294967296))
theorem i64_and4095 (n : Nat) (h : n < 9223372036854775808) : bits .and .i64 (n : Int) 4095 = ((n % 4096 : Nat) : Int) := by
  show IntKind.i64.wrap ((BitVec.ofInt 64 (n : Int) &&& BitVec.ofInt 64 4095).toNat : Int) = _
  rw [BitVec.toNat_and, show (4095 : Int) = ((4095 : Nat) : Int) by rfl, ofInt_u64 n (by omega), ofInt_u64 4095 (by omega), show n &&& 4095 = n % 4096 from Nat.and_two_pow_sub_one_eq_mod n 12, IntWalk.i64_in _ (by omega)]
theorem tell_no (w : World) (e b t c : Nat) (h : mayB e b t = false) :
    Calls Tryz.prog 146 #[.int .u8 e, .int .u16 b, .int .u16 t, .int .u32 c] w fun r w' => r = .returned (.tuple #[.agg #[.int .i64 0, .int .i64 0], .bool false]) ∧ Fr [] w w' := by
  by_cases h1 : e ≤ 21
  · by_cases h2 : b < 4096
    · have h3 : ¬ t ≤ 4095 := fun h3 => by
        unfold mayB at h
        simp [h1, h2] at h
        omega
      have h2' : b ≤ 4095 := by omega
      clear h h2
      go_enter Tryz.func146, Tryz.ntmps146
      go_wp2
      exact bodyPost_ret (by simp [results, Tryz.results146, go_sem]) rfl ⟨rfl, (by repeat (first | exact Fr.refl _ _ | assumption | refine Fr.trans0 ?_ (by assumption) | refine Fr.drewN ?_ _ | refine Fr.alloc ?_ _ | refine Fr.drew ?_))⟩
    · have h2' : ¬ b ≤ 4095 := by omega
      clear h h2
      go_enter Tryz.func146, Tryz.ntmps146
      go_wp2
      exact bodyPost_ret (by simp [results, Tryz.results146, go_sem]) rfl ⟨rfl, (by repeat (first | exact Fr.refl _ _ | assumption | refine Fr.trans0 ?_ (by assumption) | refine Fr.drewN ?_ _ | refine Fr.alloc ?_ _ | refine Fr.drew ?_))⟩
  · clear h
    go_enter Tryz.func146, Tryz.ntmps146
    go_wp2
    exact bodyPost_ret (by simp [results, Tryz.results146, go_sem]) rfl ⟨rfl, (by repeat (first | exact Fr.refl _ _ | assumption | refine Fr.trans0 ?_ (by assumption) | refine Fr.drewN ?_ _ | refine Fr.alloc ?_ _ | refine Fr.drew ?_))⟩
set_option maxHeartbeats 1000000 in
set_option maxRecDepth 100000 in
theorem tell_yes (w : World) (e b t c : Nat) (he : e ≤ 21) (hb : b < 4096) (ht : t < 4096) (hc : c < 4294967296) :
    Calls Tryz.prog 146 #[.int .u8 e, .int .u16 b, .int .u16 t, .int .u32 c] w fun r w' => r = .returned (.tuple #[.agg #[.int .i64 (ofI (hiI e b c) e b b), .int .i64 (ofI (hiI e b c) e b t)], .bool (okB (ofI (hiI e b c) e b b) (ofI (hiI e b c) e b t))]) ∧ Fr [] w w' := by
  have CT := Lib.hid fun W q g x h => turn_any W q g x h
  have CO := Lib.hid fun W q1 q2 q3 q4 x h1 h2 h3 h4 hx => of_any W q1 q2 q3 q4 e b c x h1 h2 h3 h4 hc hx he
  have hed : bits .and .u16 (IntKind.u16.wrap ((b : Int) - 1024)) 4095 = (edgeN b : Int) := by
    have e1 : IntKind.u16.wrap ((b : Int) - 1024) = (((b + 64512) % 65536 : Nat) : Int) := by simp [IntKind.wrap, IntKind.signed, IntKind.bits]; omega
    rw [e1]
    have := u16_and_nat ((b + 64512) % 65536) 4095 (by omega) (by omega)
    rw [show ((4095 : Nat) : Int) = 4095 from rfl] at this
    rw [this, show (4095 : Nat) = 2 ^ 12 - 1 by rfl, Nat.and_two_pow_sub_one_eq_mod]
    unfold edgeN
    omega
  obtain ⟨q, hq⟩ : ∃ q, c / 2 ^ e = q := ⟨_, rfl⟩
  have hqi : (c : Int) / 2 ^ e = (q : Int) := by rw [← hq]; simp
  have hqc : q ≤ c := by rw [← hq]; exact Nat.div_le_self _ _
  obtain ⟨m, hm⟩ : ∃ m, q % 4096 = m := ⟨_, rfl⟩
  have han : bits .and .i64 (q : Int) 4095 = (m : Int) := by rw [i64_and4095 q (by omega), hm]
  have hm1 : m < 4096 := by omega
  obtain ⟨H, hH⟩ : ∃ H, hiI e b c = H := ⟨_, rfl⟩
  obtain ⟨t0, ht0⟩ : ∃ t0, trn m (edgeN b) = t0 := ⟨_, rfl⟩
  have hHq : (q : Int) / 4096 - t0 = H := by rw [← hH, ← ht0, ← hm, ← hq]; unfold hiI; simp
  have hb1 := hi_bd e b c hc
  have ht1 := trn_bd m (edgeN b)
  have hv1 := of_bd e b c b hc he hb
  have hv2 := of_bd e b c t hc he ht
  rw [hH] at hb1 hv1 hv2 CO ⊢
  rw [ht0] at ht1
  have C1 := Lib.hid fun W h => CT.out W (w.heap.size + 1 + 1) (edgeN b) m h
  rw [ht0] at C1
  obtain ⟨G, hG⟩ : ∃ G, edgeN b = G := ⟨_, rfl⟩
  rw [hG] at hed C1
  obtain ⟨X, hX⟩ : ∃ X, ofI H e b b = X := ⟨_, rfl⟩
  obtain ⟨Y, hY⟩ : ∃ Y, ofI H e b t = Y := ⟨_, rfl⟩
  have C2 := Lib.hid fun W h1 h2 h3 h4 => CO.out W (w.heap.size + 1 + 1 + 1 + 1) (w.heap.size + 1 + 1 + 1) w.heap.size (w.heap.size + 1 + 1) b h1 h2 h3 h4 hb
  have C3 := Lib.hid fun W h1 h2 h3 h4 => CO.out W (w.heap.size + 1 + 1 + 1 + 1) (w.heap.size + 1 + 1 + 1) w.heap.size (w.heap.size + 1 + 1) t h1 h2 h3 h4 ht
  rw [hX, hG] at C2
  rw [hY, hG] at C3
  rw [hX] at hv1 ⊢
  rw [hY] at hv2 ⊢
  clear hq hm hH ht0 hG hX hY CT CO
  go_enter Tryz.func146, Tryz.ntmps146
  go_wp2_with fail
  refine (C1.out _ (by go_simp)).mono ?_
  rintro e w' ⟨rfl, rfl⟩
  go_wp2_with fail
  refine (C2.out _ (by go_simp) (by go_simp) (by go_simp) (by go_simp)).mono ?_
  rintro e w2 ⟨rfl, n2, rfl⟩
  go_wp2_with fail
  refine (C3.out _ (by go_simp) (by go_simp) (by go_simp) (by go_simp)).mono ?_
  rintro e w3 ⟨rfl, n3, rfl⟩
  go_wp2_with fail
  obtain ⟨W, hW⟩ : ∃ W, ((((((w.alloc (.cells #[.int .u8 e] 5)).alloc (.cells #[.int .i64 0, .int .i64 0] 225)).alloc (.cells #[.int .u16 G] 47)).alloc (.cells #[.func (.func 154) #[] #[.pointer (some ⟨w.heap.size + 1 + 1, 0, none⟩)]] 234)).alloc (.cells #[.int .i64 H] 2)).drewN (n2 + n3)).alloc (.cells #[.int .i64 X, .int .i64 Y] 225) = W := ⟨_, rfl⟩
  have HF := Lib.hid (show Fr [] w W by rw [← hW]; exact (by repeat (first | exact Fr.refl _ _ | assumption | refine Fr.trans0 ?_ (by assumption) | refine Fr.drewN ?_ _ | refine Fr.alloc ?_ _ | refine Fr.drew ?_)))
  have HL := Lib.hid (show At W (w.heap.size + 1 + 1 + 1 + 1 + 1) 225 #[.int .i64 X, .int .i64 Y] by
    rw [← hW]
    have := At.new (((((w.alloc (.cells #[.int .u8 e] 5)).alloc (.cells #[.int .i64 0, .int .i64 0] 225)).alloc (.cells #[.int .u16 G] 47)).alloc (.cells #[.func (.func 154) #[] #[.pointer (some ⟨w.heap.size + 1 + 1, 0, none⟩)]] 234)).alloc (.cells #[.int .i64 H] 2)) 225 #[.int .i64 X, .int .i64 Y]
    simp only [World.size_alloc] at this
    exact this)
  have HR := Lib.hid (show At W (w.heap.size + 1) 225 #[.int .i64 0, .int .i64 0] by
    rw [← hW]
    have := At.new (w.alloc (.cells #[.int .u8 e] 5)) 225 #[.int .i64 0, .int .i64 0]
    simp only [World.size_alloc] at this
    exact At.old (At.drewN (((this.old _).old _).old _) _) _)
  rw [hW]
  have c0 := HL.out.cell 0
  have c1 := HL.out.cell 1
  have r0 := HR.out.froz 0
  have r1 := HR.out.froz 1
  have s0 := HR.out.cell 0
  have s1 := HR.out.cell 1
  simp only [List.getElem?_toArray, List.getElem?_cons_zero, List.getElem?_cons_succ] at c0 c1 s0 s1
  clear hW hHq hed han hqi hqc hm1 C1 C2 C3
  obtain ⟨L, hL⟩ : ∃ L, w.heap.size + 1 + 1 + 1 + 1 + 1 = L := ⟨_, rfl⟩
  obtain ⟨R, hR⟩ : ∃ R, w.heap.size + 1 = R := ⟨_, rfl⟩
  have hRw : w.heap.size ≤ R := by omega
  have hne : L ≠ R := by omega
  rw [hL] at c0 c1 ⊢
  rw [hR] at r0 r1 s0 s1 HR ⊢
  clear hL hR HL
  rcases Int.lt_or_le X 0 with h0 | h0
  · have d0 : decide (0 ≤ X) = false := by simpa using h0
    have HB := Lib.hid (show okB X Y = false by unfold okB; rw [d0]; rfl)
    go_region
    all_goals
      go_wp2_with fail
      have k0 := ((HR.out.set 0 (.int .i64 X)).set 1 (.int .i64 Y)).cell 0
      have k1 := ((HR.out.set 0 (.int .i64 X)).set 1 (.int .i64 Y)).cell 1
      simp only [List.setIfInBounds_toArray, List.set_cons_zero, List.set_cons_succ, List.getElem?_toArray, List.getElem?_cons_zero, List.getElem?_cons_succ] at k0 k1
      rw [HB.out]
      refine bodyPost_ret (by simp [results, Tryz.results146, go_sem, k0, k1]) rfl ⟨rfl, ((HF.out.set (.inr hRw) _).set (.inr hRw) _).drew⟩
  · have d0 : decide (0 ≤ X) = true := by simpa using h0
    rcases Int.lt_or_le Y X with h1 | h1
    · have d1 : decide (X ≤ Y) = false := by simpa using h1
      have HB := Lib.hid (show okB X Y = false by unfold okB; rw [d1, Bool.false_and, Bool.and_false])
      go_region
      all_goals
        go_wp2_with fail
        have k0 := ((HR.out.set 0 (.int .i64 X)).set 1 (.int .i64 Y)).cell 0
        have k1 := ((HR.out.set 0 (.int .i64 X)).set 1 (.int .i64 Y)).cell 1
        simp only [List.setIfInBounds_toArray, List.set_cons_zero, List.set_cons_succ, List.getElem?_toArray, List.getElem?_cons_zero, List.getElem?_cons_succ] at k0 k1
        rw [HB.out]
        refine bodyPost_ret (by simp [results, Tryz.results146, go_sem, k0, k1]) rfl ⟨rfl, ((HF.out.set (.inr hRw) _).set (.inr hRw) _).drew⟩
    · have d1 : decide (X ≤ Y) = true := by simpa using h1
      have HB := Lib.hid (show okB X Y = decide (Y ≤ 4294967296) by unfold okB; rw [d0, d1]; rfl)
      go_region
      all_goals
        go_wp2_with fail
        have k0 := ((HR.out.set 0 (.int .i64 X)).set 1 (.int .i64 Y)).cell 0
        have k1 := ((HR.out.set 0 (.int .i64 X)).set 1 (.int .i64 Y)).cell 1
        simp only [List.setIfInBounds_toArray, List.set_cons_zero, List.set_cons_succ, List.getElem?_toArray, List.getElem?_cons_zero, List.getElem?_cons_succ] at k0 k1
        rw [HB.out]
        refine bodyPost_ret (by simp [results, Tryz.results146, go_sem, k0, k1]) rfl ⟨rfl, ((HF.out.set (.inr hRw) _).set (.inr hRw) _).drew⟩
/-- The bounds that parts tell at a cursor. -/
def dOk (e b t c : Nat) : Bool := mayB e b t && (okB (ofI (hiI e b c) e b b) (ofI (hiI e b c) e b t) && !(ofI (hiI e b c) e b b == 4294967296))
def dBase (e b t c : Nat) : Int := if dOk e b t c = true then ofI (hiI e b c) e b b else 0
def dTop (e b t c : Nat) : Int := if dOk e b t c = true then ofI (hiI e b c) e b t else 0
theorem dec_any (w : World) (e b t c : Nat) (hc : c < 4294967296) :
    Calls Tryz.prog 127 #[.int .u8 e, .int .u16 b, .int .u16 t, .int .u32 c] w fun r w' => r = .returned (.tuple #[.int .u32 (dBase e b t c), .int .u64 (dTop e b t c)]) ∧ Fr [] w w' := by
  unfold dBase dTop
  by_cases hm : mayB e b t = true
  · have hm2 := hm
    unfold mayB at hm2
    simp only [Bool.and_eq_true, decide_eq_true_eq] at hm2
    obtain ⟨h1, h2, h3⟩ := hm2
    have C := Lib.hid (tell_yes w e b t c h1 h2 h3 hc)
    have HD := Lib.hid (show dOk e b t c = (okB (ofI (hiI e b c) e b b) (ofI (hiI e b c) e b t) && !(ofI (hiI e b c) e b b == 4294967296)) by unfold dOk; rw [hm, Bool.true_and])
    rw [HD.out]
    generalize ofI (hiI e b c) e b b = X at *
    generalize ofI (hiI e b c) e b t = Y at *
    by_cases hk : okB X Y = true
    · rw [hk] at C ⊢
      have hk2 := hk
      unfold okB at hk2
      simp only [Bool.and_eq_true, decide_eq_true_eq] at hk2
      obtain ⟨k1, k2, k3⟩ := hk2
      by_cases hx : X = 4294967296
      · rw [hx]
        rw [hx] at C
        simp only [beq_self_eq_true, Bool.not_true, Bool.and_false, Bool.false_eq_true, if_false]
        clear hk hm HD hx k1 k2 k3
        go_enter Tryz.func127, Tryz.ntmps127
        go_wp2_with (go_at_call 146; refine (C.out).mono ?_; rintro e w2 ⟨rfl, hf2⟩)
        go_ret2
        exact ⟨rfl, (hf2.alloc _)⟩
      · have hx2 : (X == 4294967296) = false := by simpa using hx
        rw [hx2]
        simp only [Bool.not_false, Bool.and_self, if_true]
        have k4 : X < 4294967296 := by omega
        have k5 : 0 ≤ Y := by omega
        have k6 : Y < 18446744073709551616 := by omega
        have e1 : IntKind.u32.wrap X = X := by simp [IntKind.wrap, IntKind.signed, IntKind.bits]; omega
        have e2 : IntKind.u64.wrap Y = Y := by simp [IntKind.wrap, IntKind.signed, IntKind.bits]; omega
        clear hk hm HD hx
        go_enter Tryz.func127, Tryz.ntmps127
        go_wp2_with (go_at_call 146; refine (C.out).mono ?_; rintro e w2 ⟨rfl, hf2⟩)
        go_quiet (fail)
        go_wp2
        go_ret2
        exact ⟨rfl, (hf2.alloc _).drewN _⟩
    · rw [Bool.not_eq_true] at hk
      rw [hk] at C ⊢
      simp only [Bool.false_and, Bool.false_eq_true, if_false]
      clear hk hm HD
      go_enter Tryz.func127, Tryz.ntmps127
      go_wp2_with (go_at_call 146; refine (C.out).mono ?_; rintro e w2 ⟨rfl, hf2⟩)
      go_ret2
      exact ⟨rfl, (hf2.alloc _)⟩
  · rw [Bool.not_eq_true] at hm
    have C := Lib.hid (tell_no w e b t c hm)
    have HD := Lib.hid (show dOk e b t c = false by unfold dOk; rw [hm, Bool.false_and])
    rw [HD.out]
    simp only [Bool.false_eq_true, if_false]
    clear hm HD
    go_enter Tryz.func127, Tryz.ntmps127
    go_wp2_with (go_at_call 146; refine (C.out).mono ?_; rintro e w2 ⟨rfl, hf2⟩)
    go_ret2
    exact ⟨rfl, (hf2.alloc _)⟩
end Go.Proofs.YthjbnbimfpbccaaGreatDoor
/-
  What the bounds functions compute: rounding to multiples of a power of two, the least exponent, padding. Conditions: addresses below 2^32, tops at most 2^32.
-/
namespace Go.Proofs.YthjbnbimfpbccaaGreatDoor
open Go.ChangeShapes Go.WideShapes Go.ChangeAt Go.RowKit
def rdn (b : Int) (e : Nat) : Int := b / 2 ^ e * 2 ^ e
def rup (t : Int) (e : Nat) : Int := (t + (2 ^ e - 1)) / 2 ^ e * 2 ^ e
theorem pow_bd (e : Nat) (he : e ≤ 21) : 1 ≤ (2 : Int) ^ e ∧ (2 : Int) ^ e ≤ 2097152 := by
  have h1 : (1 : Nat) ≤ 2 ^ e := Nat.one_le_two_pow
  have h2 : 2 ^ e ≤ 2 ^ 21 := Nat.pow_le_pow_right (by omega) he
  have : ((2 ^ e : Nat) : Int) = (2 : Int) ^ e := by simp
  omega
theorem rdn_bd (b : Int) (e : Nat) (he : e ≤ 21) (h : 0 ≤ b) : 0 ≤ rdn b e ∧ rdn b e ≤ b ∧ b < rdn b e + 2 ^ e := by
  unfold rdn
  have hp := pow_bd e he
  generalize (2 : Int) ^ e = u at *
  have h1 := Int.ediv_mul_add_emod b u
  have h2 := Int.emod_nonneg b (show u ≠ 0 by omega)
  have h3 := Int.emod_lt_of_pos b (show 0 < u by omega)
  have h4 : 0 ≤ b / u := Int.ediv_nonneg h (by omega)
  have h5 : 0 ≤ b / u * u := Int.mul_nonneg h4 (by omega)
  omega
theorem rup_bd (t : Int) (e : Nat) (he : e ≤ 21) (h : 0 ≤ t) : 0 ≤ rup t e ∧ t ≤ rup t e ∧ rup t e < t + 2 ^ e := by
  have := rdn_bd (t + (2 ^ e - 1)) e he (by have := pow_bd e he; omega)
  unfold rdn at this; unfold rup
  omega
theorem rdn_zero (e : Nat) : rdn 0 e = 0 := by simp [rdn]
theorem dvd_whole (e : Nat) (he : e ≤ 21) : ∃ k : Int, (4294967296 : Int) = 2 ^ e * k :=
  ⟨2 ^ (32 - e), by rw [← Int.pow_add, show e + (32 - e) = 32 by omega]; rfl⟩
/-- A multiple of 2^e that is not less than t is not less than t rounded up. -/
theorem rup_least (t q : Int) (e : Nat) (he : e ≤ 21) (h : t ≤ 2 ^ e * q) : rup t e ≤ 2 ^ e * q := by
  unfold rup
  have hp := pow_bd e he
  generalize (2 : Int) ^ e = u at *
  have h1 : (t + (u - 1)) / u < q + 1 := Int.ediv_lt_of_lt_mul (by omega) (by rw [Int.add_mul, Int.mul_comm q u]; omega)
  rw [Int.mul_comm]
  exact Int.mul_le_mul_of_nonneg_left (by omega) (by omega)
theorem rup_whole (t : Int) (e : Nat) (he : e ≤ 21) (h : t ≤ 4294967296) : rup t e ≤ 4294967296 := by
  obtain ⟨k, hk⟩ := dvd_whole e he
  rw [hk] at h ⊢
  exact rup_least t k e he h
theorem andNot_low (x e : Nat) (hx : x < 2 ^ 64) (he : e ≤ 64) : x &&& (2 ^ 64 - 1 - (2 ^ e - 1)) = x / 2 ^ e * 2 ^ e := by
  apply Nat.eq_of_testBit_eq
  intro j
  rw [Nat.testBit_and, Nat.testBit_mul_two_pow, Nat.testBit_div_two_pow]
  have h : 2 ^ 64 - 1 - (2 ^ e - 1) = 2 ^ 64 - (2 ^ e - 1 + 1) := by
    have : 2 ^ e ≤ 2 ^ 64 := Nat.pow_le_pow_right (by omega) he
    have : 1 ≤ 2 ^ e := Nat.one_le_two_pow
    omega
  rw [h, Nat.testBit_two_pow_sub_succ (by have : 2 ^ e ≤ 2 ^ 64 := Nat.pow_le_pow_right (by omega) he
                                          have : 1 ≤ 2 ^ e := Nat.one_le_two_pow
                                          omega)]
  rw [Nat.testBit_two_pow_sub_one]
  by_cases h1 : e ≤ j
  · have : ¬ j < e := by omega
    by_cases h2 : j < 64
    · simp [h1, this, h2, show j - e + e = j by omega]
    · have : x.testBit j = false := Nat.testBit_lt_two_pow (Nat.lt_of_lt_of_le hx (Nat.pow_le_pow_right (by omega) (by omega)))
      simp [this, h1]
  · have : j < e := by omega
    simp [h1, this]
theorem andNot_pow (x : Int) (e : Nat) (h0 : 0 ≤ x) (h1 : x < 18446744073709551616) (he : e ≤ 21) : bits .andNot .u64 x (2 ^ e - 1) = x / 2 ^ e * 2 ^ e := by
  obtain ⟨X, rfl⟩ := Int.eq_ofNat_of_zero_le h0
  have hp := pow_bd e he
  have h2 : (2 : Int) ^ e = ((2 ^ e : Nat) : Int) := by simp
  rw [u64_andNot _ _ h0 h1 (by omega) (by omega)]
  have h3 : ((2 : Int) ^ e - 1).toNat = 2 ^ e - 1 := by omega
  rw [h3, Int.toNat_natCast]
  have := andNot_low X e (by omega) (by omega)
  rw [show (18446744073709551615 : Nat) = 2 ^ 64 - 1 by rfl, this]
  simp
def goes (b t : Int) (e : Nat) : Bool := decide (rup t e - rdn b e ≤ 2048 * 2 ^ e)
def expoF (b t : Int) : Nat → Nat → Nat
  | 0, e => e
  | n + 1, e => if goes b t e = true then e else expoF b t n (e + 1)
def expo (b t : Int) : Nat := expoF b t 21 0
theorem expoF_yes (b t : Int) (n e : Nat) (h : goes b t e = true) (hn : 0 < n) : expoF b t n e = e := by
  cases n with
  | zero => omega
  | succ n => simp [expoF, h]
theorem expoF_no (b t : Int) (n e : Nat) (h : goes b t e = false) (hn : 0 < n) : expoF b t n e = expoF b t (n - 1) (e + 1) := by
  cases n with
  | zero => omega
  | succ n => simp [expoF, h]
theorem expoF_le (b t : Int) : ∀ n e : Nat, expoF b t n e ≤ e + n
  | 0, e => by simp [expoF]
  | n + 1, e => by
    have := expoF_le b t n (e + 1)
    simp only [expoF]; split <;> omega
theorem expo_le (b t : Int) : expo b t ≤ 21 := by have := expoF_le b t 21 0; unfold expo; omega
theorem goes_iff (b t : Int) (e : Nat) : goes b t e = decide (rup t e - rdn b e ≤ 2048 * 2 ^ e) := rfl
theorem goes_last (b t : Int) (h1 : 0 ≤ b) (h2 : b ≤ t) (h4 : t ≤ 4294967296) : goes b t 21 = true := by
  have q1 := rdn_bd b 21 (by omega) h1
  have q2 := rup_whole t 21 (by omega) h4
  have e : (2 : Int) ^ 21 = 2097152 := rfl
  rw [goes_iff]
  simp; omega
def padB (s : Int) : Int × Int := if rup s (expo 0 s) = 4294967296 then (0, 0) else (rup s (expo 0 s), 2 ^ expo 0 s)

theorem rounded_any (b t : Int) (e : Nat) (w : World) (he : e ≤ 21) (h1 : 0 ≤ b) (h2 : b < 4294967296) (h3 : 0 ≤ t) (h4 : t ≤ 4294967296) :
    Calls Tryz.prog 136 #[.int .u32 b, .int .u64 t, .int .i64 e] w fun r w' => r = .returned (.tuple #[.int .u64 (rdn b e), .int .u64 (rup t e)]) ∧ w = w' := by
  obtain ⟨hp1, hp2⟩ := pow_bd e he
  go_enter Tryz.func136, Tryz.ntmps136
  go_wp2
  go_ret2
  exact ⟨ret_two (andNot_pow b e h1 (by omega) he) (andNot_pow (t + (2 ^ e - 1)) e (by omega) (by omega) he), rfl⟩
theorem exponent_any (b t : Int) (w : World) (h1 : 0 ≤ b) (h2 : b < 4294967296) (h3 : 0 ≤ t) (h4 : t ≤ 4294967296) (h5 : b ≤ t) :
    Calls Tryz.prog 135 #[.int .u32 b, .int .u64 t] w fun r w' => r = .returned (.int .i64 (expo b t)) ∧ w = w' := by
  go_enter Tryz.func135, Tryz.ntmps135
  go_wp2
  go_loop [8] (fun i => ∃ k : Nat, k ≤ 21 ∧ i = .int .i64 k ∧ expo b t = expoF b t (21 - k) k) (fun i => 21 - (intOf i).toNat)
  case atStart => exact ⟨0, by omega, rfl, rfl⟩
  case round =>
    obtain ⟨k, hk, rfl, hex⟩ := hrel
    have Hex := Lib.hid hex; clear hex
    by_cases hlt : k < 21
    · have hp := pow_bd k hk
      have q1 := rdn_bd b k hk h1
      have q2 := rup_bd t k hk h3
      cases hg : goes b t k
      · have Hg := Lib.hid hg
        have ht : decide (rup t k - rdn b k ≤ 2048 * 2 ^ k) = false := by rw [← goes_iff]; exact hg
        clear hg
        go_wp2_with (go_at_call 136; refine (rounded_any b t k _ (by omega) h1 h2 h3 h4).mono ?_; rintro e w' ⟨rfl, rfl⟩)
        refine ⟨⟨k + 1, by omega, by go_num, ?_⟩, by simp [intOf]; omega⟩
        rw [Hex.out, expoF_no _ _ _ _ Hg.out (by omega), Nat.sub_sub]
      · have Hg := Lib.hid hg
        have ht : decide (rup t k - rdn b k ≤ 2048 * 2 ^ k) = true := by rw [← goes_iff]; exact hg
        clear hg
        go_wp2_with (go_at_call 136; refine (rounded_any b t k _ (by omega) h1 h2 h3 h4).mono ?_; rintro e w' ⟨rfl, rfl⟩)
        go_ret
        exact ⟨ret_int (by rw [Hex.out, expoF_yes _ _ _ _ Hg.out (by omega)]), rfl⟩
    · obtain rfl : k = 21 := by omega
      go_wp2
      go_ret
      exact ⟨ret_int (by rw [Hex.out]; rfl), rfl⟩
end Go.Proofs.YthjbnbimfpbccaaGreatDoor
