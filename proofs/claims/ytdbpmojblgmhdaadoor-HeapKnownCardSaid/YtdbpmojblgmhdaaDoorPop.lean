/-
  math/bits.OnesCount64 counts the bits that are set. Condition: the type's own range.
-/

import Derived.Test.YtdbpmojblgmhdaaDoorBase
set_option linter.unusedVariables false
namespace Go.Proofs.YtdbpmojblgmhdaaDoor
open Go.ChangeShapes Go.WideShapes Go.ChangeAt Go.RowKit
/-! ### plain: how many of the first m places -/
def cnt (g : Nat → Bool) : Nat → Nat
  | 0 => 0
  | m + 1 => cnt g m + if g m = true then 1 else 0
theorem cnt_congr {g h : Nat → Bool} : ∀ m, (∀ i, i < m → g i = h i) → cnt g m = cnt h m
  | 0, _ => rfl
  | m + 1, e => by simp only [cnt]; rw [cnt_congr m fun i hi => e i (by omega), e m (by omega)]
theorem cnt_add (g : Nat → Bool) (a : Nat) : ∀ b, cnt g (a + b) = cnt g a + cnt (fun j => g (a + j)) b
  | 0 => rfl
  | b + 1 => by rw [← Nat.add_assoc]; simp only [cnt]; rw [cnt_add g a b]; omega
theorem cnt_le (g : Nat → Bool) : ∀ m, cnt g m ≤ m
  | 0 => Nat.le_refl _
  | m + 1 => by have := cnt_le g m; simp only [cnt]; split <;> omega
theorem cnt_zero (g : Nat → Bool) (m : Nat) (h : ∀ i, i < m → g i = false) : cnt g m = 0 := by
  induction m with
  | zero => rfl
  | succ m ih => simp only [cnt]; rw [ih fun i hi => h i (by omega), h m (by omega)]; rfl
theorem cnt_pos (g : Nat → Bool) (m i : Nat) (hi : i < m) (h : g i = true) : 0 < cnt g m := by
  induction m with
  | zero => omega
  | succ m ih =>
    simp only [cnt]
    by_cases e : i = m
    · subst e; rw [if_pos h]; omega
    · have := ih (by omega); omega
/-! ### bytes -/
def bytes : List Nat → Nat
  | [] => 0
  | L :: l => bytes l * 256 + L
def msk (c : Nat) : Nat → Nat
  | 0 => 0
  | n + 1 => msk c n * 256 + c
theorem and_cat (a b c d : Nat) (hb : b < 256) (hd : d < 256) : (a * 256 + b) &&& (c * 256 + d) = (a &&& c) * 256 + (b &&& d) := by
  have hbd : b &&& d < 256 := Nat.and_lt_two_pow (n := 8) _ hd
  apply Nat.eq_of_testBit_eq
  intro j
  rw [Nat.testBit_and]
  have key : ∀ x y : Nat, y < 256 → (x * 256 + y).testBit j = if j < 8 then y.testBit j else x.testBit (j - 8) := by
    intro x y hy
    have := Nat.testBit_two_pow_mul_add (i := 8) x hy j
    rw [Nat.mul_comm] at this
    exact this
  rw [key a b hb, key c d hd, key _ _ hbd]
  split <;> simp [Nat.testBit_and]
def t1 (L : Nat) : Nat := (L / 2 &&& 85) + (L &&& 85)
def t2 (L : Nat) : Nat := (L / 4 &&& 51) + (L &&& 51)
def t3 (L : Nat) : Nat := (L / 16 + L) &&& 15
theorem low1 : ∀ h : Fin 2, ∀ L : Fin 256, ((h.val * 128 + L.val / 2) &&& 85) = (L.val / 2 &&& 85) ∧ t1 L.val < 256 := by decide +kernel
theorem low2 : ∀ h : Fin 4, ∀ L : Fin 256, ((h.val * 64 + L.val / 4) &&& 51) = (L.val / 4 &&& 51) ∧ t2 L.val < 256 := by decide +kernel
theorem low3 : ∀ L : Fin 256, (t2 (t1 L.val)) % 16 ≤ 4 ∧ t2 (t1 L.val) / 16 ≤ 4 ∧ t3 (t2 (t1 L.val)) = cnt L.val.testBit 8 := by decide +kernel
theorem step1 : ∀ l : List Nat, (∀ L ∈ l, L < 256) → (bytes l / 2 &&& msk 85 l.length) + (bytes l &&& msk 85 l.length) = bytes (l.map t1)
  | [], _ => rfl
  | L :: l, h => by
    have hL : L < 256 := h L (by simp)
    have ih := step1 l fun x hx => h x (by simp [hx])
    have e := (low1 ⟨bytes l % 2, by omega⟩ ⟨L, hL⟩).1
    dsimp only at e
    simp only [bytes, msk, List.length_cons, List.map_cons]
    rw [show (bytes l * 256 + L) / 2 = bytes l / 2 * 256 + (bytes l % 2 * 128 + L / 2) by omega, and_cat _ _ _ _ (by omega) (by omega), and_cat _ _ _ _ hL (by omega), e, ← ih]
    simp only [t1]; omega
theorem step2 : ∀ l : List Nat, (∀ L ∈ l, L < 256) → (bytes l / 4 &&& msk 51 l.length) + (bytes l &&& msk 51 l.length) = bytes (l.map t2)
  | [], _ => rfl
  | L :: l, h => by
    have hL : L < 256 := h L (by simp)
    have ih := step2 l fun x hx => h x (by simp [hx])
    have e := (low2 ⟨bytes l % 4, by omega⟩ ⟨L, hL⟩).1
    dsimp only at e
    simp only [bytes, msk, List.length_cons, List.map_cons]
    rw [show (bytes l * 256 + L) / 4 = bytes l / 4 * 256 + (bytes l % 4 * 64 + L / 4) by omega, and_cat _ _ _ _ (by omega) (by omega), and_cat _ _ _ _ hL (by omega), e, ← ih]
    simp only [t2]; omega
theorem and15 (n : Nat) : n &&& 15 = n % 16 := Nat.and_two_pow_sub_one_eq_mod n 4
theorem step3 : ∀ l : List Nat, (∀ L ∈ l, L % 16 ≤ 4 ∧ L / 16 ≤ 4) → (bytes l / 16 + bytes l) &&& msk 15 l.length = bytes (l.map t3)
  | [], _ => rfl
  | L :: l, h => by
    have hL := h L (by simp)
    have ih := step3 l fun x hx => h x (by simp [hx])
    have hl : bytes l % 16 ≤ 4 := by
      cases l with
      | nil => simp [bytes]
      | cons L' l' => have := h L' (by simp); simp only [bytes]; omega
    simp only [bytes, msk, List.length_cons, List.map_cons]
    rw [show (bytes l * 256 + L) / 16 + (bytes l * 256 + L) = (bytes l / 16 + bytes l) * 256 + (bytes l % 16 * 16 + L / 16 + L) by omega, and_cat _ _ _ _ (by omega) (by omega), ih]
    simp only [t3, and15]; omega
theorem cnt_bytes : ∀ l : List Nat, (∀ L ∈ l, L < 256) → cnt (bytes l).testBit (8 * l.length) = (l.map fun L => cnt L.testBit 8).sum
  | [], _ => rfl
  | L :: l, h => by
    have hL : L < 256 := h L (by simp)
    have ih := cnt_bytes l fun x hx => h x (by simp [hx])
    have key : ∀ j, (bytes l * 256 + L).testBit j = if j < 8 then L.testBit j else (bytes l).testBit (j - 8) := fun j => by
      have := Nat.testBit_two_pow_mul_add (i := 8) (bytes l) hL j
      rw [Nat.mul_comm] at this
      exact this
    rw [show 8 * (L :: l).length = 8 + 8 * l.length by simp; omega, cnt_add, List.map_cons, List.sum_cons, ← ih]
    congr 1
    · exact cnt_congr 8 fun i hi => by simp only [bytes]; rw [key, if_pos hi]
    · exact cnt_congr _ fun i hi => by simp only [bytes]; rw [key, if_neg (by omega)]; congr 1; omega
def p1 (X : Nat) : Nat := (X / 2 &&& 6148914691236517205) + (X &&& 6148914691236517205)
def p2 (X : Nat) : Nat := (X / 4 &&& 3689348814741910323) + (X &&& 3689348814741910323)
def p3 (X : Nat) : Nat := (X / 16 + X) &&& 1085102592571150095
def p4 (X : Nat) : Nat := X + X / 256
def p5 (X : Nat) : Nat := X + X / 65536
def p6 (X : Nat) : Nat := X + X / 4294967296
theorem p3_bytes (l : List Nat) (h : ∀ L ∈ l, L < 256) (hl : l.length = 8) : p3 (p2 (p1 (bytes l))) = bytes (l.map fun L => cnt L.testBit 8) := by
  have e1 := step1 l h
  have e2 := step2 (l.map t1) (by simp only [List.mem_map]; rintro x ⟨L, hL, rfl⟩; exact (low1 0 ⟨L, h L hL⟩).2)
  have e3 := step3 ((l.map t1).map t2) (by
    simp only [List.mem_map]; rintro x ⟨y, ⟨L, hL, rfl⟩, rfl⟩
    have := low3 ⟨L, h L hL⟩; exact ⟨this.1, this.2.1⟩)
  rw [hl, show msk 85 8 = 6148914691236517205 by rfl] at e1
  rw [List.length_map, hl, show msk 51 8 = 3689348814741910323 by rfl] at e2
  rw [List.length_map, List.length_map, hl, show msk 15 8 = 1085102592571150095 by rfl] at e3
  unfold p3 p2 p1
  rw [e1, e2, e3, List.map_map, List.map_map]
  congr 1
  refine List.map_congr_left fun L hL => ?_
  exact (low3 ⟨L, h L hL⟩).2.2
theorem eight (X : Nat) (h : X < 18446744073709551616) : ∃ a b c d e f g k : Nat, X = bytes [a, b, c, d, e, f, g, k] ∧ ∀ L ∈ [a, b, c, d, e, f, g, k], L < 256 := by
  refine ⟨X % 256, X / 256 % 256, X / 65536 % 256, X / 16777216 % 256, X / 4294967296 % 256, X / 1099511627776 % 256, X / 281474976710656 % 256, X / 72057594037927936 % 256, ?_, ?_⟩
  · simp only [bytes]; omega
  · intro L hL
    simp only [List.mem_cons, List.not_mem_nil, or_false] at hL
    omega
theorem pop_eq (X : Nat) (h : X < 18446744073709551616) : p6 (p5 (p4 (p3 (p2 (p1 X))))) % 128 = cnt X.testBit 64 ∧ p6 (p5 (p4 (p3 (p2 (p1 X))))) < 9223372036854775808 := by
  obtain ⟨a, b, c, d, e, f, g, k, hX, hl⟩ := eight X h
  have h3 := p3_bytes _ hl rfl
  have h8 := cnt_bytes _ hl
  rw [← hX] at h3 h8
  rw [show 8 * [a, b, c, d, e, f, g, k].length = 64 by rfl] at h8
  rw [h3, h8]
  have ha := cnt_le a.testBit 8
  have hb := cnt_le b.testBit 8
  have hc := cnt_le c.testBit 8
  have hd := cnt_le d.testBit 8
  have he := cnt_le e.testBit 8
  have hf := cnt_le f.testBit 8
  have hg := cnt_le g.testBit 8
  have hk := cnt_le k.testBit 8
  simp only [List.map_cons, List.map_nil, List.sum_cons, List.sum_nil]
  generalize cnt a.testBit 8 = A at *
  generalize cnt b.testBit 8 = B at *
  generalize cnt c.testBit 8 = C at *
  generalize cnt d.testBit 8 = D at *
  generalize cnt e.testBit 8 = E at *
  generalize cnt f.testBit 8 = F at *
  generalize cnt g.testBit 8 = G at *
  generalize cnt k.testBit 8 = K at *
  have q3 : bytes [A, B, C, D, E, F, G, K] = bytes [A, B, C, D, E, F, G, K] := rfl
  have q4 : p4 (bytes [A, B, C, D, E, F, G, K]) = bytes [A + B, B + C, C + D, D + E, E + F, F + G, G + K, K] := by simp only [p4, bytes]; omega
  have q5 : p5 (bytes [A + B, B + C, C + D, D + E, E + F, F + G, G + K, K]) = bytes [A + B + (C + D), B + C + (D + E), C + D + (E + F), D + E + (F + G), E + F + (G + K), F + G + K, G + K, K] := by simp only [p5, bytes]; omega
  have q6 : p6 (bytes [A + B + (C + D), B + C + (D + E), C + D + (E + F), D + E + (F + G), E + F + (G + K), F + G + K, G + K, K]) = bytes [A + B + (C + D) + (E + F + (G + K)), B + C + (D + E) + (F + G + K), C + D + (E + F) + (G + K), D + E + (F + G) + K, E + F + (G + K), F + G + K, G + K, K] := by simp only [p6, bytes]; omega
  rw [q4, q5, q6]
  constructor
  · show (bytes _ * 256 + (A + B + (C + D) + (E + F + (G + K)))) % 128 = _
    omega
  · simp only [bytes]; omega
theorem and_le' (a m : Nat) : a &&& m ≤ m := Nat.and_le_right
theorem wrap_nat (a : Nat) (h : a < 18446744073709551616) : IntKind.u64.wrap (a : Int) = a := IntWalk.u64_in _ (by omega)
theorem band (a b : Nat) (ha : a < 18446744073709551616) (hb : b < 18446744073709551616) : bits .and .u64 (a : Int) (b : Int) = ((a &&& b : Nat) : Int) := u64_and_nat a b ha hb
theorem i1 (X : Nat) (h : X < 18446744073709551616) : IntKind.u64.wrap (bits .and .u64 ((X : Int) / 2) 6148914691236517205 + bits .and .u64 (X : Int) 6148914691236517205) = (p1 X : Int) := by
  have e1 := band (X / 2) 6148914691236517205 (by omega) (by omega)
  have e2 := band X 6148914691236517205 h (by omega)
  have l1 := and_le' (X / 2) 6148914691236517205
  have l2 := and_le' X 6148914691236517205
  have e3 := wrap_nat (p1 X) (by unfold p1; omega)
  rw [← e3]; unfold p1
  simp only [Int.natCast_add, ← e1, ← e2]
  rfl
theorem i2 (X : Nat) (h : X < 18446744073709551616) : IntKind.u64.wrap (bits .and .u64 ((X : Int) / 4) 3689348814741910323 + bits .and .u64 (X : Int) 3689348814741910323) = (p2 X : Int) := by
  have e1 := band (X / 4) 3689348814741910323 (by omega) (by omega)
  have e2 := band X 3689348814741910323 h (by omega)
  have l1 := and_le' (X / 4) 3689348814741910323
  have l2 := and_le' X 3689348814741910323
  have e3 := wrap_nat (p2 X) (by unfold p2; omega)
  rw [← e3]; unfold p2
  simp only [Int.natCast_add, ← e1, ← e2]
  rfl
theorem i3 (X : Nat) (h : X ≤ 7378697629483820646) : bits .and .u64 (IntKind.u64.wrap ((X : Int) / 16 + (X : Int))) 1085102592571150095 = (p3 X : Int) := by
  have e0 : ((X : Int) / 16 + (X : Int)) = ((X / 16 + X : Nat) : Int) := by omega
  rw [e0, wrap_nat _ (by omega)]
  exact band (X / 16 + X) 1085102592571150095 (by omega) (by omega)
theorem i4 (X : Nat) (h : X ≤ 9000000000000000000) : IntKind.u64.wrap ((X : Int) + (X : Int) / 256) = (p4 X : Int) := by
  have e0 : ((X : Int) + (X : Int) / 256) = (p4 X : Int) := by unfold p4; omega
  rw [e0, wrap_nat _ (by unfold p4; omega)]
theorem i5 (X : Nat) (h : X ≤ 9000000000000000000) : IntKind.u64.wrap ((X : Int) + (X : Int) / 65536) = (p5 X : Int) := by
  have e0 : ((X : Int) + (X : Int) / 65536) = (p5 X : Int) := by unfold p5; omega
  rw [e0, wrap_nat _ (by unfold p5; omega)]
theorem i6 (X : Nat) (h : X ≤ 9000000000000000000) : IntKind.u64.wrap ((X : Int) + (X : Int) / 4294967296) = (p6 X : Int) := by
  have e0 : ((X : Int) + (X : Int) / 4294967296) = (p6 X : Int) := by unfold p6; omega
  rw [e0, wrap_nat _ (by unfold p6; omega)]
def u64max : Int := 18446744073709551615
theorem pop_all (X : Nat) (h : X < 18446744073709551616) : p1 X ≤ 12297829382473034410 ∧ p2 (p1 X) ≤ 7378697629483820646 ∧ p3 (p2 (p1 X)) ≤ 1085102592571150095 ∧ p4 (p3 (p2 (p1 X))) ≤ 2170205185142300190 ∧ p5 (p4 (p3 (p2 (p1 X)))) ≤ 4340410370284600380 := by
  have a1 := and_le' (X / 2) 6148914691236517205
  have a2 := and_le' X 6148914691236517205
  have b1 : p1 X ≤ 12297829382473034410 := by unfold p1; omega
  have a3 := and_le' (p1 X / 4) 3689348814741910323
  have a4 := and_le' (p1 X) 3689348814741910323
  have b2 : p2 (p1 X) ≤ 7378697629483820646 := by unfold p2; omega
  have b3 : p3 (p2 (p1 X)) ≤ 1085102592571150095 := and_le' _ _
  have b4 : p4 (p3 (p2 (p1 X))) ≤ 2170205185142300190 := by unfold p4; omega
  have b5 : p5 (p4 (p3 (p2 (p1 X)))) ≤ 4340410370284600380 := by unfold p5; omega
  exact ⟨b1, b2, b3, b4, b5⟩
theorem and127 (n : Nat) (h : n < 9223372036854775808) : bits .and .i64 (IntKind.i64.wrap (n : Int)) 127 = ((n % 128 : Nat) : Int) := by
  rw [IntWalk.i64_in _ (by omega)]
  show IntKind.i64.wrap ((BitVec.ofInt 64 (n : Int) &&& BitVec.ofInt 64 127).toNat : Int) = _
  rw [BitVec.toNat_and, show (127 : Int) = ((127 : Nat) : Int) by rfl, ofInt_u64 n (by omega), ofInt_u64 127 (by omega), show n &&& 127 = n % 128 from Nat.and_two_pow_sub_one_eq_mod n 7, IntWalk.i64_in _ (by omega)]
theorem pop_any (x : Int) (w : World) (h1 : 0 ≤ x) (h2 : x ≤ u64max) :
    Calls Tryd.prog 76 #[.int .u64 x] w fun r w' => r = .returned (.int .i64 (cnt x.toNat.testBit 64)) ∧ w = w' := by
  go_enter Tryd.func76, Tryd.ntmps76
  go_wp2
  go_ret
  refine ⟨ret_int ?_, rfl⟩
  obtain ⟨X, rfl⟩ := Int.eq_ofNat_of_zero_le h1
  unfold u64max at h2
  obtain ⟨b1, b2, b3, b4, b5⟩ := pop_all X (by omega)
  have e := pop_eq X (by omega)
  show bits .and .i64 (RowKit.wrap64 _) 127 = _
  rw [← IntWalk.i64_left]
  rw [i1 X (by omega), i2 _ (by omega), i3 _ b2, i4 _ (by omega), i5 _ (by omega), i6 _ (by omega), and127 _ e.2, e.1, Int.toNat_natCast]
end Go.Proofs.YtdbpmojblgmhdaaDoor
