/-
  What the bounds functions compute: rounding to multiples of a power of two, the least exponent, padding. Conditions: addresses below 2^32, tops at most 2^32.
-/
import Derived.Test.YtdbpmojblgmhdaaDoorBase
namespace Go.Proofs.YtdbpmojblgmhdaaDoor
open Go.ChangeShapes Go.WideShapes Go.ChangeAt Go.RowKit
def rdn (b : Int) (e : Nat) : Int := b / 2 ^ e * 2 ^ e
def rup (t : Int) (e : Nat) : Int := (t + (2 ^ e - 1)) / 2 ^ e * 2 ^ e
theorem pow_bd (e : Nat) (he : e ≤ 21) : 1 ≤ (2 : Int) ^ e ∧ (2 : Int) ^ e ≤ 2097152 := by
  have h1 : (1 : Nat) ≤ 2 ^ e := Nat.one_le_two_pow
  have h2 : 2 ^ e ≤ 2 ^ 21 := Nat.pow_le_pow_right (by omega) he
  have : ((2 ^ e : Nat) : Int) = (2 : Int) ^ e := by simp
  omega
theorem rdn_bd (b : Int) (e : Nat) (he : e ≤ 21) (h : 0 ≤ b) : 0 ≤ rdn b e ∧ rdn b e ≤ b ∧ b < rdn b e + 2 ^ e := by
  unfold rdn
  have hp := pow_bd e he
  generalize (2 : Int) ^ e = u at *
  have h1 := Int.ediv_mul_add_emod b u
  have h2 := Int.emod_nonneg b (show u ≠ 0 by omega)
  have h3 := Int.emod_lt_of_pos b (show 0 < u by omega)
  have h4 : 0 ≤ b / u := Int.ediv_nonneg h (by omega)
  have h5 : 0 ≤ b / u * u := Int.mul_nonneg h4 (by omega)
  omega
theorem rup_bd (t : Int) (e : Nat) (he : e ≤ 21) (h : 0 ≤ t) : 0 ≤ rup t e ∧ t ≤ rup t e ∧ rup t e < t + 2 ^ e := by
  have := rdn_bd (t + (2 ^ e - 1)) e he (by have := pow_bd e he; omega)
  unfold rdn at this; unfold rup
  omega
theorem rdn_zero (e : Nat) : rdn 0 e = 0 := by simp [rdn]
theorem dvd_whole (e : Nat) (he : e ≤ 21) : ∃ k : Int, (4294967296 : Int) = 2 ^ e * k :=
  ⟨2 ^ (32 - e), by rw [← Int.pow_add, show e + (32 - e) = 32 by omega]; rfl⟩
/-- A multiple of 2^e that is not less than t is not less than t rounded up. -/
theorem rup_least (t q : Int) (e : Nat) (he : e ≤ 21) (h : t ≤ 2 ^ e * q) : rup t e ≤ 2 ^ e * q := by
  unfold rup
  have hp := pow_bd e he
  generalize (2 : Int) ^ e = u at *
  have h1 : (t + (u - 1)) / u < q + 1 := Int.ediv_lt_of_lt_mul (by omega) (by rw [Int.add_mul, Int.mul_comm q u]; omega)
  rw [Int.mul_comm]
  exact Int.mul_le_mul_of_nonneg_left (by omega) (by omega)
theorem rup_whole (t : Int) (e : Nat) (he : e ≤ 21) (h : t ≤ 4294967296) : rup t e ≤ 4294967296 := by
  obtain ⟨k, hk⟩ := dvd_whole e he
  rw [hk] at h ⊢
  exact rup_least t k e he h
theorem andNot_low (x e : Nat) (hx : x < 2 ^ 64) (he : e ≤ 64) : x &&& (2 ^ 64 - 1 - (2 ^ e - 1)) = x / 2 ^ e * 2 ^ e := by
  apply Nat.eq_of_testBit_eq
  intro j
  rw [Nat.testBit_and, Nat.testBit_mul_two_pow, Nat.testBit_div_two_pow]
  have h : 2 ^ 64 - 1 - (2 ^ e - 1) = 2 ^ 64 - (2 ^ e - 1 + 1) := by
    have : 2 ^ e ≤ 2 ^ 64 := Nat.pow_le_pow_right (by omega) he
    have : 1 ≤ 2 ^ e := Nat.one_le_two_pow
    omega
  rw [h, Nat.testBit_two_pow_sub_succ (by have : 2 ^ e ≤ 2 ^ 64 := Nat.pow_le_pow_right (by omega) he
                                          have : 1 ≤ 2 ^ e := Nat.one_le_two_pow
                                          omega)]
  rw [Nat.testBit_two_pow_sub_one]
  by_cases h1 : e ≤ j
  · have : ¬ j < e := by omega
    by_cases h2 : j < 64
    · simp [h1, this, h2, show j - e + e = j by omega]
    · have : x.testBit j = false := Nat.testBit_lt_two_pow (Nat.lt_of_lt_of_le hx (Nat.pow_le_pow_right (by omega) (by omega)))
      simp [this, h1]
  · have : j < e := by omega
    simp [h1, this]
theorem andNot_pow (x : Int) (e : Nat) (h0 : 0 ≤ x) (h1 : x < 18446744073709551616) (he : e ≤ 21) : bits .andNot .u64 x (2 ^ e - 1) = x / 2 ^ e * 2 ^ e := by
  obtain ⟨X, rfl⟩ := Int.eq_ofNat_of_zero_le h0
  have hp := pow_bd e he
  have h2 : (2 : Int) ^ e = ((2 ^ e : Nat) : Int) := by simp
  rw [u64_andNot _ _ h0 h1 (by omega) (by omega)]
  have h3 : ((2 : Int) ^ e - 1).toNat = 2 ^ e - 1 := by omega
  rw [h3, Int.toNat_natCast]
  have := andNot_low X e (by omega) (by omega)
  rw [show (18446744073709551615 : Nat) = 2 ^ 64 - 1 by rfl, this]
  simp
def goes (b t : Int) (e : Nat) : Bool := decide (rup t e - rdn b e ≤ 2048 * 2 ^ e)
def expoF (b t : Int) : Nat → Nat → Nat
  | 0, e => e
  | n + 1, e => if goes b t e = true then e else expoF b t n (e + 1)
def expo (b t : Int) : Nat := expoF b t 21 0
theorem expoF_yes (b t : Int) (n e : Nat) (h : goes b t e = true) (hn : 0 < n) : expoF b t n e = e := by
  cases n with
  | zero => omega
  | succ n => simp [expoF, h]
theorem expoF_no (b t : Int) (n e : Nat) (h : goes b t e = false) (hn : 0 < n) : expoF b t n e = expoF b t (n - 1) (e + 1) := by
  cases n with
  | zero => omega
  | succ n => simp [expoF, h]
theorem expoF_le (b t : Int) : ∀ n e : Nat, expoF b t n e ≤ e + n
  | 0, e => by simp [expoF]
  | n + 1, e => by
    have := expoF_le b t n (e + 1)
    simp only [expoF]; split <;> omega
theorem expo_le (b t : Int) : expo b t ≤ 21 := by have := expoF_le b t 21 0; unfold expo; omega
theorem goes_iff (b t : Int) (e : Nat) : goes b t e = decide (rup t e - rdn b e ≤ 2048 * 2 ^ e) := rfl
theorem goes_last (b t : Int) (h1 : 0 ≤ b) (h2 : b ≤ t) (h4 : t ≤ 4294967296) : goes b t 21 = true := by
  have q1 := rdn_bd b 21 (by omega) h1
  have q2 := rup_whole t 21 (by omega) h4
  have e : (2 : Int) ^ 21 = 2097152 := rfl
  rw [goes_iff]
  simp; omega
def padB (s : Int) : Int × Int := if rup s (expo 0 s) = 4294967296 then (0, 0) else (rup s (expo 0 s), 2 ^ expo 0 s)

theorem rounded_any (b t : Int) (e : Nat) (w : World) (he : e ≤ 21) (h1 : 0 ≤ b) (h2 : b < 4294967296) (h3 : 0 ≤ t) (h4 : t ≤ 4294967296) :
    Calls Tryd.prog 34 #[.int .u32 b, .int .u64 t, .int .i64 e] w fun r w' => r = .returned (.tuple #[.int .u64 (rdn b e), .int .u64 (rup t e)]) ∧ w = w' := by
  obtain ⟨hp1, hp2⟩ := pow_bd e he
  go_enter Tryd.func34, Tryd.ntmps34
  go_wp2
  go_ret2
  exact ⟨ret_two (andNot_pow b e h1 (by omega) he) (andNot_pow (t + (2 ^ e - 1)) e (by omega) (by omega) he), rfl⟩
theorem exponent_any (b t : Int) (w : World) (h1 : 0 ≤ b) (h2 : b < 4294967296) (h3 : 0 ≤ t) (h4 : t ≤ 4294967296) (h5 : b ≤ t) :
    Calls Tryd.prog 33 #[.int .u32 b, .int .u64 t] w fun r w' => r = .returned (.int .i64 (expo b t)) ∧ w = w' := by
  go_enter Tryd.func33, Tryd.ntmps33
  go_wp2
  go_loop [8] (fun i => ∃ k : Nat, k ≤ 21 ∧ i = .int .i64 k ∧ expo b t = expoF b t (21 - k) k) (fun i => 21 - (intOf i).toNat)
  case atStart => exact ⟨0, by omega, rfl, rfl⟩
  case round =>
    obtain ⟨k, hk, rfl, hex⟩ := hrel
    have Hex := Lib.hid hex; clear hex
    by_cases hlt : k < 21
    · have hp := pow_bd k hk
      have q1 := rdn_bd b k hk h1
      have q2 := rup_bd t k hk h3
      cases hg : goes b t k
      · have Hg := Lib.hid hg
        have ht : decide (rup t k - rdn b k ≤ 2048 * 2 ^ k) = false := by rw [← goes_iff]; exact hg
        clear hg
        go_wp2_with (go_at_call 34; refine (rounded_any b t k _ (by omega) h1 h2 h3 h4).mono ?_; rintro e w' ⟨rfl, rfl⟩)
        refine ⟨⟨k + 1, by omega, by go_num, ?_⟩, by simp [intOf]; omega⟩
        rw [Hex.out, expoF_no _ _ _ _ Hg.out (by omega), Nat.sub_sub]
      · have Hg := Lib.hid hg
        have ht : decide (rup t k - rdn b k ≤ 2048 * 2 ^ k) = true := by rw [← goes_iff]; exact hg
        clear hg
        go_wp2_with (go_at_call 34; refine (rounded_any b t k _ (by omega) h1 h2 h3 h4).mono ?_; rintro e w' ⟨rfl, rfl⟩)
        go_ret
        exact ⟨ret_int (by rw [Hex.out, expoF_yes _ _ _ _ Hg.out (by omega)]), rfl⟩
    · obtain rfl : k = 21 := by omega
      go_wp2
      go_ret
      exact ⟨ret_int (by rw [Hex.out]; rfl), rfl⟩
theorem pad_any (s : Int) (w : World) (h1 : 0 ≤ s) (h2 : s < 4294967296) :
    Calls Tryd.prog 29 #[.int .u32 s] w fun r w' => r = .returned (.tuple #[.int .u32 (padB s).1, .int .u32 (padB s).2]) ∧ ∃ n, w' = w.drewN n := by
  have he := expo_le 0 s
  have hp := pow_bd _ he
  have q2 := rup_bd s _ he h1
  have q3 := rup_whole s _ he (by omega)
  by_cases hw : rup s (expo 0 s) = 4294967296
  · have hb : (rup s (expo 0 s) == 4294967296) = true := by simp [hw]
    have H := Lib.hid hw; clear hw
    go_enter Tryd.func29, Tryd.ntmps29
    go_wp2_with (first | (go_at_call 33; refine (exponent_any 0 s _ (by omega) (by omega) h1 (by omega) h1).mono ?_; rintro e w' ⟨rfl, rfl⟩) | (go_at_call 34; refine (rounded_any 0 s _ _ he (by omega) (by omega) h1 (by omega)).mono ?_; rintro e w' ⟨rfl, rfl⟩))
    go_ret2
    exact ⟨by unfold padB; rw [if_pos H.out]; rfl, 0, rfl⟩
  · have hb : (rup s (expo 0 s) == 4294967296) = false := by simp [hw]
    have H := Lib.hid hw
    have q4 : rup s (expo 0 s) < 4294967296 := by omega
    clear hw q3
    go_enter Tryd.func29, Tryd.ntmps29
    go_wp2_with (first | (go_at_call 33; refine (exponent_any 0 s _ (by omega) (by omega) h1 (by omega) h1).mono ?_; rintro e w' ⟨rfl, rfl⟩) | (go_at_call 34; refine (rounded_any 0 s _ _ he (by omega) (by omega) h1 (by omega)).mono ?_; rintro e w' ⟨rfl, rfl⟩))
    go_quiet (fail)
    go_wp2
    go_ret2
    exact ⟨by unfold padB; rw [if_neg H.out]; rfl, _, rfl⟩
end Go.Proofs.YtdbpmojblgmhdaaDoor
