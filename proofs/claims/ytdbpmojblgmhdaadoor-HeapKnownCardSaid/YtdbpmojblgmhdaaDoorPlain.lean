/-
  Plain facts on padding: it rises, it is the least, what is padded is padded to itself, and its bounds are exact. No program here. Conditions as stated in each.
-/
import Derived.Test.YtdbpmojblgmhdaaDoorPadded
set_option linter.unusedVariables false
namespace Go.Proofs.YtdbpmojblgmhdaaDoor
theorem pow_pos' (e : Nat) : 0 < (2 : Int) ^ e := Int.pow_pos (by omega)
theorem rup_dvd (t : Int) (e : Nat) : ∃ k : Int, rup t e = 2 ^ e * k := ⟨_, Int.mul_comm _ _⟩
theorem rup_self (q : Int) (e : Nat) : rup (2 ^ e * q) e = 2 ^ e * q := by
  unfold rup
  have hp := pow_pos' e
  generalize (2 : Int) ^ e = u at *
  rw [Int.mul_comm u q, Int.add_comm, Int.add_mul_ediv_right _ _ (by omega), Int.ediv_eq_zero_of_lt (by omega) (by omega), Int.zero_add]
theorem rdn_self (q : Int) (e : Nat) : rdn (2 ^ e * q) e = 2 ^ e * q := by
  unfold rdn
  have hp := pow_pos' e
  rw [Int.mul_ediv_cancel_left _ (by omega), Int.mul_comm]
theorem rup_mono (a b : Int) (e : Nat) (he : e ≤ 21) (ha : 0 ≤ a) (h : a ≤ b) : rup a e ≤ rup b e := by
  obtain ⟨k, hk⟩ := rup_dvd b e
  rw [hk]
  refine rup_least a k e he ?_
  have := rup_bd b e he (by omega)
  omega
theorem pow_split (d e : Nat) (h : d ≤ e) : (2 : Int) ^ e = 2 ^ d * 2 ^ (e - d) := by rw [← Int.pow_add]; congr 1; omega
theorem dvd_down (x k : Int) (d e : Nat) (h : d ≤ e) (hx : x = 2 ^ e * k) : ∃ j : Int, x = 2 ^ d * j := ⟨2 ^ (e - d) * k, by rw [hx, pow_split d e h, Int.mul_assoc]⟩
theorem rup_lt_goes (n : Int) (e : Nat) (he : e ≤ 21) (h : goes 0 n e = false) : 2048 * 2 ^ e < n := by
  rcases Int.lt_or_le (2048 * 2 ^ e) n with h1 | h1
  · exact h1
  · have := rup_least n 2048 e he (by rw [Int.mul_comm]; exact h1)
    rw [goes_iff, rdn_zero] at h
    simp at h
    rw [Int.mul_comm] at this
    omega
theorem expoF_ge (b t : Int) : ∀ n e : Nat, e ≤ expoF b t n e
  | 0, e => by simp [expoF]
  | n + 1, e => by have := expoF_ge b t n (e + 1); simp only [expoF]; split <;> omega
theorem expoF_goes (b t : Int) (hl : goes b t 21 = true) : ∀ n e : Nat, n + e = 21 → goes b t (expoF b t n e) = true
  | 0, e, h => by obtain rfl : e = 21 := by omega
                  simpa [expoF] using hl
  | n + 1, e, h => by
    simp only [expoF]
    split
    · assumption
    · exact expoF_goes b t hl n (e + 1) (by omega)
theorem expoF_first (b t : Int) : ∀ n e d : Nat, e ≤ d → d < expoF b t n e → goes b t d = false
  | 0, e, d, h1, h2 => by simp [expoF] at h2; omega
  | n + 1, e, d, h1, h2 => by
    simp only [expoF] at h2
    split at h2
    · omega
    · rename_i hg
      by_cases h : d = e
      · subst h; simpa using hg
      · exact expoF_first b t n (e + 1) d (by omega) h2
theorem expo_goes (b t : Int) (h1 : 0 ≤ b) (h2 : b ≤ t) (h4 : t ≤ 4294967296) : goes b t (expo b t) = true := expoF_goes b t (goes_last b t h1 h2 h4) 21 0 rfl
theorem expo_first (b t : Int) (d : Nat) (h : d < expo b t) : goes b t d = false := expoF_first b t 21 0 d (by omega) h
theorem expo_least (b t : Int) (d : Nat) (h : goes b t d = true) : expo b t ≤ d := by
  rcases Nat.lt_or_ge d (expo b t) with h1 | h1
  · rw [expo_first b t d h1] at h; cases h
  · exact h1
theorem expo_rup (n : Int) (h1 : 0 ≤ n) (h2 : n ≤ 4294967296) : rup n (expo 0 n) ≤ 2048 * 2 ^ expo 0 n := by
  have := expo_goes 0 n (by omega) h1 h2
  rw [goes_iff, rdn_zero] at this
  simpa using this
theorem expo_mono (a b : Int) (ha : 0 ≤ a) (h : a ≤ b) (hb : b ≤ 4294967296) : expo 0 a ≤ expo 0 b := by
  refine expo_least 0 a _ ?_
  have h1 := expo_rup b (by omega) hb
  have h2 := rup_mono a b (expo 0 b) (expo_le 0 b) ha h
  rw [goes_iff, rdn_zero]
  simp; omega
/-- Padding of whole pages rises. -/
theorem pad_mono (a b : Int) (ha : 0 ≤ a) (h : a ≤ b) (hb : b ≤ 4294967296) : rup a (expo 0 a) ≤ rup b (expo 0 b) := by
  have hm := expo_mono a b ha h hb
  rcases Nat.lt_or_ge (expo 0 a) (expo 0 b) with hl | hl
  · have h1 := expo_rup a ha (by omega)
    have h2 := rup_lt_goes b _ (expo_le 0 a) (expo_first 0 b _ hl)
    have h3 := rup_bd b _ (expo_le 0 b) (by omega)
    omega
  · rw [show expo 0 b = expo 0 a by omega]
    exact rup_mono a b _ (expo_le 0 a) ha h
/-- What a size is padded to, whatever the heap. -/
def padR (s : Int) : Option (Int × Int) :=
  if s = 0 then none else
  if s ≤ 256 then some (slotV (clsV s), slotV (clsV s)) else
  if 4294967296 ≤ pageUp s then none else
  if rup (pageUp s) (expo 0 (pageUp s)) = 4294967296 then none else some (rup (pageUp s) (expo 0 (pageUp s)), max (2 ^ expo 0 (pageUp s)) 256)
def padO (h : Int) : Option (Int × Int) → Int × Int × Int
  | none => (0, 0, 6)
  | some (p, a) => if p ≤ h then (p, a, 0) else (0, 0, 6)
theorem padV_eq (s h : Int) : padV s h = padO h (padR s) := by
  unfold padV padR
  by_cases h0 : s = 0
  · rw [if_pos h0, if_pos h0]; rfl
  rw [if_neg h0, if_neg h0]
  by_cases h1 : s ≤ 256
  · rw [if_pos h1, if_pos h1]; rfl
  rw [if_neg h1, if_neg h1]
  by_cases h2 : 4294967296 ≤ pageUp s
  · rw [if_pos h2, if_pos h2]; rfl
  rw [if_neg h2, if_neg h2]
  unfold padB
  by_cases h3 : rup (pageUp s) (expo 0 (pageUp s)) = 4294967296
  · rw [if_pos h3, if_pos h3]; simp [padO]
  · rw [if_neg h3, if_neg h3]
    have := pow_pos' (expo 0 (pageUp s))
    simp only [padO]
    by_cases h4 : rup (pageUp s) (expo 0 (pageUp s)) ≤ h
    · rw [if_neg (by omega), if_pos h4]
    · rw [if_pos (by omega), if_neg h4]
theorem slot_mono (a b : Int) (h0 : 0 < a) (h : a ≤ b) (hb : b ≤ 256) : slotV (clsV a) ≤ slotV (clsV b) := by unfold slotV clsV; omega
theorem slot_cls (s : Int) (h0 : 0 < s) (hb : s ≤ 256) : s ≤ slotV (clsV s) := by unfold slotV clsV; omega
theorem pageUp_mono (a b : Int) (h : a ≤ b) : pageUp a ≤ pageUp b := by unfold pageUp; omega
theorem padR_pos (s : Int) (hs : 0 ≤ s) (h : 256 < s) (hn : pageUp s < 4294967296) (hr : rup (pageUp s) (expo 0 (pageUp s)) ≠ 4294967296) :
    padR s = some (rup (pageUp s) (expo 0 (pageUp s)), max (2 ^ expo 0 (pageUp s)) 256) := by
  unfold padR
  rw [if_neg (by omega), if_neg (by omega), if_neg (by omega), if_neg hr]
/-- What is padded, in the one case or in the other. -/
theorem padR_some (s p a : Int) (hs : 0 ≤ s) (h : padR s = some (p, a)) :
    (0 < s ∧ s ≤ 256 ∧ p = slotV (clsV s) ∧ a = p) ∨
    (256 < s ∧ pageUp s < 4294967296 ∧ p = rup (pageUp s) (expo 0 (pageUp s)) ∧ p ≠ 4294967296 ∧ a = max (2 ^ expo 0 (pageUp s)) 256) := by
  unfold padR at h
  split at h
  · cases h
  split at h
  · injection h with h; injection h with h1 h2; left; exact ⟨by omega, by omega, h1.symm, by rw [← h2, ← h1]⟩
  split at h
  · cases h
  split at h
  · cases h
  · injection h with h; injection h with h1 h2
    right; exact ⟨by omega, by omega, h1.symm, by rw [← h1]; assumption, h2.symm⟩
theorem padR_mono (a b q d : Int) (h0 : 0 < a) (h : a ≤ b) (hb : padR b = some (q, d)) : ∃ p c, padR a = some (p, c) ∧ p ≤ q := by
  rcases padR_some b q d (by omega) hb with ⟨_, h2, rfl, _⟩ | ⟨h1, h2, rfl, h3, _⟩
  · refine ⟨slotV (clsV a), slotV (clsV a), ?_, slot_mono a b h0 h h2⟩
    unfold padR; rw [if_neg (by omega), if_pos (by omega)]
  · have hB := pageUp_bd b (by omega)
    by_cases ha : a ≤ 256
    · refine ⟨slotV (clsV a), slotV (clsV a), ?_, ?_⟩
      · unfold padR; rw [if_neg (by omega), if_pos (by omega)]
      · have := rup_bd (pageUp b) _ (expo_le 0 (pageUp b)) (by omega)
        have := slotV_bd (clsV a)
        omega
    · have hA := pageUp_bd a (by omega)
      have hm := pageUp_mono a b h
      have hp := pad_mono (pageUp a) (pageUp b) (by omega) hm (by omega)
      have hw := rup_whole (pageUp b) _ (expo_le 0 (pageUp b)) (by omega)
      exact ⟨_, _, padR_pos a (by omega) (by omega) (by omega) (by omega), hp⟩
theorem padR_ge (s p a : Int) (hs : 0 ≤ s) (h : padR s = some (p, a)) : s ≤ p ∧ 0 < p ∧ p < 4294967296 ∧ 0 < a ∧ a ≤ 2097152 := by
  rcases padR_some s p a hs h with ⟨h1, h2, rfl, rfl⟩ | ⟨h1, h2, rfl, h3, rfl⟩
  · have := slot_cls s h1 h2; have := slotV_bd (clsV s); omega
  · have := rup_bd (pageUp s) _ (expo_le 0 (pageUp s)) (by have := pageUp_bd s hs; omega)
    have := rup_whole (pageUp s) _ (expo_le 0 (pageUp s)) (by omega)
    have := pageUp_bd s hs
    have := pow_bd _ (expo_le 0 (pageUp s))
    omega
theorem page_pow (n : Int) (e : Nat) (he : 8 ≤ e) (k : Int) (h : n = 2 ^ e * k) : ∃ j : Int, n = 256 * j := dvd_down n k 8 e he h
theorem pageUp_dvd (s : Int) : ∃ j : Int, pageUp s = 256 * j := ⟨(s + 255) / 256, by unfold pageUp; omega⟩
theorem pageUp_self (j : Int) : pageUp (256 * j) = 256 * j := by unfold pageUp; omega
/-- Padded pages are whole pages, and a multiple of the align. -/
theorem pad_page (n : Int) (hn : 0 ≤ n) (hd : ∃ j : Int, n = 256 * j) : (∃ j : Int, rup n (expo 0 n) = 256 * j) ∧ ∃ j : Int, rup n (expo 0 n) = max (2 ^ expo 0 n) 256 * j := by
  obtain ⟨j, hj⟩ := hd
  rcases Nat.lt_or_ge (expo 0 n) 8 with h | h
  · have e1 : rup n (expo 0 n) = n := by
      obtain ⟨k, hk⟩ := dvd_down n j (expo 0 n) 8 (by omega) hj
      generalize expo 0 n = e at *
      rw [hk]; exact rup_self k e
    have hm : max ((2 : Int) ^ expo 0 n) 256 = 256 := by
      have := pow_split (expo 0 n) 8 (by omega)
      have h1 := pow_pos' (expo 0 n)
      have h2 := pow_pos' (8 - expo 0 n)
      have : (2 : Int) ^ expo 0 n ≤ 256 := by
        have h3 : (2 : Int) ^ expo 0 n * 1 ≤ 2 ^ expo 0 n * 2 ^ (8 - expo 0 n) := Int.mul_le_mul_of_nonneg_left (by omega) (by omega)
        have h4 : (2 : Int) ^ 8 = 256 := rfl
        omega
      omega
    rw [e1, hm]
    exact ⟨⟨j, hj⟩, ⟨j, hj⟩⟩
  · obtain ⟨k, hk⟩ := rup_dvd n (expo 0 n)
    have hm : max ((2 : Int) ^ expo 0 n) 256 = 2 ^ expo 0 n := by
      have := pow_split 8 (expo 0 n) h
      have h2 := pow_pos' (expo 0 n - 8)
      have h4 : (2 : Int) ^ 8 = 256 := rfl
      omega
    rw [hm]
    exact ⟨dvd_down _ k 8 _ h hk, ⟨k, hk⟩⟩
theorem padR_exact (s p a : Int) (hs : 0 ≤ s) (h : padR s = some (p, a)) : (∃ j : Int, p = a * j) ∧ (∃ j : Int, p = 16 * j) ∧ padR p = some (p, a) := by
  rcases padR_some s p a hs h with ⟨h1, h2, rfl, rfl⟩ | ⟨h1, h2, hp, h3, ha⟩
  · refine ⟨⟨1, by omega⟩, ?_, ?_⟩
    · exact ⟨slotV (clsV s) / 16, by unfold slotV clsV; omega⟩
    · unfold padR
      have h5 : clsV (slotV (clsV s)) = clsV s := by unfold clsV slotV; omega
      have h6 := slotV_bd (clsV s)
      have h7 := slot_cls s h1 h2
      rw [if_neg (by omega), if_pos (by omega), h5]
  · have hN := pageUp_bd s hs
    have hd := pageUp_dvd s
    generalize pageUp s = n at *
    obtain ⟨⟨j, hj⟩, ⟨k, hk⟩⟩ := pad_page n (by omega) hd
    have hle := rup_bd n _ (expo_le 0 n) (by omega)
    have hw := rup_whole n _ (expo_le 0 n) (by omega)
    have hself : pageUp p = p := by rw [hp, hj]; exact pageUp_self j
    have hexp : expo 0 p = expo 0 n := by
      have e1 := expo_mono n p (by omega) (by omega) (by omega)
      have e2 : expo 0 p ≤ expo 0 n := by
        refine expo_least 0 p _ ?_
        have := expo_rup n (by omega) (by omega)
        obtain ⟨c, hc⟩ := rup_dvd n (expo 0 n)
        rw [goes_iff, rdn_zero, hp, hc, rup_self, ← hc]
        simp; omega
      omega
    have hrup : rup p (expo 0 n) = p := by
      obtain ⟨c, hc⟩ := rup_dvd n (expo 0 n)
      rw [hp, hc, rup_self]
    refine ⟨⟨k, by rw [hp, ha]; exact hk⟩, ⟨16 * j, by rw [hp, hj]; omega⟩, ?_⟩
    rw [padR_pos p (by omega) (by omega) (by rw [hself]; omega) (by rw [hself, hexp, hrup]; exact h3), hself, hexp, hrup, ← ha]
/-- THE BOUNDS ARE EXACT: from a multiple of the align on, what is padded is rounded to itself. -/
theorem exact_at (s p a c : Int) (hs : 0 ≤ s) (h : padR s = some (p, a)) (hc : 0 ≤ a * c) (ht : a * c + p ≤ 4294967296) :
    rdn (a * c) (expo (a * c) (a * c + p)) = a * c ∧ rup (a * c + p) (expo (a * c) (a * c + p)) = a * c + p := by
  have key : ∀ e : Nat, e ≤ 21 → (∃ x : Int, a * c = 2 ^ e * x) → (∃ y : Int, a * c + p = 2 ^ e * y) → p ≤ 2048 * 2 ^ e →
      rdn (a * c) (expo (a * c) (a * c + p)) = a * c ∧ rup (a * c + p) (expo (a * c) (a * c + p)) = a * c + p := by
    rintro e he ⟨x, hx⟩ ⟨y, hy⟩ hp
    have hle : expo (a * c) (a * c + p) ≤ e := by
      refine expo_least _ _ _ ?_
      rw [goes_iff]
      have e1 : rdn (a * c) e = a * c := by rw [hx]; exact rdn_self x e
      have e2 : rup (a * c + p) e = a * c + p := by rw [hy]; exact rup_self y e
      rw [e1, e2]
      simp; omega
    generalize expo (a * c) (a * c + p) = d at *
    obtain ⟨x', hx'⟩ := dvd_down _ x d e hle hx
    obtain ⟨y', hy'⟩ := dvd_down _ y d e hle hy
    constructor
    · rw [hx']; exact rdn_self x' d
    · rw [hy']; exact rup_self y' d
  rcases padR_some s p a hs h with ⟨h1, h2, h3, h4⟩ | ⟨h1, h2, hp, h3, ha⟩
  · have := slotV_bd (clsV s)
    exact key 0 (by omega) ⟨a * c, by simp⟩ ⟨a * c + p, by simp⟩ (by simp; omega)
  · have hN := pageUp_bd s hs
    have hd := pageUp_dvd s
    generalize pageUp s = n at *
    have hr := expo_rup n (by omega) (by omega)
    obtain ⟨k, hk⟩ := rup_dvd n (expo 0 n)
    have hx : ∃ x : Int, a * c = 2 ^ expo 0 n * x := by
      rcases Nat.lt_or_ge (expo 0 n) 8 with h5 | h5
      · have hm : a = 256 := by
          have := pow_split (expo 0 n) 8 (by omega)
          have h1 := pow_pos' (expo 0 n)
          have h2 := pow_pos' (8 - expo 0 n)
          have h3 : (2 : Int) ^ expo 0 n * 1 ≤ 2 ^ expo 0 n * 2 ^ (8 - expo 0 n) := Int.mul_le_mul_of_nonneg_left (by omega) (by omega)
          have h4 : (2 : Int) ^ 8 = 256 := rfl
          omega
        exact dvd_down (a * c) c (expo 0 n) 8 (by omega) (by rw [hm]; rfl)
      · have hm : a = 2 ^ expo 0 n := by
          have := pow_split 8 (expo 0 n) h5
          have h2 := pow_pos' (expo 0 n - 8)
          have h4 : (2 : Int) ^ 8 = 256 := rfl
          omega
        exact ⟨c, by rw [hm]⟩
    obtain ⟨x, hx⟩ := hx
    exact key _ (expo_le 0 n) ⟨x, hx⟩ ⟨x + k, by rw [hx, hp, hk, Int.mul_add]⟩ (by rw [hp]; exact hr)
end Go.Proofs.YtdbpmojblgmhdaaDoor
