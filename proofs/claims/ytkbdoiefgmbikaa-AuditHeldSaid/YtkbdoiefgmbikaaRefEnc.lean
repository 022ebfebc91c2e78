/-
  What the reference of layer 3 makes of a region: rounded, exponent, Encode. Condition: numbers in their types' ranges.
-/


import Derived.Test.YtkbdoiefgmbikaaCaps
import Derived.Test.YtkbdoiefgmbikaaRefDec
import Derived.Test.YtkbdoiefgmbikaaHeld
set_option linter.unusedVariables false
namespace Go.Proofs.Ytkbdoiefgmbikaa
open Go.ChangeShapes Go.WideShapes Go.ChangeAt Go.RowKit
set_option maxRecDepth 100000 in
theorem r03rounded_any (w : World) (b t e : Nat) (hb : b < 4294967296) (ht : t ≤ 4294967296) (he : e ≤ 21) :
    Calls Try.prog 66 #[.int .u32 b, .int .u64 t, .int .u8 e] w fun r w' => r = .returned (.tuple #[.int .u64 ((b / 2 ^ e * 2 ^ e : Nat) : Int), .int .u64 ((up t e * 2 ^ e : Nat) : Int)]) ∧ Fr [] w w' := by
  obtain ⟨p1, p2⟩ := pw e he
  unfold up
  obtain ⟨U, hU⟩ : ∃ U, 2 ^ e = U := ⟨_, rfl⟩
  have hsh : IntKind.u64.wrap ((2 : Int) ^ e) = (U : Int) := by
    have : ((2 ^ e : Nat) : Int) = (2 : Int) ^ e := by simp
    rw [← this, hU]
    simp [IntKind.wrap, IntKind.signed, IntKind.bits]; omega
  rw [hU] at p1 p2 ⊢
  have hU0 : ¬ (U : Int) = 0 := by omega
  have hU1 : ¬ U = 0 := by omega
  have hm1 : b / U * U ≤ b := Nat.div_mul_le_self b U
  have hm2 : (t + (U - 1)) / U * U ≤ t + (U - 1) := Nat.div_mul_le_self _ U
  obtain ⟨x, hx⟩ : ∃ x, b / U = x := ⟨_, rfl⟩
  obtain ⟨y, hy⟩ : ∃ y, (t + (U - 1)) / U = y := ⟨_, rfl⟩
  have hxI : (b : Int) / (U : Int) = (x : Int) := by rw [← hx]; simp
  have hyI : ((t : Int) + (U : Int) - 1) / (U : Int) = (y : Int) := by
    rw [← hy, show (t : Int) + (U : Int) - 1 = ((t + (U - 1) : Nat) : Int) by omega]; simp
  have hyT : ((t : Int) + (U : Int) - 1).tdiv (U : Int) = (y : Int) := by rw [Int.tdiv_eq_ediv_of_nonneg (by omega)]; exact hyI
  rw [hx] at hm1 ⊢
  rw [hy] at hm2 ⊢
  have wu : ∀ n : Nat, n < 18446744073709551616 → IntKind.u64.wrap (n : Int) = n := fun n h => by simp [IntKind.wrap, IntKind.signed, IntKind.bits]; omega
  have v1 := wu b (by omega)
  have v2 := wu x (by have := Nat.div_le_self b U; omega)
  have v3 : IntKind.u64.wrap ((x : Int) * (U : Int)) = (x : Int) * (U : Int) := by have := wu (x * U) (by omega); simpa using this
  have v4 : IntKind.u64.wrap ((t : Int) + (U : Int)) = (t : Int) + (U : Int) := wu (t + U) (by omega)
  have v5 : IntKind.u64.wrap ((t : Int) + (U : Int) - 1) = (t : Int) + (U : Int) - 1 := by rw [show (t : Int) + (U : Int) - 1 = ((t + (U - 1) : Nat) : Int) by omega]; exact wu _ (by omega)
  have v6 : IntKind.u64.wrap ((y : Int) * (U : Int)) = (y : Int) * (U : Int) := by have := wu (y * U) (by omega); simpa using this
  have v7 := wu y (by have := Nat.div_le_self (t + (U - 1)) U; omega)
  clear wu hx hy
  go_enter Try.func66, Try.ntmps66
  go_wp2_with fail
  refine wp_region_L (fun W => Fr [] w W) [] (by kernel_rfl) (Fr.refl _ _).drew (fun hHeld => ?_)
  refine wpAnyL_take (i := 0) (v := ?_) rfl (by kernel_rfl) (fun _ _ _ h => h) (Or.inl ⟨by rfl, ?_⟩) (by assumption) ?_; rotate_left; (focus (intro w hSw; skip; go_simp; (try with_reducible rfl))); (try (refine wpAnyL_norm (by simp only [Act.put, List.setIfInBounds_toArray, List.set_cons_zero, List.set_cons_succ]; rfl) ?_))
  refine wpAnyL_take (i := 1) (v := ?_) rfl (by kernel_rfl) (fun _ _ _ h => h) (Or.inl ⟨by rfl, ?_⟩) (by assumption) ?_; rotate_left; (focus (intro w hSw; skip; go_simp; (try with_reducible rfl))); (try (refine wpAnyL_norm (by simp only [Act.put, List.setIfInBounds_toArray, List.set_cons_zero, List.set_cons_succ]; rfl) ?_))
  refine wpAnyL_take (i := 2) (v := ?_) rfl (by kernel_rfl) (fun _ _ _ h => h) (Or.inl ⟨by rfl, ?_⟩) (by assumption) ?_; rotate_left; (focus (intro w hSw; skip; go_simp; (try with_reducible rfl))); (try (refine wpAnyL_norm (by simp only [Act.put, List.setIfInBounds_toArray, List.set_cons_zero, List.set_cons_succ]; rfl) ?_))
  refine wpAnyL_take (i := 3) (v := ?_) rfl (by kernel_rfl) (fun _ _ _ h => h) (Or.inl ⟨by rfl, ?_⟩) (by assumption) ?_; rotate_left; (focus (intro w hSw; skip; go_simp; (try with_reducible rfl))); (try (refine wpAnyL_norm (by simp only [Act.put, List.setIfInBounds_toArray, List.set_cons_zero, List.set_cons_succ]; rfl) ?_))
  refine wpAnyL_take (i := 4) (v := ?_) rfl (by kernel_rfl) (fun _ _ _ h => h) (Or.inl ⟨by rfl, ?_⟩) (by assumption) ?_; rotate_left; (focus (intro w hSw; skip; go_simp; (try with_reducible rfl))); (try (refine wpAnyL_norm (by simp only [Act.put, List.setIfInBounds_toArray, List.set_cons_zero, List.set_cons_succ]; rfl) ?_))
  refine wpAnyL_take (i := 5) (v := ?_) rfl (by kernel_rfl) (fun _ _ _ h => h) (Or.inl ⟨by rfl, ?_⟩) (by assumption) ?_; rotate_left; (focus (intro w hSw; skip; go_simp; (try with_reducible rfl))); (try (refine wpAnyL_norm (by simp only [Act.put, List.setIfInBounds_toArray, List.set_cons_zero, List.set_cons_succ]; rfl) ?_))
  refine wpAnyL_take (i := 6) (v := ?_) rfl (by kernel_rfl) (fun _ _ _ h => h) (Or.inl ⟨by rfl, ?_⟩) (by assumption) ?_; rotate_left; (focus (intro w hSw; skip; go_simp; (try with_reducible rfl))); (try (refine wpAnyL_norm (by simp only [Act.put, List.setIfInBounds_toArray, List.set_cons_zero, List.set_cons_succ]; rfl) ?_))
  refine wpAnyL_take (i := 7) (v := ?_) rfl (by kernel_rfl) (fun _ _ _ h => h) (Or.inl ⟨by rfl, ?_⟩) (by assumption) ?_; rotate_left; (focus (intro w hSw; skip; go_simp; (try with_reducible rfl))); (try (refine wpAnyL_norm (by simp only [Act.put, List.setIfInBounds_toArray, List.set_cons_zero, List.set_cons_succ]; rfl) ?_))
  refine wpAnyL_take (i := 8) (v := ?_) rfl (by kernel_rfl) (fun _ _ _ h => h) (Or.inl ⟨by rfl, ?_⟩) (by assumption) ?_; rotate_left; (focus (intro w hSw; skip; go_simp; (try with_reducible rfl))); (try (refine wpAnyL_norm (by simp only [Act.put, List.setIfInBounds_toArray, List.set_cons_zero, List.set_cons_succ]; rfl) ?_))
  refine wpAnyL_take (i := 9) (v := ?_) rfl (by kernel_rfl) (fun _ _ _ h => h) (Or.inl ⟨by rfl, ?_⟩) (by assumption) ?_; rotate_left; (focus (intro w hSw; skip; go_simp; (try with_reducible rfl))); (try (refine wpAnyL_norm (by simp only [Act.put, List.setIfInBounds_toArray, List.set_cons_zero, List.set_cons_succ]; rfl) ?_))
  refine wpAnyL_take (i := 10) (v := ?_) rfl (by kernel_rfl) (fun _ _ _ h => h) (Or.inl ⟨by rfl, ?_⟩) (by assumption) ?_; rotate_left; (focus (intro w hSw; skip; go_simp; (try with_reducible rfl))); (try (refine wpAnyL_norm (by simp only [Act.put, List.setIfInBounds_toArray, List.set_cons_zero, List.set_cons_succ]; rfl) ?_))
  refine wpAnyL_take (i := 11) (v := ?_) rfl (by kernel_rfl) (fun _ _ _ h => h) (Or.inl ⟨by rfl, ?_⟩) (by assumption) ?_; rotate_left; (focus (intro w hSw; skip; go_simp; (try with_reducible rfl))); (try (refine wpAnyL_norm (by simp only [Act.put, List.setIfInBounds_toArray, List.set_cons_zero, List.set_cons_succ]; rfl) ?_))
  refine wpAnyL_take (i := 12) (v := ?_) rfl (by kernel_rfl) (fun _ _ _ h => h) (Or.inl ⟨by rfl, ?_⟩) (by assumption) ?_; rotate_left; (focus (intro w hSw; skip; go_simp; (try with_reducible rfl))); (try (refine wpAnyL_norm (by simp only [Act.put, List.setIfInBounds_toArray, List.set_cons_zero, List.set_cons_succ]; rfl) ?_))
  refine wpAnyL_take (i := 13) (v := ?_) rfl (by kernel_rfl) (fun _ _ _ h => h) (Or.inl ⟨by rfl, ?_⟩) (by assumption) ?_; rotate_left; (focus (intro w hSw; skip; go_simp; (try with_reducible rfl))); (try (refine wpAnyL_norm (by simp only [Act.put, List.setIfInBounds_toArray, List.set_cons_zero, List.set_cons_succ]; rfl) ?_))
  refine wpAnyL_take (i := 14) (v := ?_) rfl (by kernel_rfl) (fun _ _ _ h => h) (Or.inl ⟨by rfl, ?_⟩) (by assumption) ?_; rotate_left; (focus (intro w hSw; skip; go_simp; (try with_reducible rfl))); (try (refine wpAnyL_norm (by simp only [Act.put, List.setIfInBounds_toArray, List.set_cons_zero, List.set_cons_succ]; rfl) ?_))
  refine wpAnyL_take (i := 15) (v := ?_) rfl (by kernel_rfl) (fun _ _ _ h => h) (Or.inl ⟨by rfl, ?_⟩) (by assumption) ?_; rotate_left; (focus (intro w hSw; skip; go_simp; (try with_reducible rfl))); (try (refine wpAnyL_norm (by simp only [Act.put, List.setIfInBounds_toArray, List.set_cons_zero, List.set_cons_succ]; rfl) ?_))
  refine wpAnyL_done (by kernel_rfl) ?_ _
  go_wp2_with fail
  go_ret2
  exact ⟨by simp, hHeld⟩
theorem goes_nat (b t e : Nat) : goes (b : Int) (t : Int) e = decide (up t e * 2 ^ e ≤ b / 2 ^ e * 2 ^ e + 2048 * 2 ^ e) := by
  rw [goes_iff, rup_nat, rdn_nat, decide_eq_decide]
  have : (2048 : Int) * 2 ^ e = ((2048 * 2 ^ e : Nat) : Int) := by simp
  rw [this]
  omega
theorem up_ge (t e : Nat) : t ≤ up t e * 2 ^ e := by
  unfold up
  have hp : 0 < 2 ^ e := Nat.two_pow_pos e
  have h1 := Nat.div_add_mod (t + (2 ^ e - 1)) (2 ^ e)
  have h2 := Nat.mod_lt (t + (2 ^ e - 1)) hp
  rw [Nat.mul_comm] at h1
  omega
theorem up_lt (t e : Nat) : up t e * 2 ^ e ≤ t + (2 ^ e - 1) := by unfold up; exact Nat.div_mul_le_self _ _
set_option maxHeartbeats 2000000 in
set_option maxRecDepth 100000 in
theorem r03expo_any (w : World) (b t : Nat) (hb : b < 4294967296) (ht : t ≤ 4294967296) (hbt : b ≤ t) :
    Calls Try.prog 65 #[.int .u32 b, .int .u64 t] w fun r w' => r = .returned (.int .u8 (expo (b : Int) (t : Int))) ∧ Fr [] w w' := by
  go_enter Try.func65, Try.ntmps65
  go_wp2_with fail
  go_loopw [5] (fun i wr => ∃ k : Nat, k ≤ 21 ∧ i = .int .u8 k ∧ expo (b : Int) (t : Int) = expoF (b : Int) (t : Int) (21 - k) k ∧ Fr [] w wr) (fun i _ => 21 - (intOf i).toNat)
  case atStart => exact ⟨0, by omega, rfl, rfl, Fr.refl _ _⟩
  case round =>
    obtain ⟨k, hk, rfl, he, hf⟩ := hrel
    have FR := Lib.hid hf
    have HE := Lib.hid he
    clear hf he
    have C := Lib.hid (r03rounded_any wr b t k hb ht hk)
    obtain ⟨p1, p2⟩ := pw k hk
    have g1 := up_ge t k
    have g2 := up_lt t k
    have g3 := Nat.div_mul_le_self b (2 ^ k)
    obtain ⟨B, hB⟩ : ∃ B, goes (b : Int) (t : Int) k = B := ⟨_, rfl⟩
    have hg := goes_nat b t k
    rw [hB] at hg
    have HBB := Lib.hid hB
    clear hB
    obtain ⟨x, hx⟩ : ∃ x, b / 2 ^ k * 2 ^ k = x := ⟨_, rfl⟩
    obtain ⟨y, hy⟩ : ∃ y, up t k * 2 ^ k = y := ⟨_, rfl⟩
    rw [hx, hy] at hg C
    rw [hx] at g3
    rw [hy] at g1 g2
    have hyx : IntKind.u64.wrap ((y : Int) - (x : Int)) = (y : Int) - (x : Int) := by simp [IntKind.wrap, IntKind.signed, IntKind.bits]; omega
    obtain ⟨V, hV⟩ : ∃ V, 2048 * 2 ^ k = V := ⟨_, rfl⟩
    have hVl : V ≤ 4294967296 := by omega
    have hVI : (2048 : Int) * (2 : Int) ^ k = (V : Int) := by rw [← hV]; simp
    have hVw : IntKind.u64.wrap (V : Int) = (V : Int) := by simp [IntKind.wrap, IntKind.signed, IntKind.bits]; omega
    rw [hV] at hg
    have hk8 : IntKind.u8.wrap ((k : Int) + 1) = (k : Int) + 1 := by simp [IntKind.wrap, IntKind.signed, IntKind.bits]; omega
    cases B
    · have hle : ¬ (y : Int) - (x : Int) ≤ (V : Int) := by
        have := hg.symm
        simp at this
        omega
      have hk21 : k ≠ 21 := fun e => by
        have := goes_last (b : Int) (t : Int) (by omega) (by omega) (by omega)
        rw [← e, HBB.out] at this
        cases this
      clear hg hV
      go_wp2_with fail
      refine (C.out).mono ?_
      rintro e w2 ⟨rfl, hf2⟩
      go_wp2_with fail
      go_roundw
      case rel =>
        refine ⟨k + 1, by omega, by go_num, ?_, FR.out.trans0 hf2⟩
        rw [HE.out, expoF_no _ _ _ _ HBB.out (by omega), show 21 - k - 1 = 21 - (k + 1) by omega]
      case measure => simp [intOf]; omega
    · have hle : (y : Int) - (x : Int) ≤ (V : Int) := by
        have := hg.symm
        simp at this
        omega
      clear hg hV
      go_wp2_with fail
      refine (C.out).mono ?_
      rintro e w2 ⟨rfl, hf2⟩
      go_wp2_with fail
      go_ret
      have e1 : expo (b : Int) (t : Int) = k := by
        rw [HE.out]
        by_cases h21 : k = 21
        · subst h21; rfl
        · exact expoF_yes _ _ _ _ HBB.out (by omega)
      rw [e1]
      exact ⟨rfl, FR.out.trans0 hf2⟩
set_option maxHeartbeats 2000000 in
set_option maxRecDepth 100000 in
theorem r03enc_any (w : World) (b t : Nat) (hb : b < 4294967296) (ht : t ≤ 4294967296) (hbt : b ≤ t) :
    Calls Try.prog 60 #[.int .u32 b, .int .u64 t] w fun r w' => r = .returned (.tuple #[.int .u8 (expo (b : Int) (t : Int)), .int .u16 (m1 b t), .int .u16 (m2 b t), .bool (exB b t), .bool true]) ∧ Fr [] w w' := by
  have C1 := Lib.hid fun W => r03expo_any W b t hb ht hbt
  have hel := expo_le (b : Int) (t : Int)
  unfold m1 m2 exB
  obtain ⟨e, he⟩ : ∃ e, expo (b : Int) (t : Int) = e := ⟨_, rfl⟩
  rw [he] at hel C1 ⊢
  clear he
  have C2 := Lib.hid fun W => r03rounded_any W b t e hb ht hel
  obtain ⟨p1, p2⟩ := pw e hel
  have q1 := rdn_eq b e
  have q2 := up_eq t e
  have g2 := up_lt t e
  have g3 := Nat.div_mul_le_self b (2 ^ e)
  have hd1 : b / 2 ^ e * 2 ^ e / 2 ^ e = b / 2 ^ e := Nat.mul_div_cancel _ (by omega)
  have hd2 : up t e * 2 ^ e / 2 ^ e = up t e := Nat.mul_div_cancel _ (by omega)
  have hq1 := Nat.div_le_self b (2 ^ e)
  have hq2 : up t e ≤ up t e * 2 ^ e := Nat.le_mul_of_pos_right _ (by omega)
  have hsh : IntKind.u64.wrap ((2 : Int) ^ e) = ((2 ^ e : Nat) : Int) := by
    have : ((2 ^ e : Nat) : Int) = (2 : Int) ^ e := by simp
    rw [← this]
    clear C2 q1 q2 g2 g3 hd1 hd2 hq1 hq2 this
    generalize 2 ^ e = U at *
    simp [IntKind.wrap, IntKind.signed, IntKind.bits]; omega
  generalize 2 ^ e = U at *
  generalize b / U = u at *
  generalize up t e = v at *
  obtain ⟨x, hx⟩ : ∃ x, u * U = x := ⟨_, rfl⟩
  obtain ⟨y, hy⟩ : ∃ y, v * U = y := ⟨_, rfl⟩
  rw [hx] at q1 g3 hd1 C2
  rw [hy] at q2 g2 hd2 hq2 C2
  clear hx hy
  have hU0 : ¬ (U : Int) = 0 := by omega
  have hU1 : ¬ U = 0 := by omega
  have r1 : (x : Int) / (U : Int) = (u : Int) := by rw [← hd1]; simp
  have r2 : (y : Int) / (U : Int) = (v : Int) := by rw [← hd2]; simp
  have r1t : (x : Int).tdiv (U : Int) = (u : Int) := by rw [Int.tdiv_eq_ediv_of_nonneg (by omega)]; exact r1
  have r2t : (y : Int).tdiv (U : Int) = (v : Int) := by rw [Int.tdiv_eq_ediv_of_nonneg (by omega)]; exact r2
  obtain ⟨um, hum⟩ : ∃ m, u % 4096 = m := ⟨_, rfl⟩
  obtain ⟨vm, hvm⟩ : ∃ m, v % 4096 = m := ⟨_, rfl⟩
  have r3 : (u : Int) % 4096 = (um : Int) := by omega
  have r4 : (v : Int) % 4096 = (vm : Int) := by omega
  have r3t : (u : Int).tmod 4096 = (um : Int) := by rw [Int.tmod_eq_emod_of_nonneg (by omega)]; exact r3
  have r4t : (v : Int).tmod 4096 = (vm : Int) := by rw [Int.tmod_eq_emod_of_nonneg (by omega)]; exact r4
  have huml : um < 4096 := by omega
  have hvml : vm < 4096 := by omega
  rw [hum, hvm]
  have wu : ∀ n : Nat, n < 18446744073709551616 → IntKind.u64.wrap (n : Int) = n := fun n h => by simp [IntKind.wrap, IntKind.signed, IntKind.bits]; omega
  have v1 := wu b (by omega)
  have v2 := wu u (by omega)
  have v3 := wu v (by omega)
  have v4 : IntKind.u16.wrap (um : Int) = um := by simp [IntKind.wrap, IntKind.signed, IntKind.bits]; omega
  have v5 : IntKind.u16.wrap (vm : Int) = vm := by simp [IntKind.wrap, IntKind.signed, IntKind.bits]; omega
  obtain ⟨B1, hB1⟩ : ∃ B, ((x : Int) == (b : Int)) = B := ⟨_, rfl⟩
  obtain ⟨B2, hB2⟩ : ∃ B, ((y : Int) == (t : Int)) = B := ⟨_, rfl⟩
  have hx1 : decide (b % U = 0) = B1 := by rw [← hB1, Bool.eq_iff_iff, decide_eq_true_eq, ← q1, beq_iff_eq]; omega
  have hx2 : decide (t % U = 0) = B2 := by rw [← hB2, Bool.eq_iff_iff, decide_eq_true_eq, ← q2, beq_iff_eq]; omega
  rw [hx1, hx2]
  have nb : ¬ (t : Int) < (b : Int) := by omega
  have nt : ¬ (4294967296 : Int) < (t : Int) := by omega
  clear wu hx1 hx2 q1 q2 hum hvm hd1 hd2
  go_enter Try.func60, Try.ntmps60
  go_wp2_with fail
  refine (C1.out _).mono ?_
  rintro e9 w2 ⟨rfl, hf2⟩
  go_wp2_with fail
  refine (C2.out _).mono ?_
  rintro e9 w3 ⟨rfl, hf3⟩
  have F3 := Lib.hid (hf2.trans0 hf3)
  clear hf2 hf3 C1 C2
  go_wp2_with fail
  refine wp_region_L (fun W => Fr [] w W) [] (by kernel_rfl) F3.out.drew (fun hHeld => ?_)
  refine wpAnyL_take (i := 0) (v := ?_) rfl (by kernel_rfl) (fun _ _ _ h => h) (Or.inl ⟨by rfl, ?_⟩) (by assumption) ?_; rotate_left; (focus (intro w hSw; skip; go_simp; (try with_reducible rfl))); (try (refine wpAnyL_norm (by simp only [Act.put, List.setIfInBounds_toArray, List.set_cons_zero, List.set_cons_succ]; rfl) ?_))
  refine wpAnyL_take (i := 1) (v := ?_) rfl (by kernel_rfl) (fun _ _ _ h => h) (Or.inl ⟨by rfl, ?_⟩) (by assumption) ?_; rotate_left; (focus (intro w hSw; skip; go_simp; (try with_reducible rfl))); (try (refine wpAnyL_norm (by simp only [Act.put, List.setIfInBounds_toArray, List.set_cons_zero, List.set_cons_succ]; rfl) ?_))
  refine wpAnyL_take (i := 2) (v := ?_) rfl (by kernel_rfl) (fun _ _ _ h => h) (Or.inl ⟨by rfl, ?_⟩) (by assumption) ?_; rotate_left; (focus (intro w hSw; skip; go_simp; (try with_reducible rfl))); (try (refine wpAnyL_norm (by simp only [Act.put, List.setIfInBounds_toArray, List.set_cons_zero, List.set_cons_succ]; rfl) ?_))
  refine wpAnyL_take (i := 3) (v := ?_) rfl (by kernel_rfl) (fun _ _ _ h => h) (Or.inl ⟨by rfl, ?_⟩) (by assumption) ?_; rotate_left; (focus (intro w hSw; skip; go_simp; (try with_reducible rfl))); (try (refine wpAnyL_norm (by simp only [Act.put, List.setIfInBounds_toArray, List.set_cons_zero, List.set_cons_succ]; rfl) ?_))
  refine wpAnyL_take (i := 4) (v := ?_) rfl (by kernel_rfl) (fun _ _ _ h => h) (Or.inl ⟨by rfl, ?_⟩) (by assumption) ?_; rotate_left; (focus (intro w hSw; skip; go_simp; (try with_reducible rfl))); (try (refine wpAnyL_norm (by simp only [Act.put, List.setIfInBounds_toArray, List.set_cons_zero, List.set_cons_succ]; rfl) ?_))
  refine wpAnyL_take (i := 5) (v := ?_) rfl (by kernel_rfl) (fun _ _ _ h => h) (Or.inl ⟨by rfl, ?_⟩) (by assumption) ?_; rotate_left; (focus (intro w hSw; skip; go_simp; (try with_reducible rfl))); (try (refine wpAnyL_norm (by simp only [Act.put, List.setIfInBounds_toArray, List.set_cons_zero, List.set_cons_succ]; rfl) ?_))
  refine wpAnyL_take (i := 6) (v := ?_) rfl (by kernel_rfl) (fun _ _ _ h => h) (Or.inl ⟨by rfl, ?_⟩) (by assumption) ?_; rotate_left; (focus (intro w hSw; skip; go_simp; (try with_reducible rfl))); (try (refine wpAnyL_norm (by simp only [Act.put, List.setIfInBounds_toArray, List.set_cons_zero, List.set_cons_succ]; rfl) ?_))
  refine wpAnyL_take (i := 7) (v := ?_) rfl (by kernel_rfl) (fun _ _ _ h => h) (Or.inl ⟨by rfl, ?_⟩) (by assumption) ?_; rotate_left; (focus (intro w hSw; skip; go_simp; (try with_reducible rfl))); (try (refine wpAnyL_norm (by simp only [Act.put, List.setIfInBounds_toArray, List.set_cons_zero, List.set_cons_succ]; rfl) ?_))
  refine wpAnyL_take (i := 8) (v := ?_) rfl (by kernel_rfl) (fun _ _ _ h => h) (Or.inl ⟨by rfl, ?_⟩) (by assumption) ?_; rotate_left; (focus (intro w hSw; skip; go_simp; (try with_reducible rfl))); (try (refine wpAnyL_norm (by simp only [Act.put, List.setIfInBounds_toArray, List.set_cons_zero, List.set_cons_succ]; rfl) ?_))
  refine wpAnyL_take (i := 9) (v := ?_) rfl (by kernel_rfl) (fun _ _ _ h => h) (Or.inl ⟨by rfl, ?_⟩) (by assumption) ?_; rotate_left; (focus (intro w hSw; skip; go_simp; (try with_reducible rfl))); (try (refine wpAnyL_norm (by simp only [Act.put, List.setIfInBounds_toArray, List.set_cons_zero, List.set_cons_succ]; rfl) ?_))
  refine wpAnyL_take (i := 10) (v := ?_) rfl (by kernel_rfl) (fun _ _ _ h => h) (Or.inl ⟨by rfl, ?_⟩) (by assumption) ?_; rotate_left; (focus (intro w hSw; skip; go_simp; (try with_reducible rfl))); (try (refine wpAnyL_norm (by simp only [Act.put, List.setIfInBounds_toArray, List.set_cons_zero, List.set_cons_succ]; rfl) ?_))
  refine wpAnyL_take (i := 11) (v := ?_) rfl (by kernel_rfl) (fun _ _ _ h => h) (Or.inl ⟨by rfl, ?_⟩) (by assumption) ?_; rotate_left; (focus (intro w hSw; skip; go_simp; (try with_reducible rfl))); (try (refine wpAnyL_norm (by simp only [Act.put, List.setIfInBounds_toArray, List.set_cons_zero, List.set_cons_succ]; rfl) ?_))
  refine wpAnyL_take (i := 12) (v := ?_) rfl (by kernel_rfl) (fun _ _ _ h => h) (Or.inl ⟨by rfl, ?_⟩) (by assumption) ?_; rotate_left; (focus (intro w hSw; skip; go_simp; (try with_reducible rfl))); (try (refine wpAnyL_norm (by simp only [Act.put, List.setIfInBounds_toArray, List.set_cons_zero, List.set_cons_succ]; rfl) ?_))
  refine wpAnyL_take (i := 13) (v := ?_) rfl (by kernel_rfl) (fun _ _ _ h => h) (Or.inl ⟨by rfl, ?_⟩) (by assumption) ?_; rotate_left; (focus (intro w hSw; skip; go_simp; (try with_reducible rfl))); (try (refine wpAnyL_norm (by simp only [Act.put, List.setIfInBounds_toArray, List.set_cons_zero, List.set_cons_succ]; rfl) ?_))
  refine wpAnyL_take (i := 14) (v := ?_) rfl (by kernel_rfl) (fun _ _ _ h => h) (Or.inl ⟨by rfl, ?_⟩) (by assumption) ?_; rotate_left; (focus (intro w hSw; skip; go_simp; (try with_reducible rfl))); (try (refine wpAnyL_norm (by simp only [Act.put, List.setIfInBounds_toArray, List.set_cons_zero, List.set_cons_succ]; rfl) ?_))
  refine wpAnyL_take (i := 15) (v := ?_) rfl (by kernel_rfl) (fun _ _ _ h => h) (Or.inl ⟨by rfl, ?_⟩) (by assumption) ?_; rotate_left; (focus (intro w hSw; skip; go_simp; (try with_reducible rfl))); (try (refine wpAnyL_norm (by simp only [Act.put, List.setIfInBounds_toArray, List.set_cons_zero, List.set_cons_succ]; rfl) ?_))
  cases B1
  · refine wpAnyL_take (i := 16) (v := undef) rfl (by kernel_rfl) (fun _ _ _ h => h) (Or.inr ⟨by rfl, rfl⟩) (by assumption) ?_; (try (refine wpAnyL_norm (by simp only [Act.put, List.setIfInBounds_toArray, List.set_cons_zero, List.set_cons_succ]; rfl) ?_))
    refine wpAnyL_take (i := 17) (v := undef) rfl (by kernel_rfl) (fun _ _ _ h => h) (Or.inr ⟨by rfl, rfl⟩) (by assumption) ?_; (try (refine wpAnyL_norm (by simp only [Act.put, List.setIfInBounds_toArray, List.set_cons_zero, List.set_cons_succ]; rfl) ?_))
    refine wpAnyL_take (i := 18) (v := undef) rfl (by kernel_rfl) (fun _ _ _ h => h) (Or.inr ⟨by rfl, rfl⟩) (by assumption) ?_; (try (refine wpAnyL_norm (by simp only [Act.put, List.setIfInBounds_toArray, List.set_cons_zero, List.set_cons_succ]; rfl) ?_))
    refine wpAnyL_take (i := 19) (v := ?_) rfl (by kernel_rfl) (fun _ _ _ h => h) (Or.inl ⟨by rfl, ?_⟩) (by assumption) ?_; rotate_left; (focus (intro w hSw; skip; go_simp; (try with_reducible rfl))); (try (refine wpAnyL_norm (by simp only [Act.put, List.setIfInBounds_toArray, List.set_cons_zero, List.set_cons_succ]; rfl) ?_))
    refine wpAnyL_take (i := 20) (v := ?_) rfl (by kernel_rfl) (fun _ _ _ h => h) (Or.inl ⟨by rfl, ?_⟩) (by assumption) ?_; rotate_left; (focus (intro w hSw; skip; go_simp; (try with_reducible rfl))); (try (refine wpAnyL_norm (by simp only [Act.put, List.setIfInBounds_toArray, List.set_cons_zero, List.set_cons_succ]; rfl) ?_))
    refine wpAnyL_take (i := 21) (v := ?_) rfl (by kernel_rfl) (fun _ _ _ h => h) (Or.inl ⟨by rfl, ?_⟩) (by assumption) ?_; rotate_left; (focus (intro w hSw; skip; go_simp; (try with_reducible rfl))); (try (refine wpAnyL_norm (by simp only [Act.put, List.setIfInBounds_toArray, List.set_cons_zero, List.set_cons_succ]; rfl) ?_))
    refine wpAnyL_take (i := 22) (v := ?_) rfl (by kernel_rfl) (fun _ _ _ h => h) (Or.inl ⟨by rfl, ?_⟩) (by assumption) ?_; rotate_left; (focus (intro w hSw; skip; go_simp; (try with_reducible rfl))); (try (refine wpAnyL_norm (by simp only [Act.put, List.setIfInBounds_toArray, List.set_cons_zero, List.set_cons_succ]; rfl) ?_))
    refine wpAnyL_take (i := 23) (v := ?_) rfl (by kernel_rfl) (fun _ _ _ h => h) (Or.inl ⟨by rfl, ?_⟩) (by assumption) ?_; rotate_left; (focus (intro w hSw; skip; go_simp; (try with_reducible rfl))); (try (refine wpAnyL_norm (by simp only [Act.put, List.setIfInBounds_toArray, List.set_cons_zero, List.set_cons_succ]; rfl) ?_))
    refine wpAnyL_take (i := 24) (v := ?_) rfl (by kernel_rfl) (fun _ _ _ h => h) (Or.inl ⟨by rfl, ?_⟩) (by assumption) ?_; rotate_left; (focus (intro w hSw; skip; go_simp; (try with_reducible rfl))); (try (refine wpAnyL_norm (by simp only [Act.put, List.setIfInBounds_toArray, List.set_cons_zero, List.set_cons_succ]; rfl) ?_))
    refine wpAnyL_done (by kernel_rfl) ?_ _
    go_wp2_with fail
    exact bodyPost_ret (res_tmp5 rfl _ _ _) rfl ⟨by simp, hHeld⟩
  · refine wpAnyL_take (i := 16) (v := ?_) rfl (by kernel_rfl) (fun _ _ _ h => h) (Or.inl ⟨by rfl, ?_⟩) (by assumption) ?_; rotate_left; (focus (intro w hSw; skip; go_simp; (try with_reducible rfl))); (try (refine wpAnyL_norm (by simp only [Act.put, List.setIfInBounds_toArray, List.set_cons_zero, List.set_cons_succ]; rfl) ?_))
    refine wpAnyL_take (i := 17) (v := ?_) rfl (by kernel_rfl) (fun _ _ _ h => h) (Or.inl ⟨by rfl, ?_⟩) (by assumption) ?_; rotate_left; (focus (intro w hSw; skip; go_simp; (try with_reducible rfl))); (try (refine wpAnyL_norm (by simp only [Act.put, List.setIfInBounds_toArray, List.set_cons_zero, List.set_cons_succ]; rfl) ?_))
    refine wpAnyL_take (i := 18) (v := ?_) rfl (by kernel_rfl) (fun _ _ _ h => h) (Or.inl ⟨by rfl, ?_⟩) (by assumption) ?_; rotate_left; (focus (intro w hSw; skip; go_simp; (try with_reducible rfl))); (try (refine wpAnyL_norm (by simp only [Act.put, List.setIfInBounds_toArray, List.set_cons_zero, List.set_cons_succ]; rfl) ?_))
    refine wpAnyL_take (i := 19) (v := ?_) rfl (by kernel_rfl) (fun _ _ _ h => h) (Or.inl ⟨by rfl, ?_⟩) (by assumption) ?_; rotate_left; (focus (intro w hSw; skip; go_simp; (try with_reducible rfl))); (try (refine wpAnyL_norm (by simp only [Act.put, List.setIfInBounds_toArray, List.set_cons_zero, List.set_cons_succ]; rfl) ?_))
    refine wpAnyL_take (i := 20) (v := ?_) rfl (by kernel_rfl) (fun _ _ _ h => h) (Or.inl ⟨by rfl, ?_⟩) (by assumption) ?_; rotate_left; (focus (intro w hSw; skip; go_simp; (try with_reducible rfl))); (try (refine wpAnyL_norm (by simp only [Act.put, List.setIfInBounds_toArray, List.set_cons_zero, List.set_cons_succ]; rfl) ?_))
    refine wpAnyL_take (i := 21) (v := ?_) rfl (by kernel_rfl) (fun _ _ _ h => h) (Or.inl ⟨by rfl, ?_⟩) (by assumption) ?_; rotate_left; (focus (intro w hSw; skip; go_simp; (try with_reducible rfl))); (try (refine wpAnyL_norm (by simp only [Act.put, List.setIfInBounds_toArray, List.set_cons_zero, List.set_cons_succ]; rfl) ?_))
    refine wpAnyL_take (i := 22) (v := ?_) rfl (by kernel_rfl) (fun _ _ _ h => h) (Or.inl ⟨by rfl, ?_⟩) (by assumption) ?_; rotate_left; (focus (intro w hSw; skip; go_simp; (try with_reducible rfl))); (try (refine wpAnyL_norm (by simp only [Act.put, List.setIfInBounds_toArray, List.set_cons_zero, List.set_cons_succ]; rfl) ?_))
    refine wpAnyL_take (i := 23) (v := ?_) rfl (by kernel_rfl) (fun _ _ _ h => h) (Or.inl ⟨by rfl, ?_⟩) (by assumption) ?_; rotate_left; (focus (intro w hSw; skip; go_simp; (try with_reducible rfl))); (try (refine wpAnyL_norm (by simp only [Act.put, List.setIfInBounds_toArray, List.set_cons_zero, List.set_cons_succ]; rfl) ?_))
    refine wpAnyL_take (i := 24) (v := ?_) rfl (by kernel_rfl) (fun _ _ _ h => h) (Or.inl ⟨by rfl, ?_⟩) (by assumption) ?_; rotate_left; (focus (intro w hSw; skip; go_simp; (try with_reducible rfl))); (try (refine wpAnyL_norm (by simp only [Act.put, List.setIfInBounds_toArray, List.set_cons_zero, List.set_cons_succ]; rfl) ?_))
    refine wpAnyL_done (by kernel_rfl) ?_ _
    go_wp2_with fail
    exact bodyPost_ret (res_tmp5 rfl _ _ _) rfl ⟨by simp, hHeld⟩
end Go.Proofs.Ytkbdoiefgmbikaa
