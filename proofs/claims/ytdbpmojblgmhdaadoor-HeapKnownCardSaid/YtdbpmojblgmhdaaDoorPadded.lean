/-
  What Padded computes. Conditions: sizes and heaps below 2^32.
-/
import Derived.Test.YtdbpmojblgmhdaaDoorSizes
namespace Go.Proofs.YtdbpmojblgmhdaaDoor
open Go.ChangeShapes Go.WideShapes Go.ChangeAt Go.RowKit
def Pd (w : World) (v : Int × Int × Int) (e : Ending) (w' : World) : Prop := e = .returned (.tuple #[.int .u32 v.1, .int .u32 v.2.1, .int .i64 v.2.2]) ∧ Fr [] w w'
theorem padded_zero (h : Int) (w : World) : Calls Tryd.prog 13 #[.int .u32 0, .int .u32 h] w (Pd w (0, 0, 6)) := by
  go_enter Tryd.func13, Tryd.ntmps13
  go_wp2; go_step3; go_wp2; go_step3; go_wp2; refine wp_loop_rounds 2 ?_; repeat any_goals (rw [rounds_succ]; go_wp2_with (first | fail))
  (try rw [Exit.noGoto_ret])
  go_ret3
  exact ⟨rfl, Fr.refl _ _⟩
theorem slotV_bd (c : Int) : 0 ≤ slotV c ∧ slotV c ≤ 256 := by unfold slotV; omega
theorem slotV_pos (c : Int) (h : 0 ≤ c ∧ c < 5) : 0 < slotV c := by unfold slotV; omega
theorem padded_small (s h : Int) (w : World) (h1 : 0 < s) (h2 : s ≤ 256) : Calls Tryd.prog 13 #[.int .u32 s, .int .u32 h] w (Pd w (padV s h)) := by
  have hc : clsB s = true := by unfold clsB; simp; omega
  have Hc := Lib.hid hc; clear hc
  have hp := slotV_bd (clsV s)
  have hp' := slotV_pos (clsV s) (by unfold clsV; omega)
  have hz : (slotV (clsV s) == 0) = false := by simp; omega
  cases hb : decide (h < slotV (clsV s))
  · have Hv : Hid (padV s h = (slotV (clsV s), slotV (clsV s), 0)) := Lib.hid (by
      unfold padV; rw [if_neg (by omega), if_pos h2, if_pos (by simpa using hb)])
    go_enter Tryd.func13, Tryd.ntmps13
    go_wp2; go_step3; go_wp2; go_step3; go_wp2; refine wp_loop_rounds 2 ?_; repeat any_goals (rw [rounds_succ]; go_wp2_with (first | (go_at_call 28; refine (class_any s _ (by omega) (by omega)).mono ?_; rintro e w1 ⟨rfl, hf1⟩; rw [Hc.out]) | (go_at_call 25; refine (slot_any _ _).mono ?_; rintro e w' ⟨rfl, rfl⟩)))
    (try rw [Exit.noGoto_ret])
    go_ret3
    exact ⟨by rw [Hv.out]; rfl, hf1⟩
  · have Hv : Hid (padV s h = (0, 0, 6)) := Lib.hid (by
      unfold padV; rw [if_neg (by omega), if_pos h2, if_neg (by have := of_decide_eq_true hb; omega)])
    go_enter Tryd.func13, Tryd.ntmps13
    go_wp2; go_step3; go_wp2; go_step3; go_wp2; refine wp_loop_rounds 2 ?_; repeat any_goals (rw [rounds_succ]; go_wp2_with (first | (go_at_call 28; refine (class_any s _ (by omega) (by omega)).mono ?_; rintro e w1 ⟨rfl, hf1⟩; rw [Hc.out]) | (go_at_call 25; refine (slot_any _ _).mono ?_; rintro e w' ⟨rfl, rfl⟩)))
    (try rw [Exit.noGoto_ret])
    go_ret3
    exact ⟨by rw [Hv.out]; rfl, hf1⟩
theorem pageUp_bd (s : Int) (h : 0 ≤ s) : s ≤ pageUp s ∧ pageUp s < s + 256 ∧ 0 ≤ pageUp s := by unfold pageUp; omega
theorem pageUp_bits (s : Int) (h1 : 0 ≤ s) (h2 : s < 4294967296) : bits .andNot .u64 (s + 256 - 1) 255 = pageUp s := by
  have := andNot_pow (s + 256 - 1) 8 (by omega) (by omega) (by omega)
  rw [show (2 : Int) ^ 8 - 1 = 255 by rfl, show (2 : Int) ^ 8 = 256 by rfl, show s + 256 - 1 = s + 255 by omega] at this
  rw [show s + 256 - 1 = s + 255 by omega, this]
  rfl
theorem padB_bd (s : Int) (h1 : 0 ≤ s) (h2 : s < 4294967296) : 0 ≤ (padB s).1 ∧ (padB s).1 < 4294967296 ∧ 0 ≤ (padB s).2 ∧ (padB s).2 ≤ 2097152 := by
  have he := expo_le 0 s
  have hp := pow_bd _ he
  have q2 := rup_bd s _ he h1
  have q3 := rup_whole s _ he (by omega)
  unfold padB
  split
  · omega
  · dsimp only; omega
theorem padded_great (s h : Int) (w : World) (h1 : 256 < s) (h2 : s < 4294967296) : Calls Tryd.prog 13 #[.int .u32 s, .int .u32 h] w (Pd w (padV s h)) := by
  have Hc : Hid (clsB s = false) := Lib.hid (by unfold clsB; simp; omega)
  have hn := pageUp_bits s (by omega) h2
  have Hn := Lib.hid hn
  have hbd := pageUp_bd s (by omega)
  have Hv : Hid (padV s h = if 4294967296 ≤ pageUp s then (0, 0, 6) else if (padB (pageUp s)).2 = 0 ∨ h < (padB (pageUp s)).1 then (0, 0, 6) else ((padB (pageUp s)).1, max (padB (pageUp s)).2 256, 0)) := Lib.hid (by
    unfold padV; rw [if_neg (by omega), if_neg (by omega)])
  by_cases hbig : 4294967296 ≤ pageUp s
  · have Hv2 : Hid (padV s h = (0, 0, 6)) := Lib.hid (by rw [Hv.out, if_pos hbig])
    generalize pageUp s = n at *
    go_enter Tryd.func13, Tryd.ntmps13
    go_wp2; go_step3; go_wp2; go_step3; go_wp2; refine wp_loop_rounds 2 ?_; repeat any_goals (rw [rounds_succ]; go_wp2_with (first | (go_at_call 28; refine (class_any s _ (by omega) (by omega)).mono ?_; rintro e w1 ⟨rfl, hf1⟩; rw [Hc.out])))
    (try rw [Exit.noGoto_ret])
    go_ret3
    exact ⟨by rw [Hv2.out]; rfl, hf1⟩
  · have hpb := padB_bd (pageUp s) (by omega) (by omega)
    have Hv2 : Hid (padV s h = if (padB (pageUp s)).2 = 0 ∨ h < (padB (pageUp s)).1 then (0, 0, 6) else ((padB (pageUp s)).1, max (padB (pageUp s)).2 256, 0)) := Lib.hid (by rw [Hv.out, if_neg hbig])
    clear Hv Hn
    generalize pageUp s = n at *
    have c1 := fun w => pad_any n w (by omega) (by omega)
    have C1 := Lib.hid c1; clear c1
    generalize (padB n).1 = p at *
    generalize (padB n).2 = a at *
    by_cases ha : a = 0
    · have Hv3 : Hid (padV s h = (0, 0, 6)) := Lib.hid (by rw [Hv2.out, if_pos (.inl ha)])
      subst ha
      go_enter Tryd.func13, Tryd.ntmps13
      go_wp2; go_step3; go_wp2; go_step3; go_wp2; refine wp_loop_rounds 2 ?_; repeat any_goals (rw [rounds_succ]; go_wp2_with (first | (go_at_call 28; refine (class_any s _ (by omega) (by omega)).mono ?_; rintro e w1 ⟨rfl, hf1⟩; rw [Hc.out]) | (go_at_call 29; refine (C1.out _).mono ?_; rintro e w2 ⟨rfl, m, rfl⟩)))
      (try rw [Exit.noGoto_ret])
      go_ret3
      exact ⟨by rw [Hv3.out]; rfl, hf1.drewN _⟩
    · have hz : (a == 0) = false := by simp [ha]
      have hpos : 0 < a := by omega
      have hm : (max a 256 == 0) = false := by simp; omega
      cases hb : decide (h < p)
      · have Hv3 : Hid (padV s h = (p, max a 256, 0)) := Lib.hid (by rw [Hv2.out, if_neg (by simp [ha]; simpa using hb)])
        go_enter Tryd.func13, Tryd.ntmps13
        go_wp2; go_step3; go_wp2; go_step3; go_wp2; refine wp_loop_rounds 2 ?_; repeat any_goals (rw [rounds_succ]; go_wp2_with (first | (go_at_call 28; refine (class_any s _ (by omega) (by omega)).mono ?_; rintro e w1 ⟨rfl, hf1⟩; rw [Hc.out]) | (go_at_call 29; refine (C1.out _).mono ?_; rintro e w2 ⟨rfl, m, rfl⟩)))
        all_goals (try rw [Exit.noGoto_ret])
        all_goals go_ret3
        · exact ⟨by rw [Hv3.out, Int.max_eq_right (by omega)]; rfl, hf1.drewN _⟩
        · exact ⟨by rw [Hv3.out, Int.max_eq_left (by omega)]; rfl, hf1.drewN _⟩
      · have Hv3 : Hid (padV s h = (0, 0, 6)) := Lib.hid (by rw [Hv2.out, if_pos (.inr (by simpa using hb))])
        go_enter Tryd.func13, Tryd.ntmps13
        go_wp2; go_step3; go_wp2; go_step3; go_wp2; refine wp_loop_rounds 2 ?_; repeat any_goals (rw [rounds_succ]; go_wp2_with (first | (go_at_call 28; refine (class_any s _ (by omega) (by omega)).mono ?_; rintro e w1 ⟨rfl, hf1⟩; rw [Hc.out]) | (go_at_call 29; refine (C1.out _).mono ?_; rintro e w2 ⟨rfl, m, rfl⟩)))
        all_goals (try rw [Exit.noGoto_ret])
        all_goals go_ret3
        all_goals exact ⟨by rw [Hv3.out]; rfl, hf1.drewN _⟩
theorem padded_any (s h : Int) (w : World) (h1 : 0 ≤ s) (h2 : s < 4294967296) : Calls Tryd.prog 13 #[.int .u32 s, .int .u32 h] w (Pd w (padV s h)) := by
  by_cases h0 : s = 0
  · subst h0
    rw [show padV 0 h = (0, 0, 6) from by unfold padV; rfl]
    exact padded_zero h w
  · by_cases h3 : s ≤ 256
    · exact padded_small s h w (by omega) h3
    · exact padded_great s h w (by omega) h2
theorem pageUp_in (s : Int) : (s + 256 - 1) / 256 * 256 = pageUp s := by unfold pageUp; omega
end Go.Proofs.YtdbpmojblgmhdaaDoor
