/-
  SizesLeast: a class's slot is the least that goes, and what has a class is padded to its slot. No condition.
-/

import Derived.Test.YtkhklljmoigciaaHelp
set_option linter.unusedVariables false
namespace Go.Proofs.Ytkhklljmoigciaa
open Go.ChangeShapes Go.WideShapes Go.ChangeAt Go.RowKit
namespace sizesLeast
theorem walk (a0 : Int) (w0 : (Lit.int .u32 a0).wf = true) (w : World) :
    Calls Try.prog 5 #[.int .u32 a0] w fun e w' => e = .returned (.bool true) ∧ Fr [] w w' := by
  have b0 := u32_bd w0
  obtain ⟨q1, q2⟩ := b0
  clear w0
  have C1 := Lib.hid fun w => class_any a0 w q1 q2
  by_cases h : 0 < a0 ∧ a0 ≤ 256
  · obtain ⟨h1, h2⟩ := h
    have C3 : Hid (∀ w, Calls Try.prog 10 #[.int .u32 a0, .int .u32 256] w fun r w' => r = .returned (.tuple #[.int .u32 (slotV (clsV a0)), .int .u32 (slotV (clsV a0)), .int .i64 0]) ∧ Fr [] w w') :=
      pd3 a0 256 (slotV (clsV a0)) (slotV (clsV a0)) 0 q1 q2 (by
        have := slotV_bd (clsV a0)
        unfold padV; rw [if_neg (by omega), if_pos (by omega), if_pos (by omega)])
    rw [show clsB a0 = true by (unfold clsB; simp; omega)] at C1
    obtain hc | ⟨hc, hc2, hc3⟩ : clsV a0 = 0 ∨ (0 < clsV a0 ∧ clsV a0 ≤ 4 ∧ slotV (clsV a0 - 1) < a0) := by unfold slotV clsV; omega
    · have hs := slot_cls a0 h1 h2
      rw [hc] at hs C1 C3
      clear hc
      go_enter Try.func5, Try.ntmps5
      go_wp2_with (first | (go_at_call 13; refine (C1.out _).mono ?_; rintro e w1 ⟨rfl, hf1⟩) | (go_at_call 14; refine (slot_any _ _).mono ?_; rintro e w2 ⟨rfl, rfl⟩) | (go_at_call 10; refine (C3.out _).mono ?_; rintro e w2 ⟨rfl, hf2⟩) | (go_at_call 12; refine (works_any _).mono ?_; rintro e w3 ⟨rfl, hf3⟩))
      go_ret
      exact ⟨rfl, (by repeat (first | exact Fr.refl _ _ | assumption | refine Fr.trans0 ?_ (by assumption) | refine Fr.drewN ?_ _ | refine Fr.alloc ?_ _ | refine Fr.drew ?_))⟩
    · have hs := slot_cls a0 h1 h2
      have hz : (clsV a0 == 0) = false := by simp; omega
      generalize clsV a0 = c at *
      go_enter Try.func5, Try.ntmps5
      go_wp2_with (first | (go_at_call 13; refine (C1.out _).mono ?_; rintro e w1 ⟨rfl, hf1⟩) | (go_at_call 14; refine (slot_any _ _).mono ?_; rintro e w2 ⟨rfl, rfl⟩) | (go_at_call 10; refine (C3.out _).mono ?_; rintro e w2 ⟨rfl, hf2⟩) | (go_at_call 12; refine (works_any _).mono ?_; rintro e w3 ⟨rfl, hf3⟩))
      go_ret
      exact ⟨rfl, (by repeat (first | exact Fr.refl _ _ | assumption | refine Fr.trans0 ?_ (by assumption) | refine Fr.drewN ?_ _ | refine Fr.alloc ?_ _ | refine Fr.drew ?_))⟩
  · rw [show clsB a0 = false by (unfold clsB; simp; omega), show clsV a0 = 0 by (unfold clsV; omega)] at C1
    by_cases h0 : a0 = 0
    · subst h0
      go_enter Try.func5, Try.ntmps5
      go_wp2_with (first | (go_at_call 13; refine (C1.out _).mono ?_; rintro e w1 ⟨rfl, hf1⟩) | (go_at_call 12; refine (works_any _).mono ?_; rintro e w3 ⟨rfl, hf3⟩))
      go_ret
      exact ⟨rfl, (by repeat (first | exact Fr.refl _ _ | assumption | refine Fr.trans0 ?_ (by assumption) | refine Fr.drewN ?_ _ | refine Fr.alloc ?_ _ | refine Fr.drew ?_))⟩
    · have hz : (a0 == 0) = false := by simp [h0]
      have hg : 256 < a0 := by omega
      clear h h0
      go_enter Try.func5, Try.ntmps5
      go_wp2_with (first | (go_at_call 13; refine (C1.out _).mono ?_; rintro e w1 ⟨rfl, hf1⟩) | (go_at_call 12; refine (works_any _).mono ?_; rintro e w3 ⟨rfl, hf3⟩))
      go_ret
      exact ⟨rfl, (by repeat (first | exact Fr.refl _ _ | assumption | refine Fr.trans0 ?_ (by assumption) | refine Fr.drewN ?_ _ | refine Fr.alloc ?_ _ | refine Fr.drew ?_))⟩
set_option maxRecDepth 100000 in
theorem lifted (os : Os) (started : os.Started) (H : Type) (enc : TypeId × Value → H) :
    ReturnsInHanded {} Try.checked os 5 .any (Rows.sizesLeastSpec.pre6 enc Try.prog Try.f5 Rows.sizesLeastRow.domain false) (Rows.sizesLeastSpec.post enc Try.prog Try.f5 false true false false) := by
  refine returnsInHanded_of_change (C := Try.checked) own started (by kernel_rfl) Try.func5
    (ChangeSpec.witness6 (enc := enc) (C := Try.checked) false ⟨#[], #[.int .u32 0], []⟩ 8 (by kernel_rfl) (by kernel_rfl) (by kernel_rfl) (by kernel_rfl)) ?_
  intro W base args ds gs before hval0 hW hcnd _
  have hval : ∀ (j : Nat) t v, Try.f5.params[j]? = some t → args[j]? = some v → Value.okWide Try.prog W .any base t v := hval0
  have hW' := hW
  obtain ⟨p, q, hA0, hV, rfl, hfz, hnd⟩ := hW
  have hA : DataW.TrodAll enc Try.prog W 0 (fun _ => true) true Try.f5.params.toList args.toList ds p := hA0
  rw [Try.params5] at hA hval
  obtain ⟨v0, vs0, d0, ds0, p0, q0, hargs, rfl, rfl, h0, r0⟩ := trodAll_cons hA
  obtain ⟨rfl, rfl, rfl⟩ := trodAll_nil r0
  obtain rfl : args = #[v0] := by cases args; simp_all
  obtain ⟨rfl, rfl⟩ := trodVars_none hV
  obtain ⟨a0, rfl, rfl, rfl, w0⟩ := open_int Try.underlying22 (hval 0 22 v0 rfl rfl) h0
  clear hA0 hval0
  simp only [List.append_nil] at hW'
  refine (walk a0 w0 W).mono fun e W' ⟨he, hg⟩ => ?_
  subst he
  exact ⟨_, rfl, post_fr (pa := []) (pv := []) hW' (fun _ _ _ => (trodAll_cons_mk (shut_bool Try.underlying4 _) trodAll_mk0)) (fun sp _ => (trodAll_cons_mk (shut_int Try.underlying22 w0) trodAll_mk0)) (fun _ _ => rfl) rfl
    hg (ok_one (by kernel_rfl) rfl (okWide_bool_mk Try.underlying4 _))⟩
theorem over : Rows.sizesLeastRow.holds Try.pinned (OpenSpec.ofChange Rows.sizesLeastSpec) :=
  OpenClaim.holds_of_wide 5 Try.f5 rfl rfl rfl rfl rfl rfl rfl ⟨rfl, rfl, rfl, rfl, rfl⟩ rfl rfl rfl rfl rfl (by kernel_rfl) Try.func5 (by kernel_rfl)
    (of_decide_eq_true (by kernel_rfl)) (by unfold Func.isWrapper; first | (rw [if_pos (by decide +kernel)]; kernel_rfl) | (rw [if_neg (by decide +kernel)]; exact ⟨rfl, rfl⟩))
    (fun os started H enc _ => lifted os started H enc)
/-- The statement, proved. -/
theorem proved : Rows.SizesLeastSaid :=
  over
end sizesLeast
end Go.Proofs.Ytkhklljmoigciaa
