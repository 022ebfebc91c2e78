/-
  PagesKnown: the chapter's examples, and pools that are none. No condition.
-/

import Derived.Test.YtnbdjnhdneboiaaWorks
set_option linter.unusedVariables false
namespace Go.Proofs.Ytnbdjnhdneboiaa
open Go.ChangeShapes Go.WideShapes Go.ChangeAt Go.RowKit
namespace pagesKnown
theorem take_nil (w : World) (run al : Int) : Calls Try.prog 10 #[.pointer none, .int .i64 run, .int .i64 al] w fun r w' => r = .returned (.tuple #[.int .i64 0, .bool false]) ∧ w = w' := by
  go_enter Try.func10, Try.ntmps10
  go_wp2_with (go_at_call 25; refine (find_nil _ _ _).mono ?_; rintro e w' ⟨rfl, rfl⟩)
  go_ret2
  exact ⟨rfl, rfl⟩
theorem fits_nil (w : World) (run al : Int) : Calls Try.prog 13 #[.pointer none, .int .i64 run, .int .i64 al] w fun r w' => r = .returned (.bool false) ∧ w = w' := by
  go_enter Try.func13, Try.ntmps13
  go_wp2_with (go_at_call 25; refine (find_nil _ _ _).mono ?_; rintro e w' ⟨rfl, rfl⟩)
  go_ret
  exact ⟨rfl, rfl⟩
theorem pput_nil (w : World) (a r : Int) : Calls Try.prog 9 #[.pointer none, .int .i64 a, .int .i64 r] w fun e w' => e = .returned (.bool false) ∧ w = w' := by
  go_enter Try.func9, Try.ntmps9
  go_wp2_with (go_at_call 21; refine (none_nil _).mono ?_; rintro e w' ⟨rfl, rfl⟩)
  go_ret
  exact ⟨rfl, rfl⟩
def k2 : Nat → Bool := clr f1 2 4
def k3 : Nat → Bool := clr k2 4 6
def k4 : Nat → Bool := setr k3 4 2
def k5 : Nat → Bool := clr k4 4 7
def m1 : Nat → Bool := setr f0 0 1024
def m2 : Nat → Bool := clr m1 0 1024
set_option maxHeartbeats 2000000 in
set_option maxRecDepth 100000 in
theorem walk (w : World) : Calls Try.prog 6 #[] w fun e w' => e = .returned (.bool true) ∧ Fr [] w w' := by
  go_enter Try.func6, Try.ntmps6
  go_wp2_with fail
  refine (pnew_any 8 _ (by omega)).mono ?_
  rintro e w1 ⟨pp, p, g, rfl, h1, hpp, hp, hg, hf1⟩
  go_wp2_with fail
  refine (take_no _ pp p g 8 f0 h1 1 1 (by omega) (by decide +kernel)).mono ?_
  rintro e w' ⟨rfl, rfl⟩
  go_wp2_with fail
  refine (pput_yes _ pp p g 8 f0 h1 1 6 (by decide +kernel)).mono ?_
  rintro e w2 ⟨rfl, h2, hf2⟩
  go_wp2_with fail
  refine (pput_no _ pp p g 8 f1 h2 6 1 (by omega) (by decide +kernel)).mono ?_
  rintro e w' ⟨rfl, d1, rfl⟩
  go_wp2_with fail
  refine (pput_no _ pp p g 8 f1 (h2.drewN _) 7 2 (by omega) (by decide +kernel)).mono ?_
  rintro e w' ⟨rfl, d2, rfl⟩
  go_wp2_with fail
  refine (take_is (f := f1) (h2.drewN _) 2 2 2 (by omega) (by decide +kernel) (by omega)).mono ?_
  rintro e w3 ⟨rfl, h3, hf3⟩
  go_wp2_with fail
  refine (take_is (f := k2) h3 2 4 1 (by omega) (by decide +kernel) (by omega)).mono ?_
  rintro e w4 ⟨rfl, h4, hf4⟩
  go_wp2_with fail
  refine (pput_yes _ pp p g 8 k3 h4 4 2 (by decide +kernel)).mono ?_
  rintro e w5 ⟨rfl, h5, hf5⟩
  go_wp2_with fail
  refine (take_is (f := k4) h5 3 4 1 (by omega) (by decide +kernel) (by omega)).mono ?_
  rintro e w6 ⟨rfl, h6, hf6⟩
  have q1 : Fr [g] w1 w6 := (((((hf2.drewN _).trans (hf3.hd rfl rfl rfl rfl) (by simp)).trans hf4 (by simp)).trans hf5 (by simp)).trans hf6 (by simp))
  have q2 : Fr [] w w6 := hf1.trans q1 (by simp; exact hg)
  clear hf1 hf2 hf3 hf4 hf5 hf6 q1
  go_wp2_with fail
  refine (pnew_any 1024 _ (by omega)).mono ?_
  rintro e w7 ⟨qq, q, j, rfl, i1, hqq, hq, hj, hf7⟩
  have h7 : Pl w7 pp p g 8 k5 := h6.fr hf7 (by simp) (by simp) (by simp)
  go_wp2_with fail
  refine (pput_yes _ qq q j 1024 f0 i1 0 1024 (by decide +kernel)).mono ?_
  rintro e w8 ⟨rfl, i2, hf8⟩
  go_wp2_with fail
  refine (take_is (f := m1) i2 1024 0 1024 (by omega) (by decide +kernel) (by omega)).mono ?_
  rintro e w9 ⟨rfl, i3, hf9⟩
  go_wp2_with fail
  refine (take_no _ qq q j 1024 m2 i3 0 1 (by omega) (by decide +kernel)).mono ?_
  rintro e w' ⟨rfl, rfl⟩
  go_wp2_with fail
  refine (take_no _ qq q j 1024 m2 i3 1 0 (by omega) (by decide +kernel)).mono ?_
  rintro e w' ⟨rfl, rfl⟩
  go_wp2_with fail
  refine (take_nil _ _ _).mono ?_
  rintro e w' ⟨rfl, rfl⟩
  have hl := h6.1.lt
  have hl2 := h6.2.1.lt
  have q3 : Fr [j] w7 w9 := hf8.trans hf9 (by simp)
  have h9 : Pl w9 pp p g 8 k5 := h7.fr q3 (by simp; omega) (by simp; omega) (by simp; omega)
  have q4 : Fr [] w w9 := (q2.trans0 hf7).trans q3 (by simp; have := q2.size; omega)
  clear q3 hf7 hf8 hf9 q2
  go_wp2_with fail
  refine (works_any _).mono ?_
  rintro e w10 ⟨rfl, hf10⟩
  have h10 := h9.fr hf10 (by simp) (by simp) (by simp)
  go_wp2_with fail
  refine (pnew_bad _ _ (by omega)).mono ?_
  rintro e w' ⟨rfl, rfl⟩
  go_wp2_with fail
  refine (pnew_bad _ _ (by omega)).mono ?_
  rintro e w' ⟨rfl, rfl⟩
  go_wp2_with fail
  refine (pcount_is (f := k5) h10 1 (by decide +kernel)).mono ?_
  rintro e w' ⟨rfl, rfl⟩
  go_wp2_with (first | (go_at_call 9; (with_reducible refine (pput_nil _ _ _).mono ?_); rintro e w' ⟨rfl, rfl⟩) | (go_at_call 11; refine (free_nil _ _).mono ?_; rintro e w' ⟨rfl, rfl⟩) | (go_at_call 12; (with_reducible refine (pcount_nil _).mono ?_); rintro e w' ⟨rfl, rfl⟩) | (go_at_call 13; refine (fits_nil _ _ _).mono ?_; rintro e w' ⟨rfl, rfl⟩) | (go_at_call 18; refine (pcopy_nil _).mono ?_; rintro e w' ⟨rfl, rfl⟩))
  refine (pput_no _ pp p g 8 k5 h10 0 4611686018427387904 (by omega) (by decide +kernel)).mono ?_
  rintro e w' ⟨rfl, d3, rfl⟩
  go_wp2_with fail
  refine (pput_no _ pp p g 8 k5 (h10.drewN _) 4611686018427387904 1 (by omega) (by decide +kernel)).mono ?_
  rintro e w' ⟨rfl, d4, rfl⟩
  go_wp2_with fail
  refine (pnew_any 0 _ (by omega)).mono ?_
  rintro e w11 ⟨rr, r, t, rfl, j1, _, _, _, hf11⟩
  go_wp2_with fail
  refine (pcount_is j1 0 (by decide +kernel)).mono ?_
  rintro e w' ⟨rfl, rfl⟩
  go_wp2_with fail
  go_ret
  exact ⟨rfl, (q4.trans0 hf10).trans0 (hf11.hd rfl rfl rfl rfl)⟩
theorem laidOut : laidOutB Try.prog = true := by kernel_rfl
set_option maxRecDepth 100000 in
theorem lifted (os : Os) (started : os.Started) (H : Type) (enc : TypeId × Value → H) :
    ReturnsInHanded {} Try.checked os 6 .any (Rows.pagesKnownSpec.pre6 enc Try.prog Try.f6 Rows.pagesKnownRow.domain false) (Rows.pagesKnownSpec.post enc Try.prog Try.f6 false true false false) := by
  refine returnsInHanded_of_change (C := Try.checked) own started (by kernel_rfl) Try.func6
    (ChangeSpec.witness6 (enc := enc) (C := Try.checked) false ⟨#[], #[], []⟩ 8 (by kernel_rfl) (by kernel_rfl) (by kernel_rfl) (by kernel_rfl)) ?_
  intro W base args ds gs before hval0 hW hcnd _
  have hval : ∀ (j : Nat) t v, Try.f6.params[j]? = some t → args[j]? = some v → Value.okWide Try.prog W .any base t v := hval0
  have hW' := hW
  obtain ⟨p, q, hA0, hV, rfl, hfz, hnd⟩ := hW
  have hA : DataW.TrodAll enc Try.prog W 0 (fun _ => true) true Try.f6.params.toList args.toList ds p := hA0
  rw [Try.params6] at hA hval
  obtain ⟨rfl, rfl, rfl⟩ := trodAll_none hA
  obtain ⟨rfl, rfl⟩ := trodVars_none hV
  clear hA0 hval0
  simp only [List.append_nil] at hW'
  refine (walk  W ).mono fun e W' ⟨he, hg⟩ => ?_
  subst he
  exact ⟨_, rfl, post_fr (pa := []) (pv := []) hW' (fun _ _ _ => (trodAll_cons_mk (shut_bool Try.underlying4 _) trodAll_mk0)) (fun sp _ => rfl) (fun _ _ => rfl) rfl
    hg (ok_one (by kernel_rfl) rfl (okWide_bool_mk Try.underlying4 _))⟩
theorem over : Rows.pagesKnownRow.holds Try.pinned (OpenSpec.ofChange Rows.pagesKnownSpec) :=
  OpenClaim.holds_of_wide 6 Try.f6 rfl rfl rfl rfl rfl rfl rfl ⟨rfl, rfl, rfl, rfl, rfl⟩ rfl rfl rfl rfl rfl (by kernel_rfl) Try.func6 (by kernel_rfl)
    (of_decide_eq_true (by kernel_rfl)) (by unfold Func.isWrapper; first | (rw [if_pos (by decide +kernel)]; kernel_rfl) | (rw [if_neg (by decide +kernel)]; exact ⟨rfl, rfl⟩))
    (fun os started H enc _ => lifted os started H enc)
/-- The statement, proved. -/
theorem proved : Rows.PagesKnownSaid :=
  over
end pagesKnown
end Go.Proofs.Ytnbdjnhdneboiaa
