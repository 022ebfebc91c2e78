/-
  SizesRise: a greater size is not padded to less; the least heap with which a size goes is what it is padded to. No condition.
-/

import Derived.Test.YtkhklljmoigciaaHelp
set_option linter.unusedVariables false
namespace Go.Proofs.Ytkhklljmoigciaa
open Go.ChangeShapes Go.WideShapes Go.ChangeAt Go.RowKit
namespace sizesRise
def OkAt (C : Int → Int → Int → Int → Int → Prop) (s h : Int) : Prop := ∃ p a e, padV s h = (p, a, e) ∧ C s h p a e
theorem padV_none (s h : Int) (hn : padR s = none) : padV s h = (0, 0, 6) := by rw [padV_eq, hn]; rfl
theorem padV_yes (s h p a : Int) (hn : padR s = some (p, a)) (hh : p ≤ h) : padV s h = (p, a, 0) := by rw [padV_eq, hn]; simp only [padO, if_pos hh]
theorem padV_no (s h p a : Int) (hn : padR s = some (p, a)) (hh : h < p) : padV s h = (0, 0, 6) := by rw [padV_eq, hn]; simp only [padO]; rw [if_neg (by omega)]
/-- What the law sees of two sizes: the lesser one refused for being 0; both refused; the lesser met. -/
theorem see (a b h : Int) (h1 : 0 ≤ a) (h2 : a ≤ b) (h3 : b < 4294967296) :
    (a = 0 ∧ padV a h = (0, 0, 6) ∧ ∃ q d f, padV b h = (q, d, f) ∧ (f = 0 ∨ f = 6)) ∨
    (0 < a ∧ padV a h = (0, 0, 6) ∧ padV b h = (0, 0, 6)) ∨
    (0 < a ∧ ∃ p c, padV a h = (p, c, 0) ∧ 0 < p ∧ p < 4294967296 ∧ padV a p = (p, c, 0) ∧ padV a (p - 1) = (0, 0, 6) ∧ (padV b h = (0, 0, 6) ∨ ∃ q d, padV b h = (q, d, 0) ∧ p ≤ q)) := by
  by_cases h0 : a = 0
  · refine .inl ⟨h0, ?_, ?_⟩
    · subst h0; exact padV_none 0 h rfl
    · rw [padV_eq b h]
      cases hb : padR b with
      | none => exact ⟨0, 0, 6, rfl, .inr rfl⟩
      | some x =>
        obtain ⟨q, d⟩ := x
        simp only [padO]
        by_cases hh : q ≤ h
        · rw [if_pos hh]; exact ⟨q, d, 0, rfl, .inl rfl⟩
        · rw [if_neg hh]; exact ⟨0, 0, 6, rfl, .inr rfl⟩
  · refine .inr ?_
    cases ha : padR a with
    | none =>
      refine .inl ⟨by omega, padV_none a h ha, padV_none b h ?_⟩
      cases hb : padR b with
      | none => rfl
      | some x =>
        obtain ⟨q, d⟩ := x
        obtain ⟨p, c, hp, _⟩ := padR_mono a b q d (by omega) h2 hb
        rw [ha] at hp; cases hp
    | some x =>
      obtain ⟨p, c⟩ := x
      have hg := padR_ge a p c h1 ha
      by_cases hh : p ≤ h
      · refine .inr ⟨by omega, p, c, padV_yes a h p c ha hh, hg.2.1, hg.2.2.1, padV_yes a p p c ha (by omega), padV_no a (p - 1) p c ha (by omega), ?_⟩
        cases hb : padR b with
        | none => exact .inl (padV_none b h hb)
        | some x =>
          obtain ⟨q, d⟩ := x
          obtain ⟨p', c', hp, hq⟩ := padR_mono a b q d (by omega) h2 hb
          rw [ha] at hp
          injection hp with hp; injection hp with e1 e2
          by_cases hh : q ≤ h
          · exact .inr ⟨q, d, padV_yes b h q d hb hh, by omega⟩
          · exact .inl (padV_no b h q d hb (by omega))
      · refine .inl ⟨by omega, padV_no a h p c ha (by omega), ?_⟩
        cases hb : padR b with
        | none => exact padV_none b h hb
        | some x =>
          obtain ⟨q, d⟩ := x
          obtain ⟨p', c', hp, hq⟩ := padR_mono a b q d (by omega) h2 hb
          rw [ha] at hp
          injection hp with hp; injection hp with e1 e2
          exact padV_no b h q d hb (by omega)
theorem walk_le (a0 a1 a2 : Int) (w : World) (b0 : 0 ≤ a0) (b0' : a0 < 4294967296) (b1 : 0 ≤ a1) (b1' : a1 < 4294967296) (b2 : 0 ≤ a2) (b2' : a2 < 4294967296) (hsw : a0 ≤ a1) :
    Calls Try.prog 4 #[.int .u32 a0, .int .u32 a1, .int .u32 a2] w fun e w' => e = .returned (.bool true) ∧ Fr [] w w' := by
  obtain ⟨h0, e1, q, d, f, e2, hf⟩ | ⟨h0, e1, e2⟩ | ⟨h0, p, c, e1, hp1, hp2, e3, e4, e2⟩ := see a0 a1 a2 (by omega) (by omega) (by omega)
  · have C1 := pd3 _ _ _ _ _ (by assumption) (by assumption) e1
    subst h0
    have C2 := pd3 _ _ _ _ _ (by assumption) (by assumption) e2
    clear e1 e2
    rcases hf with rfl | rfl
    all_goals
      go_enter Try.func4, Try.ntmps4
      go_wp2_with fail; refine (C1.out _).mono ?_; rintro e w3 ⟨rfl, hf1⟩
      go_wp2_with fail; refine (C2.out _).mono ?_; rintro e w4 ⟨rfl, hf2⟩
      go_wp2_with (go_at_call 12; refine (works_any _).mono ?_; rintro e w9 ⟨rfl, hf9⟩)
      go_ret
      exact ⟨rfl, (by repeat (first | exact Fr.refl _ _ | assumption | refine Fr.trans0 ?_ (by assumption) | refine Fr.drewN ?_ _ | refine Fr.alloc ?_ _ | refine Fr.drew ?_))⟩
  · have C1 := pd3 _ _ _ _ _ (by assumption) (by assumption) e1
    have C2 := pd3 _ _ _ _ _ (by assumption) (by assumption) e2
    clear e1 e2
    go_enter Try.func4, Try.ntmps4
    go_wp2_with fail; refine (C1.out _).mono ?_; rintro e w3 ⟨rfl, hf1⟩
    go_wp2_with fail; refine (C2.out _).mono ?_; rintro e w4 ⟨rfl, hf2⟩
    go_wp2_with (go_at_call 12; refine (works_any _).mono ?_; rintro e w9 ⟨rfl, hf9⟩)
    go_ret
    exact ⟨rfl, (by repeat (first | exact Fr.refl _ _ | assumption | refine Fr.trans0 ?_ (by assumption) | refine Fr.drewN ?_ _ | refine Fr.alloc ?_ _ | refine Fr.drew ?_))⟩
  · have C1 := pd3 _ _ _ _ _ (by assumption) (by assumption) e1
    have C3 := pd3 _ _ _ _ _ (by assumption) (by assumption) e3
    have C4 := pd3 _ _ _ _ _ (by assumption) (by assumption) e4
    rcases e2 with e2 | ⟨q, d, e2, hpq⟩
    all_goals
      have C2 := pd3 _ _ _ _ _ (by assumption) (by assumption) e2
      clear e1 e2 e3 e4
      go_enter Try.func4, Try.ntmps4
      go_wp2_with fail; refine (C1.out _).mono ?_; rintro e w3 ⟨rfl, hf1⟩
      go_wp2_with fail; refine (C2.out _).mono ?_; rintro e w4 ⟨rfl, hf2⟩
      go_wp2_with fail; refine (C3.out _).mono ?_; rintro e w5 ⟨rfl, hf3⟩
      go_wp2_with fail; refine (C4.out _).mono ?_; rintro e w6 ⟨rfl, hf4⟩
      go_wp2_with (go_at_call 12; refine (works_any _).mono ?_; rintro e w9 ⟨rfl, hf9⟩)
      go_ret
      exact ⟨rfl, (by repeat (first | exact Fr.refl _ _ | assumption | refine Fr.trans0 ?_ (by assumption) | refine Fr.drewN ?_ _ | refine Fr.alloc ?_ _ | refine Fr.drew ?_))⟩
theorem walk_gt (a0 a1 a2 : Int) (w : World) (b0 : 0 ≤ a0) (b0' : a0 < 4294967296) (b1 : 0 ≤ a1) (b1' : a1 < 4294967296) (b2 : 0 ≤ a2) (b2' : a2 < 4294967296) (hsw : a1 < a0) :
    Calls Try.prog 4 #[.int .u32 a0, .int .u32 a1, .int .u32 a2] w fun e w' => e = .returned (.bool true) ∧ Fr [] w w' := by
  obtain ⟨h0, e1, q, d, f, e2, hf⟩ | ⟨h0, e1, e2⟩ | ⟨h0, p, c, e1, hp1, hp2, e3, e4, e2⟩ := see a1 a0 a2 (by omega) (by omega) (by omega)
  · have C1 := pd3 _ _ _ _ _ (by assumption) (by assumption) e1
    subst h0
    have C2 := pd3 _ _ _ _ _ (by assumption) (by assumption) e2
    clear e1 e2
    rcases hf with rfl | rfl
    all_goals
      go_enter Try.func4, Try.ntmps4
      go_wp2_with fail; refine (C1.out _).mono ?_; rintro e w3 ⟨rfl, hf1⟩
      go_wp2_with fail; refine (C2.out _).mono ?_; rintro e w4 ⟨rfl, hf2⟩
      go_wp2_with (go_at_call 12; refine (works_any _).mono ?_; rintro e w9 ⟨rfl, hf9⟩)
      go_ret
      exact ⟨rfl, (by repeat (first | exact Fr.refl _ _ | assumption | refine Fr.trans0 ?_ (by assumption) | refine Fr.drewN ?_ _ | refine Fr.alloc ?_ _ | refine Fr.drew ?_))⟩
  · have C1 := pd3 _ _ _ _ _ (by assumption) (by assumption) e1
    have C2 := pd3 _ _ _ _ _ (by assumption) (by assumption) e2
    clear e1 e2
    go_enter Try.func4, Try.ntmps4
    go_wp2_with fail; refine (C1.out _).mono ?_; rintro e w3 ⟨rfl, hf1⟩
    go_wp2_with fail; refine (C2.out _).mono ?_; rintro e w4 ⟨rfl, hf2⟩
    go_wp2_with (go_at_call 12; refine (works_any _).mono ?_; rintro e w9 ⟨rfl, hf9⟩)
    go_ret
    exact ⟨rfl, (by repeat (first | exact Fr.refl _ _ | assumption | refine Fr.trans0 ?_ (by assumption) | refine Fr.drewN ?_ _ | refine Fr.alloc ?_ _ | refine Fr.drew ?_))⟩
  · have C1 := pd3 _ _ _ _ _ (by assumption) (by assumption) e1
    have C3 := pd3 _ _ _ _ _ (by assumption) (by assumption) e3
    have C4 := pd3 _ _ _ _ _ (by assumption) (by assumption) e4
    rcases e2 with e2 | ⟨q, d, e2, hpq⟩
    all_goals
      have C2 := pd3 _ _ _ _ _ (by assumption) (by assumption) e2
      clear e1 e2 e3 e4
      go_enter Try.func4, Try.ntmps4
      go_wp2_with fail; refine (C1.out _).mono ?_; rintro e w3 ⟨rfl, hf1⟩
      go_wp2_with fail; refine (C2.out _).mono ?_; rintro e w4 ⟨rfl, hf2⟩
      go_wp2_with fail; refine (C3.out _).mono ?_; rintro e w5 ⟨rfl, hf3⟩
      go_wp2_with fail; refine (C4.out _).mono ?_; rintro e w6 ⟨rfl, hf4⟩
      go_wp2_with (go_at_call 12; refine (works_any _).mono ?_; rintro e w9 ⟨rfl, hf9⟩)
      go_ret
      exact ⟨rfl, (by repeat (first | exact Fr.refl _ _ | assumption | refine Fr.trans0 ?_ (by assumption) | refine Fr.drewN ?_ _ | refine Fr.alloc ?_ _ | refine Fr.drew ?_))⟩
theorem walk (a0 : Int) (w0 : (Lit.int .u32 a0).wf = true) (a1 : Int) (w1 : (Lit.int .u32 a1).wf = true) (a2 : Int) (w2 : (Lit.int .u32 a2).wf = true) (w : World) :
    Calls Try.prog 4 #[.int .u32 a0, .int .u32 a1, .int .u32 a2] w fun e w' => e = .returned (.bool true) ∧ Fr [] w w' := by
  have c0 := u32_bd w0
  have c1 := u32_bd w1
  have c2 := u32_bd w2
  by_cases h : a0 ≤ a1
  · exact walk_le a0 a1 a2 w c0.1 c0.2 c1.1 c1.2 c2.1 c2.2 h
  · exact walk_gt a0 a1 a2 w c0.1 c0.2 c1.1 c1.2 c2.1 c2.2 (by omega)
set_option maxRecDepth 100000 in
theorem lifted (os : Os) (started : os.Started) (H : Type) (enc : TypeId × Value → H) :
    ReturnsInHanded {} Try.checked os 4 .any (Rows.sizesRiseSpec.pre6 enc Try.prog Try.f4 Rows.sizesRiseRow.domain false) (Rows.sizesRiseSpec.post enc Try.prog Try.f4 false true false false) := by
  refine returnsInHanded_of_change (C := Try.checked) own started (by kernel_rfl) Try.func4
    (ChangeSpec.witness6 (enc := enc) (C := Try.checked) false ⟨#[], #[.int .u32 0, .int .u32 0, .int .u32 0], []⟩ 8 (by kernel_rfl) (by kernel_rfl) (by kernel_rfl) (by kernel_rfl)) ?_
  intro W base args ds gs before hval0 hW hcnd _
  have hval : ∀ (j : Nat) t v, Try.f4.params[j]? = some t → args[j]? = some v → Value.okWide Try.prog W .any base t v := hval0
  have hW' := hW
  obtain ⟨p, q, hA0, hV, rfl, hfz, hnd⟩ := hW
  have hA : DataW.TrodAll enc Try.prog W 0 (fun _ => true) true Try.f4.params.toList args.toList ds p := hA0
  rw [Try.params4] at hA hval
  obtain ⟨v0, vs0, d0, ds0, p0, q0, hargs, rfl, rfl, h0, r0⟩ := trodAll_cons hA
  obtain ⟨v1, vs1, d1, ds1, p1, q1, rfl, rfl, rfl, h1, r1⟩ := trodAll_cons r0
  obtain ⟨v2, vs2, d2, ds2, p2, q2, rfl, rfl, rfl, h2, r2⟩ := trodAll_cons r1
  obtain ⟨rfl, rfl, rfl⟩ := trodAll_nil r2
  obtain rfl : args = #[v0, v1, v2] := by cases args; simp_all
  obtain ⟨rfl, rfl⟩ := trodVars_none hV
  obtain ⟨a0, rfl, rfl, rfl, w0⟩ := open_int Try.underlying22 (hval 0 22 v0 rfl rfl) h0
  obtain ⟨a1, rfl, rfl, rfl, w1⟩ := open_int Try.underlying22 (hval 1 22 v1 rfl rfl) h1
  obtain ⟨a2, rfl, rfl, rfl, w2⟩ := open_int Try.underlying22 (hval 2 22 v2 rfl rfl) h2
  clear hA0 hval0
  simp only [List.append_nil] at hW'
  refine (walk a0 w0 a1 w1 a2 w2 W).mono fun e W' ⟨he, hg⟩ => ?_
  subst he
  exact ⟨_, rfl, post_fr (pa := []) (pv := []) hW' (fun _ _ _ => (trodAll_cons_mk (shut_bool Try.underlying4 _) trodAll_mk0)) (fun sp _ => (trodAll_cons_mk (shut_int Try.underlying22 w0) (trodAll_cons_mk (shut_int Try.underlying22 w1) (trodAll_cons_mk (shut_int Try.underlying22 w2) trodAll_mk0)))) (fun _ _ => rfl) rfl
    hg (ok_one (by kernel_rfl) rfl (okWide_bool_mk Try.underlying4 _))⟩
theorem over : Rows.sizesRiseRow.holds Try.pinned (OpenSpec.ofChange Rows.sizesRiseSpec) :=
  OpenClaim.holds_of_wide 4 Try.f4 rfl rfl rfl rfl rfl rfl rfl ⟨rfl, rfl, rfl, rfl, rfl⟩ rfl rfl rfl rfl rfl (by kernel_rfl) Try.func4 (by kernel_rfl)
    (of_decide_eq_true (by kernel_rfl)) (by unfold Func.isWrapper; first | (rw [if_pos (by decide +kernel)]; kernel_rfl) | (rw [if_neg (by decide +kernel)]; exact ⟨rfl, rfl⟩))
    (fun os started H enc _ => lifted os started H enc)
/-- The statement, proved. -/
theorem proved : Rows.SizesRiseSaid :=
  over
end sizesRise
end Go.Proofs.Ytkhklljmoigciaa
