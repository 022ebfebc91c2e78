/-
  SizesExact: what is padded is not less than the size, is padded to itself, and has exact bounds from each multiple of its align on. No condition.
-/

import Derived.Test.YtkhklljmoigciaaHelp
set_option linter.unusedVariables false
namespace Go.Proofs.Ytkhklljmoigciaa
open Go.ChangeShapes Go.WideShapes Go.ChangeAt Go.RowKit
namespace sizesExact
theorem see (s h : Int) (h1 : 0 ≤ s) : padV s h = (0, 0, 6) ∨ ∃ p a, padV s h = (p, a, 0) ∧ padR s = some (p, a) ∧ p ≤ h ∧ padV p h = (p, a, 0) ∧ p % a = 0 ∧ p % 16 = 0 := by
  rw [padV_eq]
  cases hp : padR s with
  | none => exact .inl rfl
  | some x =>
    obtain ⟨p, a⟩ := x
    simp only [padO]
    by_cases hh : p ≤ h
    · rw [if_pos hh]
      obtain ⟨⟨j, hj⟩, ⟨k, hk⟩, hx⟩ := padR_exact s p a h1 hp
      refine .inr ⟨p, a, rfl, rfl, hh, ?_, ?_, ?_⟩
      · rw [padV_eq, hx]; simp only [padO, if_pos hh]
      · rw [hj]; exact Int.mul_emod_right a j
      · rw [hk]; exact Int.mul_emod_right 16 k
    · rw [if_neg hh]; exact .inl rfl
theorem walk (a0 : Int) (w0 : (Lit.int .u32 a0).wf = true) (a1 : Int) (w1 : (Lit.int .u32 a1).wf = true) (a2 : Int) (w2 : (Lit.int .u32 a2).wf = true) (w : World) :
    Calls Try.prog 9 #[.int .u32 a0, .int .u32 a1, .int .u32 a2] w fun e w' => e = .returned (.bool true) ∧ Fr [] w w' := by
  obtain ⟨b0, b0'⟩ := u32_bd w0
  obtain ⟨b1, b1'⟩ := u32_bd w1
  obtain ⟨b2, b2'⟩ := u32_bd w2
  clear w0 w1 w2
  rcases see a0 a1 b0 with e1 | ⟨p, a, e1, hr, hph, e2, hm, hg⟩
  · have C1 := pd3 _ _ _ _ _ b0 b0' e1
    clear e1
    go_enter Try.func9, Try.ntmps9
    go_wp2_with fail; refine (C1.out _).mono ?_; rintro e w3 ⟨rfl, hf1⟩
    go_wp2_with (go_at_call 12; refine (works_any _).mono ?_; rintro e w9 ⟨rfl, hf9⟩)
    go_ret
    exact ⟨rfl, (by repeat (first | exact Fr.refl _ _ | assumption | refine Fr.trans0 ?_ (by assumption) | refine Fr.drewN ?_ _ | refine Fr.alloc ?_ _ | refine Fr.drew ?_))⟩
  · have q := padR_ge a0 p a b0 hr
    obtain ⟨q1, q2, q3, q4, q5⟩ := q
    have C1 := pd3 _ _ _ _ _ b0 b0' e1
    have C2 := pd3 _ _ _ _ _ (by omega) q3 e2
    clear e1 e2
    have hz : (a == 0) = false := by simp; omega
    have c1 : 0 ≤ a2 / a := Int.ediv_nonneg b2 (by omega)
    have c2 : 0 ≤ a2 / a * a := Int.mul_nonneg c1 (by omega)
    have c3 : a2 / a * a ≤ a2 := Int.ediv_mul_le a2 (by omega)
    have hex := fun ht => exact_at a0 p a (a2 / a) b0 hr (by rw [Int.mul_comm]; exact c2) ht
    rw [Int.mul_comm a (a2 / a)] at hex
    obtain ⟨x, hx⟩ : ∃ x, a2 / a * a = x := ⟨_, rfl⟩
    rw [hx] at c2 c3 hex
    have Hr := Lib.hid hr
    have Hx := Lib.hid hex
    clear hex hr c1
    by_cases ht : x + p ≤ 4294967296
    · have C3 : Hid (∀ w, Calls Try.prog 20 #[.int .u32 x, .int .u64 (x + p)] w fun r w' => (∃ x y z : Value, r = .returned (.tuple #[x, y, z, .bool true, .bool true])) ∧ ∃ n, w' = w.drewN n) :=
        Lib.hid fun w => encode_exact x (x + p) w c2 (by omega) (by omega) ht (Hx.out ht).1 (Hx.out ht).2
      go_enter Try.func9, Try.ntmps9
      go_wp2_with fail; refine (C1.out _).mono ?_; rintro e w3 ⟨rfl, hf1⟩
      go_wp2_with fail; refine (C2.out _).mono ?_; rintro e w4 ⟨rfl, hf2⟩
      go_wp2_with fail
      refine (C3.out _).mono ?_
      rintro e w5 ⟨⟨x1, x2, x3, rfl⟩, n5, rfl⟩
      go_wp2_with (go_at_call 12; refine (works_any _).mono ?_; rintro e w9 ⟨rfl, hf9⟩)
      go_ret
      exact ⟨rfl, (by repeat (first | exact Fr.refl _ _ | assumption | refine Fr.trans0 ?_ (by assumption) | refine Fr.drewN ?_ _ | refine Fr.alloc ?_ _ | refine Fr.drew ?_))⟩
    · go_enter Try.func9, Try.ntmps9
      go_wp2_with fail; refine (C1.out _).mono ?_; rintro e w3 ⟨rfl, hf1⟩
      go_wp2_with fail; refine (C2.out _).mono ?_; rintro e w4 ⟨rfl, hf2⟩
      go_wp2_with (go_at_call 12; refine (works_any _).mono ?_; rintro e w9 ⟨rfl, hf9⟩)
      go_ret
      exact ⟨rfl, (by repeat (first | exact Fr.refl _ _ | assumption | refine Fr.trans0 ?_ (by assumption) | refine Fr.drewN ?_ _ | refine Fr.alloc ?_ _ | refine Fr.drew ?_))⟩
set_option maxRecDepth 100000 in
theorem lifted (os : Os) (started : os.Started) (H : Type) (enc : TypeId × Value → H) :
    ReturnsInHanded {} Try.checked os 9 .any (Rows.sizesExactSpec.pre6 enc Try.prog Try.f9 Rows.sizesExactRow.domain false) (Rows.sizesExactSpec.post enc Try.prog Try.f9 false true false false) := by
  refine returnsInHanded_of_change (C := Try.checked) own started (by kernel_rfl) Try.func9
    (ChangeSpec.witness6 (enc := enc) (C := Try.checked) false ⟨#[], #[.int .u32 0, .int .u32 0, .int .u32 0], []⟩ 8 (by kernel_rfl) (by kernel_rfl) (by kernel_rfl) (by kernel_rfl)) ?_
  intro W base args ds gs before hval0 hW hcnd _
  have hval : ∀ (j : Nat) t v, Try.f9.params[j]? = some t → args[j]? = some v → Value.okWide Try.prog W .any base t v := hval0
  have hW' := hW
  obtain ⟨p, q, hA0, hV, rfl, hfz, hnd⟩ := hW
  have hA : DataW.TrodAll enc Try.prog W 0 (fun _ => true) true Try.f9.params.toList args.toList ds p := hA0
  rw [Try.params9] at hA hval
  obtain ⟨v0, vs0, d0, ds0, p0, q0, hargs, rfl, rfl, h0, r0⟩ := trodAll_cons hA
  obtain ⟨v1, vs1, d1, ds1, p1, q1, rfl, rfl, rfl, h1, r1⟩ := trodAll_cons r0
  obtain ⟨v2, vs2, d2, ds2, p2, q2, rfl, rfl, rfl, h2, r2⟩ := trodAll_cons r1
  obtain ⟨rfl, rfl, rfl⟩ := trodAll_nil r2
  obtain rfl : args = #[v0, v1, v2] := by cases args; simp_all
  obtain ⟨rfl, rfl⟩ := trodVars_none hV
  obtain ⟨a0, rfl, rfl, rfl, w0⟩ := open_int Try.underlying22 (hval 0 22 v0 rfl rfl) h0
  obtain ⟨a1, rfl, rfl, rfl, w1⟩ := open_int Try.underlying22 (hval 1 22 v1 rfl rfl) h1
  obtain ⟨a2, rfl, rfl, rfl, w2⟩ := open_int Try.underlying22 (hval 2 22 v2 rfl rfl) h2
  clear hA0 hval0
  simp only [List.append_nil] at hW'
  refine (walk a0 w0 a1 w1 a2 w2 W).mono fun e W' ⟨he, hg⟩ => ?_
  subst he
  exact ⟨_, rfl, post_fr (pa := []) (pv := []) hW' (fun _ _ _ => (trodAll_cons_mk (shut_bool Try.underlying4 _) trodAll_mk0)) (fun sp _ => (trodAll_cons_mk (shut_int Try.underlying22 w0) (trodAll_cons_mk (shut_int Try.underlying22 w1) (trodAll_cons_mk (shut_int Try.underlying22 w2) trodAll_mk0)))) (fun _ _ => rfl) rfl
    hg (ok_one (by kernel_rfl) rfl (okWide_bool_mk Try.underlying4 _))⟩
theorem over : Rows.sizesExactRow.holds Try.pinned (OpenSpec.ofChange Rows.sizesExactSpec) :=
  OpenClaim.holds_of_wide 9 Try.f9 rfl rfl rfl rfl rfl rfl rfl ⟨rfl, rfl, rfl, rfl, rfl⟩ rfl rfl rfl rfl rfl (by kernel_rfl) Try.func9 (by kernel_rfl)
    (of_decide_eq_true (by kernel_rfl)) (by unfold Func.isWrapper; first | (rw [if_pos (by decide +kernel)]; kernel_rfl) | (rw [if_neg (by decide +kernel)]; exact ⟨rfl, rfl⟩))
    (fun os started H enc _ => lifted os started H enc)
/-- The statement, proved. -/
theorem proved : Rows.SizesExactSaid :=
  over
end sizesExact
end Go.Proofs.Ytkhklljmoigciaa
