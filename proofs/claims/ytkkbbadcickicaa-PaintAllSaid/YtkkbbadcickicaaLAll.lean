/-
  PaintAll: all of a paint can be painted at once, and of that nothing is painted again. No condition.
-/


import Derived.Test.YtkkbbadcickicaaWorks
set_option linter.unusedVariables false
namespace Go.Proofs.Ytkkbbadcickicaa
open Go.ChangeShapes Go.WideShapes Go.ChangeAt Go.RowKit
namespace paintAll
theorem fillAll (k : Nat) (hk : 1 ≤ k) :
    okC k z0 0 (16 * k : Nat) true = true ∧ newC k z0 0 (16 * k : Nat) true = setP z0 0 k true := by
  have h := okC_nat (n := k) (f := z0) (A := 0) (R := k) (to := true) hk (by omega)
  have e : okP z0 0 k true = true := okP_yes fun i _ _ => by simp [z0]
  refine ⟨h.1.trans e, h.2.trans ?_⟩
  unfold chgF; rw [if_pos e]
theorem full (k i : Nat) (hi : i < k) : setP z0 0 k true i = true := by unfold setP; rw [if_pos (by omega)]
theorem again (k A R : Nat) (hR : 1 ≤ R) (hA : A + R ≤ k) : okC k (setP z0 0 k true) (16 * A : Nat) (16 * R : Nat) true = false ∧ newC k (setP z0 0 k true) (16 * A : Nat) (16 * R : Nat) true = setP z0 0 k true := by
  have h := okC_nat (n := k) (f := setP z0 0 k true) (A := A) (R := R) (to := true) hR hA
  have e : okP (setP z0 0 k true) A R true = false := okP_no (i := A) (by omega) (by omega) (full k A (by omega))
  refine ⟨h.1.trans e, h.2.trans ?_⟩
  unfold chgF; rw [if_neg (by rw [e]; simp)]
theorem emptied (k : Nat) (hk : 1 ≤ k) : okC k (setP z0 0 k true) 0 (16 * k : Nat) false = true ∧ newC k (setP z0 0 k true) 0 (16 * k : Nat) false = setP (setP z0 0 k true) 0 k false := by
  have h := okC_nat (n := k) (f := setP z0 0 k true) (A := 0) (R := k) (to := false) hk (by omega)
  have e : okP (setP z0 0 k true) 0 k false = true := okP_yes fun i _ h2 => by rw [full k i (by omega)]; simp
  refine ⟨h.1.trans e, h.2.trans ?_⟩
  unfold chgF; rw [if_pos e]
theorem none_left (k i : Nat) : setP (setP z0 0 k true) 0 k false i = false := by
  unfold setP
  by_cases h : 0 ≤ i ∧ i < 0 + k
  · rw [if_pos h]
  · rw [if_neg h, if_neg h]; rfl
theorem emptied2 (k : Nat) (hk : 1 ≤ k) : okC k (setP (setP z0 0 k true) 0 k false) 0 (16 * k : Nat) false = false := by
  have h := okC_nat (n := k) (f := setP (setP z0 0 k true) 0 k false) (A := 0) (R := k) (to := false) hk (by omega)
  exact h.1.trans (okP_no (i := 0) (by omega) (by omega) (none_left k 0))
theorem cnt_full (k : Nat) : ∀ m, m ≤ k → cnt (setP z0 0 k true) m = m
  | 0, _ => rfl
  | m + 1, h => by simp only [cnt, full k m (by omega), cnt_full k m (by omega)]; rfl
theorem walk0 (k : Nat) (hk : 1 ≤ k) (hk2 : k ≤ 2000) (a0 : Int) (h0 : 0 ≤ a0) (h1 : a0 ≤ 65535) (he : 1 + a0 % 2000 = k) (w : World) :
    Calls Try.prog 4 #[.int .u16 a0] w fun e w' => e = .returned (.bool true) ∧ Fr [] w w' := by
  obtain ⟨K, hK⟩ : ∃ K : Int, ((16 * k : Nat) : Int) = K := ⟨_, rfl⟩
  have hKK : K = 16 * k := by omega
  have C1 := Lib.hid fun w => ptnew_any k w (by omega)
  have F1 := Lib.hid (fillAll k hk)
  have F0 := Lib.hid (okC_no (n := k) (f := z0) (a := 0) (s := K + 16) (to := true) (by omega))
  have F2 := Lib.hid (again k 0 k hk (by omega))
  have F3 := Lib.hid (again k (k - 1) 1 (by omega) (by omega))
  have F4 := Lib.hid (emptied k hk)
  have F5 := Lib.hid (emptied2 k hk)
  rw [show ((16 * 0 : Nat) : Int) = 0 by rfl] at F2
  rw [show ((16 * (k - 1) : Nat) : Int) = K - 16 by omega, show ((16 * 1 : Nat) : Int) = 16 by rfl] at F3
  rw [hK] at C1 F1 F2 F4 F5
  have HC := Lib.hid (cnt_full k k (Nat.le_refl k))
  have HZ := Lib.hid (cnt_zero (setP (setP z0 0 k true) 0 k false) k fun i _ => none_left k i)
  have G1 := Lib.hid (show hasP k (setP z0 0 k true) K = false by unfold hasP inR; simp; omega)
  have G2 := Lib.hid (show hasP k (setP z0 0 k true) (K - 1) = true by
    unfold hasP inR
    rw [full k _ (by omega)]
    simp; omega)
  have hb : 16 ≤ K ∧ K ≤ 32000 := by omega
  obtain ⟨hb1, hb2⟩ := hb
  have hKe : 16 * (k : Int) = K := hKK.symm
  have hkk : 1 ≤ (k : Int) ∧ (k : Int) ≤ 2000 := by omega
  clear hK hKK
  go_enter Try.func4, Try.ntmps4
  go_wp2_with (go_at_call 7; refine (C1.out _).mono ?_; rintro e w1 ⟨pp, p, g, rfl, h1, hpp, hp, hg, hf1⟩)
  have hs1 := hf1.size
  have hl1 := h1.lt
  have A1 := At.new w1 28 #[.int .u32 0, .int .u32 K]
  have hfa : Fr [] w1 (w1.alloc (.cells #[.int .u32 0, .int .u32 K] 28)) := (by repeat (first | exact Fr.refl _ _ | assumption | refine Fr.trans0 ?_ (by assumption) | refine Fr.drewN ?_ _ | refine Fr.alloc ?_ _ | refine Fr.drew ?_))
  have H2 := h1.fr hfa (by simp) (by simp) (by simp)
  refine (ptadd_is H2 0 (K + 16) false z0 ⟨by omega, by omega⟩ ⟨by omega, by omega⟩ F0.out.1 F0.out.2).mono ?_
  rintro e w3 ⟨rfl, h3, hf3⟩
  have A3 := A1.fr hf3 (by simp; omega)
  have c0 := A3.cell 0
  have c1 := A3.cell 1
  simp only [List.getElem?_toArray, List.getElem?_cons_zero, List.getElem?_cons_succ] at c0 c1
  go_wp2_with fail
  refine (ptadd_is h3 0 K true _ ⟨by omega, by omega⟩ ⟨by omega, by omega⟩ F1.out.1 F1.out.2).mono ?_
  rintro e w4 ⟨rfl, h4, hf4⟩
  have A4 := A3.fr hf4 (by simp; omega)
  have c0 := A4.cell 0
  have c1 := A4.cell 1
  simp only [List.getElem?_toArray, List.getElem?_cons_zero, List.getElem?_cons_succ] at c0 c1
  go_wp2_with fail
  refine (ptadd_is h4 0 K false _ ⟨by omega, by omega⟩ ⟨by omega, by omega⟩ F2.out.1 F2.out.2).mono ?_
  rintro e w5 ⟨rfl, h5, hf5⟩
  have A5 := A4.fr hf5 (by simp; omega)
  go_wp2_with fail
  refine (ptadd_is h5 (K - 16) 16 false _ ⟨by omega, by omega⟩ ⟨by omega, by omega⟩ F3.out.1 F3.out.2).mono ?_
  rintro e w6 ⟨rfl, h6, hf6⟩
  have A6 := A5.fr hf6 (by simp; omega)
  go_wp2_with fail
  refine (ptcount_is h6 k HC.out).mono ?_
  rintro e w' ⟨rfl, rfl⟩
  go_wp2_with fail
  refine (pthas_is h6 K false ⟨by omega, by omega⟩ G1.out).mono ?_
  rintro e w' ⟨rfl, rfl⟩
  go_wp2_with fail
  refine (pthas_is h6 (K - 1) true ⟨by omega, by omega⟩ G2.out).mono ?_
  rintro e w' ⟨rfl, rfl⟩
  have c0 := A6.cell 0
  have c1 := A6.cell 1
  simp only [List.getElem?_toArray, List.getElem?_cons_zero, List.getElem?_cons_succ] at c0 c1
  go_wp2_with fail
  refine (ptrem_is h6 0 K true _ ⟨by omega, by omega⟩ ⟨by omega, by omega⟩ F4.out.1 F4.out.2).mono ?_
  rintro e w7 ⟨rfl, h7, hf7⟩
  have A7 := A6.fr hf7 (by simp; omega)
  have c0 := A7.cell 0
  have c1 := A7.cell 1
  simp only [List.getElem?_toArray, List.getElem?_cons_zero, List.getElem?_cons_succ] at c0 c1
  go_wp2_with fail
  refine (ptrem_is h7 0 K false _ ⟨by omega, by omega⟩ ⟨by omega, by omega⟩ F5.out rfl).mono ?_
  rintro e w8 ⟨rfl, h8, hf8⟩
  have h8 : Pt w8 pp p g k (setP (setP z0 0 k true) 0 k false) := by
    have := h8
    unfold newC at this
    rw [if_neg (by rw [F5.out]; simp)] at this
    exact this
  go_wp2_with fail
  refine (ptcount_is h8 0 HZ.out).mono ?_
  rintro e w' ⟨rfl, rfl⟩
  go_wp2_with (go_at_call 12; refine (works15_any _).mono ?_; rintro e w9 ⟨rfl, hf9⟩)
  go_ret
  exact ⟨rfl, (((((((hf1.trans0 hfa).trans hf3 (by simp; omega)).trans hf4 (by simp; omega)).trans hf5 (by simp; omega)).trans hf6 (by simp; omega)).trans hf7 (by simp; omega)).trans hf8 (by simp; omega)).trans0 hf9⟩
theorem walk (a0 : Int) (w0 : (Lit.int .u16 a0).wf = true) (w : World) :
    Calls Try.prog 4 #[.int .u16 a0] w fun e w' => e = .returned (.bool true) ∧ Fr [] w w' := by
  have hb := bounds_u16 w0
  exact walk0 (1 + a0 % 2000).toNat (by omega) (by omega) a0 (by omega) (by omega) (by omega) w
theorem laidOut : laidOutB Try.prog = true := by kernel_rfl
set_option maxRecDepth 100000 in
theorem lifted (os : Os) (started : os.Started) (H : Type) (enc : TypeId × Value → H) :
    ReturnsInHanded {} Try.checked os 4 .any (Rows.paintAllSpec.pre6 enc Try.prog Try.f4 Rows.paintAllRow.domain false) (Rows.paintAllSpec.post enc Try.prog Try.f4 false true false false) := by
  refine returnsInHanded_of_change (C := Try.checked) own started (by kernel_rfl) Try.func4
    (ChangeSpec.witness6 (enc := enc) (C := Try.checked) false ⟨#[], #[.int .u16 0], []⟩ 8 (by kernel_rfl) (by kernel_rfl) (by kernel_rfl) (by kernel_rfl)) ?_
  intro W base args ds gs before hval0 hW hcnd _
  have hval : ∀ (j : Nat) t v, Try.f4.params[j]? = some t → args[j]? = some v → Value.okWide Try.prog W .any base t v := hval0
  have hW' := hW
  obtain ⟨p, q, hA0, hV, rfl, hfz, hnd⟩ := hW
  have hA : DataW.TrodAll enc Try.prog W 0 (fun _ => true) true Try.f4.params.toList args.toList ds p := hA0
  rw [Try.params4] at hA hval
  obtain ⟨v0, vs0, d0, ds0, p0, q0, hargs, rfl, rfl, h0, r0⟩ := trodAll_cons hA
  obtain ⟨rfl, rfl, rfl⟩ := trodAll_nil r0
  obtain rfl : args = #[v0] := by cases args; simp_all
  obtain ⟨rfl, rfl⟩ := trodVars_none hV
  obtain ⟨a0, rfl, rfl, rfl, w0⟩ := open_int Try.underlying34 (hval 0 34 v0 rfl rfl) h0
  clear hA0 hval0
  simp only [List.append_nil] at hW'
  refine (walk a0 w0 W ).mono fun e W' ⟨he, hg⟩ => ?_
  subst he
  exact ⟨_, rfl, post_fr (pa := []) (pv := []) hW' (fun _ _ _ => (trodAll_cons_mk (shut_bool Try.underlying4 _) trodAll_mk0)) (fun sp _ => (trodAll_cons_mk (shut_int Try.underlying34 w0) trodAll_mk0)) (fun _ _ => rfl) rfl
    hg (ok_one (by kernel_rfl) rfl (okWide_bool_mk Try.underlying4 _))⟩
theorem over : Rows.paintAllRow.holds Try.pinned (OpenSpec.ofChange Rows.paintAllSpec) :=
  OpenClaim.holds_of_wide 4 Try.f4 rfl rfl rfl rfl rfl rfl rfl ⟨rfl, rfl, rfl, rfl, rfl⟩ rfl rfl rfl rfl rfl (by kernel_rfl) Try.func4 (by kernel_rfl)
    (of_decide_eq_true (by kernel_rfl)) (by unfold Func.isWrapper; first | (rw [if_pos (by decide +kernel)]; kernel_rfl) | (rw [if_neg (by decide +kernel)]; exact ⟨rfl, rfl⟩))
    (fun os started H enc _ => lifted os started H enc)
/-- The statement, proved. -/
theorem proved : Rows.PaintAllSaid :=
  over
end paintAll
end Go.Proofs.Ytkkbbadcickicaa
