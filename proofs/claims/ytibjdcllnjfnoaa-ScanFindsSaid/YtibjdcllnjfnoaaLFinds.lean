/-
  ScanFinds: a capability whose region lies in what is painted is stale, wherever its cursor, and not when it lies beside it. No condition.
-/




import Derived.Test.YtibjdcllnjfnoaaWorks
set_option linter.unusedVariables false
namespace Go.Proofs.Ytibjdcllnjfnoaa
open Go.ChangeShapes Go.WideShapes Go.ChangeAt Go.RowKit
namespace scanFinds
def oks (i m : Nat) : Bool := okC 256 fz (16 * (i : Int)) (16 * (1 + (m : Int))) true
def pts (i m : Nat) : Nat → Bool := newC 256 fz (16 * (i : Int)) (16 * (1 + (m : Int))) true
theorem oks_is (i m : Nat) : oks i m = decide (i + (1 + m) ≤ 256) := by
  unfold oks okC
  rw [show (16 * (i : Int)) / 16 = i by omega, show (16 * (1 + (m : Int))) / 16 = ((1 + m : Nat) : Int) by omega, Int.toNat_natCast, Int.toNat_natCast]
  rw [okP_yes (fun j _ _ => by unfold fz; simp), Bool.and_true]
  rw [Bool.eq_iff_iff]
  simp only [decide_eq_true_eq]
  omega
theorem hits (i m o : Nat) (ho : o ≤ 255) : hasP 256 (pts i m) (16 * (o : Int)) = (oks i m && (decide (i ≤ o) && decide (o < i + (1 + m)))) := by
  unfold hasP pts newC
  have e1 : (16 * (o : Int)) / 16 = (o : Int) := by omega
  rw [e1, Int.toNat_natCast]
  have hin : inR (o : Int) 256 = true := inR_nat o 256 (by omega)
  rw [hin, Bool.true_and]
  change (if oks i m = true then setP fz ((16 * (i : Int)) / 16).toNat ((16 * (1 + (m : Int))) / 16).toNat true else fz) o = _
  by_cases h : oks i m = true
  · rw [if_pos h, h, Bool.true_and]
    unfold setP
    rw [show (16 * (i : Int)) / 16 = i by omega, show (16 * (1 + (m : Int))) / 16 = ((1 + m : Nat) : Int) by omega, Int.toNat_natCast, Int.toNat_natCast]
    by_cases h2 : i ≤ o ∧ o < i + (1 + m)
    · rw [if_pos h2]; simp [h2.1, h2.2]
    · rw [if_neg h2]
      unfold fz
      cases ha : decide (i ≤ o)
      · rfl
      · cases hb : decide (o < i + (1 + m))
        · rfl
        · simp at ha hb; exact absurd ⟨ha, hb⟩ h2
  · rw [if_neg h]
    rw [Bool.not_eq_true] at h
    rw [h]; rfl
/-- The capability with its cursor further on. -/
def dC (o : Nat) : Cp := { ofC (16 * o) 16 with cur := 16 * o + 8 }
theorem dC_base (o : Nat) (ho : o ≤ 255) : (dC o).base = (16 * o : Nat) ∧ (dC o).v = true := by
  obtain ⟨e, _, h3, _⟩ := ofC_is (16 * o) 16 (by omega) (by omega) (by omega)
  obtain ⟨_, e2⟩ := small_exact (16 * o) (16 * o + 16) (by omega) (by omega)
  unfold dC Cp.base
  rw [e]
  exact ⟨(dec_exact (16 * o) (16 * o + 16) (16 * o + 8) (by omega) (by omega) (by omega) e2 (by omega) (by omega)).1, rfl⟩
set_option maxHeartbeats 4000000 in
set_option maxRecDepth 100000 in
theorem walk0 (i m o : Nat) (hi : i ≤ 255) (hm : m ≤ 7) (ho : o ≤ 255) (z : Int) (z0 : 0 ≤ z) (z1 : z ≤ 255) (hz : z % 8 = (m : Int)) (w : World) :
    Calls Try.prog 4 #[.int .u8 i, .int .u8 z, .int .u8 o] w fun e w' => e = .returned (.bool true) ∧ Fr [] w w' := by
  have HH := Lib.hid (hits i m o ho)
  obtain ⟨_, b1, v1, u1⟩ := ofC_is (16 * o) 16 (by omega) (by omega) (by omega)
  obtain ⟨b2, v2⟩ := dC_base o ho
  have CO := Lib.hid fun W => of_anyC W (16 * o) 16 (by omega) (by omega)
  have e16 : ((16 * o : Nat) : Int) = 16 * (o : Int) := by omega
  rw [e16] at CO b1 b2
  have S1 : stB (hasP 256 (pts i m)) (ofC (16 * o) 16) = (oks i m && (decide (i ≤ o) && decide (o < i + (1 + m)))) := by unfold stB; rw [v1, b1, Bool.true_and]; exact HH.out
  have S2 : stB (hasP 256 (pts i m)) (dC o) = (oks i m && (decide (i ≤ o) && decide (o < i + (1 + m)))) := by unfold stB; rw [v2, b2, Bool.true_and]; exact HH.out
  have CA := Lib.hid fun W pp p g h => ptadd_any W pp p g 256 fz h (16 * (i : Int)) (16 * (1 + (m : Int))) (by omega) (by omega) (by omega) (by omega)
  rw [show okC 256 fz (16 * (i : Int)) (16 * (1 + (m : Int))) true = oks i m from rfl] at CA
  clear HH b1 b2 v2
  unfold dC at S2
  obtain ⟨c1, hc1⟩ : ∃ c, ofC (16 * o) 16 = c := ⟨_, rfl⟩
  rw [hc1] at S1 S2 CO u1 v1
  clear hc1
  obtain ⟨cur, ce, cb, ct, pm, ty, rs, cv⟩ := c1
  dsimp only at u1 v1 S2
  subst u1 v1
  unfold Cp.cells at CO
  dsimp only at CO
  obtain ⟨b, hb⟩ : ∃ b, oks i m = b := ⟨_, rfl⟩
  rw [hb] at S1 S2 CA
  clear hb
  have hc16 : ((16 * o : Nat) : Int) = 16 * (o : Int) := e16
  rw [hc16] at CO
  obtain ⟨R, hR⟩ : ∃ R, (b && (decide (i ≤ o) && decide (o < i + (1 + m)))) = R := ⟨_, rfl⟩
  rw [hR] at S1 S2
  have HS1 := Lib.hid S1
  have HS2 := Lib.hid S2
  have CT1 := Lib.hid fun (W : World) (B : Nat) pv (h : Hs B W pv (hasP 256 (pts i m))) (hB : B ≤ W.heap.size) => sstale_any h hB ⟨16 * o, ce, cb, ct, pm, ty, rs, true⟩ (by show 16 * o < 4294967296; omega)
  have CT2 := Lib.hid fun (W : World) (B : Nat) pv (h : Hs B W pv (hasP 256 (pts i m))) (hB : B ≤ W.heap.size) => sstale_any h hB ⟨16 * o + 8, ce, cb, ct, pm, ty, rs, true⟩ (by show 16 * o + 8 < 4294967296; omega)
  rw [HS1.out] at CT1
  rw [HS2.out] at CT2
  unfold Cp.cells at CT1 CT2
  dsimp only at CT1 CT2
  rw [hc16] at CT1
  rw [show ((16 * o + 8 : Nat) : Int) = 16 * (o : Int) + 8 by omega] at CT2
  clear S1 S2 e16 hc16 HS1 HS2
  have hd2 : decide (16 * (o : Int) < 16 * (i : Int) + 16 * (1 + (m : Int))) = decide (o < i + (1 + m)) := by rw [decide_eq_decide]; omega
  cases b <;> by_cases hx1 : i ≤ o <;> by_cases hx2 : o < i + (1 + m) <;> simp [hx1, hx2] at hR <;> subst hR
  all_goals try (exfalso; omega)
  all_goals first | rw [decide_eq_true hx2] at hd2 | rw [decide_eq_false hx2] at hd2
  all_goals
    go_enter Try.func4, Try.ntmps4
    go_wp2_with fail
    refine (ptnew_any 256 _ (by omega)).mono ?_
    rintro e w1 ⟨pp, p, g, rfl, h1, hpp, hp, hg, hf1⟩
    have hg1 := h1.lt.2.2
    go_wp2_with fail
    refine Calls.mono (CA.out _ pp p g ?_) ?_
    · exact h1.fr (S := []) (by repeat (first | exact Fr.refl _ _ | assumption | refine Fr.trans0 ?_ (by assumption) | refine Fr.drewN ?_ _ | refine Fr.alloc ?_ _ | refine Fr.drew ?_)) (by simp) (by simp) (by simp)
    rintro e w2 ⟨rfl, h2, hf2⟩
    have hr2 := (At.new w1 43 #[.int .u32 (16 * (i : Int)), .int .u32 (16 * (1 + (m : Int)))]).fr hf2 (by simp; omega)
    have F2 := Lib.hid ((hf1.alloc _).trans hf2 (by simp; exact hg))
    have H2 := Lib.hid (show Hs w2.heap.size w2 (some ⟨pp, 0, none⟩) (hasP 256 (pts i m)) from Hs.of h2)
    have HR2 := Lib.hid hr2
    clear h1 hf1 h2 hf2 hr2
    go_wp2_with fail
    refine (CO.out _).mono ?_
    rintro e w3 ⟨rfl, hf3⟩
    have r3 := HR2.out.fr hf3 (by simp)
    have rl := r3.lt
    have r0 := r3.cell 0
    have r1 := r3.cell 1
    simp only [List.getElem?_toArray, List.getElem?_cons_zero, List.getElem?_cons_succ] at r0 r1
    have F3 := Lib.hid (F2.out.trans0 hf3)
    have G3 := Lib.hid hf3
    clear hf3 r3
    go_wp2_with fail
    have g3 := G3.out
    have A3 := At.new (w3.alloc (.cells #[.int .u32 (16 * (o : Int)), .int .u8 ce, .int .u16 cb, .int .u16 ct, .int .u16 pm, .int .u16 ty, .int .u32 rs, .bool true] 36)) 36 #[.int .u32 (16 * (o : Int) + 8), .int .u8 ce, .int .u16 cb, .int .u16 ct, .int .u16 pm, .int .u16 ty, .int .u32 rs, .bool true]
    refine Calls.mono (CT1.out _ w2.heap.size _ ?_ ?_) ?_
    · exact H2.out.fr (S := []) (by repeat (first | exact Fr.refl _ _ | assumption | refine Fr.trans0 ?_ (by assumption) | refine Fr.drewN ?_ _ | refine Fr.alloc ?_ _ | refine Fr.drew ?_)) (by simp)
    · have := g3.size; simp; omega
    rintro e w4 ⟨rfl, hf4⟩
    have a4 := A3.fr hf4 (by simp)
    rw [World.size_alloc] at a4
    have d0 := a4.cell 0
    have d1 := a4.cell 1
    have d2 := a4.cell 2
    have d3 := a4.cell 3
    have d4 := a4.cell 4
    have d5 := a4.cell 5
    have d6 := a4.cell 6
    have d7 := a4.cell 7
    simp only [List.getElem?_toArray, List.getElem?_cons_zero, List.getElem?_cons_succ] at d0 d1 d2 d3 d4 d5 d6 d7
    have F4 := Lib.hid (show Fr [] w w4 from F3.out.trans0 (Fr.trans0 (w' := (w3.alloc (.cells #[.int .u32 (16 * (o : Int)), .int .u8 ce, .int .u16 cb, .int .u16 ct, .int .u16 pm, .int .u16 ty, .int .u32 rs, .bool true] 36)).alloc (.cells #[.int .u32 (16 * (o : Int) + 8), .int .u8 ce, .int .u16 cb, .int .u16 ct, .int .u16 pm, .int .u16 ty, .int .u32 rs, .bool true] 36)) (by repeat (first | exact Fr.refl _ _ | assumption | refine Fr.trans0 ?_ (by assumption) | refine Fr.drewN ?_ _ | refine Fr.alloc ?_ _ | refine Fr.drew ?_)) hf4))
    have G4 := Lib.hid (show Fr [] w2 w4 from G3.out.trans0 (Fr.trans0 (w' := (w3.alloc (.cells #[.int .u32 (16 * (o : Int)), .int .u8 ce, .int .u16 cb, .int .u16 ct, .int .u16 pm, .int .u16 ty, .int .u32 rs, .bool true] 36)).alloc (.cells #[.int .u32 (16 * (o : Int) + 8), .int .u8 ce, .int .u16 cb, .int .u16 ct, .int .u16 pm, .int .u16 ty, .int .u32 rs, .bool true] 36)) (by repeat (first | exact Fr.refl _ _ | assumption | refine Fr.trans0 ?_ (by assumption) | refine Fr.drewN ?_ _ | refine Fr.alloc ?_ _ | refine Fr.drew ?_)) hf4))
    clear a4 A3 g3 hf4 F3 G3
    go_wp2_with fail
    have g4 := G4.out
    refine Calls.mono (CT2.out _ w2.heap.size _ ?_ ?_) ?_
    · exact H2.out.fr g4 (by simp)
    · exact g4.size
    rintro e w5 ⟨rfl, hf5⟩
    have F5 := Lib.hid (F4.out.trans0 hf5)
    clear hf5 g4 d0 d1 d2 d3 d4 d5 d6 d7
    go_wp2_with fail
    refine (works_any _).mono ?_
    rintro e w6 ⟨rfl, hf6⟩
    have F6 := Lib.hid (F5.out.trans0 hf6)
    clear hf6
    go_wp2_with fail
    go_ret
    exact ⟨rfl, F6.out⟩
theorem walk (a0 : Int) (w0 : (Lit.int .u8 a0).wf = true) (a1 : Int) (w1 : (Lit.int .u8 a1).wf = true) (a2 : Int) (w2 : (Lit.int .u8 a2).wf = true) (w : World) :
    Calls Try.prog 4 #[.int .u8 a0, .int .u8 a1, .int .u8 a2] w fun e w' => e = .returned (.bool true) ∧ Fr [] w w' := by
  have b0 := bounds_u8 w0
  have b1 := bounds_u8 w1
  have b2 := bounds_u8 w2
  obtain ⟨i, rfl⟩ := Int.eq_ofNat_of_zero_le b0.1
  obtain ⟨o, rfl⟩ := Int.eq_ofNat_of_zero_le b2.1
  exact walk0 i (a1 % 8).toNat o (by omega) (by omega) (by omega) a1 b1.1 (by omega) (by omega) w
theorem laidOut : laidOutB Try.prog = true := by kernel_rfl
set_option maxRecDepth 100000 in
theorem lifted (os : Os) (started : os.Started) (H : Type) (enc : TypeId × Value → H) :
    ReturnsInHanded {} Try.checked os 4 .any (Rows.scanFindsSpec.pre6 enc Try.prog Try.f4 Rows.scanFindsRow.domain false) (Rows.scanFindsSpec.post enc Try.prog Try.f4 false true false false) := by
  refine returnsInHanded_of_change (C := Try.checked) own started (by kernel_rfl) Try.func4
    (ChangeSpec.witness6 (enc := enc) (C := Try.checked) false ⟨#[], #[.int .u8 0, .int .u8 0, .int .u8 0], []⟩ 8 (by kernel_rfl) (by kernel_rfl) (by kernel_rfl) (by kernel_rfl)) ?_
  intro W base args ds gs before hval0 hW hcnd _
  have hval : ∀ (j : Nat) t v, Try.f4.params[j]? = some t → args[j]? = some v → Value.okWide Try.prog W .any base t v := hval0
  have hW' := hW
  obtain ⟨p, q, hA0, hV, rfl, hfz, hnd⟩ := hW
  have hA : DataW.TrodAll enc Try.prog W 0 (fun _ => true) true Try.f4.params.toList args.toList ds p := hA0
  rw [Try.params4] at hA hval
  obtain ⟨v0, vs0, d0, ds0, p0, q0, hargs, rfl, rfl, h0, r0⟩ := trodAll_cons hA
  obtain ⟨v1, vs1, d1, ds1, p1, q1, rfl, rfl, rfl, h1, r1⟩ := trodAll_cons r0
  obtain ⟨v2, vs2, d2, ds2, p2, q2, rfl, rfl, rfl, h2, r2⟩ := trodAll_cons r1
  obtain ⟨rfl, rfl, rfl⟩ := trodAll_nil r2
  obtain rfl : args = #[v0, v1, v2] := by cases args; simp_all
  obtain ⟨rfl, rfl⟩ := trodVars_none hV
  obtain ⟨a0, rfl, rfl, rfl, w0⟩ := open_int Try.underlying5 (hval 0 5 v0 rfl rfl) h0
  obtain ⟨a1, rfl, rfl, rfl, w1⟩ := open_int Try.underlying5 (hval 1 5 v1 rfl rfl) h1
  obtain ⟨a2, rfl, rfl, rfl, w2⟩ := open_int Try.underlying5 (hval 2 5 v2 rfl rfl) h2
  clear hA0 hval0
  simp only [List.append_nil] at hW'
  refine (walk a0 w0 a1 w1 a2 w2 W ).mono fun e W' ⟨he, hg⟩ => ?_
  subst he
  exact ⟨_, rfl, post_fr (pa := []) (pv := []) hW' (fun _ _ _ => (trodAll_cons_mk (shut_bool Try.underlying4 _) trodAll_mk0)) (fun sp _ => (trodAll_cons_mk (shut_int Try.underlying5 w0) (trodAll_cons_mk (shut_int Try.underlying5 w1) (trodAll_cons_mk (shut_int Try.underlying5 w2) trodAll_mk0)))) (fun _ _ => rfl) rfl
    hg (ok_one (by kernel_rfl) rfl (okWide_bool_mk Try.underlying4 _))⟩
theorem over : Rows.scanFindsRow.holds Try.pinned (OpenSpec.ofChange Rows.scanFindsSpec) :=
  OpenClaim.holds_of_wide 4 Try.f4 rfl rfl rfl rfl rfl rfl rfl ⟨rfl, rfl, rfl, rfl, rfl⟩ rfl rfl rfl rfl rfl (by kernel_rfl) Try.func4 (by kernel_rfl)
    (of_decide_eq_true (by kernel_rfl)) (by unfold Func.isWrapper; first | (rw [if_pos (by decide +kernel)]; kernel_rfl) | (rw [if_neg (by decide +kernel)]; exact ⟨rfl, rfl⟩))
    (fun os started H enc _ => lifted os started H enc)
/-- The statement, proved. -/
theorem proved : Rows.ScanFindsSaid :=
  over
end scanFinds
end Go.Proofs.Ytibjdcllnjfnoaa
