/-
  BarrierLowest: Next tells the lowest old page. Condition: the table of math/bits is as the library lays it (the row lists it).
-/



import Derived.Test.YtechmgnoaillmaaDoorWorks
import Derived.Test.YtechmgnoaillmaaDoorDoor
set_option linter.unusedVariables false
namespace Go.Proofs.YtechmgnoaillmaaDoor
open Go.ChangeShapes Go.WideShapes Go.ChangeAt Go.RowKit
namespace barrierLowest
theorem get_u32 (s k : Nat) (h : s < 4294967296) : (bits .and .u32 ((s : Int) / 2 ^ k) 1 == 1) = s.testBit k := by
  have h1 : ((s : Int) / 2 ^ k) = ((s / 2 ^ k : Nat) : Int) := by simp
  have h2 : s / 2 ^ k < 4294967296 := Nat.lt_of_le_of_lt (Nat.div_le_self _ _) h
  rw [h1, show (1 : Int) = ((1 : Nat) : Int) by rfl, u32_and_nat _ _ h2 (by omega), Nat.testBit, Nat.shiftRight_eq_div_pow, Nat.and_comm 1]
  rw [show ∀ y : Nat, y &&& 1 = y % 2 from fun y => Nat.and_two_pow_sub_one_eq_mod y 1]
  rcases Nat.mod_two_eq_zero_or_one (s / 2 ^ k) with e | e <;> rw [e] <;> rfl
theorem cnt_clr (f : Nat → Bool) (i : Nat) (hf : f i = true) : ∀ n, cnt (upd f i false) n + (if i < n then 1 else 0) = cnt f n
  | 0 => by simp [cnt]
  | n + 1 => by
    have ih := cnt_clr f i hf n
    simp only [cnt]
    by_cases e : n = i
    · subst e
      rw [if_neg (by omega)] at ih
      have : upd f n false n = false := by simp [upd]
      simp [this, hf]; omega
    · have : upd f i false n = f n := by simp [upd, e]
      rw [this]
      by_cases h : i < n
      · rw [if_pos h] at ih; rw [if_pos (show i < n + 1 by omega)]; omega
      · rw [if_neg h] at ih; rw [if_neg (show ¬ i < n + 1 by omega)]; omega
/-- What is old when the places from t on have been looked at. -/
def Ff (s t : Nat) : Nat → Bool := fun j => decide (j < 32) && (decide (j < t) || !s.testBit j)
def Gg (s t : Nat) : Nat → Bool := fun j => decide (t ≤ j) && (decide (j < 32) && !s.testBit j)
theorem Ff_all (s : Nat) : fstF 32 = Ff s 32 := funext fun j => by unfold fstF Ff; by_cases h : j < 32 <;> simp [h]
theorem Ff_yes (s t : Nat) (ht : t < 32) (h : s.testBit t = true) : upd (Ff s (t + 1)) t false = Ff s t := funext fun j => by
  unfold upd Ff
  by_cases e : j = t
  · subst e; simp [h]
  · rw [if_neg e, decide_eq_decide.2 (show j < t + 1 ↔ j < t by omega)]
theorem Ff_no (s t : Nat) (h : s.testBit t = false) : Ff s (t + 1) = Ff s t := funext fun j => by
  unfold Ff
  by_cases e : j = t
  · subst e; simp [h]
  · rw [decide_eq_decide.2 (show j < t + 1 ↔ j < t by omega)]
theorem Ff_here (s t : Nat) (ht : t < 32) : Ff s (t + 1) t = true := by unfold Ff; simp [ht]
theorem Gg_end (s : Nat) : Gg s 0 = Ff s 0 := funext fun j => by unfold Gg Ff; simp
theorem Gg_yes (s t : Nat) (h : s.testBit t = true) : Gg s t = Gg s (t + 1) := funext fun j => by
  unfold Gg
  by_cases e : j = t
  · subst e; simp [h]
  · rw [decide_eq_decide.2 (show t + 1 ≤ j ↔ t ≤ j by omega)]
theorem Gg_no (s t : Nat) (ht : t < 32) (h : s.testBit t = false) : cnt (Gg s t) 32 = cnt (Gg s (t + 1)) 32 + 1 := by
  have e : upd (Gg s t) t false = Gg s (t + 1) := funext fun j => by
    unfold upd Gg
    by_cases e : j = t
    · subst e; simp; intro h; omega
    · rw [if_neg e, decide_eq_decide.2 (show t + 1 ≤ j ↔ t ≤ j by omega)]
  have := cnt_clr (Gg s t) t (by unfold Gg; simp [ht, h]) 32
  rw [e, if_pos ht] at this
  omega
theorem Gg_zero (s : Nat) : cnt (Gg s 32) 32 = 0 := cnt_zero _ _ fun i hi => by unfold Gg; simp; omega
def Lw (s t : Nat) (L : Int) : Prop := (L = -1 ∧ ∀ j, t ≤ j → j < 32 → s.testBit j = true) ∨ ∃ x : Nat, L = x ∧ t ≤ x ∧ x < 32 ∧ s.testBit x = false ∧ ∀ j, t ≤ j → j < x → s.testBit j = true
theorem Lw_yes {s t : Nat} {L : Int} (h : s.testBit t = true) (hl : Lw s (t + 1) L) : Lw s t L := by
  rcases hl with ⟨rfl, h1⟩ | ⟨x, rfl, h1, h2, h3, h4⟩
  · refine .inl ⟨rfl, fun j h2 h3 => ?_⟩
    by_cases e : j = t
    · rw [e]; exact h
    · exact h1 j (by omega) h3
  · refine .inr ⟨x, rfl, by omega, h2, h3, fun j h5 h6 => ?_⟩
    by_cases e : j = t
    · rw [e]; exact h
    · exact h4 j (by omega) h6
theorem Lw_no {s t : Nat} (ht : t < 32) (h : s.testBit t = false) : Lw s t (t : Nat) := .inr ⟨t, rfl, Nat.le_refl _, ht, h, fun j h1 h2 => by omega⟩
theorem Lw_start (s : Nat) : Lw s 32 (-1) := .inl ⟨rfl, fun j h1 h2 => by omega⟩
theorem told_none {f : Nat → Bool} {n : Nat} (h : ∀ j, j < n → f j = false) : told f n = [] := by
  cases e : told f n with
  | nil => rfl
  | cons x r =>
    have := (told_mem f n x).1 (by rw [e]; simp)
    rw [h x this.1] at this; cases this.2
theorem nxt_at {f : Nat → Bool} {n x : Nat} (hx : x < n) (hf : f x = true) (h : ∀ j, j < x → f j = false) : nxtP f n = x ∧ nxtB f n = true := by
  have h1 : told f (x + 1) = [x] := by rw [told_succ, if_pos hf, told_none h]; rfl
  exact nxt_one (h1 ▸ told_prefix f (x + 1) n (by omega))
theorem Lw_end {s : Nat} {L : Int} (hl : Lw s 0 L) : (L < 0 ∧ nxtP (Ff s 0) 32 = (0 : Nat) ∧ nxtB (Ff s 0) 32 = false ∧ cnt (Gg s 0) 32 = 0) ∨ ∃ x : Nat, L = x ∧ x < 32 ∧ nxtP (Ff s 0) 32 = x ∧ nxtB (Ff s 0) 32 = true ∧ 0 < cnt (Gg s 0) 32 := by
  rcases hl with ⟨rfl, h1⟩ | ⟨x, rfl, h1, h2, h3, h4⟩
  · have h0 : ∀ j, j < 32 → Ff s 0 j = false := fun j hj => by unfold Ff; simp [h1 j (by omega) hj]
    have := nxt_nil (told_none h0)
    exact .inl ⟨by decide, this.1, this.2, by rw [Gg_end]; exact cnt_zero _ _ h0⟩
  · have hx : Ff s 0 x = true := by unfold Ff; simp [h2, h3]
    have := nxt_at (n := 32) h2 hx fun j hj => by unfold Ff; simp [h4 j (by omega) hj]
    exact .inr ⟨x, rfl, h2, this.1, this.2, by rw [Gg_end]; exact cnt_pos _ 32 x h2 hx⟩
set_option maxHeartbeats 4000000 in
set_option maxRecDepth 100000 in
theorem walk0 (s : Nat) (hs : s < 4294967296) (w : World) (hT : Tab w) :
    Calls Tryd.prog 4 #[.int .u32 s] w fun e w' => e = .returned (.bool true) ∧ Fr [] w w' := by
  have HT := Lib.hid hT
  have HZZ := Lib.hid (cnt_zero (fun _ => false) 32 fun _ _ => rfl)
  have HG0 := Lib.hid (Gg_zero s)
  have hFA := Ff_all s
  clear hT
  go_enter Tryd.func4, Tryd.ntmps4
  go_wp2_with fail
  refine (works_any _ HT.out).mono ?_
  rintro e w1 ⟨rfl, hf1⟩
  go_wp2_with fail
  refine (gnew_any 32 _ (by omega)).mono ?_
  rintro e w2 ⟨gp, p, g, rfl, h2, hgp, hp, hg, hf2⟩
  go_wp2_with fail
  refine (gstart_yes _ gp p g 32 _ 0 h2 1 (by decide) HZZ.out).mono ?_
  rintro e w3 ⟨rfl, h3, hf3⟩
  have hs1 := hf1.size
  have hl3 := h3.lt
  rw [hFA] at h3
  have F3 := Lib.hid ((hf1.trans0 hf2).trans hf3 (by simp; omega))
  have H3 := Lib.hid h3
  clear h2 hf2 hf3 h3 hf1 hFA
  go_wp2_with fail
  go_loopw [4, 5, 6] (fun o lo i wr => ∃ (t c : Nat) (L I : Int), t ≤ 32 ∧ i = .int .i64 I ∧ I = t - 1 ∧ o = .int .i64 c ∧ c = cnt (Gg s t) 32 ∧ lo = .int .i64 L ∧ Lw s t L ∧ Gn wr gp p g 32 (Ff s t) 1 ∧ Fr [] w wr) (fun _ _ i _ => (intOf i + 1).toNat)
  case atStart => exact ⟨32, 0, -1, 31, by omega, rfl, rfl, rfl, HG0.out.symm, rfl, Lw_start s, H3.out, F3.out⟩
  case round =>
    clear H3 F3 HG0 HZZ
    obtain ⟨t, c, L, I, ht, rfl, hI, rfl, hc, rfl, hL, hg0, hf⟩ := hrel
    have HG := Lib.hid hg0
    have HF := Lib.hid hf
    have HL := Lib.hid hL
    have HC := Lib.hid hc
    have hcl := cnt_le (Gg s t) 32
    rw [← hc] at hcl
    clear hg0 hf hL hc
    cases t with
    | zero =>
      replace hI : I < 0 := by omega
      rcases Lw_end HL.out with ⟨hL0, e1, e2, e3⟩ | ⟨x, rfl, hx, e1, e2, e3⟩
      · obtain rfl : c = 0 := HC.out.trans e3
        have e3 : cnt (Ff s 0) 32 = 0 := by rw [← Gg_end]; exact e3
        have E := Lib.hid (And.intro e1 (And.intro e2 e3))
        clear e1 e2 e3
        go_wp2_with fail
        refine (gnext_is HG.out (HT.out.fr HF.out (by simp)) 0 false E.out.1 E.out.2.1).mono ?_
        rintro e w4 ⟨rfl, hf4⟩
        go_wp2_with fail
        refine (gleft_is (HG.out.fr hf4 (by simp) (by simp) (by simp)) 0 E.out.2.2).mono ?_
        rintro e w' ⟨rfl, rfl⟩
        go_wp2_with fail
        go_ret
        exact ⟨rfl, HF.out.trans0 hf4⟩
      · have hcp : 0 < c := by rw [HC.out]; exact e3
        have e4 : cnt (Ff s 0) 32 = c := by rw [← Gg_end]; exact HC.out.symm
        have E := Lib.hid (And.intro e1 (And.intro e2 e4))
        clear e1 e2 e3 e4
        go_wp2_with fail
        refine (gnext_is HG.out (HT.out.fr HF.out (by simp)) x true E.out.1 E.out.2.1).mono ?_
        rintro e w4 ⟨rfl, hf4⟩
        go_wp2_with fail
        refine (gleft_is (HG.out.fr hf4 (by simp) (by simp) (by simp)) c E.out.2.2).mono ?_
        rintro e w' ⟨rfl, rfl⟩
        go_wp2_with fail
        go_ret
        exact ⟨rfl, HF.out.trans0 hf4⟩
    | succ m =>
      obtain rfl : I = m := by omega
      have hb := get_u32 s m hs
      cases hm : s.testBit m with
      | false =>
        rw [hm] at hb
        have HM := Lib.hid hm
        clear hm hI
        go_wp2
        go_roundw
        case rel =>
          refine ⟨m, c + 1, m, (m : Int) - 1, by omega, by first | rfl | go_num, rfl, by go_num, by rw [Gg_no s m (by omega) HM.out, HC.out], rfl, Lw_no (by omega) HM.out, by rw [← Ff_no s m HM.out]; exact HG.out, HF.out⟩
        case measure => first | (simp [intOf]; done) | (simp [intOf]; omega)
      | true =>
        rw [hm] at hb
        have HM := Lib.hid hm
        clear hm hI
        go_wp2_with fail
        refine (gmark_yes _ gp p g 32 _ 1 HG.out m (by omega) (Ff_here s m (by omega))).mono ?_
        rintro e w5 ⟨rfl, h5, hf5⟩
        rw [Ff_yes s m (by omega) HM.out] at h5
        have H5 := Lib.hid h5
        have F5 := Lib.hid hf5
        clear h5 hf5
        go_wp2
        go_roundw
        case rel =>
          refine ⟨m, c, L, (m : Int) - 1, by omega, by first | rfl | go_num, rfl, rfl, by rw [Gg_yes s m HM.out]; exact HC.out, rfl, Lw_yes HM.out HL.out, H5.out, HF.out.trans F5.out (by simp; omega)⟩
        case measure => first | (simp [intOf]; done) | (simp [intOf]; omega)
theorem walk (a0 : Int) (w0 : (Lit.int .u32 a0).wf = true) (w : World) (hT : Tab w) :
    Calls Tryd.prog 4 #[.int .u32 a0] w fun e w' => e = .returned (.bool true) ∧ Fr [] w w' := by
  have hb := bounds_u32 w0
  obtain ⟨s, rfl⟩ := Int.eq_ofNat_of_zero_le hb.1
  exact walk0 s (by omega) w hT
theorem laidOut : laidOutB Tryd.prog = true := by kernel_rfl
set_option maxRecDepth 100000 in
theorem lifted (os : Os) (started : os.Started) (H : Type) (enc : TypeId × Value → H) :
    ReturnsInHanded {} Tryd.checked os 4 .any (fun w args => (Rows.barrierLowestSpec.pre enc Tryd.prog Tryd.f4 [] false w args ∧ laidMetH Tryd.prog laidL w) ∧ sizedMet enc Tryd.prog Tryd.f4 (OpenSpec.ofChange Rows.barrierLowestSpec) false w args) (Rows.barrierLowestSpec.post enc Tryd.prog Tryd.f4 false true false false) := by
  refine returnsInHanded_of_change_and (C := Tryd.checked) (X := fun w _ => laidMetH Tryd.prog laidL w) (fun _ _ _ hh h => h.of_heap hh) own started (by kernel_rfl) Tryd.func4
    (ChangeSpec.witness_at (enc := enc) (C := Tryd.checked) (os := os) (X := fun w _ => laidMetH Tryd.prog laidL w) false (laidWorld os) #[.int .u32 0] 8 rfl (by kernel_rfl) (by kernel_rfl) (by kernel_rfl) (by kernel_rfl) (by kernel_rfl) (laidWorld_met os _)) ?_
  intro W base args ds gs before hval0 hW _ _ hL _
  have hT := tab_of_laid hL
  have hval : ∀ (j : Nat) t v, Tryd.f4.params[j]? = some t → args[j]? = some v → Value.okWide Tryd.prog W .any base t v := hval0
  have hW' := hW
  obtain ⟨p, q, hA0, hV, rfl, hfz, hnd⟩ := hW
  have hA : DataW.TrodAll enc Tryd.prog W 0 (fun _ => true) true Tryd.f4.params.toList args.toList ds p := hA0
  rw [Tryd.params4] at hA hval
  obtain ⟨v0, vs0, d0, ds0, p0, q0, hargs, rfl, rfl, h0, r0⟩ := trodAll_cons hA
  obtain ⟨rfl, rfl, rfl⟩ := trodAll_nil r0
  obtain rfl : args = #[v0] := by cases args; simp_all
  obtain ⟨rfl, rfl⟩ := trodVars_none hV
  obtain ⟨a0, rfl, rfl, rfl, w0⟩ := open_int Tryd.underlying34 (hval 0 34 v0 rfl rfl) h0
  clear hA0 hval0
  simp only [List.append_nil] at hW'
  refine (walk a0 w0 W hT).mono fun e W' ⟨he, hg⟩ => ?_
  subst he
  exact ⟨_, rfl, post_fr (pa := []) (pv := []) hW' (fun _ _ _ => (trodAll_cons_mk (shut_bool Tryd.underlying4 _) trodAll_mk0)) (fun sp _ => (trodAll_cons_mk (shut_int Tryd.underlying34 w0) trodAll_mk0)) (fun _ _ => rfl) rfl
    hg (ok_one (by kernel_rfl) rfl (okWide_bool_mk Tryd.underlying4 _))⟩
theorem over : Rows.barrierLowestRow.holds Tryd.pinned (OpenSpec.ofChange Rows.barrierLowestSpec) :=
  OpenClaim.holds_of_wide 4 Tryd.f4 rfl rfl rfl rfl rfl rfl rfl ⟨rfl, rfl, rfl, rfl, rfl⟩ rfl rfl rfl rfl rfl (by kernel_rfl) Tryd.func4 (by kernel_rfl)
    (of_decide_eq_true (by kernel_rfl)) (by unfold Func.isWrapper; first | (rw [if_pos (by decide +kernel)]; kernel_rfl) | (rw [if_neg (by decide +kernel)]; exact ⟨rfl, rfl⟩))
    (fun os started H enc _ => lifted os started H enc)
set_option maxRecDepth 100000 in
/-- The card, tied. -/
theorem proved : Rows.BarrierLowestCardSaid :=
  Claim7.holds_tied_plain_at .later [] [.data] true (true, "e7793fe97485d756a82b701d73278ca7f641ab8b64b482d8997c6421f31e14ea") false
    over (fun _ h => by cases h) (by kernel_rfl) (fun _ h => by cases h) barrierLowest_row_tie rfl ⟨rfl, rfl⟩ (by kernel_rfl) rfl
    (fun f fn hf hfn => by
      obtain rfl : f = 4 := Option.some.inj ((show Tryd.prog.funcNamed "fallow/fallowlaw18.BarrierLowest" = some 4 by kernel_rfl).symm.trans hf) |>.symm
      obtain rfl : fn = Tryd.f4 := (Option.some.inj (Tryd.func4.symm.trans hfn)).symm
      exact ⟨by kernel_rfl, fun j t ht => by
        have hm : t ∈ Tryd.f4.params.toList := by simpa using Array.mem_of_getElem? ht
        have hall : (Tryd.f4.params.toList.all fun u => !Tryd.prog.wantsStandIn u) = true := by kernel_rfl
        exact (show Tryd.prog.wantsStandIn t = false by simpa using List.all_eq_true.1 hall t hm)⟩)
    (by kernel_rfl)
end barrierLowest
end Go.Proofs.YtechmgnoaillmaaDoor
