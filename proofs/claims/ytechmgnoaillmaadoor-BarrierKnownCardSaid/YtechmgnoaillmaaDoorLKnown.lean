/-
  BarrierKnown: the chapter's examples, and books that are none. Condition: the table of math/bits is as the library lays it (the row lists it).
-/



import Derived.Test.YtechmgnoaillmaaDoorWorks
import Derived.Test.YtechmgnoaillmaaDoorDoor
set_option linter.unusedVariables false
namespace Go.Proofs.YtechmgnoaillmaaDoor
open Go.ChangeShapes Go.WideShapes Go.ChangeAt Go.RowKit
namespace barrierKnown
theorem cnt_fst (n : Nat) : ∀ m, m ≤ n → cnt (fstF n) m = m
  | 0, _ => rfl
  | m + 1, h => by simp only [cnt, cnt_fst n m (by omega), fstF, decide_eq_true (show m < n by omega)]; rfl
theorem cnt_z0 (n : Nat) : cnt z0 n = 0 := cnt_zero _ _ fun _ _ => rfl
def z3 : Nat → Bool := upd z2 2 false
def z4 : Nat → Bool := upd z3 1 false
set_option maxHeartbeats 4000000 in
set_option maxRecDepth 100000 in
theorem walk (w : World) (hT : Tab w) : Calls Tryd.prog 6 #[] w fun e w' => e = .returned (.bool true) ∧ Fr [] w w' := by
  have HT := Lib.hid hT
  clear hT
  go_enter Tryd.func6, Tryd.ntmps6
  go_wp2_with fail
  refine (gnew_any 3 _ (by omega)).mono ?_
  rintro e w1 ⟨gp, p, g, rfl, h1, hgp, hp, hg, hf1⟩
  have h1 : Gn w1 gp p g 3 z0 0 := h1
  go_wp2_with fail
  refine (gnext_is h1 (HT.out.fr hf1 (by simp)) 0 false (by decide) (by decide)).mono ?_
  rintro e w2 ⟨rfl, hf2⟩
  have h2 := h1.fr hf2 (by simp) (by simp) (by simp)
  have q2 := hf1.trans0 hf2
  go_wp2_with fail
  refine (gstart_yes _ gp p g 3 z0 0 h2 5 (by decide) (by decide)).mono ?_
  rintro e w3 ⟨rfl, h3, hf3⟩
  have q3 := q2.trans hf3 (by simp; omega)
  go_wp2_with fail
  refine (gmark_yes _ gp p g 3 z1 5 h3 0 (by decide) (by decide)).mono ?_
  rintro e w4 ⟨rfl, h4, hf4⟩
  have q4 := q3.trans hf4 (by simp; omega)
  go_wp2_with fail
  refine (gnext_is (f := z2) h4 (HT.out.fr q4 (by simp)) 1 true (by decide) (by decide)).mono ?_
  rintro e w5 ⟨rfl, hf5⟩
  have h5 := h4.fr hf5 (by simp) (by simp) (by simp)
  have q5 := q4.trans0 hf5
  go_wp2_with fail
  refine (gmark_yes _ gp p g 3 z2 5 h5 2 (by decide) (by decide)).mono ?_
  rintro e w6 ⟨rfl, h6, hf6⟩
  have q6 := q5.trans hf6 (by simp; omega)
  go_wp2_with fail
  refine (gmark_no _ gp p g 3 z3 5 h6 3 (by decide)).mono ?_
  rintro e w' ⟨rfl, rfl⟩
  go_wp2_with fail
  refine (gold_is (f := z3) h6 1 true (by decide)).mono ?_
  rintro e w' ⟨rfl, rfl⟩
  go_wp2_with fail
  refine (gmark_yes _ gp p g 3 z3 5 h6 1 (by decide) (by decide)).mono ?_
  rintro e w7 ⟨rfl, h7, hf7⟩
  have q7 := q6.trans hf7 (by simp; omega)
  go_wp2_with fail
  refine (gstart_no _ gp p g 3 z4 5 h7 5 (.inl (by decide))).mono ?_
  rintro e w' ⟨rfl, rfl⟩
  go_wp2_with fail
  refine (gstart_yes _ gp p g 3 z4 5 h7 6 (by decide) (by decide)).mono ?_
  rintro e w8 ⟨rfl, h8, hf8⟩
  have q8 := q7.trans hf8 (by simp; omega)
  go_wp2_with fail
  refine (gnext_nil _).mono ?_
  rintro e w9 ⟨rfl, hf9⟩
  have h9 := h8.fr hf9 (by simp) (by simp) (by simp)
  have q9 := q8.trans0 hf9
  go_wp2_with fail
  refine (gnew_any 1024 _ (by omega)).mono ?_
  rintro e w10 ⟨gp2, p2, g2, rfl, k10, hgp2, hp2, hg2, hf10⟩
  have hl9 := h9.lt
  have h10 := h9.fr hf10 (by simp) (by simp) (by simp)
  have q10 := q9.trans0 hf10
  have hs10 := q9.size
  go_wp2_with fail
  refine (works_any _ (HT.out.fr q10 (by simp))).mono ?_
  rintro e w11 ⟨rfl, hf11⟩
  have h11 := h10.fr hf11 (by simp) (by simp) (by simp)
  have k11 := k10.fr hf11 (by simp) (by simp) (by simp)
  have q11 := q10.trans0 hf11
  go_wp2_with fail
  refine (gleft_is h11 3 (by decide)).mono ?_
  rintro e w' ⟨rfl, rfl⟩
  go_wp2_with fail
  refine (gnew_bad (-1) _ (.inl (by decide))).mono ?_
  rintro e w' ⟨rfl, rfl⟩
  go_wp2_with fail
  refine (gnew_bad 1025 _ (.inr (by decide))).mono ?_
  rintro e w' ⟨rfl, rfl⟩
  go_wp2_with fail
  refine (gstart_yes _ gp2 p2 g2 1024 _ 0 k11 _ (by decide) (cnt_z0 1024)).mono ?_
  rintro e w12 ⟨rfl, k12, hf12⟩
  have q12 := q11.trans hf12 (by simp; omega)
  go_wp2_with fail
  refine (gleft_is k12 1024 (cnt_fst 1024 1024 (Nat.le_refl _))).mono ?_
  rintro e w' ⟨rfl, rfl⟩
  go_wp2_with fail
  refine (gstart_nil _ 1).mono ?_
  rintro e w' ⟨rfl, rfl⟩
  go_wp2_with fail
  refine (gold_nil _ 0).mono ?_
  rintro e w' ⟨rfl, rfl⟩
  go_wp2_with fail
  refine (gmark_nil _ 0).mono ?_
  rintro e w' ⟨rfl, rfl⟩
  go_wp2_with fail
  refine (gleft_nil _).mono ?_
  rintro e w' ⟨rfl, rfl⟩
  go_wp2_with fail
  refine (gcopy_nil _).mono ?_
  rintro e w' ⟨rfl, rfl⟩
  go_wp2_with fail
  refine (gnew_any 0 _ (by omega)).mono ?_
  rintro e w13 ⟨gp3, p3, g3, rfl, k13, hgp3, hp3, hg3, hf13⟩
  have q13 := q12.trans0 hf13
  have hs13 := q12.size
  go_wp2_with fail
  refine (gstart_yes _ gp3 p3 g3 0 _ 0 k13 1 (by decide) rfl).mono ?_
  rintro e w14 ⟨rfl, k14, hf14⟩
  go_wp2_with fail
  go_ret
  exact ⟨rfl, q13.trans hf14 (by simp; omega)⟩
theorem laidOut : laidOutB Tryd.prog = true := by kernel_rfl
set_option maxRecDepth 100000 in
theorem lifted (os : Os) (started : os.Started) (H : Type) (enc : TypeId × Value → H) :
    ReturnsInHanded {} Tryd.checked os 6 .any (fun w args => (Rows.barrierKnownSpec.pre enc Tryd.prog Tryd.f6 [] false w args ∧ laidMetH Tryd.prog laidL w) ∧ sizedMet enc Tryd.prog Tryd.f6 (OpenSpec.ofChange Rows.barrierKnownSpec) false w args) (Rows.barrierKnownSpec.post enc Tryd.prog Tryd.f6 false true false false) := by
  refine returnsInHanded_of_change_and (C := Tryd.checked) (X := fun w _ => laidMetH Tryd.prog laidL w) (fun _ _ _ hh h => h.of_heap hh) own started (by kernel_rfl) Tryd.func6
    (ChangeSpec.witness_at (enc := enc) (C := Tryd.checked) (os := os) (X := fun w _ => laidMetH Tryd.prog laidL w) false (laidWorld os) #[] 8 rfl (by kernel_rfl) (by kernel_rfl) (by kernel_rfl) (by kernel_rfl) (by kernel_rfl) (laidWorld_met os _)) ?_
  intro W base args ds gs before hval0 hW _ _ hL _
  have hT := tab_of_laid hL
  have hval : ∀ (j : Nat) t v, Tryd.f6.params[j]? = some t → args[j]? = some v → Value.okWide Tryd.prog W .any base t v := hval0
  have hW' := hW
  obtain ⟨p, q, hA0, hV, rfl, hfz, hnd⟩ := hW
  have hA : DataW.TrodAll enc Tryd.prog W 0 (fun _ => true) true Tryd.f6.params.toList args.toList ds p := hA0
  rw [Tryd.params6] at hA hval
  obtain ⟨rfl, rfl, rfl⟩ := trodAll_none hA
  obtain ⟨rfl, rfl⟩ := trodVars_none hV
  clear hA0 hval0
  simp only [List.append_nil] at hW'
  refine (walk  W hT).mono fun e W' ⟨he, hg⟩ => ?_
  subst he
  exact ⟨_, rfl, post_fr (pa := []) (pv := []) hW' (fun _ _ _ => (trodAll_cons_mk (shut_bool Tryd.underlying4 _) trodAll_mk0)) (fun sp _ => rfl) (fun _ _ => rfl) rfl
    hg (ok_one (by kernel_rfl) rfl (okWide_bool_mk Tryd.underlying4 _))⟩
theorem over : Rows.barrierKnownRow.holds Tryd.pinned (OpenSpec.ofChange Rows.barrierKnownSpec) :=
  OpenClaim.holds_of_wide 6 Tryd.f6 rfl rfl rfl rfl rfl rfl rfl ⟨rfl, rfl, rfl, rfl, rfl⟩ rfl rfl rfl rfl rfl (by kernel_rfl) Tryd.func6 (by kernel_rfl)
    (of_decide_eq_true (by kernel_rfl)) (by unfold Func.isWrapper; first | (rw [if_pos (by decide +kernel)]; kernel_rfl) | (rw [if_neg (by decide +kernel)]; exact ⟨rfl, rfl⟩))
    (fun os started H enc _ => lifted os started H enc)
set_option maxRecDepth 100000 in
/-- The card, tied. -/
theorem proved : Rows.BarrierKnownCardSaid :=
  Claim7.holds_tied_plain_at .later [] [.data] true (true, "e7793fe97485d756a82b701d73278ca7f641ab8b64b482d8997c6421f31e14ea") false
    over (fun _ h => by cases h) (by kernel_rfl) (fun _ h => by cases h) barrierKnown_row_tie rfl ⟨rfl, rfl⟩ (by kernel_rfl) rfl
    (fun f fn hf hfn => by
      obtain rfl : f = 6 := Option.some.inj ((show Tryd.prog.funcNamed "fallow/fallowlaw18.BarrierKnown" = some 6 by kernel_rfl).symm.trans hf) |>.symm
      obtain rfl : fn = Tryd.f6 := (Option.some.inj (Tryd.func6.symm.trans hfn)).symm
      exact ⟨by kernel_rfl, fun j t ht => by
        have hm : t ∈ Tryd.f6.params.toList := by simpa using Array.mem_of_getElem? ht
        have hall : (Tryd.f6.params.toList.all fun u => !Tryd.prog.wantsStandIn u) = true := by kernel_rfl
        exact (show Tryd.prog.wantsStandIn t = false by simpa using List.all_eq_true.1 hall t hm)⟩)
    (by kernel_rfl)
end barrierKnown
end Go.Proofs.YtechmgnoaillmaaDoor
