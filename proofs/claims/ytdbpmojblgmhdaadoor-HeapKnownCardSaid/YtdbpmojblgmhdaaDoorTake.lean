/-
  Take of slots: the least free slot of the least page. Condition: the table of math/bits is as the library lays it.
-/


import Derived.Test.YtdbpmojblgmhdaaDoorIter
import Derived.RegionIn
set_option linter.unusedVariables false
namespace Go.Proofs.YtdbpmojblgmhdaaDoor
open Go.ChangeShapes Go.WideShapes Go.ChangeAt Go.RowKit
attribute [local go_sem] Oper.semAt_some
def sl (F : Nat → Nat → Bool) (n : Nat) : Nat := Lib.ctz 32 (wd F n)
theorem sl_spec (F : Nat → Nat → Bool) (n : Nat) (h0 : wd F n ≠ 0) : sl F n < 16 ∧ F n (sl F n) = true ∧ ∀ t, t < sl F n → F n t = false := by
  have hlt := wd_lt F n
  have key : sl F n < 32 ∧ (wd F n).testBit (sl F n) = true ∧ ∀ j, j < sl F n → (wd F n).testBit j = false := by
    unfold sl Lib.ctz
    rw [if_neg h0]
    obtain ⟨m, h1, h2⟩ := Lib.ctzFrom_spec 32 (wd F n) (by omega) (Nat.lt_of_lt_of_le hlt (by decide))
    generalize Lib.ctzFrom 32 (wd F n) = t at *
    rw [h1]
    refine ⟨h2, ?_, fun j hj => ?_⟩
    · rw [Nat.testBit_two_pow_mul]; simp [show (2 * m + 1) % 2 = 1 by omega]
    · rw [Nat.testBit_two_pow_mul]; simp; omega
  obtain ⟨_, h2, h3⟩ := key
  unfold wd at h2 h3
  rw [bitsN_test] at h2
  simp only [Bool.and_eq_true, decide_eq_true_eq] at h2
  refine ⟨h2.1, h2.2, fun t ht => ?_⟩
  have := h3 t ht
  rw [bitsN_test, decide_eq_true (show t < 16 by omega), Bool.true_and] at this
  exact this
theorem wd_zero (F : Nat → Nat → Bool) (n : Nat) (h : ∀ s, F n s = false) : wd F n = 0 := by
  apply Nat.eq_of_testBit_eq
  intro j
  unfold wd
  rw [bitsN_test, h j, Bool.and_false, Nat.zero_testBit]
theorem wd_pos (F : Nat → Nat → Bool) (n s : Nat) (hs : s < 16) (h : F n s = true) : wd F n ≠ 0 := fun e => by
  have := bitsN_test (F n) 16 s
  unfold wd at e
  rw [e, Nat.zero_testBit, h, decide_eq_true hs] at this
  cases this
/-- What stands ahead of the last one of a beginning of what is told: all that is set below it. -/
theorem told_sorted (f : Nat → Bool) : ∀ n, (told f n).Pairwise (· < ·)
  | 0 => by simp [told]
  | n + 1 => by
    rw [told_succ]
    split
    · refine List.pairwise_append.2 ⟨told_sorted f n, by simp, fun a ha b hb => ?_⟩
      rw [List.mem_singleton] at hb
      rw [hb]
      exact ((told_mem f n a).1 ha).1
    · exact told_sorted f n
theorem first_told {f : Nat → Bool} {n y : Nat} {p : List Nat} (h : p ++ [y] <+: told f n) {P : Nat → Prop} (hp : ∀ x ∈ p, P x) : ∀ x, x < y → f x = true → P x := by
  intro x hx hf
  obtain ⟨r, hr⟩ := h
  have hs := told_sorted f n
  have hy : y < n := ((told_mem f n y).1 (by rw [← hr]; simp)).1
  have hm := (told_mem f n x).2 ⟨by omega, hf⟩
  rw [← hr] at hs hm
  simp only [List.append_assoc, List.singleton_append, List.mem_append, List.mem_cons] at hm
  rcases hm with hm | hm | hm
  · exact hp x hm
  · omega
  · rw [List.append_assoc] at hs
    have h2 := (List.pairwise_append.1 hs).2.1
    rw [List.singleton_append, List.pairwise_cons] at h2
    have := h2.1 x hm
    omega
set_option maxHeartbeats 2000000 in
set_option maxRecDepth 100000 in
theorem btake_any {w : World} {bp per : Nat} {F : Nat → Nat → Bool} {T : Nat → Bool} (h : Book w bp per F T) (hT : Tab32 w) (hbt : bp ≠ 0) (Q : Ending → World → Prop)
    (hnone : (∀ x, T x = true → wd F x = 0) → ∀ w', Fr [] w w' → Q (.returned (.tuple #[.int .i64 0, .int .i64 0, .bool false])) w')
    (hsome : ∀ y, T y = true → wd F y ≠ 0 → (∀ x, x < y → T x = true → wd F x = 0) → ∀ w', Book w' bp per (upp F y (upd (F y) (sl F y) false)) T → Fr [bp] w w' → Q (.returned (.tuple #[.int .i64 (y : Nat), .int .i64 (sl F y), .bool true])) w') :
    Calls Tryd.prog 51 #[.pointer (some ⟨bp, 0, none⟩)] w Q := by
  have hf0 : Fr [] w ((((w.alloc (.cells #[.pointer (some ⟨bp, 0, none⟩)] 50)).alloc (.cells #[.int .i64 0] 3)).alloc (.cells #[.int .i64 0] 3)).alloc (.cells #[.bool false] 4)) := (by repeat (first | exact Fr.refl _ _ | assumption | refine Fr.trans0 ?_ (by assumption) | refine Fr.drewN ?_ _ | refine Fr.alloc ?_ _ | refine Fr.drew ?_))
  have ab := (((At.new w 50 #[.pointer (some ⟨bp, 0, none⟩)]).old (.cells #[.int .i64 0] 3)).old (.cells #[.int .i64 0] 3)).old (.cells #[.bool false] 4)
  have a0 := ((At.new (w.alloc (.cells #[.pointer (some ⟨bp, 0, none⟩)] 50)) 3 #[.int .i64 0]).old (.cells #[.int .i64 0] 3)).old (.cells #[.bool false] 4)
  have a1 := (At.new ((w.alloc (.cells #[.pointer (some ⟨bp, 0, none⟩)] 50)).alloc (.cells #[.int .i64 0] 3)) 3 #[.int .i64 0]).old (.cells #[.bool false] 4)
  have a2 := At.new (((w.alloc (.cells #[.pointer (some ⟨bp, 0, none⟩)] 50)).alloc (.cells #[.int .i64 0] 3)).alloc (.cells #[.int .i64 0] 3)) 4 #[.bool false]
  simp only [World.size_alloc] at a0 a1 a2
  have H := Lib.hid (h.fr hf0 (by simp))
  have hbw := h.lt
  have AB := Lib.hid ab
  have A0 := Lib.hid a0
  have A1 := Lib.hid a1
  have A2 := Lib.hid a2
  have HF0 := Lib.hid hf0
  have HT := Lib.hid (hT.fr hf0 (by simp))
  have hTl := hT.lt
  have HN := Lib.hid hnone
  have HS := Lib.hid hsome
  have H0 := Lib.hid h.2
  have HW := Lib.hid h
  have HTW := Lib.hid hT
  clear h ab a0 a1 a2 hf0 hT hnone hsome
  refine (callsIn_wide (n := 3)).1 ?_
  refine callsIn_of_wp_marks Tryd.func51 rfl trivial ?_ rfl
  simp only [Tryd.ntmps51, List.size_toArray, List.length_cons, List.length_nil, Nat.reduceAdd, Nat.reduceSub, Array.replicate_succ, Array.replicate_zero, List.push_toArray, List.append_toArray, List.nil_append, List.cons_append]
  refine wpIn_wide.2 ?_
  have C := Lib.hid fun W => biter_any W (some ⟨bp, 0, none⟩)
  go_wp2_with (go_at_call 72; refine (C.out _).mono ?_; rintro e w2 ⟨q, rfl, hq, hqs, hf2⟩)
  simp only [World.size_alloc] at hqs
  have AB' := Lib.hid (AB.out.fr hf2 (by simp))
  have A0' := Lib.hid (A0.out.fr hf2 (by simp))
  have A1' := Lib.hid (A1.out.fr hf2 (by simp))
  have A2' := Lib.hid (A2.out.fr hf2 (by simp))
  have HF2 := Lib.hid (HF0.out.trans0 hf2)
  have HT2 := Lib.hid (HT.out.fr hf2 (by simp))
  have HB2 := Lib.hid (H.out.fr hf2 (by simp))
  have hst := pages_stops (3 - 1) q bp per F T _ w2 hq HB2.out.1 H0.out.1
  clear C A0 A1 A2 AB HT H
  refine (wpIn_wide (n := 3)).1 ?_
  refine wpIn_rangeFunc_ownF rfl (by omega) (gf := 83) (lb := #[.pointer (some ⟨q, 0, none⟩)]) rfl trivial (enters_of Tryd.func83 (by kernel_rfl) rfl) hst kpB_t kpB_b (Below.refl _ _) (fun _ => rfl)
    (fun pre V => (∀ x ∈ nums pre, wd F x = 0) ∧ At V w.heap.size 50 #[.pointer (some ⟨bp, 0, none⟩)] ∧ At V (w.heap.size + 1) 3 #[.int .i64 0] ∧ At V (w.heap.size + 1 + 1) 3 #[.int .i64 0] ∧ At V (w.heap.size + 1 + 1 + 1) 4 #[.bool false] ∧ Fr [] w V)
    (fun c pre V => c = .ret ∧ ∃ (p0 : List (Fin 1024)) (y : Fin 1024), pre = p0 ++ [y] ∧ (∀ x ∈ nums p0, wd F x = 0) ∧ wd F y ≠ 0 ∧ At V (w.heap.size + 1) 3 #[.int .i64 (y.val : Nat)] ∧ At V (w.heap.size + 1 + 1) 3 #[.int .i64 (sl F y)] ∧ At V (w.heap.size + 1 + 1 + 1) 4 #[.bool true] ∧ Book V bp per (upp F y (upd (F y) (sl F y) false)) T ∧ Fr [bp] w V)
    (fun x A B row hs hg hr => ⟨hs.1, atK_grown hg (fun r e => (hr r e).2) _ _ _ hs.2.1, atK_grown hg (fun r e => (hr r e).2) _ _ _ hs.2.2.1, atK_grown hg (fun r e => (hr r e).2) _ _ _ hs.2.2.2.1, atK_grown hg (fun r e => (hr r e).2) _ _ _ hs.2.2.2.2.1, hs.2.2.2.2.2.row hg HF2.out.size hr⟩)
    (fun c x A B row hs hg hr => ⟨hs.1, by
      obtain ⟨_, p0, y, h1, h2, h3, h4, h5, h6, h7, h8⟩ := hs
      exact ⟨p0, y, h1, h2, h3, atK_grown hg (fun r e => (hr r e).2) _ _ _ h4, atK_grown hg (fun r e => (hr r e).2) _ _ _ h5, atK_grown hg (fun r e => (hr r e).2) _ _ _ h6, ⟨atK_grown hg (fun r e => (hr r e).2) _ _ _ h7.1, h7.2⟩, h8.row hg HF2.out.size hr⟩⟩)
    ⟨by unfold nums; simp, AB'.out, A0'.out, A1'.out, A2'.out, HF2.out⟩ ?a1 ?assign ?body ?done ?stop
  case assign =>
    intro l x V K hK
    unfold pg
    gi_wp2
    exact hK
  case body =>
    rintro l pre y V ⟨hpre, hb, h0, h1, h2, hF⟩ _
    have HB := Lib.hid (HW.out.fr hF (by simp))
    have cw := HB.out.1.cw y.val y.isLt
    have Hb := Lib.hid hb
    have A0 := Lib.hid h0
    have A1 := Lib.hid h1
    have A2 := Lib.hid h2
    have HF := Lib.hid hF
    have HP := Lib.hid hpre
    clear hb h0 h1 h2 hpre
    by_cases hz : wd F y.val = 0
    · have HZ := Lib.hid hz
      rw [hz] at cw
      clear hz hF
      gi_wp2
      refine ⟨(Fr.refl [] V).keepsFrom (by simp), kpB_fr (Fr.refl [] V) (by simp), ?_, Hb.out, A0.out, A1.out, A2.out, HF.out⟩
      intro x hx
      rw [nums_snoc, List.mem_append, List.mem_singleton] at hx
      rcases hx with hx | rfl
      · exact HP.out x hx
      · exact HZ.out
    · have HZ := Lib.hid hz
      obtain ⟨hs16, hsF, _⟩ := sl_spec F y.val hz
      have HSF := Lib.hid hsF
      have hsT := (H0.out.2.2.1 _ _ hsF)
      have C := Lib.hid (tz32_any (wd F y.val) hz (by have := wd_lt F y.val; omega) V (HTW.out.fr hF (by simp)))
      have hx0 : (((wd F y.val : Nat) : Int) == 0) = false := by simp; exact hz
      have hf1 : Fr [] V (V.alloc (.cells #[.int .i64 (sl F y.val)] 3)) := (by repeat (first | exact Fr.refl _ _ | assumption | refine Fr.trans0 ?_ (by assumption) | refine Fr.drewN ?_ _ | refine Fr.alloc ?_ _ | refine Fr.drew ?_))
      have hVs := hF.size
      have CH := Lib.hid (chg_any (T := T) (HB.out.fr hf1 (by simp)).1 y.isLt (by have := cnt_tot F y.val 1024 y.isLt; omega) (by have := tot_le F 1024; omega) 74 #[.pointer (some ⟨V.heap.size, 0, none⟩)] (fun _ _ => by kernel_rfl) (btake1_do (T := T) (r0 := (tot F 1024 : Nat) - (cnt (F y.val) 16 : Nat)) (sl F y.val) hs16 (At.new V 3 #[.int .i64 (sl F y.val)]) (by omega) y.isLt))
      have HS1 := Lib.hid (H0.out.slot y.val _ false hsT.1 hsT.2)
      have HX := Lib.hid (tot_step F y.val (upd (F y.val) (sl F y.val) false) y.isLt)
      have cb := (Hb.out.fr hf1 (by simp)).cell 0
      simp only [List.getElem?_toArray, List.getElem?_cons_zero] at cb
      have HF1 := Lib.hid hf1
      have hsl : Lib.ctz 32 (wd F y.val) = sl F y.val := rfl
      rw [hsl] at C
      obtain ⟨S, hS⟩ : ∃ S, sl F y.val = S := ⟨_, rfl⟩
      rw [hS] at C CH HS1 HX cb HF1 HSF
      have HSE := Lib.hid hS
      have hlt2 := A2.out.lt
      obtain ⟨x, hx⟩ : ∃ x, wd F y.val = x := ⟨_, rfl⟩
      rw [hx] at C hx0 cw
      clear hz hF hsF hf1 hsl hsT hs16 hx hS
      gi_wp2
      refine ⟨trivial, CallsIn.inRound l ((callsIn_wide (n := 0)).2 ((C.out).mono ?_))⟩
      rintro e w' ⟨rfl, rfl⟩
      gi_wp2
      refine ⟨trivial, CallsIn.inRound l ((callsIn_wide (n := 0)).2 ((CH.out).mono ?_))⟩
      rintro e w5 ⟨⟨v, rfl⟩, h5, hf5⟩
      have d0 := ((At.new V 3 #[.int .i64 S]).fr hf5 (by simp; omega)).cell 0
      have B0 := Lib.hid ((A0.out.fr HF1.out (by simp)).fr hf5 (by simp; omega))
      have B1 := Lib.hid ((A1.out.fr HF1.out (by simp)).fr hf5 (by simp; omega))
      have B2 := Lib.hid ((A2.out.fr HF1.out (by simp)).fr hf5 (by simp; omega))
      have d1 := B0.out.cell 0
      have d2 := B1.out.cell 0
      have d3 := B2.out.cell 0
      have f1 := B0.out.froz 0
      have f2 := B1.out.froz 0
      have f3 := B2.out.froz 0
      simp only [List.getElem?_toArray, List.getElem?_cons_zero] at d0 d1 d2 d3
      have H5 := Lib.hid h5
      have F5 := Lib.hid hf5
      clear h5 hf5 cb cw C CH
      gi_wp2
      refine wpIn_region_any (by kernel_rfl) (wpAnyIn_of_wpAny (by kernel_rfl) (fun ⟨_, _, h⟩ => h) _ _ _ _ ?_); (try (change wpAny _ _ _ _ _ _ _ (World.drew _)))
      (refine wpAny_ready (rs := [0, 1]) (by kernel_rfl) (by simp) ?_; refine AllReady.cons rfl (fun K hK => ?_) (AllReady.cons rfl (fun K hK => ?_) AllReady.nil) <;> (go_simp; refine hK _ _ ?_; clear hK K))
      · (refine wpAny_ready (rs := [1, 2]) (by kernel_rfl) (by simp) ?_; refine AllReady.cons rfl (fun K hK => ?_) (AllReady.cons rfl (fun K hK => ?_) AllReady.nil) <;> (go_simp; refine hK _ _ ?_; clear hK K))
        · (refine wpAny_ready (rs := [2]) (by kernel_rfl) (by simp) ?_; refine AllReady.cons rfl (fun K hK => ?_) AllReady.nil; go_simp; refine hK _ _ ?_; clear hK K)
          (refine wpAny_ready (rs := [3]) (by kernel_rfl) (by simp) ?_; refine AllReady.cons rfl (fun K hK => ?_) AllReady.nil; go_simp; refine hK _ _ ?_; clear hK K)
          (refine wpAny_ready (rs := [4]) (by kernel_rfl) (by simp) ?_; refine AllReady.cons rfl (fun K hK => ?_) AllReady.nil; go_simp; refine hK _ _ ?_; clear hK K)
          refine wpAny_done (by kernel_rfl) ?_ _
          gi_wp2
          have hS2 := HSE.out
          subst hS2
          have hu : upp F y.val (upd (F y.val) (sl F y.val) false) y.val = upd (F y.val) (sl F y.val) false := if_pos rfl
          have hfs : Fr [w.heap.size + 1, w.heap.size + 1 + 1, w.heap.size + 1 + 1 + 1] w5 (((w5.setCell ⟨w.heap.size + 1, 0, none⟩ (.int .i64 (y.val : Nat))).setCell ⟨w.heap.size + 1 + 1, 0, none⟩ (.int .i64 (sl F y.val))).setCell ⟨w.heap.size + 1 + 1 + 1, 0, none⟩ (.bool true)).drew := ((((Fr.refl _ _).set (.inl (by simp)) _).set (.inl (by simp)) _).set (.inl (by simp)) _).drew
          refine ⟨Fr.keepsFrom (S := [bp, w.heap.size + 1, w.heap.size + 1 + 1, w.heap.size + 1 + 1 + 1]) (((HF1.out.more (by simp)).trans F5.out (by simp)).trans hfs (by simp)) (by simp; exact ⟨⟨_, _, HB.out.1⟩, ⟨_, _, A0.out⟩, ⟨_, _, A1.out⟩, _, _, A2.out⟩), rfl, pre, y, rfl, HP.out, HZ.out, ?_, ?_, ?_, ⟨?_, HS1.out⟩, ?_⟩
          · exact ((B0.out.set 0 (.int .i64 (y.val : Nat))).far (show w.heap.size + 1 ≠ w.heap.size + 1 + 1 by omega) (.int .i64 (sl F y.val))).far (show w.heap.size + 1 ≠ w.heap.size + 1 + 1 + 1 by omega) (.bool true)
          · exact ((B1.out.far (show w.heap.size + 1 + 1 ≠ w.heap.size + 1 by omega) (.int .i64 (y.val : Nat))).set 0 (.int .i64 (sl F y.val))).far (show w.heap.size + 1 + 1 ≠ w.heap.size + 1 + 1 + 1 by omega) (.bool true)
          · exact ((B2.out.far (show w.heap.size + 1 + 1 + 1 ≠ w.heap.size + 1 by omega) (.int .i64 (y.val : Nat))).far (show w.heap.size + 1 + 1 + 1 ≠ w.heap.size + 1 + 1 by omega) (.int .i64 (sl F y.val))).set 0 (.bool true)
          · have h6 := H5.out.fr hfs (by simp; omega)
            rw [hu, HX.out] at h6
            exact h6
          · exact (((HF.out.more (T := [bp]) (by simp)).trans0 HF1.out).trans F5.out (by simp)).trans hfs (by simp; omega)
        · (refine wpAny_ready (rs := [1]) (by kernel_rfl) (by simp) ?_; refine AllReady.cons rfl (fun K hK => ?_) AllReady.nil; go_simp; refine hK _ _ ?_; clear hK K)
          (refine wpAny_ready (rs := [3]) (by kernel_rfl) (by simp) ?_; refine AllReady.cons rfl (fun K hK => ?_) AllReady.nil; go_simp; refine hK _ _ ?_; clear hK K)
          (refine wpAny_ready (rs := [4]) (by kernel_rfl) (by simp) ?_; refine AllReady.cons rfl (fun K hK => ?_) AllReady.nil; go_simp; refine hK _ _ ?_; clear hK K)
          refine wpAny_done (by kernel_rfl) ?_ _
          gi_wp2
          have hS2 := HSE.out
          subst hS2
          have hu : upp F y.val (upd (F y.val) (sl F y.val) false) y.val = upd (F y.val) (sl F y.val) false := if_pos rfl
          have hfs : Fr [w.heap.size + 1, w.heap.size + 1 + 1, w.heap.size + 1 + 1 + 1] w5 (((w5.setCell ⟨w.heap.size + 1, 0, none⟩ (.int .i64 (y.val : Nat))).setCell ⟨w.heap.size + 1 + 1, 0, none⟩ (.int .i64 (sl F y.val))).setCell ⟨w.heap.size + 1 + 1 + 1, 0, none⟩ (.bool true)).drew := ((((Fr.refl _ _).set (.inl (by simp)) _).set (.inl (by simp)) _).set (.inl (by simp)) _).drew
          refine ⟨Fr.keepsFrom (S := [bp, w.heap.size + 1, w.heap.size + 1 + 1, w.heap.size + 1 + 1 + 1]) (((HF1.out.more (by simp)).trans F5.out (by simp)).trans hfs (by simp)) (by simp; exact ⟨⟨_, _, HB.out.1⟩, ⟨_, _, A0.out⟩, ⟨_, _, A1.out⟩, _, _, A2.out⟩), rfl, pre, y, rfl, HP.out, HZ.out, ?_, ?_, ?_, ⟨?_, HS1.out⟩, ?_⟩
          · exact ((B0.out.set 0 (.int .i64 (y.val : Nat))).far (show w.heap.size + 1 ≠ w.heap.size + 1 + 1 by omega) (.int .i64 (sl F y.val))).far (show w.heap.size + 1 ≠ w.heap.size + 1 + 1 + 1 by omega) (.bool true)
          · exact ((B1.out.far (show w.heap.size + 1 + 1 ≠ w.heap.size + 1 by omega) (.int .i64 (y.val : Nat))).set 0 (.int .i64 (sl F y.val))).far (show w.heap.size + 1 + 1 ≠ w.heap.size + 1 + 1 + 1 by omega) (.bool true)
          · exact ((B2.out.far (show w.heap.size + 1 + 1 + 1 ≠ w.heap.size + 1 by omega) (.int .i64 (y.val : Nat))).far (show w.heap.size + 1 + 1 + 1 ≠ w.heap.size + 1 + 1 by omega) (.int .i64 (sl F y.val))).set 0 (.bool true)
          · have h6 := H5.out.fr hfs (by simp; omega)
            rw [hu, HX.out] at h6
            exact h6
          · exact (((HF.out.more (T := [bp]) (by simp)).trans0 HF1.out).trans F5.out (by simp)).trans hfs (by simp; omega)
      · (refine wpAny_ready (rs := [0]) (by kernel_rfl) (by simp) ?_; refine AllReady.cons rfl (fun K hK => ?_) AllReady.nil; go_simp; refine hK _ _ ?_; clear hK K)
        (refine wpAny_ready (rs := [2]) (by kernel_rfl) (by simp) ?_; refine AllReady.cons rfl (fun K hK => ?_) AllReady.nil; go_simp; refine hK _ _ ?_; clear hK K)
        (refine wpAny_ready (rs := [3]) (by kernel_rfl) (by simp) ?_; refine AllReady.cons rfl (fun K hK => ?_) AllReady.nil; go_simp; refine hK _ _ ?_; clear hK K)
        (refine wpAny_ready (rs := [4]) (by kernel_rfl) (by simp) ?_; refine AllReady.cons rfl (fun K hK => ?_) AllReady.nil; go_simp; refine hK _ _ ?_; clear hK K)
        refine wpAny_done (by kernel_rfl) ?_ _
        gi_wp2
        have hS2 := HSE.out
        subst hS2
        have hu : upp F y.val (upd (F y.val) (sl F y.val) false) y.val = upd (F y.val) (sl F y.val) false := if_pos rfl
        have hfs : Fr [w.heap.size + 1, w.heap.size + 1 + 1, w.heap.size + 1 + 1 + 1] w5 (((w5.setCell ⟨w.heap.size + 1, 0, none⟩ (.int .i64 (y.val : Nat))).setCell ⟨w.heap.size + 1 + 1, 0, none⟩ (.int .i64 (sl F y.val))).setCell ⟨w.heap.size + 1 + 1 + 1, 0, none⟩ (.bool true)).drew := ((((Fr.refl _ _).set (.inl (by simp)) _).set (.inl (by simp)) _).set (.inl (by simp)) _).drew
        refine ⟨Fr.keepsFrom (S := [bp, w.heap.size + 1, w.heap.size + 1 + 1, w.heap.size + 1 + 1 + 1]) (((HF1.out.more (by simp)).trans F5.out (by simp)).trans hfs (by simp)) (by simp; exact ⟨⟨_, _, HB.out.1⟩, ⟨_, _, A0.out⟩, ⟨_, _, A1.out⟩, _, _, A2.out⟩), rfl, pre, y, rfl, HP.out, HZ.out, ?_, ?_, ?_, ⟨?_, HS1.out⟩, ?_⟩
        · exact ((B0.out.set 0 (.int .i64 (y.val : Nat))).far (show w.heap.size + 1 ≠ w.heap.size + 1 + 1 by omega) (.int .i64 (sl F y.val))).far (show w.heap.size + 1 ≠ w.heap.size + 1 + 1 + 1 by omega) (.bool true)
        · exact ((B1.out.far (show w.heap.size + 1 + 1 ≠ w.heap.size + 1 by omega) (.int .i64 (y.val : Nat))).set 0 (.int .i64 (sl F y.val))).far (show w.heap.size + 1 + 1 ≠ w.heap.size + 1 + 1 + 1 by omega) (.bool true)
        · exact ((B2.out.far (show w.heap.size + 1 + 1 + 1 ≠ w.heap.size + 1 by omega) (.int .i64 (y.val : Nat))).far (show w.heap.size + 1 + 1 + 1 ≠ w.heap.size + 1 + 1 by omega) (.int .i64 (sl F y.val))).set 0 (.bool true)
        · have h6 := H5.out.fr hfs (by simp; omega)
          rw [hu, HX.out] at h6
          exact h6
        · exact (((HF.out.more (T := [bp]) (by simp)).trans0 HF1.out).trans F5.out (by simp)).trans hfs (by simp; omega)
  case done =>
    rintro D xs V hD hxs ⟨hpre, hb, h0, h1, h2, hF⟩ hK
    have HZ := Lib.hid (fun x (hx : T x = true) => hpre x (by rw [hxs]; exact (told_mem T 1024 x).2 ⟨H0.out.2.2.2 x hx, hx⟩))
    have c1 := h0.cell 0
    have c2 := h1.cell 0
    have c3 := h2.cell 0
    have f1 := h0.froz 0
    have f2 := h1.froz 0
    have f3 := h2.froz 0
    simp only [List.getElem?_toArray, List.getElem?_cons_zero] at c1 c2 c3
    have A0 := Lib.hid h0
    have A1 := Lib.hid h1
    have A2 := Lib.hid h2
    have HK := Lib.hid hK
    have HF := Lib.hid hF
    have hDw : w.heap.size ≤ D := by have := HF2.out.size; omega
    clear hxs hb h0 h1 h2 hK hpre hF
    go_wp2
    have hk1 := (((KeepsOthers.setCell V ⟨w.heap.size + 1, 0, none⟩ (.int .i64 0)).trans (KeepsOthers.setCell _ ⟨w.heap.size + 1 + 1, 0, none⟩ (.int .i64 0))).trans (KeepsOthers.setCell _ ⟨w.heap.size + 1 + 1 + 1, 0, none⟩ (.bool false))).same D _ HK.out rfl
    refine ⟨by simp, .inl ⟨_, _, rfl, run_takeDeferred hk1, ?_⟩⟩
    have hk := atK_put (.deferred none) hk1 rfl
    have b0 := (hk _ _ _ (((A0.out.set 0 (.int .i64 0)).far (show w.heap.size + 1 ≠ w.heap.size + 1 + 1 by omega) (.int .i64 0)).far (show w.heap.size + 1 ≠ w.heap.size + 1 + 1 + 1 by omega) (.bool false))).cell 0
    have b1 := (hk _ _ _ (((A1.out.far (show w.heap.size + 1 + 1 ≠ w.heap.size + 1 by omega) (.int .i64 0)).set 0 (.int .i64 0)).far (show w.heap.size + 1 + 1 ≠ w.heap.size + 1 + 1 + 1 by omega) (.bool false))).cell 0
    have b2 := (hk _ _ _ (((A2.out.far (show w.heap.size + 1 + 1 + 1 ≠ w.heap.size + 1 by omega) (.int .i64 0)).far (show w.heap.size + 1 + 1 + 1 ≠ w.heap.size + 1 + 1 by omega) (.int .i64 0)).set 0 (.bool false))).cell 0
    exact ⟨.tuple #[.int .i64 0, .int .i64 0, .bool false], by simp [results, Tryd.results51, go_sem, b0, b1, b2], HN.out HZ.out _ ((((HF.out.set (.inr (by show w.heap.size ≤ w.heap.size + 1; omega)) _).set (.inr (by show w.heap.size ≤ w.heap.size + 1 + 1; omega)) _).set (.inr (by show w.heap.size ≤ w.heap.size + 1 + 1 + 1; omega)) _).putObj D _ hDw)⟩
  case stop =>
    rintro D c pre V hD hpre ⟨rfl, p0, y, rfl, hz, hy, h0, h1, h2, hB, hF⟩ hK
    have hDw : w.heap.size ≤ D := by have := HF2.out.size; omega
    obtain ⟨_, hsF, _⟩ := sl_spec F y.val hy
    have hTy := (H0.out.2.2.1 _ _ hsF).2
    rw [nums_snoc] at hpre
    have hmin := first_told hpre (P := fun x => wd F x = 0) hz
    gi_wp2
    refine ⟨by simp, .inl ⟨_, _, rfl, run_takeDeferred hK, ?_⟩⟩
    have hk := atK_put (.deferred none) hK rfl
    have b0 := (hk _ _ _ h0).cell 0
    have b1 := (hk _ _ _ h1).cell 0
    have b2 := (hk _ _ _ h2).cell 0
    exact ⟨.tuple #[.int .i64 (y.val : Nat), .int .i64 (sl F y.val), .bool true], by simp [results, Tryd.results51, go_sem, b0, b1, b2], HS.out y.val hTy hy hmin _ ⟨hk _ _ _ hB.1, hB.2⟩ (hF.putObj D _ hDw)⟩
set_option maxHeartbeats 2000000 in
set_option maxRecDepth 100000 in
theorem btake_nil (w : World) : Calls Tryd.prog 51 #[.pointer none] w fun r w' => r = .returned (.tuple #[.int .i64 0, .int .i64 0, .bool false]) ∧ Fr [] w w' := by
  have hf0 : Fr [] w ((((w.alloc (.cells #[.pointer none] 50)).alloc (.cells #[.int .i64 0] 3)).alloc (.cells #[.int .i64 0] 3)).alloc (.cells #[.bool false] 4)) := (by repeat (first | exact Fr.refl _ _ | assumption | refine Fr.trans0 ?_ (by assumption) | refine Fr.drewN ?_ _ | refine Fr.alloc ?_ _ | refine Fr.drew ?_))
  have a0 := ((At.new (w.alloc (.cells #[.pointer none] 50)) 3 #[.int .i64 0]).old (.cells #[.int .i64 0] 3)).old (.cells #[.bool false] 4)
  have a1 := (At.new ((w.alloc (.cells #[.pointer none] 50)).alloc (.cells #[.int .i64 0] 3)) 3 #[.int .i64 0]).old (.cells #[.bool false] 4)
  have a2 := At.new (((w.alloc (.cells #[.pointer none] 50)).alloc (.cells #[.int .i64 0] 3)).alloc (.cells #[.int .i64 0] 3)) 4 #[.bool false]
  simp only [World.size_alloc] at a0 a1 a2
  have A0 := Lib.hid a0
  have A1 := Lib.hid a1
  have A2 := Lib.hid a2
  have HF0 := Lib.hid hf0
  clear a0 a1 a2 hf0
  refine (callsIn_wide (n := 3)).1 ?_
  refine callsIn_of_wp_marks Tryd.func51 rfl trivial ?_ rfl
  simp only [Tryd.ntmps51, List.size_toArray, List.length_cons, List.length_nil, Nat.reduceAdd, Nat.reduceSub, Array.replicate_succ, Array.replicate_zero, List.push_toArray, List.append_toArray, List.nil_append, List.cons_append]
  refine wpIn_wide.2 ?_
  have C := Lib.hid fun W => biter_any W none
  go_wp2_with (go_at_call 72; refine (C.out _).mono ?_; rintro e w2 ⟨q, rfl, hq, hqs, hf2⟩)
  simp only [World.size_alloc] at hqs
  have A0' := Lib.hid (A0.out.fr hf2 (by simp))
  have A1' := Lib.hid (A1.out.fr hf2 (by simp))
  have A2' := Lib.hid (A2.out.fr hf2 (by simp))
  have HF2 := Lib.hid (HF0.out.trans0 hf2)
  have hst := pages_none (3 - 1) q 0 [] w2 hq
  clear C A0 A1 A2
  refine (wpIn_wide (n := 3)).1 ?_
  refine wpIn_rangeFunc_ownF rfl (by omega) (gf := 83) (lb := #[.pointer (some ⟨q, 0, none⟩)]) rfl trivial (enters_of Tryd.func83 (by kernel_rfl) rfl) hst kpB_t kpB_b (Below.refl _ _) (fun _ => rfl)
    (fun pre V => pre = [] ∧ At V (w.heap.size + 1) 3 #[.int .i64 0] ∧ At V (w.heap.size + 1 + 1) 3 #[.int .i64 0] ∧ At V (w.heap.size + 1 + 1 + 1) 4 #[.bool false] ∧ Fr [] w V)
    (fun c pre V => False)
    (fun x A B row hs hg hr => ⟨hs.1, atK_grown hg (fun r e => (hr r e).2) _ _ _ hs.2.1, atK_grown hg (fun r e => (hr r e).2) _ _ _ hs.2.2.1, atK_grown hg (fun r e => (hr r e).2) _ _ _ hs.2.2.2.1, hs.2.2.2.2.row hg HF2.out.size hr⟩)
    (fun c x A B row hs hg hr => hs)
    ⟨rfl, A0'.out, A1'.out, A2'.out, HF2.out⟩ ?a1 ?assign ?body ?done ?stop
  case assign =>
    intro l x V K hK
    unfold pg
    gi_wp2
    exact hK
  case body =>
    intro l pre y V _ hlt
    exact absurd hlt (Nat.not_lt_zero _)
  case done =>
    rintro D xs V hD hxs ⟨hpre, h0, h1, h2, hF⟩ hK
    have c1 := h0.cell 0
    have c2 := h1.cell 0
    have c3 := h2.cell 0
    have f1 := h0.froz 0
    have f2 := h1.froz 0
    have f3 := h2.froz 0
    simp only [List.getElem?_toArray, List.getElem?_cons_zero] at c1 c2 c3
    have A0 := Lib.hid h0
    have A1 := Lib.hid h1
    have A2 := Lib.hid h2
    have HK := Lib.hid hK
    have HF := Lib.hid hF
    have hDw : w.heap.size ≤ D := by have := HF2.out.size; omega
    clear hxs h0 h1 h2 hK hpre hF
    go_wp2
    have hk1 := (((KeepsOthers.setCell V ⟨w.heap.size + 1, 0, none⟩ (.int .i64 0)).trans (KeepsOthers.setCell _ ⟨w.heap.size + 1 + 1, 0, none⟩ (.int .i64 0))).trans (KeepsOthers.setCell _ ⟨w.heap.size + 1 + 1 + 1, 0, none⟩ (.bool false))).same D _ HK.out rfl
    refine ⟨by simp, .inl ⟨_, _, rfl, run_takeDeferred hk1, ?_⟩⟩
    have hk := atK_put (.deferred none) hk1 rfl
    have b0 := (hk _ _ _ (((A0.out.set 0 (.int .i64 0)).far (show w.heap.size + 1 ≠ w.heap.size + 1 + 1 by omega) (.int .i64 0)).far (show w.heap.size + 1 ≠ w.heap.size + 1 + 1 + 1 by omega) (.bool false))).cell 0
    have b1 := (hk _ _ _ (((A1.out.far (show w.heap.size + 1 + 1 ≠ w.heap.size + 1 by omega) (.int .i64 0)).set 0 (.int .i64 0)).far (show w.heap.size + 1 + 1 ≠ w.heap.size + 1 + 1 + 1 by omega) (.bool false))).cell 0
    have b2 := (hk _ _ _ (((A2.out.far (show w.heap.size + 1 + 1 + 1 ≠ w.heap.size + 1 by omega) (.int .i64 0)).far (show w.heap.size + 1 + 1 + 1 ≠ w.heap.size + 1 + 1 by omega) (.int .i64 0)).set 0 (.bool false))).cell 0
    exact ⟨.tuple #[.int .i64 0, .int .i64 0, .bool false], by simp [results, Tryd.results51, go_sem, b0, b1, b2], rfl, (((HF.out.set (.inr (by show w.heap.size ≤ w.heap.size + 1; omega)) _).set (.inr (by show w.heap.size ≤ w.heap.size + 1 + 1; omega)) _).set (.inr (by show w.heap.size ≤ w.heap.size + 1 + 1 + 1; omega)) _).putObj D _ hDw⟩
  case stop =>
    rintro D c pre V hD hpre h hK
    exact h.elim
end Go.Proofs.YtdbpmojblgmhdaaDoor
