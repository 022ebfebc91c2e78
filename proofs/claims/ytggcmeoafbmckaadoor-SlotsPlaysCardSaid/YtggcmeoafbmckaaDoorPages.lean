/-
  Pages of slots: the numbers of the pages, rising, in a new slice. Condition: numbers in their types' ranges.
-/


import Derived.Test.YtggcmeoafbmckaaDoorTake
import Derived.Test.YtggcmeoafbmckaaDoorRangeApp
set_option linter.unusedVariables false
namespace Go.Proofs.YtggcmeoafbmckaaDoor
open Go.ChangeShapes Go.WideShapes Go.ChangeAt Go.RowKit
attribute [local go_sem] Oper.semAt_some
/-- Numbers as a list's cells. -/
def ivs (l : List Nat) : List Value := l.map fun x => .int .i64 (x : Nat)
theorem ivs_len (l : List Nat) : (ivs l).length = l.length := List.length_map _
theorem ivs_snoc (l : List Nat) (x : Nat) : ivs (l ++ [x]) = ivs l ++ [.int .i64 (x : Nat)] := by unfold ivs; rw [List.map_append]; rfl
theorem infoInt : (Tryd.prog.info? 3).map (fun i => (i.zero, i.size, i.bytes)) = some (some (.int .i64 0), 1, 8) := by kernel_rfl
set_option maxHeartbeats 2000000 in
set_option maxRecDepth 100000 in
theorem bpages_any {w : World} {bp per : Nat} {F : Nat → Nat → Bool} {T : Nat → Bool} (h : Book w bp per F T) :
    Calls Tryd.prog 13 #[.pointer (some ⟨bp, 0, none⟩)] w fun e w' => ∃ v, e = .returned v ∧ w'.ownsRow w.heap.size 3 1 v (told T 1024).length (ivs (told T 1024)) ∧ Fr [] w w' := by
  obtain ⟨i0, hi, hz0, hz1, hz2⟩ := info_parts infoInt
  have hf0 : Fr [] w (w.alloc (.cells #[.slice none 0 0] 37)) := (by repeat (first | exact Fr.refl _ _ | assumption | refine Fr.trans0 ?_ (by assumption) | refine Fr.drewN ?_ _ | refine Fr.alloc ?_ _ | refine Fr.drew ?_))
  have a0 := At.new w 37 #[.slice none 0 0]
  have H := Lib.hid (h.fr hf0 (by simp))
  have HI := Lib.hid (And.intro hi (And.intro hz0 (And.intro hz1 hz2)))
  have hbw := h.lt
  have A0 := Lib.hid a0
  have HF0 := Lib.hid hf0
  have HW := Lib.hid h
  clear h a0 hf0 hi hz0 hz1 hz2
  refine (callsIn_wide (n := 3)).1 ?_
  refine callsIn_of_wp_marks Tryd.func13 rfl trivial ?_ rfl
  simp only [Tryd.ntmps13, List.size_toArray, List.length_cons, List.length_nil, Nat.reduceAdd, Nat.reduceSub, Array.replicate_succ, Array.replicate_zero, List.push_toArray, List.append_toArray, List.nil_append, List.cons_append]
  refine wpIn_wide.2 ?_
  have C := Lib.hid fun W => biter_any W (some ⟨bp, 0, none⟩)
  go_wp2_with (go_at_call 30; refine (C.out _).mono ?_; rintro e w2 ⟨q, rfl, hq, hqs, hf2⟩)
  simp only [World.size_alloc] at hqs
  have A0' := Lib.hid (A0.out.fr hf2 (by simp))
  have HF2 := Lib.hid (HF0.out.trans0 hf2)
  have HB2 := Lib.hid (H.out.fr hf2 (by simp))
  have hst := pages_stops (3 - 1) q bp per F T _ w2 hq HB2.out.1 HW.out.2.1
  clear C A0 H
  refine (wpIn_wide (n := 3)).1 ?_
  refine wpIn_rangeFunc_ownF rfl (by omega) (gf := 41) (lb := #[.pointer (some ⟨q, 0, none⟩)]) rfl trivial (enters_of Tryd.func41 (by kernel_rfl) rfl) hst kpB_t kpB_b (Below.refl _ _) (fun _ => rfl)
    (fun pre V => ∃ sv, At V w.heap.size 37 #[sv] ∧ V.ownsRow w.heap.size 3 1 sv (nums pre).length (ivs (nums pre)) ∧ At V q 23 #[.pointer (some ⟨bp, 0, none⟩)] ∧ Fr [] w V)
    (fun c pre V => False)
    (fun x A B row hs hg hr => by
      obtain ⟨sv, h1, h2, h3, h4⟩ := hs
      exact ⟨sv, atK_grown hg (fun r e => (hr r e).2) _ _ _ h1, own_grown h2 hg (fun r e => (hr r e).2), atK_grown hg (fun r e => (hr r e).2) _ _ _ h3, h4.row hg HF2.out.size hr⟩)
    (fun c x A B row hs hg hr => hs)
    ⟨.slice none 0 0, A0'.out, World.ownsRow_nil _ _ _ _, hq, HF2.out⟩ ?a1 ?assign ?body ?done ?stop
  case assign =>
    intro l x V K hK
    unfold pg
    gi_wp2
    exact hK
  case body =>
    rintro l pre y V ⟨sv, h0, h1, h2, hF⟩ hlen
    have hf1 : Fr [] V (V.alloc (.cells #[.int .i64 (y.val : Nat)] 3)) := (by repeat (first | exact Fr.refl _ _ | assumption | refine Fr.trans0 ?_ (by assumption) | refine Fr.drewN ?_ _ | refine Fr.alloc ?_ _ | refine Fr.drew ?_))
    have hVs := hF.size
    have hnl := nums_len pre
    have hT0 : 37 ≠ 3 := by decide
    have N0 := Lib.hid (own_toList h1 h0 hT0)
    have NQ := Lib.hid (own_toList h1 h2 (show 23 ≠ 3 by decide))
    have NB := Lib.hid (own_toList h1 (HW.out.fr hF (by simp)).1 (show 63 ≠ 3 by decide))
    have c0 := h0.cell 0
    simp only [List.getElem?_toArray, List.getElem?_cons_zero] at c0
    obtain ⟨a, c, rfl, hmc⟩ := own_slice h1
    have H0 := Lib.hid h0
    have H1 := Lib.hid h1
    have H2 := Lib.hid h2
    have HF := Lib.hid hF
    have HF1 := Lib.hid hf1
    obtain ⟨m, hm⟩ : ∃ m, (nums pre).length = m := ⟨_, rfl⟩
    rw [hm] at H1 hnl c0 N0 NQ NB H0
    have HM := Lib.hid hm
    have hml : m < 1024 := by omega
    clear h0 h1 h2 hF hf1 hm hT0 hnl hlen hmc
    obtain ⟨hi, hz0, hz1, hz2⟩ := HI.out
    have hm1 : m + 1 ≤ maxLen := by unfold maxLen; omega
    have hm2 : (m + 1) * 8 ≤ 140737488355328 := by omega
    have hVs1 : w.heap.size ≤ V.heap.size + 1 := by omega
    gi_wp2_with (refine wpListIn_append_own rfl (.tmp 9) (.tmp 11) 37 rfl w.heap.size 3 i0 (.int .i64 0) 1 8 Tryd.underlying37 hi hz0 hz1 hz2 rfl (by omega) (.slice a m c) m (ivs (nums pre)) rfl (own_fr0 H1.out HF1.out) ⟨V.heap.size, 0, none⟩ 1 1 [.int .i64 (y.val : Nat)] rfl rfl (cell_one_new _ _ _) (by simp [Value.oneCell']) hm1 hm2 (by simp; omega) ?_; intro v' w' hown' hg hnn hat; have A0 := Lib.hid (At.fr (At.fr H0.out HF1.out (by simp)) (Fr.grown hg) N0.out); have d0 := A0.out.cell 0; have f0 := A0.out.froz 0; simp only [List.getElem?_toArray, List.getElem?_cons_zero] at d0; obtain ⟨a', c', rfl, hc'⟩ := own_slice hown'; have HO := Lib.hid hown'; have HG := Lib.hid hg; clear hown' hg hnn hat hc')
    have hfs : Fr (w.heap.size :: (Value.slice a m c).ownBlock.toList) V (w'.setCell ⟨w.heap.size, 0, none⟩ (.slice a' (m + 1) c')) :=
      ((HF1.out.more (T := w.heap.size :: (Value.slice a m c).ownBlock.toList) (by simp)).trans (Fr.grown HG.out) (fun k hk => .inl (List.mem_cons_of_mem _ hk))).set (.inl List.mem_cons_self) _
    have hsl : ∀ k ∈ (w.heap.size :: (Value.slice a m c).ownBlock.toList), w.heap.size ≤ k := fun k hk => by
      rcases List.mem_cons.1 hk with rfl | hk
      · exact Nat.le_refl _
      · have := (H1.out.lt k (Option.mem_toList.1 hk)).1
        exact this
    have hq0 : q ∉ (w.heap.size :: (Value.slice a m c).ownBlock.toList) := fun hk => by
      rcases List.mem_cons.1 hk with e | hk
      · omega
      · exact NQ.out hk
    have hb0 : bp ∉ (w.heap.size :: (Value.slice a m c).ownBlock.toList) := fun hk => by have := hsl _ hk; omega
    have hkp : KpB [q, bp] V (w'.setCell ⟨w.heap.size, 0, none⟩ (.slice a' (m + 1) c')) := kpB_fr hfs (fun b hb => by
      rcases List.mem_cons.1 hb with rfl | hb
      · exact hq0
      · rw [List.mem_singleton.1 hb]; exact hb0)
    refine ⟨hfs.keepsFrom (fun k hk => ?_), hkp, .slice a' (m + 1) c', ?_, ?_, H2.out.fr hfs hq0, HF.out.trans hfs (fun k hk => .inr (hsl k hk))⟩
    · rcases List.mem_cons.1 hk with rfl | hk
      · exact ⟨_, _, H0.out⟩
      · exact own_at H1.out k hk
    · exact A0.out.set 0 _
    · rw [nums_snoc, ivs_snoc, List.length_append, HM.out]
      exact own_fr HO.out ((Fr.refl [w.heap.size] w').set (.inl (by simp)) _) (fun g hg2 => by
        have := own_ne HO.out A0.out (show 37 ≠ 3 by decide) g hg2
        simpa using this)
  case done =>
    rintro D xs V hD hxs ⟨sv, h0, h1, h2, hF⟩ hK
    have c0 := h0.cell 0
    simp only [List.getElem?_toArray, List.getElem?_cons_zero] at c0
    have HO := Lib.hid h1
    rw [hxs] at HO
    have HK := Lib.hid hK
    have HF := Lib.hid hF
    have hDw : w.heap.size ≤ D := by have := HF2.out.size; omega
    clear h0 h1 h2 hF hK hxs
    go_wp2
    refine ⟨by simp, .inl ⟨_, _, rfl, run_takeDeferred HK.out, ?_⟩⟩
    exact ⟨sv, by simp [results, Tryd.results13, go_sem], sv, rfl, own_grown HO.out (grownBy_putObj' V D _) (fun r e => by cases e; exact ⟨_, HK.out, rfl⟩), HF.out.putObj D _ hDw⟩
  case stop =>
    rintro D c pre V hD hpre h hK
    exact h.elim
set_option maxHeartbeats 2000000 in
set_option maxRecDepth 100000 in
theorem bpages_nil (w : World) : Calls Tryd.prog 13 #[.pointer none] w fun e w' => e = .returned (.slice none 0 0) ∧ Fr [] w w' := by
  have hf0 : Fr [] w (w.alloc (.cells #[.slice none 0 0] 37)) := (by repeat (first | exact Fr.refl _ _ | assumption | refine Fr.trans0 ?_ (by assumption) | refine Fr.drewN ?_ _ | refine Fr.alloc ?_ _ | refine Fr.drew ?_))
  have a0 := At.new w 37 #[.slice none 0 0]
  have A0 := Lib.hid a0
  have HF0 := Lib.hid hf0
  clear a0 hf0
  refine (callsIn_wide (n := 3)).1 ?_
  refine callsIn_of_wp_marks Tryd.func13 rfl trivial ?_ rfl
  simp only [Tryd.ntmps13, List.size_toArray, List.length_cons, List.length_nil, Nat.reduceAdd, Nat.reduceSub, Array.replicate_succ, Array.replicate_zero, List.push_toArray, List.append_toArray, List.nil_append, List.cons_append]
  refine wpIn_wide.2 ?_
  have C := Lib.hid fun W => biter_any W none
  go_wp2_with (go_at_call 30; refine (C.out _).mono ?_; rintro e w2 ⟨q, rfl, hq, hqs, hf2⟩)
  simp only [World.size_alloc] at hqs
  have A0' := Lib.hid (A0.out.fr hf2 (by simp))
  have HF2 := Lib.hid (HF0.out.trans0 hf2)
  have hst := pages_none (3 - 1) q 0 [] w2 hq
  clear C A0
  refine (wpIn_wide (n := 3)).1 ?_
  refine wpIn_rangeFunc_ownF rfl (by omega) (gf := 41) (lb := #[.pointer (some ⟨q, 0, none⟩)]) rfl trivial (enters_of Tryd.func41 (by kernel_rfl) rfl) hst kpB_t kpB_b (Below.refl _ _) (fun _ => rfl)
    (fun pre V => At V w.heap.size 37 #[.slice none 0 0] ∧ Fr [] w V)
    (fun c pre V => False)
    (fun x A B row hs hg hr => ⟨atK_grown hg (fun r e => (hr r e).2) _ _ _ hs.1, hs.2.row hg HF2.out.size hr⟩)
    (fun c x A B row hs hg hr => hs)
    ⟨A0'.out, HF2.out⟩ ?a1 ?assign ?body ?done ?stop
  case assign =>
    intro l x V K hK
    unfold pg
    gi_wp2
    exact hK
  case body =>
    intro l pre y V _ hlt
    exact absurd hlt (Nat.not_lt_zero _)
  case done =>
    rintro D xs V hD hxs ⟨h0, hF⟩ hK
    have c0 := h0.cell 0
    simp only [List.getElem?_toArray, List.getElem?_cons_zero] at c0
    have HK := Lib.hid hK
    have HF := Lib.hid hF
    have hDw : w.heap.size ≤ D := by have := HF2.out.size; omega
    clear h0 hF hK hxs
    go_wp2
    refine ⟨by simp, .inl ⟨_, _, rfl, run_takeDeferred HK.out, ?_⟩⟩
    exact ⟨.slice none 0 0, by simp [results, Tryd.results13, go_sem], rfl, HF.out.putObj D _ hDw⟩
  case stop =>
    rintro D c pre V hD hpre h hK
    exact h.elim
end Go.Proofs.YtggcmeoafbmckaaDoor
