/-
  The keys of a map of regions as a slice. Condition: as many as a slice may hold.
-/


import Derived.Test.YtdbpmojblgmhdaaDoorKeys
set_option linter.unusedVariables false
namespace Go.Proofs.YtdbpmojblgmhdaaDoor
open Go.ChangeShapes Go.WideShapes Go.ChangeAt Go.RowKit
attribute [local go_sem] Oper.semAt_some
theorem cells_two_new (w : World) (a b : Value) (t : TypeId) : ∀ j u, ([a, b] : List Value)[j]? = some u → (w.alloc (.cells #[a, b] t)).cell? ((⟨w.heap.size, 0, none⟩ : Addr).add j) = some u := fun j u h => by
  rw [Go.WideShapes.add_plain, (At.new w t #[a, b]).cell]
  simpa using h
theorem rgv_snoc (l : List (Nat × Nat)) (x : Nat × Nat) : rgv (l ++ [x]) = rgv l ++ [.int .u32 x.1, .int .u32 x.2] := by rw [rgv_append]; rfl
set_option maxHeartbeats 2000000 in
set_option maxRecDepth 100000 in
theorem lappseq_any {w : World} {q b : Nat} {L : List (Nat × Nat)} (hq : At w q 53 #[.map (some b)]) (hb : Ms w b L) (hL : L.length ≤ 1000000) :
    Calls Tryd.prog 84 #[.slice none 0 0, .func (.func 81) #[] #[.pointer (some ⟨q, 0, none⟩)]] w fun e w' => ∃ v ss, e = .returned v ∧ ss.Perm L ∧ w'.ownsRow w.heap.size 31 2 v ss.length (rgv ss) ∧ Fr [] w w' := by
  obtain ⟨i0, hi, hz0, hz1, hz2⟩ := info_parts infoRg
  have hf0 : Fr [] w (w.alloc (.cells #[.slice none 0 0] 34)) := (by repeat (first | exact Fr.refl _ _ | assumption | refine Fr.trans0 ?_ (by assumption) | refine Fr.drewN ?_ _ | refine Fr.alloc ?_ _ | refine Fr.drew ?_))
  have a0 := At.new w 34 #[.slice none 0 0]
  have HI := Lib.hid (And.intro hi (And.intro hz0 (And.intro hz1 hz2)))
  have hst := mkeys_stops (3 - 1) q b L _ (hq.fr hf0 (by simp)) (hb.fr0 hf0)
  have A0 := Lib.hid a0
  have HF0 := Lib.hid hf0
  clear a0 hf0 hi hz0 hz1 hz2 hq hb
  refine (callsIn_wide (n := 3)).1 ?_
  refine callsIn_of_wp_marks Tryd.func84 rfl trivial ?_ rfl
  simp only [Tryd.ntmps84, List.size_toArray, List.length_cons, List.length_nil, Nat.reduceAdd, Nat.reduceSub, Array.replicate_succ, Array.replicate_zero, List.push_toArray, List.append_toArray, List.nil_append, List.cons_append]
  refine wpIn_wide.2 ?_
  go_wp2
  refine (wpIn_wide (n := 3)).1 ?_
  refine wpIn_rangeFunc_ownH rfl (by omega) (gf := 81) (lb := #[.pointer (some ⟨q, 0, none⟩)]) rfl trivial (enters_of Tryd.func81 (by kernel_rfl) rfl) hst walksK_t walksK_b (Below.refl _ _) (fun _ => rfl)
    (fun pre V => ∃ sv, At V w.heap.size 34 #[sv] ∧ V.ownsRow w.heap.size 31 2 sv pre.length (rgv pre) ∧ Fr [] w V)
    (fun c pre V => False)
    (fun x A B row hs hg hr => by
      obtain ⟨sv, h1, h2, h4⟩ := hs
      exact ⟨sv, atK_grown hg (fun r e => (hr r e).2) _ _ _ h1, own_grown h2 hg (fun r e => (hr r e).2), h4.row hg HF0.out.size hr⟩)
    (fun c x A B row hs hg hr => hs)
    ⟨.slice none 0 0, A0.out, World.ownsRow_nil _ _ _ _, HF0.out⟩
    (fun x a' V => ∃ k, a' = { tmps := #[.slice none 0 0, .func (.func 81) #[] #[.pointer (some ⟨q, 0, none⟩)], .pointer (some ⟨w.heap.size, 0, none⟩), undef, .slice none 0 0, .pointer (some ⟨k, 0, none⟩), .func (.func 81) #[] #[.pointer (some ⟨q, 0, none⟩)], .agg #[.int .u32 x.1, .int .u32 x.2], undef, undef, undef, undef, undef], defers := [] } ∧ At V k 31 #[.int .u32 x.1, .int .u32 x.2])
    (fun x a' _ A B row hs hg hr => by
      obtain ⟨k, h1, h2⟩ := hs
      exact ⟨k, h1, atK_grown hg (fun r e => (hr r e).2) _ _ _ h2⟩)
    ?assign ?body ?done ?stop
  case assign =>
    intro l pre x V K hI hK
    obtain ⟨x1, x2⟩ := x
    unfold rkey
    gi_wp2
    have hfa : Fr [] V (V.alloc (.cells #[.int .u32 x1, .int .u32 x2] 31)) := (by repeat (first | exact Fr.refl _ _ | assumption | refine Fr.trans0 ?_ (by assumption) | refine Fr.drewN ?_ _ | refine Fr.alloc ?_ _ | refine Fr.drew ?_))
    obtain ⟨sv, h1, h2, h4⟩ := hI
    exact hK _ _ ⟨hfa.size, fun k o _ hk _ => ((MapKept.heap_alloc V _).2 k (Array.getElem?_eq_some_iff.1 hk).1).trans hk⟩ (kw_alloc _ _) ⟨sv, h1.fr hfa (by simp), own_fr0 h2 hfa, h4.trans0 hfa⟩ ⟨V.heap.size, rfl, At.new _ _ _⟩
  case body =>
    rintro l pre ⟨y1, y2⟩ a' V hwl - ⟨sv, h0, h1, hF⟩ ⟨k, rfl, hy⟩ hlen
    have hf1 : Fr [] V (V.alloc (.cells #[.int .u32 y1, .int .u32 y2] 31)) := (by repeat (first | exact Fr.refl _ _ | assumption | refine Fr.trans0 ?_ (by assumption) | refine Fr.drewN ?_ _ | refine Fr.alloc ?_ _ | refine Fr.drew ?_))
    have hVs := hF.size
    have N0 := Lib.hid (own_toList h1 h0 (show 34 ≠ 31 by decide))
    have c0 := h0.cell 0
    have k0 := hy.cell 0
    have k1 := hy.cell 1
    simp only [List.getElem?_toArray, List.getElem?_cons_zero, List.getElem?_cons_succ] at c0 k0 k1
    obtain ⟨a, c, rfl, hmc⟩ := own_slice h1
    have H0 := Lib.hid h0
    have H1 := Lib.hid h1
    have HF := Lib.hid hF
    have HF1 := Lib.hid hf1
    obtain ⟨m, hm⟩ : ∃ m, pre.length = m := ⟨_, rfl⟩
    rw [hm] at H1 c0 N0 H0
    have HM := Lib.hid hm
    have hml : m < 1000000 := by omega
    clear h0 h1 hF hf1 hm hlen hmc hy hL
    obtain ⟨hi, hz0, hz1, hz2⟩ := HI.out
    have hm1 : m + 1 ≤ maxLen := by unfold maxLen; omega
    have hm2 : (m + 1) * 8 ≤ 140737488355328 := by omega
    gi_wp2_with (refine wpListIn_append_own rfl (.tmp 8) (.tmp 10) 34 rfl w.heap.size 31 i0 (.agg #[.int .u32 0, .int .u32 0]) 2 8 Tryd.underlying34 hi hz0 hz1 hz2 rfl (by omega) (.slice a m c) m (rgv pre) rfl (own_fr0 H1.out HF1.out) ⟨V.heap.size, 0, none⟩ 1 1 [.int .u32 y1, .int .u32 y2] rfl rfl (cells_two_new _ _ _ _) (by simp [Value.oneCell']) hm1 hm2 (by simp; omega) ?_; intro v' w' hown' hg hnn hat; have A0 := Lib.hid (At.fr (At.fr H0.out HF1.out (by simp)) (Fr.grown hg) N0.out); have d0 := A0.out.cell 0; have f0 := A0.out.froz 0; simp only [List.getElem?_toArray, List.getElem?_cons_zero] at d0; obtain ⟨a', c', rfl, hc'⟩ := own_slice hown'; have HO := Lib.hid hown'; have HG := Lib.hid hg; clear hown' hg hnn hat hc')
    have hfs : Fr (w.heap.size :: (Value.slice a m c).ownBlock.toList) V (w'.setCell ⟨w.heap.size, 0, none⟩ (.slice a' (m + 1) c')) :=
      ((HF1.out.more (T := w.heap.size :: (Value.slice a m c).ownBlock.toList) (by simp)).trans (Fr.grown HG.out) (fun k hk => .inl (List.mem_cons_of_mem _ hk))).set (.inl List.mem_cons_self) _
    have hsl : ∀ k ∈ (w.heap.size :: (Value.slice a m c).ownBlock.toList), w.heap.size ≤ k := fun k hk => by
      rcases List.mem_cons.1 hk with rfl | hk
      · exact Nat.le_refl _
      · have := (H1.out.lt k (Option.mem_toList.1 hk)).1
        exact this
    have hko : KeepsOthers V (w'.setCell ⟨w.heap.size, 0, none⟩ (.slice a' (m + 1) c')) := hfs.keepsFrom (fun k hk => by
      rcases List.mem_cons.1 hk with rfl | hk
      · exact ⟨_, _, H0.out⟩
      · exact own_at H1.out k hk)
    refine ⟨hko.from _, ⟨hko.size, fun k o hk ho => hko.same k o hk (Obj.not_cells_of_walk ho)⟩, .slice a' (m + 1) c', ?_, ?_, HF.out.trans hfs (fun k hk => .inr (hsl k hk))⟩
    · exact A0.out.set 0 _
    · rw [rgv_snoc, List.length_append, HM.out]
      exact own_fr HO.out ((Fr.refl [w.heap.size] w').set (.inl (by simp)) _) (fun g hg2 => by
        have := own_ne HO.out A0.out (show 34 ≠ 31 by decide) g hg2
        simpa using this)
  case done =>
    rintro D xs V hD hxs ⟨sv, h0, h1, hF⟩ hK
    have c0 := h0.cell 0
    simp only [List.getElem?_toArray, List.getElem?_cons_zero] at c0
    have HO := Lib.hid h1
    have HK := Lib.hid hK
    have HF := Lib.hid hF
    have HX := Lib.hid hxs
    have hDw : w.heap.size ≤ D := by have := HF0.out.size; omega
    clear h0 h1 hF hK hxs
    go_wp2
    refine ⟨by simp, .inl ⟨_, _, rfl, run_takeDeferred HK.out, ?_⟩⟩
    exact ⟨sv, by simp [results, Tryd.results84, go_sem], sv, xs, rfl, HX.out, own_grown HO.out (grownBy_putObj' V D _) (fun r e => by cases e; exact ⟨_, HK.out, rfl⟩), HF.out.putObj D _ hDw⟩
  case stop =>
    rintro D c pre V hD hpre h hK
    exact h.elim
theorem lcollect_any {w : World} {q b : Nat} {L : List (Nat × Nat)} (hq : At w q 53 #[.map (some b)]) (hb : Ms w b L) (hL : L.length ≤ 1000000) :
    Calls Tryd.prog 79 #[.func (.func 81) #[] #[.pointer (some ⟨q, 0, none⟩)]] w fun e w' => ∃ v ss, e = .returned v ∧ ss.Perm L ∧ w'.ownsRow w.heap.size 31 2 v ss.length (rgv ss) ∧ Fr [] w w' := by
  have C := Lib.hid (lappseq_any hq hb hL)
  clear hq hb hL
  go_enter Tryd.func79, Tryd.ntmps79
  go_wp2_with (go_at_call 84; refine (C.out).mono ?_; rintro e w' ⟨v, ss, rfl, hp, ho, hf⟩)
  go_ret
  exact ⟨v, ss, rfl, hp, ho, hf⟩
end Go.Proofs.YtdbpmojblgmhdaaDoor
