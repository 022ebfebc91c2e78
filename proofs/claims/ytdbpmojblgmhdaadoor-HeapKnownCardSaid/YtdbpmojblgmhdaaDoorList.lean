/-
  The list of a set of regions, by their places. Condition: as many as a slice may hold.
-/


import Derived.Test.YtdbpmojblgmhdaaDoorSets
set_option linter.unusedVariables false
namespace Go.Proofs.YtdbpmojblgmhdaaDoor
open Go.ChangeShapes Go.WideShapes Go.ChangeAt Go.RowKit
attribute [local go_sem] Oper.semAt_some
theorem ssorted_any {w : World} {b : Nat} {L : List (Nat × Nat)} (hb : Ms w b L) (hs : ∀ x ∈ L, x.1 < 4294967296) (hL : L.length ≤ 1000000) :
    Calls Tryd.prog 48 #[.map (some b)] w fun e w' => ∃ q a c ss, e = .returned (.func (.func 82) #[] #[.pointer (some ⟨q, 0, none⟩)]) ∧ At w' q 34 #[.slice a ss.length c] ∧ ss.Perm L ∧ ss.Pairwise (fun a b => a.1 ≤ b.1) ∧ w'.ownsRow w.heap.size 31 2 (.slice a ss.length c) ss.length (rgv ss) ∧ w.heap.size ≤ q ∧ Fr [] w w' := by
  have C1 := Lib.hid (mkeys_any w b)
  have HB := Lib.hid hb
  have HS := Lib.hid hs
  clear hb hs
  go_enter Tryd.func48, Tryd.ntmps48
  go_wp2_with fail
  refine (C1.out).mono ?_
  rintro e w1 ⟨q, rfl, hq, hqs, hf1⟩
  have HF1 := Lib.hid hf1
  have C2 := Lib.hid (lsortedf_any hq (HB.out.fr0 hf1) HS.out hL)
  clear hq hf1
  go_wp2_with fail
  refine (C2.out).mono ?_
  rintro e w2 ⟨v, ss, rfl, hp, hs, ho, hf2⟩
  obtain ⟨a, c, rfl, _⟩ := own_slice ho
  have HO := Lib.hid ho
  have HF2 := Lib.hid hf2
  have C3 := Lib.hid (lvalues_any w2 a ss.length c)
  clear ho hf2
  go_wp2_with fail
  refine (C3.out).mono ?_
  rintro e w3 ⟨q2, rfl, hq2, hqs2, hf3⟩
  have HQ := Lib.hid hq2
  have HF3 := Lib.hid hf3
  have h1 := HF1.out.size
  have h2 := HF2.out.size
  clear hq2 hf3
  go_wp2
  go_ret
  exact ⟨q2, a, c, ss, rfl, HQ.out, hp, hs, own_base (own_fr0 HO.out HF3.out) h1, by omega, (HF1.out.trans0 HF2.out).trans0 HF3.out⟩
set_option maxHeartbeats 2000000 in
set_option maxRecDepth 100000 in
theorem hlist_any {w : World} {b : Nat} {L : List (Nat × Nat)} (hb : Ms w b L) (hs : ∀ x ∈ L, x.1 < 4294967296) (hL : L.length ≤ 1000000) :
    Calls Tryd.prog 27 #[.map (some b)] w fun e w' => ∃ v ss, e = .returned v ∧ ss.Perm L ∧ ss.Pairwise (fun a b => a.1 ≤ b.1) ∧ w'.ownsRow w.heap.size 31 2 v ss.length (rgv ss) ∧ Fr [] w w' := by
  obtain ⟨i0, hi, hz0, hz1, hz2⟩ := info_parts infoRg
  have hf0 : Fr [] w (w.alloc (.cells #[.slice none 0 0] 34)) := (by repeat (first | exact Fr.refl _ _ | assumption | refine Fr.trans0 ?_ (by assumption) | refine Fr.drewN ?_ _ | refine Fr.alloc ?_ _ | refine Fr.drew ?_))
  have a0 := At.new w 34 #[.slice none 0 0]
  have HI := Lib.hid (And.intro hi (And.intro hz0 (And.intro hz1 hz2)))
  have C := Lib.hid (ssorted_any (hb.fr0 hf0) hs hL)
  have A00 := Lib.hid a0
  have HF00 := Lib.hid hf0
  clear a0 hf0 hi hz0 hz1 hz2 hb hs
  refine (callsIn_wide (n := 3)).1 ?_
  refine callsIn_of_wp_marks Tryd.func27 rfl trivial ?_ rfl
  simp only [Tryd.ntmps27, List.size_toArray, List.length_cons, List.length_nil, Nat.reduceAdd, Nat.reduceSub, Array.replicate_succ, Array.replicate_zero, List.push_toArray, List.append_toArray, List.nil_append, List.cons_append]
  refine wpIn_wide.2 ?_
  go_wp2_with fail
  refine (C.out).mono ?_
  rintro e w2 ⟨q, a9, c9, ss, rfl, hq, hp, hsrt, ho, hqs, hf2⟩
  simp only [World.size_alloc] at hqs ho
  have A0 := Lib.hid (A00.out.fr hf2 (by simp))
  have HF0 := Lib.hid (HF00.out.trans0 hf2)
  have HP := Lib.hid hp
  have HS := Lib.hid hsrt
  have hLs : ss.length ≤ 1000000 := by rw [hp.length_eq]; exact hL
  have hq1 : q ≠ w.heap.size := by omega
  obtain ⟨bs, hst, hbs⟩ : ∃ bs : List Nat, SeqStopsK Fence.wide (3 - 1) Tryd.prog 82 #[.pointer (some ⟨q, 0, none⟩)] (fun x : Nat × Nat => #[rkey x]) (KpB bs) (fun xs => xs = ss) (fun _ => True) ss.length w2 ∧ (∀ k ∈ bs, k ≠ w.heap.size ∧ k < w2.heap.size) := by
    rcases rows_open ho with ⟨hv, h0⟩ | ⟨g, c, cur, hv, hbase, hA, h1, h2, h3, h4⟩
    · obtain rfl := List.eq_nil_of_length_eq_zero h0
      cases hv
      exact ⟨[], lvalues_none _ q [] w2 hq, by simp⟩
    · cases hv
      exact ⟨[q, g], lvalues_stops _ q g c9 cur ss w2 hq hA h4 hLs, fun k hk => by
        simp at hk
        rcases hk with rfl | rfl
        · exact ⟨hq1, hq.lt⟩
        · exact ⟨by omega, hA.lt⟩⟩
  clear C A00 HF00 hq hp hsrt ho hL hf2
  go_wp2
  refine (wpIn_wide (n := 3)).1 ?_
  refine wpIn_rangeFunc_ownH rfl (by omega) (gf := 82) (lb := #[.pointer (some ⟨q, 0, none⟩)]) rfl trivial (enters_of Tryd.func82 (by kernel_rfl) rfl) hst kpB_t kpB_b (Below.refl _ _) (fun _ => rfl)
    (fun pre V => ∃ sv, At V w.heap.size 34 #[sv] ∧ V.ownsRow w2.heap.size 31 2 sv pre.length (rgv pre) ∧ Fr [] w V ∧ w2.heap.size ≤ V.heap.size)
    (fun c pre V => False)
    (fun x A B row hs hg hr => by
      obtain ⟨sv, h1, h2, h4, h5⟩ := hs
      exact ⟨sv, atK_grown hg (fun r e => (hr r e).2) _ _ _ h1, own_grown h2 hg (fun r e => (hr r e).2), h4.row hg HF0.out.size hr, Nat.le_trans h5 hg.size⟩)
    (fun c x A B row hs hg hr => hs)
    ⟨.slice none 0 0, A0.out, World.ownsRow_nil _ _ _ _, HF0.out, Nat.le_refl _⟩
    (fun x a' V => ∃ k, a' = { tmps := #[.map (some b), undef, .slice none 0 0, .pointer (some ⟨w.heap.size, 0, none⟩), .pointer (some ⟨k, 0, none⟩), .map (some b), .func (.func 82) #[] #[.pointer (some ⟨q, 0, none⟩)], .agg #[.int .u32 x.1, .int .u32 x.2], undef, undef, undef, undef, undef], defers := [] } ∧ At V k 31 #[.int .u32 x.1, .int .u32 x.2])
    (fun x a' _ A B row hs hg hr => by
      obtain ⟨k, h1, h2⟩ := hs
      exact ⟨k, h1, atK_grown hg (fun r e => (hr r e).2) _ _ _ h2⟩)
    ?assign ?body ?done ?stop
  case assign =>
    intro l pre x V K hI hK
    obtain ⟨x1, x2⟩ := x
    unfold rkey
    gi_wp2
    have hfa : Fr [] V (V.alloc (.cells #[.int .u32 x1, .int .u32 x2] 31)) := (by repeat (first | exact Fr.refl _ _ | assumption | refine Fr.trans0 ?_ (by assumption) | refine Fr.drewN ?_ _ | refine Fr.alloc ?_ _ | refine Fr.drew ?_))
    obtain ⟨sv, h1, h2, h4, h5⟩ := hI
    exact hK _ _ ⟨hfa.size, fun k o _ hk _ => ((MapKept.heap_alloc V _).2 k (Array.getElem?_eq_some_iff.1 hk).1).trans hk⟩ (KpB.alloc _ _ _) ⟨sv, h1.fr hfa (by simp), own_fr0 h2 hfa, h4.trans0 hfa, Nat.le_trans h5 hfa.size⟩ ⟨V.heap.size, rfl, At.new _ _ _⟩
  case body =>
    rintro l pre ⟨y1, y2⟩ a' V hwl - ⟨sv, h0, h1, hF, h5⟩ ⟨k, rfl, hy⟩ hlen
    have hf1 : Fr [] V (V.alloc (.cells #[.int .u32 y1, .int .u32 y2] 31)) := (by repeat (first | exact Fr.refl _ _ | assumption | refine Fr.trans0 ?_ (by assumption) | refine Fr.drewN ?_ _ | refine Fr.alloc ?_ _ | refine Fr.drew ?_))
    have hVs := hF.size
    have N0 := Lib.hid (own_toList h1 h0 (show 34 ≠ 31 by decide))
    have c0 := h0.cell 0
    have k0 := hy.cell 0
    have k1 := hy.cell 1
    simp only [List.getElem?_toArray, List.getElem?_cons_zero, List.getElem?_cons_succ] at c0 k0 k1
    obtain ⟨a, c, rfl, hmc⟩ := own_slice h1
    have H0 := Lib.hid h0
    have H1 := Lib.hid h1
    have HF := Lib.hid hF
    have HF1 := Lib.hid hf1
    obtain ⟨m, hm⟩ : ∃ m, pre.length = m := ⟨_, rfl⟩
    rw [hm] at H1 c0 N0 H0
    have HM := Lib.hid hm
    have hml : m < 1000000 := by omega
    clear h0 h1 hF hf1 hm hlen hmc hy
    obtain ⟨hi, hz0, hz1, hz2⟩ := HI.out
    have hm1 : m + 1 ≤ maxLen := by unfold maxLen; omega
    have hm2 : (m + 1) * 8 ≤ 140737488355328 := by omega
    gi_wp2_with (refine wpListIn_append_own rfl (.tmp 8) (.tmp 10) 34 rfl w2.heap.size 31 i0 (.agg #[.int .u32 0, .int .u32 0]) 2 8 Tryd.underlying34 hi hz0 hz1 hz2 rfl (by omega) (.slice a m c) m (rgv pre) rfl (own_fr0 H1.out HF1.out) ⟨V.heap.size, 0, none⟩ 1 1 [.int .u32 y1, .int .u32 y2] rfl rfl (cells_two_new _ _ _ _) (by simp [Value.oneCell']) hm1 hm2 (by simp; omega) ?_; intro v' w' hown' hg hnn hat; have A0 := Lib.hid (At.fr (At.fr H0.out HF1.out (by simp)) (Fr.grown hg) N0.out); have d0 := A0.out.cell 0; have f0 := A0.out.froz 0; simp only [List.getElem?_toArray, List.getElem?_cons_zero] at d0; obtain ⟨a', c', rfl, hc'⟩ := own_slice hown'; have HO := Lib.hid hown'; have HG := Lib.hid hg; clear hown' hg hnn hat hc')
    have hfs : Fr (w.heap.size :: (Value.slice a m c).ownBlock.toList) V (w'.setCell ⟨w.heap.size, 0, none⟩ (.slice a' (m + 1) c')) :=
      ((HF1.out.more (T := w.heap.size :: (Value.slice a m c).ownBlock.toList) (by simp)).trans (Fr.grown HG.out) (fun k hk => .inl (List.mem_cons_of_mem _ hk))).set (.inl List.mem_cons_self) _
    have hsl : ∀ k ∈ (w.heap.size :: (Value.slice a m c).ownBlock.toList), w.heap.size ≤ k := fun k hk => by
      rcases List.mem_cons.1 hk with rfl | hk
      · exact Nat.le_refl _
      · have := (H1.out.lt k (Option.mem_toList.1 hk)).1
        have := HF0.out.size
        omega
    have hko : KeepsOthers V (w'.setCell ⟨w.heap.size, 0, none⟩ (.slice a' (m + 1) c')) := hfs.keepsFrom (fun k hk => by
      rcases List.mem_cons.1 hk with rfl | hk
      · exact ⟨_, _, H0.out⟩
      · exact own_at H1.out k hk)
    have hkb : KpB bs V (w'.setCell ⟨w.heap.size, 0, none⟩ (.slice a' (m + 1) c')) := kpB_fr hfs (fun b hb hm => by
      rcases List.mem_cons.1 hm with e | hm
      · exact (hbs b hb).1 e
      · have := (H1.out.lt b (Option.mem_toList.1 hm)).1
        have := (hbs b hb).2
        omega)
    refine ⟨hko.from _, hkb, .slice a' (m + 1) c', ?_, ?_, HF.out.trans hfs (fun k hk => .inr (hsl k hk)), Nat.le_trans h5 hfs.size⟩
    · exact A0.out.set 0 _
    · rw [rgv_snoc, List.length_append, HM.out]
      exact own_fr HO.out ((Fr.refl [w.heap.size] w').set (.inl (by simp)) _) (fun g hg2 => by
        have := own_ne HO.out A0.out (show 34 ≠ 31 by decide) g hg2
        simpa using this)
  case done =>
    rintro D xs V hD rfl ⟨sv, h0, h1, hF, h5⟩ hK
    have c0 := h0.cell 0
    simp only [List.getElem?_toArray, List.getElem?_cons_zero] at c0
    have HO := Lib.hid h1
    have HK := Lib.hid hK
    have HF := Lib.hid hF
    have hw2 := HF0.out.size
    have hDw : w.heap.size ≤ D := by omega
    clear h0 h1 hF hK
    go_wp2
    refine ⟨by simp, .inl ⟨_, _, rfl, run_takeDeferred HK.out, ?_⟩⟩
    exact ⟨sv, by simp [results, Tryd.results27, go_sem], sv, xs, rfl, HP.out, HS.out, own_grown (own_base HO.out hw2) (grownBy_putObj' V D _) (fun r e => by cases e; exact ⟨_, HK.out, rfl⟩), HF.out.putObj D _ hDw⟩
  case stop =>
    rintro D c pre V hD hpre h hK
    exact h.elim
theorem sorted_eq {ss L : List (Nat × Nat)} (hp : ss.Perm L) (hs : ss.Pairwise (fun a b => a.1 ≤ b.1)) (hL : L.Pairwise (fun a b => a.1 < b.1)) : ss = L := by
  induction L generalizing ss with
  | nil => exact hp.eq_nil
  | cons x L ih =>
    cases ss with
    | nil => exact absurd hp.symm.eq_nil (by simp)
    | cons y ss =>
      obtain ⟨h1, h2⟩ := List.pairwise_cons.1 hs
      obtain ⟨g1, g2⟩ := List.pairwise_cons.1 hL
      have e : y = x := by
        rcases List.mem_cons.1 (hp.mem_iff.1 List.mem_cons_self) with e | hy
        · exact e
        · rcases List.mem_cons.1 (hp.mem_iff.2 List.mem_cons_self) with e | hx
          · exact e.symm
          · have a1 := g1 y hy
            have a2 := h1 x hx
            omega
      subst e
      rw [ih (List.Perm.cons_inv hp) h2 g2]
theorem hlist_is {w : World} {b : Nat} {L : List (Nat × Nat)} (hb : Ms w b L) (hs : ∀ x ∈ L, x.1 < 4294967296) (hL : L.length ≤ 1000000) (hsr : L.Pairwise (fun a b => a.1 < b.1)) :
    Calls Tryd.prog 27 #[.map (some b)] w fun e w' => ∃ v, e = .returned v ∧ w'.ownsRow w.heap.size 31 2 v L.length (rgv L) ∧ Fr [] w w' :=
  (hlist_any hb hs hL).mono fun _ _ ⟨v, ss, he, hp, hs, ho, hf⟩ => by
    obtain rfl := sorted_eq hp hs hsr
    exact ⟨v, he, ho, hf⟩
end Go.Proofs.YtdbpmojblgmhdaaDoor
