/-
  What the reference of layer 13 computes: Drop, with, Put. Condition: at most 1024 pages, 16 slots.
-/



import Derived.Test.YtggcmeoafbmckaaDoorRef2
import Derived.Deep.RegionHeld3
set_option linter.unusedVariables false
namespace Go.Proofs.YtggcmeoafbmckaaDoor
open Go.ChangeShapes Go.WideShapes Go.ChangeAt Go.RowKit
theorem pcs_went (P : List (Nat × Value)) (k : Nat) : pcs (P.take k ++ P.drop (k + 1)) = pcs (P.take k) ++ pcs (P.drop (k + 1)) := pcs_append _ _
set_option maxHeartbeats 1000000 in
set_option maxRecDepth 100000 in
theorem r13drop_no {w : World} {per : Nat} {v : Value} {P : List (Nat × Value)} (h : Rp 0 w v P) (p : Int) (hw : ∀ W, Fr [] w W → Calls Tryd.prog 23 #[.agg #[.int .i64 per, v], .int .i64 p] W fun r w' => r = .returned (.bool false) ∧ Fr [] W w') :
    Calls Tryd.prog 20 #[.agg #[.int .i64 per, v], .int .i64 p] w fun r w' => r = .returned (.tuple #[.agg #[.int .i64 per, v], .bool false]) ∧ Fr [] w w' := by
  have C := Lib.hid hw
  obtain ⟨av, cv, rfl, hcv⟩ := own_slice h
  obtain ⟨L, hL⟩ : ∃ L, P.length = L := ⟨_, rfl⟩
  rw [hL] at C hcv ⊢
  clear h hL hw
  go_enter Tryd.func20, Tryd.ntmps20
  go_wp2_with fail
  refine Calls.mono (C.out _ ?_) ?_
  · exact (by repeat (first | exact Fr.refl _ _ | assumption | refine Fr.trans0 ?_ (by assumption) | refine Fr.drewN ?_ _ | refine Fr.alloc ?_ _ | refine Fr.drew ?_))
  rintro e w2 ⟨rfl, hf2⟩
  have F2 : Fr [] w w2 := Fr.trans0 (by repeat (first | exact Fr.refl _ _ | assumption | refine Fr.trans0 ?_ (by assumption) | refine Fr.drewN ?_ _ | refine Fr.alloc ?_ _ | refine Fr.drew ?_)) hf2
  have a0 := (At.new w 43 #[.int .i64 per, .slice av L cv]).fr (S := []) (w' := w2) (Fr.trans0 (by repeat (first | exact Fr.refl _ _ | assumption | refine Fr.trans0 ?_ (by assumption) | refine Fr.drewN ?_ _ | refine Fr.alloc ?_ _ | refine Fr.drew ?_)) hf2) (by simp)
  have a1 := (At.new (w.alloc (.cells #[.int .i64 per, .slice av L cv] 43)) 43 #[.int .i64 0, .slice none 0 0]).fr (S := []) (w' := w2) (Fr.trans0 (by repeat (first | exact Fr.refl _ _ | assumption | refine Fr.trans0 ?_ (by assumption) | refine Fr.drewN ?_ _ | refine Fr.alloc ?_ _ | refine Fr.drew ?_)) hf2) (by simp)
  simp only [World.size_alloc] at a1
  have c0 := a0.cell 0
  have c1 := a0.cell 1
  have d0 := a1.cell 0
  have d1 := a1.cell 1
  have f0 := a1.froz 0
  have f1 := a1.froz 1
  have q := (a1.set 0 (.int .i64 per)).set 1 (.slice av L cv)
  have q0 := q.cell 0
  have q1 := q.cell 1
  simp only [List.getElem?_toArray, List.getElem?_cons_zero, List.getElem?_cons_succ] at c0 c1 d0 d1
  simp only [List.getElem?_toArray, List.getElem?_cons_zero, List.getElem?_cons_succ, List.setIfInBounds_toArray, List.set_cons_zero, List.set_cons_succ] at q0 q1
  clear hf2 a0 a1 q
  go_wp2
  exact bodyPost_ret (v := .tuple #[.agg #[.int .i64 per, .slice av L cv], .bool false]) (by simp [results, Tryd.results20, go_sem, q0, q1]) rfl ⟨rfl, (F2.set (.inr (by show w.heap.size ≤ w.heap.size + 1; omega)) _).set (.inr (by show w.heap.size ≤ w.heap.size + 1; omega)) _⟩
set_option maxHeartbeats 1000000 in
set_option maxRecDepth 100000 in
theorem r13drop_yes {w : World} {per : Nat} {v : Value} {P : List (Nat × Value)} (h : Rp 0 w v P) (hS : ∀ x ∈ P, SlV x.2) (hP : P.length ≤ 1024) (p : Int) (k : Nat) (hk : fnd (P.map (·.1)) p = k) (hi : fis (P.map (·.1)) p = true) (hkl : k < P.length)
    (hw : ∀ W, Fr [] w W → Calls Tryd.prog 23 #[.agg #[.int .i64 per, v], .int .i64 p] W fun r w' => r = .returned (.bool true) ∧ Fr [] W w') :
    Calls Tryd.prog 20 #[.agg #[.int .i64 per, v], .int .i64 p] w fun r w' => ∃ v', r = .returned (.tuple #[.agg #[.int .i64 per, v'], .bool true]) ∧ Rp 0 w' v' (P.take k ++ P.drop (k + 1)) ∧ Fr [] w w' := by
  obtain ⟨i0, hii, hz0, hz1, hz2⟩ := info_parts infoPg
  have CW := Lib.hid hw
  have C := Lib.hid fun (W : World) (hW : Fr [] w W) => r13find_any (per := per) (own_fr0 h hW) hP p
  rw [hk, hi] at C
  clear hk hi hw
  obtain ⟨s1, hr1, hs1⟩ := slice_upto (P := Tryd.prog) Tryd.underlying41 infoPgS h k (by omega)
  obtain ⟨s2, hr2, hs2⟩ := slice_from (P := Tryd.prog) Tryd.underlying41 infoPgS h (k + 1) (by omega)
  rw [pcs_take P k (by omega)] at hs1
  rw [pcs_drop P (k + 1) (by omega)] at hs2
  have l1 : (pcs (P.take k)).length = k * 2 := by rw [pcs_len, List.length_take, Nat.min_eq_left (by omega)]
  have l2 : (pcs (P.drop (k + 1))).length = (P.length - (k + 1)) * 2 := by rw [pcs_len, List.length_drop]
  have o1 := Lib.hid (pcs_one (P.take k) fun x hx => hS x (List.mem_of_mem_take hx))
  have o2 := Lib.hid (pcs_one (P.drop (k + 1)) fun x hx => hS x (List.mem_of_mem_drop hx))
  have L1 := Lib.hid l1
  have L2 := Lib.hid l2
  have HS1 := Lib.hid hs1
  have HS2 := Lib.hid hs2
  rw [show ((k + 1 : Nat) : Int) = (k : Int) + 1 by omega] at hr2
  obtain ⟨av, cv, rfl, hcv⟩ := own_slice h
  obtain ⟨L, hL⟩ : ∃ L, P.length = L := ⟨_, rfl⟩
  have HL := Lib.hid hL
  rw [hL] at C CW hP hkl hr1 hr2 L2 HS2 hcv ⊢
  clear h hS l1 l2 hs1 hs2 hL
  go_enter Tryd.func20, Tryd.ntmps20
  go_wp2_with fail
  refine Calls.mono (CW.out _ ?_) ?_
  · exact (by repeat (first | exact Fr.refl _ _ | assumption | refine Fr.trans0 ?_ (by assumption) | refine Fr.drewN ?_ _ | refine Fr.alloc ?_ _ | refine Fr.drew ?_))
  rintro e w1 ⟨rfl, hf1⟩
  have F1 : Fr [] w w1 := Fr.trans0 (by repeat (first | exact Fr.refl _ _ | assumption | refine Fr.trans0 ?_ (by assumption) | refine Fr.drewN ?_ _ | refine Fr.alloc ?_ _ | refine Fr.drew ?_)) hf1
  have b0 := (At.new w 43 #[.int .i64 per, .slice av L cv]).fr (S := []) (w' := w1) (Fr.trans0 (by repeat (first | exact Fr.refl _ _ | assumption | refine Fr.trans0 ?_ (by assumption) | refine Fr.drewN ?_ _ | refine Fr.alloc ?_ _ | refine Fr.drew ?_)) hf1) (by simp)
  have b1 := (At.new (w.alloc (.cells #[.int .i64 per, .slice av L cv] 43)) 43 #[.int .i64 0, .slice none 0 0]).fr (S := []) (w' := w1) (Fr.trans0 (by repeat (first | exact Fr.refl _ _ | assumption | refine Fr.trans0 ?_ (by assumption) | refine Fr.drewN ?_ _ | refine Fr.alloc ?_ _ | refine Fr.drew ?_)) hf1) (by simp)
  simp only [World.size_alloc] at b1
  have c0 := b0.cell 0
  have c1 := b0.cell 1
  simp only [List.getElem?_toArray, List.getElem?_cons_zero, List.getElem?_cons_succ] at c0 c1
  have B0 := Lib.hid b0
  have B1 := Lib.hid b1
  have HF1 := Lib.hid F1
  clear hf1 F1 b0 b1 CW
  go_wp2_with fail
  refine Calls.mono (C.out _ HF1.out) ?_
  rintro e w2 ⟨rfl, hf2⟩
  have A0 := Lib.hid (B0.out.fr hf2 (by simp))
  have A1 := Lib.hid (B1.out.fr hf2 (by simp))
  have HF2 := Lib.hid (HF1.out.trans0 hf2)
  have c0 := A0.out.cell 0
  have c1 := A0.out.cell 1
  simp only [List.getElem?_toArray, List.getElem?_cons_zero, List.getElem?_cons_succ] at c0 c1
  have hsz2 := HF2.out.size
  clear hf2 C HF1 B0 B1
  go_wp2_with (first | (at_builtin; (refine wpList_append_src rfl (.tmp 20) (.tmp 24) 41 rfl w.heap.size 78 i0 (.agg #[.int .i64 0, .slice none 0 0]) 2 32 Tryd.underlying41 hii hz0 hz1 hz2 rfl (by omega) (.slice none 0 0) 0 [] ?_ (World.ownsRow_nil _ _ _ _) s1 k (pcs (P.take k)) ?_ (HS1.out.fr0 HF2.out) L1.out o1.out ?_ ?_ ?_ ?_); (rfl); (rfl); (unfold maxLen; omega); (omega); (first | omega | (simp; omega)); intro v1 w3 hown1 hg1 _; simp only [List.nil_append, Nat.zero_add] at hown1; have hf3 : Fr [] w2 w3 := Fr.grown hg1; have HO1 := Lib.hid hown1; have A03 := Lib.hid (A0.out.fr hf3 (by simp)); have A13 := Lib.hid (A1.out.fr hf3 (by simp)); have HF3 := Lib.hid (HF2.out.trans0 hf3); have c0 := A03.out.cell 0; have c1 := A03.out.cell 1; simp only [List.getElem?_toArray, List.getElem?_cons_zero, List.getElem?_cons_succ] at c0 c1; have hsz3 := HF3.out.size; clear hown1 hg1 hf3) | (at_builtin; (refine wpList_append_src rfl (.tmp 26) (.tmp 31) 41 rfl w.heap.size 78 i0 (.agg #[.int .i64 0, .slice none 0 0]) 2 32 Tryd.underlying41 hii hz0 hz1 hz2 rfl (by omega) v1 k (pcs (P.take k)) ?_ HO1.out s2 (L - (k + 1)) (pcs (P.drop (k + 1))) ?_ (HS2.out.fr0 HF3.out) L2.out o2.out ?_ ?_ ?_ ?_); (rfl); (rfl); (unfold maxLen; omega); (omega); (first | omega | (simp; omega)); intro v3 w6 hown3 hg3 _; have HF6 := Lib.hid (HF3.out.app hg3 HO1.out (Nat.le_refl _)); have A06 := Lib.hid (A03.out.fr (Fr.grown hg3) (own_toList HO1.out A03.out (by decide))); have A16 := Lib.hid (A13.out.fr (Fr.grown hg3) (own_toList HO1.out A13.out (by decide))); have HO6 := Lib.hid hown3; have c0 := A06.out.cell 0; have f0 := A16.out.froz 0; have f1 := A16.out.froz 1; have d0 := A16.out.cell 0; have d1 := A16.out.cell 1; have q := (A16.out.set 0 (.int .i64 per)).set 1 v3; have q0 := q.cell 0; have q1 := q.cell 1; simp only [List.getElem?_toArray, List.getElem?_cons_zero, List.getElem?_cons_succ] at c0 d0 d1; simp only [List.getElem?_toArray, List.getElem?_cons_zero, List.getElem?_cons_succ, List.setIfInBounds_toArray, List.set_cons_zero, List.set_cons_succ] at q0 q1; obtain ⟨av3, cv3, rfl, hcv3⟩ := own_slice hown3; clear hown3 hg3 q))
  have hfs : Fr [w.heap.size + 1] w6 ((w6.setCell ⟨w.heap.size + 1, 0, none⟩ (.int .i64 per)).setCell ⟨w.heap.size + 1, 1, none⟩ (.slice av3 (k + (L - (k + 1))) cv3)) := ((Fr.refl _ _).set (.inl (by simp)) _).set (.inl (by simp)) _
  refine bodyPost_ret (v := .tuple #[.agg #[.int .i64 per, .slice av3 (k + (L - (k + 1))) cv3], .bool true]) (by simp [results, Tryd.results20, go_sem, q0, q1]) rfl ⟨_, rfl, ?_, ?_⟩
  · have hr := own_base (own_fr HO6.out hfs (fun g hg hm => by simp at hm; exact own_ne HO6.out A16.out (by decide) g hg hm)) (Nat.zero_le w.heap.size)
    unfold Rp
    rw [pcs_went, show (P.take k ++ P.drop (k + 1)).length = k + (L - (k + 1)) by simp only [List.length_append, List.length_take, List.length_drop, HL.out]; omega]
    exact hr
  · exact HF6.out.trans hfs (by simp)
/-! ### with -/
theorem bls_set (n : Nat) (f : Nat → Bool) (i : Nat) (x : Bool) : (bls n f).set i (.bool x) = bls n (upd f i x) := by
  refine List.ext_getElem? fun j => ?_
  rw [List.getElem?_set]
  by_cases hj : j < n
  · rw [bls_get _ _ _ hj, bls_get _ _ _ hj, bls_len]
    unfold upd
    by_cases e : i = j
    · subst e; simp [hj]
    · rw [if_neg e, if_neg (fun h => e h.symm)]
  · have h1 : ∀ g, (bls n g)[j]? = none := fun g => List.getElem?_eq_none (by rw [bls_len]; omega)
    rw [h1, h1, bls_len]
    by_cases e : i = j
    · subst e; simp [hj]
    · rw [if_neg e]
theorem own_setS {w : World} {b : Nat} {e : TypeId} {size n : Nat} {v : Value} {xs : List Value} (h : w.ownsRow b e size v n xs) {g c : Nat} (hv : v = .slice (some ⟨g, 0, none⟩) n c) (k : Nat) (u : Value) : (w.setCell ⟨g, k, none⟩ u).ownsRow b e size v n (xs.set k u) := by
  subst hv
  rcases h.2 with ⟨h0, _⟩ | ⟨g', cap, cur, h0, hbg, h1, h2, h3, h4, h5⟩
  · cases h0
  · injection h0 with ha _ hc
    injection ha with ha
    injection ha with ha
    subst ha hc
    refine ⟨by rw [List.length_set]; exact h.1, .inr ⟨g, c, cur.setIfInBounds k u, rfl, hbg, At.set h1 k u, h2, h3, by simpa using h4, ?_⟩⟩
    rw [← h5]
    simp [List.take_set]
theorem pcs_set1 (P : List (Nat × Value)) (k n : Nat) (u : Value) (hk : k < P.length) : ((pcs P).set (k * 2) (.int .i64 (n : Nat))).set (k * 2 + 1) u = pcs (P.set k (n, u)) := pcs_set P k n u hk
set_option maxHeartbeats 2000000 in
set_option maxRecDepth 100000 in
theorem r13with_any {w : World} {per : Nat} {v : Value} {P : List (Nat × Value)} (h : Rp 0 w v P) (hS : ∀ x ∈ P, SlV x.2) (hP : P.length ≤ 1024) (k n : Nat) (u : Value) (f : Nat → Bool) (hx : P[k]? = some (n, u)) (hu : Bs 0 w u per f) (hper : per ≤ 16) (s : Nat) (hs : s < per) (b : Bool) :
    Calls Tryd.prog 38 #[.agg #[.int .i64 per, v], .int .i64 k, .int .i64 s, .bool b] w fun r w' => ∃ v' u', r = .returned (.agg #[.int .i64 per, v']) ∧ Rp 0 w' v' (P.set k (n, u')) ∧ Bs 0 w' u' per (upd f s b) ∧ Fr [] w w' := by
  obtain ⟨i0, hii, hz0, hz1, hz2⟩ := info_parts infoPg
  obtain ⟨j0, hjj, hy0, hy1, hy2⟩ := info_parts infoB
  have hkl := (List.getElem?_eq_some_iff.1 hx).1
  have hpl := pcs_len P
  have HO1 := Lib.hid (pcs_one P hS)
  have HG := Lib.hid (pcs_get P k _ hx)
  have HSr := Lib.hid (SrcAt.own h)
  have HUr := Lib.hid (SrcAt.own hu)
  have HBL := Lib.hid (bls_len per f)
  have HBO := Lib.hid (bls_one per f)
  have HSet := Lib.hid fun u' => pcs_set P k n u' hkl
  obtain ⟨av, cv, rfl, hcv⟩ := own_slice h
  obtain ⟨au, cu, rfl, hcu⟩ := own_slice hu
  obtain ⟨L, hL⟩ : ∃ L, P.length = L := ⟨_, rfl⟩
  have HL := Lib.hid hL
  rw [hL] at hP hkl HSr hpl hcv ⊢
  have HPL := Lib.hid hpl
  have f0 : Fr [] w ((w.alloc (.cells #[.int .i64 per, .slice av L cv] 43)).alloc (.cells #[.int .i64 0, .slice none 0 0] 43)) := (by repeat (first | exact Fr.refl _ _ | assumption | refine Fr.trans0 ?_ (by assumption) | refine Fr.drewN ?_ _ | refine Fr.alloc ?_ _ | refine Fr.drew ?_))
  have a0 := (At.new w 43 #[.int .i64 per, .slice av L cv]).old (.cells #[.int .i64 0, .slice none 0 0] 43)
  have a1 := At.new (w.alloc (.cells #[.int .i64 per, .slice av L cv] 43)) 43 #[.int .i64 0, .slice none 0 0]
  simp only [World.size_alloc] at a1
  have A0 := Lib.hid a0
  have A1 := Lib.hid a1
  have HF0 := Lib.hid f0
  clear h hu hS hx hpl f0 a0 a1 hL
  go_enter Tryd.func38, Tryd.ntmps38
  go_wp2_with (first | (at_builtin; (refine wpList_append_src rfl (.tmp 11) (.tmp 13) 41 rfl w.heap.size 78 i0 (.agg #[.int .i64 0, .slice none 0 0]) 2 32 Tryd.underlying41 hii hz0 hz1 hz2 rfl (by omega) (.slice none 0 0) 0 [] ?_ (World.ownsRow_nil _ _ _ _) (.slice av L cv) L (pcs P) ?_ (HSr.out.fr0 HF0.out) HPL.out HO1.out ?_ ?_ ?_ ?_); (rfl); (rfl); (unfold maxLen; omega); (omega); (first | omega | (simp; omega)); intro v1 w3 hown1 hg1 _; simp only [List.nil_append, Nat.zero_add] at hown1; obtain ⟨g1, c1, rfl, hc1, hg1b, hg1w, hcl1, hfz1⟩ := own_openS hown1 (by omega); have hf3 : Fr [] _ w3 := Fr.grown hg1; have R3 := Lib.hid hown1; have A03 := Lib.hid (A0.out.fr hf3 (by simp)); have A13 := Lib.hid (A1.out.fr hf3 (by simp)); have HF3 := Lib.hid (HF0.out.trans0 hf3); have k1 := (hcl1 (k * 2 + 1) (by omega)).trans HG.out.2; dsimp only at k1; have hsz3 := HF3.out.size; clear hown1 hg1 hf3 hcl1 hfz1) | (at_builtin; (refine wpList_append_src rfl (.tmp 15) (.tmp 20) 75 rfl w.heap.size 4 j0 (.bool false) 1 1 Tryd.underlying75 hjj hy0 hy1 hy2 rfl (by omega) (.slice none 0 0) 0 [] ?_ (World.ownsRow_nil _ _ _ _) (.slice au per cu) per (bls per f) ?_ (HUr.out.fr0 HF3.out) (by rw [HBL.out, Nat.mul_one]) HBO.out ?_ ?_ ?_ ?_); (rfl); (rfl); (unfold maxLen; omega); (omega); (first | omega | (simp; omega)); intro v2 w4 hown2 hg2 _; simp only [List.nil_append, Nat.zero_add] at hown2; obtain ⟨g2, c2, rfl, hc2, hg2b, hg2w, hcl2, hfz2⟩ := own_open hown2 (by omega); have hf4 : Fr [] w3 w4 := Fr.grown hg2; have hR4 := own_fr0 R3.out hf4; have hA04 := A03.out.fr hf4 (by simp); have hA14 := A13.out.fr hf4 (by simp); have n12 := own_apart hR4 hown2 (by decide) g1 rfl; simp only [Value.ownBlock, Option.toList_some, List.mem_singleton] at n12; have n01 := own_ne hR4 hA04 (by decide) g1 rfl; have n11 := own_ne hR4 hA14 (by decide) g1 rfl; have n02 := own_ne hown2 hA04 (by decide) g2 rfl; have n13 := own_ne hown2 hA14 (by decide) g2 rfl; have e2 := (hcl2 s hs).trans (bls_get per f s hs); have f2 := hfz2 s; have hR5 := own_fr hR4 ((Fr.refl [g2] w4).set (a := ⟨g2, s, none⟩) (.inl (by simp)) (.bool b)) (fun g hg hm => by simp [Value.ownBlock] at hg hm; omega); obtain ⟨gq, cq, hgq, hcq, hgqb, hgqw, hclq, hfzq⟩ := own_openS hR5 (by omega); injection hgq with hgq1 hgq2 hgq3; injection hgq1 with hgq1; injection hgq1 with hgq1; subst hgq1 hgq3; have k0 := (hclq (k * 2) (by omega)).trans HG.out.1; have k1 := (hclq (k * 2 + 1) (by omega)).trans HG.out.2; have z0 := hfzq (k * 2); have z1 := hfzq (k * 2 + 1); dsimp only at k0 k1; have hR7 := own_setS (own_setS hR5 rfl (k * 2) (.int .i64 n)) rfl (k * 2 + 1) (.slice (some ⟨g2, 0, none⟩) per c2); rw [HSet.out] at hR7; have hA07 := ((hA04.far (a := ⟨g2, s, none⟩) n02.symm (.bool b)).far (a := ⟨g1, k * 2, none⟩) n01.symm (.int .i64 n)).far (a := ⟨g1, k * 2 + 1, none⟩) n01.symm (.slice (some ⟨g2, 0, none⟩) per c2); have hA17 := ((hA14.far (a := ⟨g2, s, none⟩) n13.symm (.bool b)).far (a := ⟨g1, k * 2, none⟩) n11.symm (.int .i64 n)).far (a := ⟨g1, k * 2 + 1, none⟩) n11.symm (.slice (some ⟨g2, 0, none⟩) per c2); have c0 := hA07.cell 0; have d0 := hA17.cell 0; have d1 := hA17.cell 1; have f0 := hA17.froz 0; have f1 := hA17.froz 1; have q := (hA17.set 0 (.int .i64 per)).set 1 (.slice (some ⟨g1, 0, none⟩) L c1); have q0 := q.cell 0; have q1 := q.cell 1; simp only [List.getElem?_toArray, List.getElem?_cons_zero, List.getElem?_cons_succ] at c0 d0 d1; simp only [List.getElem?_toArray, List.getElem?_cons_zero, List.getElem?_cons_succ, List.setIfInBounds_toArray, List.set_cons_zero, List.set_cons_succ] at q0 q1; have R7 := Lib.hid hR7; have A17 := Lib.hid hA17; have V4 := Lib.hid hown2; have HF4 := Lib.hid (HF3.out.trans0 hf4); have hsz4 := HF4.out.size; clear hown2 hg2 hf4 hR4 hR5 hR7 hA04 hA14 hA07 hA17 hcl2 hfz2 hclq hfzq q))
  have hfs : Fr [w.heap.size + 1] (((w4.setCell ⟨g2, s, none⟩ (.bool b)).setCell ⟨g1, k * 2, none⟩ (.int .i64 n)).setCell ⟨g1, k * 2 + 1, none⟩ (.slice (some ⟨g2, 0, none⟩) per c2)) (((((w4.setCell ⟨g2, s, none⟩ (.bool b)).setCell ⟨g1, k * 2, none⟩ (.int .i64 n)).setCell ⟨g1, k * 2 + 1, none⟩ (.slice (some ⟨g2, 0, none⟩) per c2)).setCell ⟨w.heap.size + 1, 0, none⟩ (.int .i64 per)).setCell ⟨w.heap.size + 1, 1, none⟩ (.slice (some ⟨g1, 0, none⟩) L c1)) := ((Fr.refl _ _).set (.inl (by simp)) _).set (.inl (by simp)) _
  refine bodyPost_ret (v := .agg #[.int .i64 per, .slice (some ⟨g1, 0, none⟩) L c1]) (by simp [results, Tryd.results38, go_sem, q0, q1]) rfl ⟨_, rfl, .slice (some ⟨g2, 0, none⟩) per c2, ?_, ?_, ?_⟩
  · have hr := own_base (own_fr R7.out hfs (fun g hg hm => by simp [Value.ownBlock] at hg hm; omega)) (Nat.zero_le w.heap.size)
    unfold Rp
    rw [List.length_set, HL.out]
    exact hr
  · have hv := own_set V4.out rfl s (.bool b)
    rw [bls_set] at hv
    have hf : Fr [g1] (w4.setCell ⟨g2, s, none⟩ (.bool b)) (((w4.setCell ⟨g2, s, none⟩ (.bool b)).setCell ⟨g1, k * 2, none⟩ (.int .i64 n)).setCell ⟨g1, k * 2 + 1, none⟩ (.slice (some ⟨g2, 0, none⟩) per c2)) := ((Fr.refl _ _).set (.inl (by simp)) _).set (.inl (by simp)) _
    exact own_base (own_fr (own_fr hv hf (fun g hg hm => by simp [Value.ownBlock] at hg hm; omega)) hfs (fun g hg hm => by simp [Value.ownBlock] at hg hm; omega)) (Nat.zero_le _)
  · exact ((((HF4.out.set (.inr hg2b) _).set (.inr hg1b) _).set (.inr hg1b) _).trans hfs (by simp))
end Go.Proofs.YtggcmeoafbmckaaDoor
