/-
  What Begin, End, and what a yard tells do. Condition: numbers in their types' ranges.
-/
import Derived.Deep.CutBlock
import Derived.Deep.DeepCutAuto
import Derived.Lib.TrailingZeros
import Derived.Test.YthjbnbimfpbccaaGreatDoorJ5



set_option linter.unusedVariables false
namespace Go.Proofs.YthjbnbimfpbccaaGreatDoor
open Go.ChangeShapes Go.WideShapes Go.ChangeAt Go.RowKit
theorem Lt.fr1 {w w' : World} {v : Value} {a b c n y : Nat} {l : List (Nat × Nat)} {cs : Array Value} (h : Lt w v a b c n l) (hy : At w y 119 cs) (f : Fr [y] w w') : Lt w' v a b c n l := by
  obtain ⟨n1, n2, n3⟩ := Pt.apart h.pt hy
  exact h.fr f (by simpa using n1) (by simpa using n2) (by simpa using n3) (fun g hg => by have := own_ne h.own hy (by decide) g hg; simpa using this)
theorem Lt.lt {w : World} {v : Value} {a b c n : Nat} {l : List (Nat × Nat)} (h : Lt w v a b c n l) : a < w.heap.size ∧ b < w.heap.size ∧ c < w.heap.size := h.pt.lt
theorem qsweep_any {w : World} {s : YS} (h : Yd w s) : Calls Tryz.prog 38 #[.pointer (some ⟨s.y, 0, none⟩)] w fun r w' => r = .returned (.bool s.un) ∧ w = w' := by
  have HN := Lib.hid (qnone_any h)
  have H := Lib.hid h
  have hat := h.at_
  have hfew := h.few
  have hup := h.up
  have hn2 := h.wt.pt.2.2.2.2
  unfold YS.cells at hat
  obtain ⟨y, n, ep, un, wv, a, b, c, lw, bv, a', b', c', lb⟩ := s
  dsimp only at *
  obtain ⟨N, hNN⟩ : ∃ N, 16 * n = N := ⟨_, rfl⟩
  rw [hNN] at hat
  have HNN := Lib.hid hNN
  have Y0 := Lib.hid hat
  clear hNN
  have c0 := hat.cell 0
  have c1 := hat.cell 1
  have c2 := hat.cell 2
  have c3 := hat.cell 3
  have c4 := hat.cell 4
  have c5 := hat.cell 5
  have c6 := hat.cell 6
  simp only [List.getElem?_toArray, List.getElem?_cons_zero, List.getElem?_cons_succ] at c0 c1 c2 c3 c4 c5 c6
  clear hat h
  go_enter Tryz.func38, Tryz.ntmps38
  go_wp2_with fail
  refine (HN.out).mono ?_
  rintro e w' ⟨rfl, rfl⟩
  go_wp2_with fail
  go_ret
  exact ⟨rfl, rfl⟩
def endN (s : YS) : Int := if s.un = true then (s.ep : Int) - 1 else s.ep
def tick (s : YS) : Int := if 0 < s.lw.length then (s.ep : Int) + 1 else if 0 < s.lb.length then s.ep else endN s
theorem qpaint_any {w : World} {s : YS} (h : Yd w s) : Calls Tryz.prog 43 #[.pointer (some ⟨s.y, 0, none⟩)] w fun r w' => ∃ p q g, r = .returned (.pointer (some ⟨p, 0, none⟩)) ∧ Pt w' p q g s.n (cov s.lb) ∧ (w.heap.size ≤ p ∧ w.heap.size ≤ q ∧ w.heap.size ≤ g) ∧ Fr [] w w' := by
  have HC := Lib.hid (ptcopy_any w s.a' s.b' s.c' s.n (cov s.lb) h.bt.pt)
  have HN := Lib.hid (qnone_any h)
  have H := Lib.hid h
  have hat := h.at_
  have hfew := h.few
  have hup := h.up
  have hn2 := h.wt.pt.2.2.2.2
  unfold YS.cells at hat
  obtain ⟨y, n, ep, un, wv, a, b, c, lw, bv, a', b', c', lb⟩ := s
  dsimp only at *
  obtain ⟨N, hNN⟩ : ∃ N, 16 * n = N := ⟨_, rfl⟩
  rw [hNN] at hat
  have HNN := Lib.hid hNN
  have Y0 := Lib.hid hat
  clear hNN
  have c0 := hat.cell 0
  have c1 := hat.cell 1
  have c2 := hat.cell 2
  have c3 := hat.cell 3
  have c4 := hat.cell 4
  have c5 := hat.cell 5
  have c6 := hat.cell 6
  simp only [List.getElem?_toArray, List.getElem?_cons_zero, List.getElem?_cons_succ] at c0 c1 c2 c3 c4 c5 c6
  clear hat h
  go_enter Tryz.func43, Tryz.ntmps43
  go_wp2_with fail
  refine (HN.out).mono ?_
  rintro e w' ⟨rfl, rfl⟩
  go_wp2_with fail
  refine (HC.out).mono ?_
  rintro e w2 ⟨p, q, g, rfl, hp, h1, h2, h3, hf⟩
  have HP := Lib.hid hp
  clear hp
  go_wp2_with fail
  go_ret
  exact ⟨p, q, g, rfl, HP.out, ⟨h1, h2, h3⟩, hf⟩
theorem qbegin_no {w : World} {s : YS} (h : Yd w s) (hu : s.un = true) : Calls Tryz.prog 46 #[.pointer (some ⟨s.y, 0, none⟩)] w fun r w' => r = .returned (.tuple #[.int .u64 0, .bool false]) ∧ w = w' := by
  have HN := Lib.hid (qnone_any h)
  have H := Lib.hid h
  have hat := h.at_
  have hfew := h.few
  have hup := h.up
  have hn2 := h.wt.pt.2.2.2.2
  unfold YS.cells at hat
  obtain ⟨y, n, ep, un, wv, a, b, c, lw, bv, a', b', c', lb⟩ := s
  dsimp only at *
  obtain ⟨N, hNN⟩ : ∃ N, 16 * n = N := ⟨_, rfl⟩
  rw [hNN] at hat
  have HNN := Lib.hid hNN
  have Y0 := Lib.hid hat
  clear hNN
  have c0 := hat.cell 0
  have c1 := hat.cell 1
  have c2 := hat.cell 2
  have c3 := hat.cell 3
  have c4 := hat.cell 4
  have c5 := hat.cell 5
  have c6 := hat.cell 6
  simp only [List.getElem?_toArray, List.getElem?_cons_zero, List.getElem?_cons_succ] at c0 c1 c2 c3 c4 c5 c6
  clear hat h
  subst hu
  go_enter Tryz.func46, Tryz.ntmps46
  go_wp2_with fail
  refine (HN.out).mono ?_
  rintro e w' ⟨rfl, rfl⟩
  go_wp2_with fail
  go_ret2
  exact ⟨rfl, rfl⟩
theorem qend_no {w : World} {s : YS} (h : Yd w s) (hu : s.un = false) : Calls Tryz.prog 55 #[.pointer (some ⟨s.y, 0, none⟩)] w fun r w' => r = .returned (.slice none 0 0) ∧ w = w' := by
  have HN := Lib.hid (qnone_any h)
  have H := Lib.hid h
  have hat := h.at_
  have hfew := h.few
  have hup := h.up
  have hn2 := h.wt.pt.2.2.2.2
  unfold YS.cells at hat
  obtain ⟨y, n, ep, un, wv, a, b, c, lw, bv, a', b', c', lb⟩ := s
  dsimp only at *
  obtain ⟨N, hNN⟩ : ∃ N, 16 * n = N := ⟨_, rfl⟩
  rw [hNN] at hat
  have HNN := Lib.hid hNN
  have Y0 := Lib.hid hat
  clear hNN
  have c0 := hat.cell 0
  have c1 := hat.cell 1
  have c2 := hat.cell 2
  have c3 := hat.cell 3
  have c4 := hat.cell 4
  have c5 := hat.cell 5
  have c6 := hat.cell 6
  simp only [List.getElem?_toArray, List.getElem?_cons_zero, List.getElem?_cons_succ] at c0 c1 c2 c3 c4 c5 c6
  clear hat h
  subst hu
  go_enter Tryz.func55, Tryz.ntmps55
  go_wp2_with fail
  refine (HN.out).mono ?_
  rintro e w' ⟨rfl, rfl⟩
  go_wp2_with fail
  go_ret
  exact ⟨rfl, rfl⟩
set_option maxHeartbeats 2000000 in
set_option maxRecDepth 100000 in
theorem qend_yes {w : World} {s : YS} (h : Yd w s) (hu : s.un = true) : Calls Tryz.prog 55 #[.pointer (some ⟨s.y, 0, none⟩)] w fun r w' => ∃ p q g, r = .returned s.bv ∧ Yd w' { s with un := false, bv := .slice none 0 0, a' := p, b' := q, c' := g, lb := [] } ∧ (w.heap.size ≤ p ∧ w.heap.size ≤ q ∧ w.heap.size ≤ g) ∧ Fr [s.y] w w' := by
  have C := Lib.hid fun W => fresh_any s.n W h.wt.pt.2.2.2.2
  have HN := Lib.hid (qnone_any h)
  have H := Lib.hid h
  have hat := h.at_
  have hfew := h.few
  have hup := h.up
  have hn2 := h.wt.pt.2.2.2.2
  unfold YS.cells at hat
  obtain ⟨y, n, ep, un, wv, a, b, c, lw, bv, a', b', c', lb⟩ := s
  dsimp only at *
  obtain ⟨N, hNN⟩ : ∃ N, 16 * n = N := ⟨_, rfl⟩
  rw [hNN] at hat
  have HNN := Lib.hid hNN
  have Y0 := Lib.hid hat
  clear hNN
  rw [HNN.out] at C
  have z1 := hat.froz 1
  have c0 := hat.cell 0
  have c1 := hat.cell 1
  have c2 := hat.cell 2
  have c3 := hat.cell 3
  have c4 := hat.cell 4
  have c5 := hat.cell 5
  have c6 := hat.cell 6
  simp only [List.getElem?_toArray, List.getElem?_cons_zero, List.getElem?_cons_succ] at c0 c1 c2 c3 c4 c5 c6
  clear hat h
  subst hu
  go_enter Tryz.func55, Tryz.ntmps55
  go_wp2_with fail
  refine (HN.out).mono ?_
  rintro e w' ⟨rfl, rfl⟩
  go_upto_region 5 with (fail)
  have F1 : Fr [y] w (w.setCell ⟨y, 1, none⟩ (.bool false)) := (Fr.refl _ _).set (.inl (by simp)) _
  have Y1 := Lib.hid (Y0.out.set 1 (.bool false))
  simp only [List.setIfInBounds_toArray, List.set_cons_zero, List.set_cons_succ] at Y1
  have HF1 := Lib.hid F1
  obtain ⟨w1, hw1⟩ : ∃ W, w.setCell ⟨y, 1, none⟩ (.bool false) = W := ⟨_, rfl⟩
  rw [hw1] at Y1 HF1
  rw [hw1]
  have hs1 := HF1.out.size
  have d2 := Y1.out.cell 2
  simp only [List.getElem?_toArray, List.getElem?_cons_zero, List.getElem?_cons_succ] at d2
  clear c0 c1 c2 c3 c4 c5 c6 z1 F1 hw1 Y0
  go_wp2_with fail
  refine (C.out _).mono ?_
  rintro e w2 ⟨p, q, g, rfl, hl2, hp, hq, hg, hf2⟩
  have Y2 := Lib.hid (Y1.out.fr hf2 (by simp))
  have L2 := Lib.hid hl2
  have F2 := Lib.hid (HF1.out.trans0 hf2)
  have e5 := Y2.out.cell 5
  have e6 := Y2.out.cell 6
  have z5 := Y2.out.froz 5
  have z6 := Y2.out.froz 6
  simp only [List.getElem?_toArray, List.getElem?_cons_zero, List.getElem?_cons_succ] at e5 e6
  clear hl2 hf2 d2 HF1 Y1
  go_wp2_with fail
  go_ret
  have hyl := H.out.at_.lt
  have hcl := H.out.wt.lt.2.2
  have Y3 := (Y2.out.set 5 (.slice none 0 0)).set 6 (.pointer (some ⟨p, 0, none⟩))
  simp only [List.setIfInBounds_toArray, List.set_cons_zero, List.set_cons_succ] at Y3
  have F3 : Fr [y] w2 ((w2.setCell ⟨y, 5, none⟩ (.slice none 0 0)).setCell ⟨y, 6, none⟩ (.pointer (some ⟨p, 0, none⟩))) := ((Fr.refl _ _).set (.inl (by simp)) _).set (.inl (by simp)) _
  have FA := F2.out.trans F3 (fun k hk => .inl hk)
  have q1 : w.heap.size ≤ p := Nat.le_trans hs1 hp
  have q2 : w.heap.size ≤ q := Nat.le_trans hs1 hq
  have q3 : w.heap.size ≤ g := Nat.le_trans hs1 hg
  have hyl' : y < w.heap.size := hyl
  have hcl' : c < w.heap.size := hcl
  refine ⟨p, q, g, rfl, ⟨?_, H.out.wt.fr1 H.out.at_ FA, ?_, (show c ≠ g by omega), (fun g' hg' h => by simp [Value.ownBlock] at h), (fun h => by cases h), hfew⟩, ⟨q1, q2, q3⟩, FA⟩
  · unfold YS.cells
    dsimp only
    rw [HNN.out]
    exact Y3
  · exact L2.out.fr F3 (by simp; omega) (by simp; omega) (by simp; omega) (by simp [Value.ownBlock])
set_option maxHeartbeats 2000000 in
set_option maxRecDepth 100000 in
theorem qbegin_yes {w : World} {s : YS} (h : Yd w s) (hu : s.un = false) (he : s.ep < 1000000) : Calls Tryz.prog 46 #[.pointer (some ⟨s.y, 0, none⟩)] w fun r w' => ∃ p q g, r = .returned (.tuple #[.int .u64 (s.ep + 1 : Nat), .bool true]) ∧ Yd w' { s with ep := s.ep + 1, un := true, wv := .slice none 0 0, a := p, b := q, c := g, lw := [], bv := s.wv, a' := s.a, b' := s.b, c' := s.c, lb := s.lw } ∧ (w.heap.size ≤ p ∧ w.heap.size ≤ q ∧ w.heap.size ≤ g) ∧ Fr [s.y] w w' := by
  have C := Lib.hid fun W => fresh_any s.n W h.wt.pt.2.2.2.2
  have HLI := Lib.hid (show (Tryz.prog.info? 117).map (·.size) = some 2 by kernel_rfl)
  have hone := fun (v : Value) (p : Nat) (hv : v.oneCell' = true) => show ∀ u ∈ [v, Value.pointer (some ⟨p, 0, none⟩)], u.oneCell' = true from fun u hu => by simp at hu; rcases hu with rfl | rfl <;> first | exact hv | rfl
  have HONE := Lib.hid hone
  obtain ⟨va, vc, hva, -⟩ := own_slice h.wt.own
  have hwone : s.wv.oneCell' = true := by rw [hva]; rfl
  have HWO := Lib.hid hwone
  clear hone hva hwone
  have HN := Lib.hid (qnone_any h)
  have H := Lib.hid h
  have hat := h.at_
  have hfew := h.few
  have hup := h.up
  have hn2 := h.wt.pt.2.2.2.2
  unfold YS.cells at hat
  obtain ⟨y, n, ep, un, wv, a, b, c, lw, bv, a', b', c', lb⟩ := s
  dsimp only at *
  obtain ⟨N, hNN⟩ : ∃ N, 16 * n = N := ⟨_, rfl⟩
  rw [hNN] at hat
  have HNN := Lib.hid hNN
  have Y0 := Lib.hid hat
  clear hNN
  rw [HNN.out] at C
  have z0 := hat.froz 0
  have z1 := hat.froz 1
  have c0 := hat.cell 0
  have c1 := hat.cell 1
  have c2 := hat.cell 2
  have c3 := hat.cell 3
  have c4 := hat.cell 4
  have c5 := hat.cell 5
  have c6 := hat.cell 6
  simp only [List.getElem?_toArray, List.getElem?_cons_zero, List.getElem?_cons_succ] at c0 c1 c2 c3 c4 c5 c6
  clear hat h
  subst hu
  have hw : IntKind.u64.wrap ((ep : Int) + 1) = (ep : Int) + 1 := by simp [IntKind.wrap, IntKind.signed, IntKind.bits]; omega
  go_enter Tryz.func46, Tryz.ntmps46
  go_wp2_with fail
  refine (HN.out).mono ?_
  rintro e w' ⟨rfl, rfl⟩
  go_upto_region 5 with (fail)
  have F1 : Fr [y] w ((w.setCell ⟨y, 1, none⟩ (.bool true)).setCell ⟨y, 0, none⟩ (.int .u64 ((ep : Int) + 1))) := ((Fr.refl _ _).set (.inl (by simp)) _).set (.inl (by simp)) _
  have Y1 := (Y0.out.set 1 (.bool true)).set 0 (.int .u64 ((ep : Int) + 1))
  simp only [List.setIfInBounds_toArray, List.set_cons_zero, List.set_cons_succ] at Y1
  obtain ⟨w1, hw1⟩ : ∃ W, (w.setCell ⟨y, 1, none⟩ (.bool true)).setCell ⟨y, 0, none⟩ (.int .u64 ((ep : Int) + 1)) = W := ⟨_, rfl⟩
  rw [hw1] at Y1 F1
  rw [hw1]
  have Y1 := Lib.hid Y1
  have HF1 := Lib.hid F1
  have hs1 := F1.size
  clear c0 c1 c2 c3 c4 c5 c6 z0 z1 F1 hw1 Y0 hw
  refine wp_region_L (fun W => Fr [y] w1 W ∧ ∃ u v : Value, At W y 119 #[.int .u64 ((ep : Int) + 1), .bool true, .int .i64 (N : Int), wv, .pointer (some ⟨a, 0, none⟩), u, v]) [16] (by kernel_rfl) ⟨(Fr.refl _ _).drew, _, _, Y1.out.hp rfl⟩ (fun hHeld => ?_)
  refine wpAnyL_take (i := 0) (v := ?_) rfl (by kernel_rfl) (fun _ _ _ h => h) (Or.inl ⟨by rfl, ?_⟩) (by assumption) ?_; rotate_left; (focus (intro w hSw; skip; go_simp; (try with_reducible rfl))); (try (refine wpAnyL_norm (by simp only [Act.put, List.setIfInBounds_toArray, List.set_cons_zero, List.set_cons_succ]; rfl) ?_))
  refine wpAnyL_take (i := 1) (v := ?_) rfl (by kernel_rfl) (fun _ _ _ h => h) (Or.inl ⟨by rfl, ?_⟩) (by assumption) ?_; rotate_left; (focus (intro w hSw; skip; go_simp; (try with_reducible rfl))); (try (refine wpAnyL_norm (by simp only [Act.put, List.setIfInBounds_toArray, List.set_cons_zero, List.set_cons_succ]; rfl) ?_))
  refine wpAnyL_take (i := 2) (v := ?_) rfl (by kernel_rfl) (fun _ _ _ h => h) (Or.inl ⟨by rfl, ?_⟩) (by assumption) ?_; rotate_left; (focus (intro w hSw; skip; go_simp; (try with_reducible rfl))); (try (refine wpAnyL_norm (by simp only [Act.put, List.setIfInBounds_toArray, List.set_cons_zero, List.set_cons_succ]; rfl) ?_))
  refine wpAnyL_take (i := 3) (v := ?_) rfl (by kernel_rfl) (fun _ _ _ h => h) (Or.inl ⟨by rfl, ?_⟩) (by assumption) ?_; rotate_left; (focus (intro w hSw; skip; go_simp; (try with_reducible rfl))); (try (refine wpAnyL_norm (by simp only [Act.put, List.setIfInBounds_toArray, List.set_cons_zero, List.set_cons_succ]; rfl) ?_))
  refine wpAnyL_take (i := 4) (v := ?_) rfl (by kernel_rfl) (fun _ _ _ h => h) (Or.inl ⟨by rfl, ?_⟩) (by assumption) ?_; rotate_left; (focus (intro w hSw; skip; go_simp; (try with_reducible rfl))); (try (refine wpAnyL_norm (by simp only [Act.put, List.setIfInBounds_toArray, List.set_cons_zero, List.set_cons_succ]; rfl) ?_))
  refine wpAnyL_take (i := 5) rfl (by kernel_rfl) (fun _ _ _ h => h) (yields_load_at 117 (.tmp 30) rfl ⟨y, 3, none⟩ rfl [wv, .pointer (some ⟨a, 0, none⟩)] _ (fun W h => by obtain ⟨_, u, v, hat⟩ := h; exact two_at hat 3 _ _ rfl rfl) Tryz.underlying117 rfl HLI.out rfl) (by assumption) ?_; (try (refine wpAnyL_norm (by simp only [Act.put, List.setIfInBounds_toArray, List.set_cons_zero, List.set_cons_succ]; rfl) ?_))
  refine wpAnyL_take (i := 6) (v := ?_) rfl (by kernel_rfl) (fun _ _ _ h => h) (Or.inl ⟨by rfl, ?_⟩) (by assumption) ?_; rotate_left; (focus (intro w hSw; skip; go_simp; (try with_reducible rfl))); (try (refine wpAnyL_norm (by simp only [Act.put, List.setIfInBounds_toArray, List.set_cons_zero, List.set_cons_succ]; rfl) ?_))
  refine wpAnyL_take (i := 7) (v := ?_) rfl (by kernel_rfl) (fun _ _ _ h => h) (Or.inl ⟨by rfl, ?_⟩) (by assumption) ?_; rotate_left; (focus (intro w hSw; skip; go_simp; (try with_reducible rfl))); (try (refine wpAnyL_norm (by simp only [Act.put, List.setIfInBounds_toArray, List.set_cons_zero, List.set_cons_succ]; rfl) ?_))
  refine wpAnyL_take (i := 8) (v := ?_) rfl (by kernel_rfl) (fun _ _ _ h => h) (Or.inl ⟨by rfl, ?_⟩) (by assumption) ?_; rotate_left; (focus (intro w hSw; skip; go_simp; (try with_reducible rfl))); (try (refine wpAnyL_norm (by simp only [Act.put, List.setIfInBounds_toArray, List.set_cons_zero, List.set_cons_succ]; rfl) ?_))
  refine wpAnyL_take (i := 9) (v := ?_) rfl (by kernel_rfl) (fun _ _ _ h => h) (Or.inl ⟨by rfl, ?_⟩) (by assumption) ?_; rotate_left; (focus (intro w hSw; (obtain ⟨_, u, v, hat⟩ := hSw); (have cc := hat.cell 2); (simp only [List.getElem?_toArray, List.getElem?_cons_zero, List.getElem?_cons_succ] at cc); go_simp; (try with_reducible rfl))); (try (refine wpAnyL_norm (by simp only [Act.put, List.setIfInBounds_toArray, List.set_cons_zero, List.set_cons_succ]; rfl) ?_))
  refine wpAnyL_ready (rs := [10]) (by kernel_rfl) (by simp) ?_; refine AllReadyL.cons rfl (fun K hK => ?_) AllReadyL.nil
  go_simp
  refine (C.out _).mono ?_
  rintro e w2 ⟨p, q, g, rfl, hl2, hp, hq, hg, hf2⟩
  refine hK.out _ _ (fun _ => ⟨hHeld.1.trans0 hf2, by obtain ⟨_, u, v, hat⟩ := hHeld; exact ⟨u, v, hat.fr hf2 (by simp)⟩⟩) (fun hHeld' => ?_); have hHeld := hHeld' (by decide); clear hHeld' hK K; (try (refine wpAnyL_norm (by simp only [Act.put, List.setIfInBounds_toArray, List.set_cons_zero, List.set_cons_succ]; rfl) ?_))
  have hp' : w1.heap.size ≤ p := hp
  have hq' : w1.heap.size ≤ q := hq
  have hg' : w1.heap.size ≤ g := hg
  have L2 := Lib.hid hl2
  have Y2 := Lib.hid (At.fr (Y1.out.hp (w' := w1.drew) rfl) hf2 (by simp))
  have HF2 := Lib.hid (show Fr [] w1 w2 from (Fr.refl [] w1).drew.trans0 hf2)
  have hyl := Y1.out.lt
  clear hl2 hf2 hp hq hg
  refine wpAnyL_take (i := 11) (v := ?_) rfl (by kernel_rfl) (fun _ _ _ h => h) (Or.inl ⟨by rfl, ?_⟩) (by assumption) ?_; rotate_left; (focus (intro w hSw; skip; go_simp; (try with_reducible rfl))); (try (refine wpAnyL_norm (by simp only [Act.put, List.setIfInBounds_toArray, List.set_cons_zero, List.set_cons_succ]; rfl) ?_))
  refine wpAnyL_take (i := 12) (v := ?_) rfl (by kernel_rfl) (fun _ _ _ h => h) (Or.inl ⟨by rfl, ?_⟩) (by assumption) ?_; rotate_left; (focus (intro w hSw; skip; go_simp; (try with_reducible rfl))); (try (refine wpAnyL_norm (by simp only [Act.put, List.setIfInBounds_toArray, List.set_cons_zero, List.set_cons_succ]; rfl) ?_))
  refine wpAnyL_ready (rs := [13]) (by kernel_rfl) (by simp) ?_; refine AllReadyL.cons rfl (fun K hK => ?_) AllReadyL.nil
  rw [if_pos (by rfl)]
  refine wp_store_at 117 (.tmp 38) (.tmp 31) rfl y 5 [wv, .pointer (some ⟨a, 0, none⟩)] rfl rfl 119 [.int .u64 ((ep : Int) + 1), .bool true, .int .i64 (N : Int), wv, .pointer (some ⟨a, 0, none⟩), bv, .pointer (some ⟨a', 0, none⟩)] Y2.out HLI.out (by simp) (HONE.out wv a HWO.out) ?_
  intro w3 hA3 hF3
  simp only [List.length_cons, List.length_nil, Nat.reduceAdd, List.take_succ_cons, List.take_zero, List.drop_succ_cons, List.drop_zero, List.drop_nil, List.cons_append, List.nil_append, List.append_nil] at hA3
  refine hK.out _ _ (fun _ => ⟨(HF2.out.more (by simp)).trans hF3 (fun k hk => .inl hk), _, _, hA3⟩) (fun hHeld' => ?_); have hHeld := hHeld' (by decide); clear hHeld' hK K; (try (refine wpAnyL_norm (by simp only [Act.put, List.setIfInBounds_toArray, List.set_cons_zero, List.set_cons_succ]; rfl) ?_))
  refine wpAnyL_take (i := 14) (v := ?_) rfl (by kernel_rfl) (fun _ _ _ h => h) (Or.inl ⟨by rfl, ?_⟩) (by assumption) ?_; rotate_left; (focus (intro w hSw; skip; go_simp; (try with_reducible rfl))); (try (refine wpAnyL_norm (by simp only [Act.put, List.setIfInBounds_toArray, List.set_cons_zero, List.set_cons_succ]; rfl) ?_))
  refine wpAnyL_take (i := 15) (v := ?_) rfl (by kernel_rfl) (fun _ _ _ h => h) (Or.inl ⟨by rfl, ?_⟩) (by assumption) ?_; rotate_left; (focus (intro w hSw; skip; go_simp; (try with_reducible rfl))); (try (refine wpAnyL_norm (by simp only [Act.put, List.setIfInBounds_toArray, List.set_cons_zero, List.set_cons_succ]; rfl) ?_))
  refine wpAnyL_ready (rs := [16]) (by kernel_rfl) (by simp) ?_; refine AllReadyL.cons rfl (fun K hK => ?_) AllReadyL.nil
  rw [if_pos (by rfl)]
  refine wp_store_at 117 (.tmp 40) (.tmp 36) rfl y 3 [.slice none 0 0, .pointer (some ⟨p, 0, none⟩)] rfl rfl 119 [.int .u64 ((ep : Int) + 1), .bool true, .int .i64 (N : Int), wv, .pointer (some ⟨a, 0, none⟩), wv, .pointer (some ⟨a, 0, none⟩)] hA3 HLI.out (by simp) (HONE.out _ p rfl) ?_
  intro w4 hA4 hF4
  simp only [List.length_cons, List.length_nil, Nat.reduceAdd, List.take_succ_cons, List.take_zero, List.drop_succ_cons, List.drop_zero, List.drop_nil, List.cons_append, List.nil_append, List.append_nil] at hA4
  refine hK.out _ _ (fun h => (h (by decide)).elim) (fun _ => ?_); clear hK K; (try (refine wpAnyL_norm (by simp only [Act.put, List.setIfInBounds_toArray, List.set_cons_zero, List.set_cons_succ]; rfl) ?_))
  refine wpAnyL_done (by kernel_rfl) ?_ _
  have Y4 := Lib.hid hA4
  have F24 := Lib.hid (hF3.trans hF4 (fun k hk => .inl hk))
  have c0 := hA4.cell 0
  simp only [List.getElem?_toArray, List.getElem?_cons_zero] at c0
  clear hA3 hF3 hA4 hF4 hHeld
  go_wp2_with fail
  go_ret2
  have FA := (HF1.out.trans0 HF2.out).trans F24.out (fun k hk => .inl hk)
  have hcl := H.out.wt.lt.2.2
  have q1 : w.heap.size ≤ p := Nat.le_trans hs1 hp'
  have q2 : w.heap.size ≤ q := Nat.le_trans hs1 hq'
  have q3 : w.heap.size ≤ g := Nat.le_trans hs1 hg'
  have hcl' : c < w.heap.size := hcl
  refine ⟨p, q, g, rfl, ⟨?_, ?_, H.out.wt.fr1 H.out.at_ FA, (show g ≠ c by omega), (fun g' h => by simp [Value.ownBlock] at h), (fun _ => by dsimp only; omega), (by dsimp only; omega)⟩, ⟨q1, q2, q3⟩, FA⟩
  · unfold YS.cells
    dsimp only
    rw [HNN.out]
    exact Y4.out
  · exact L2.out.fr F24.out (by simp; omega) (by simp; omega) (by simp; omega) (by simp [Value.ownBlock])
end Go.Proofs.YthjbnbimfpbccaaGreatDoor
/-
  A yard's copy. Condition: numbers in their types' ranges.
-/



set_option linter.unusedVariables false
namespace Go.Proofs.YthjbnbimfpbccaaGreatDoor
open Go.ChangeShapes Go.WideShapes Go.ChangeAt Go.RowKit
end Go.Proofs.YthjbnbimfpbccaaGreatDoor
/-
  A yard by what it holds alone: bytes, sweeps, two lists; every function of a yard told in these words. Condition: numbers in their types' ranges; a million sweeps at most.
-/



set_option linter.unusedVariables false
namespace Go.Proofs.YthjbnbimfpbccaaGreatDoor
open Go.ChangeShapes Go.WideShapes Go.ChangeAt Go.RowKit
structure MS where
  n : Nat
  ep : Nat
  un : Bool
  lw : List (Nat × Nat)
  lb : List (Nat × Nat)
def YS.ms (s : YS) : MS := ⟨s.n, s.ep, s.un, s.lw, s.lb⟩
def pl (l : List (Nat × Nat)) (a : Nat) : Nat := (l.takeWhile fun r => decide (r.1 < a)).length
theorem pl_place : ∀ (l : List (Nat × Nat)) (a k : Nat), Place l a k → k = pl l a
  | [], a, k, h => by have := h.1; simp at this; subst this; rfl
  | r :: l, a, 0, h => by
    have := h.2.2 0 r (by omega) rfl
    unfold pl
    rw [List.takeWhile_cons_of_neg (by simpa using this)]
    rfl
  | r :: l, a, k + 1, h => by
    have h0 := h.2.1 0 r (by omega) rfl
    have ih := pl_place l a k ⟨by have := h.1; simp at this; exact this, fun j s hj hs => h.2.1 (j + 1) s (by omega) hs, fun j s hj hs => h.2.2 (j + 1) s (by omega) hs⟩
    unfold pl at ih ⊢
    rw [List.takeWhile_cons_of_pos (by simpa using h0), List.length_cons, ← ih]
def put (l : List (Nat × Nat)) (r : Nat × Nat) : List (Nat × Nat) := insL l (pl l r.1) r
def frB (m : MS) (a s : Nat) : Bool := decide (a % 16 = 0 ∧ s % 16 = 0 ∧ 0 < s ∧ a + s ≤ 16 * m.n) && !(tch (cov m.lw) (a / 16) (s / 16) || tch (cov m.lb) (a / 16) (s / 16))
def mFree (m : MS) (a s : Nat) : MS := if frB m a s = true then { m with lw := put m.lw (a, s) } else m
def mBegin (m : MS) : MS := if m.un = true then m else { m with ep := m.ep + 1, un := true, lw := [], lb := m.lw }
def mEnd (m : MS) : MS := if m.un = true then { m with un := false, lb := [] } else m
def mEnded (m : MS) : Int := if m.un = true then (m.ep : Int) - 1 else m.ep
def mTick (m : MS) : Int := if 0 < m.lw.length then (m.ep : Int) + 1 else if 0 < m.lb.length then m.ep else mEnded m
/-- A yard all of whose changing blocks are new since w0, where nothing older has turned. -/
structure Yw (w0 w : World) (y : Nat) (m : MS) (s : YS) : Prop where
  yd : Yd w s
  f : Fr [] w0 w
  y0 : w0.heap.size ≤ s.y
  c0 : w0.heap.size ≤ s.c
  own : ∀ g, s.wv.ownBlock = some g → w0.heap.size ≤ g
  yy : s.y = y
  ms : s.ms = m
/-- The blocks that the yard may still change. -/
def YS.foot (s : YS) : List Nat := s.y :: s.c :: s.wv.ownBlock.toList
def Yq (w0 w : World) (y : Nat) (m : MS) : Prop := ∃ s, Yw w0 w y m s
section
variable {w0 w w' : World} {y : Nat} {m : MS} {s : YS}
theorem Yw.fr (h : Yw w0 w y m s) (f : Fr [] w w') : Yw w0 w' y m s := ⟨h.yd.fr0 f, h.f.trans0 f, h.y0, h.c0, h.own, h.yy, h.ms⟩
theorem Yw.far (h : Yw w0 w y m s) {S : List Nat} (hS : ∀ k ∈ S, k ∈ s.foot) (f : Fr S w w') : Fr [] w0 w' := h.f.trans f (fun k hk => .inr (by
  have := hS k hk
  unfold YS.foot at this
  rcases List.mem_cons.1 this with rfl | this
  · exact h.y0
  · rcases List.mem_cons.1 this with rfl | this
    · exact h.c0
    · cases hv : s.wv.ownBlock with
      | none => rw [hv] at this; simp at this
      | some g => rw [hv] at this; simp at this; subst this; exact h.own _ hv))
/-- What a change of a yard leaves: the yard anew, and which blocks may have turned. -/
structure Turn (w0 w : World) (y : Nat) (s : YS) (m' : MS) (w' : World) (s' : YS) : Prop where
  yw : Yw w0 w' y m' s'
  f : Fr s.foot w w'
  foot : ∀ k ∈ s'.foot, k ∈ s.foot ∨ w.heap.size ≤ k
theorem free_m (h : Yw w0 w y m s) (a r : Nat) (ha : a < 4294967296) (hr : r < 4294967296) : Calls Tryz.prog 17 #[.pointer (some ⟨y, 0, none⟩), .agg #[.int .u32 a, .int .u32 r]] w fun e w' => e = .returned (.bool (frB m a r)) ∧ ∃ s', Turn w0 w y s (mFree m a r) w' s' := by
  obtain ⟨hyd, hf, hy0, hc0, hown, rfl, rfl⟩ := id h
  have same : ∀ w', Fr [] w w' → ∃ s', Turn w0 w s.y s s.ms w' s' := fun w' f => ⟨s, h.fr f, f.more (by simp), fun k hk => .inl hk⟩
  by_cases hg : a % 16 = 0 ∧ r % 16 = 0 ∧ 0 < r ∧ a + r ≤ 16 * s.n
  · obtain ⟨A, hA⟩ : ∃ A, a = 16 * A := ⟨a / 16, by omega⟩
    obtain ⟨R, hR⟩ : ∃ R, r = 16 * R := ⟨r / 16, by omega⟩
    subst hA hR
    have hb : frB s.ms (16 * A) (16 * R) = !(tch (cov s.lw) A R || tch (cov s.lb) A R) := by
      unfold frB
      change (decide (16 * A % 16 = 0 ∧ 16 * R % 16 = 0 ∧ 0 < 16 * R ∧ 16 * A + 16 * R ≤ 16 * s.n) && !(tch (cov s.lw) (16 * A / 16) (16 * R / 16) || tch (cov s.lb) (16 * A / 16) (16 * R / 16))) = _
      rw [decide_eq_true hg, Bool.true_and, Nat.mul_div_cancel_left _ (by omega), Nat.mul_div_cancel_left _ (by omega)]
    unfold mFree
    rw [hb]
    cases ht : (tch (cov s.lw) A R || tch (cov s.lb) A R)
    · rw [Bool.not_false, if_pos rfl]
      refine (qfree_yes w s hyd A R (by omega) (by omega) ht).mono ?_
      rintro e w' ⟨k, v', rfl, hp, h1, h2, h3⟩
      have hk := pl_place _ _ _ hp
      refine ⟨rfl, _, ⟨h1, ?_, hy0, hc0, fun g hg => ?_, rfl, ?_⟩, h2, fun q hq => ?_⟩
      · exact h.far (S := s.foot) (fun k hk => hk) h2
      · rcases h3 g hg with h4 | h4
        · exact hown g h4
        · exact Nat.le_trans hf.size h4
      · unfold YS.ms put
        dsimp only
        rw [hk]
      · unfold YS.foot at hq ⊢
        dsimp only at hq
        rcases List.mem_cons.1 hq with rfl | hq
        · exact .inl List.mem_cons_self
        · rcases List.mem_cons.1 hq with rfl | hq
          · exact .inl (List.mem_cons_of_mem _ List.mem_cons_self)
          · cases hv : v'.ownBlock with
            | none => rw [hv] at hq; simp at hq
            | some g =>
              rw [hv] at hq
              simp at hq
              subst hq
              rcases h3 _ hv with h4 | h4
              · rw [h4]; exact .inl (by simp)
              · exact .inr h4
    · rw [Bool.not_true, if_neg (by simp)]
      refine (qfree_hit w s hyd A R (by omega) (by omega) ht).mono ?_
      rintro e w' ⟨rfl, f⟩
      exact ⟨rfl, same w' f⟩
  · have hb : frB s.ms a r = false := by
      unfold frB
      change (decide (a % 16 = 0 ∧ r % 16 = 0 ∧ 0 < r ∧ a + r ≤ 16 * s.n) && _) = _
      rw [decide_eq_false hg, Bool.false_and]
    unfold mFree
    rw [hb, if_neg (by simp)]
    refine (qfree_no w s hyd a r ha hr hg).mono ?_
    rintro e w' ⟨rfl, f⟩
    exact ⟨rfl, same w' f⟩
theorem begin_m (h : Yw w0 w y m s) (he : m.ep < 1000000) : Calls Tryz.prog 46 #[.pointer (some ⟨y, 0, none⟩)] w fun e w' => e = .returned (.tuple #[.int .u64 (if m.un = true then 0 else m.ep + 1 : Nat), .bool (!m.un)]) ∧ ∃ s', Turn w0 w y s (mBegin m) w' s' := by
  obtain ⟨hyd, hf, hy0, hc0, hown, rfl, rfl⟩ := id h
  unfold mBegin
  cases hu : s.ms.un
  · rw [if_neg (by simp), if_neg (by simp), Bool.not_false]
    refine (qbegin_yes hyd hu he).mono ?_
    rintro e w' ⟨p, q, g, rfl, h1, ⟨h2, h3, h4⟩, h5⟩
    refine ⟨rfl, _, ⟨h1, ?_, hy0, Nat.le_trans hf.size h4, (fun g hg => by simp [Value.ownBlock] at hg), rfl, rfl⟩, h5.more (fun k hk => .inl (by simp at hk; subst hk; exact List.mem_cons_self)), fun k hk => ?_⟩
    · exact h.far (S := [s.y]) (fun k hk => by simp at hk; subst hk; exact List.mem_cons_self) h5
    · unfold YS.foot at hk
      simp [Value.ownBlock] at hk
      rcases hk with rfl | rfl
      · exact .inl List.mem_cons_self
      · exact .inr h4
  · rw [if_pos rfl, if_pos rfl, Bool.not_true]
    refine (qbegin_no hyd hu).mono ?_
    rintro e w' ⟨rfl, rfl⟩
    exact ⟨rfl, s, h, Fr.refl _ _, fun k hk => .inl hk⟩
theorem end_m (h : Yw w0 w y m s) : Calls Tryz.prog 55 #[.pointer (some ⟨y, 0, none⟩)] w fun e w' => ∃ v, e = .returned v ∧ w'.ownsRow 0 45 2 v (if m.un = true then m.lb else []).length (rgv (if m.un = true then m.lb else [])) ∧ (∀ g, v.ownBlock = some g → g ∉ s.foot) ∧ ∃ s', Turn w0 w y s (mEnd m) w' s' := by
  obtain ⟨hyd, hf, hy0, hc0, hown, rfl, rfl⟩ := id h
  unfold mEnd
  cases hu : s.ms.un
  · rw [if_neg (by simp), if_neg (by simp)]
    refine (qend_no hyd hu).mono ?_
    rintro e w' ⟨rfl, rfl⟩
    exact ⟨_, rfl, World.ownsRow_nil _ _ _ _, (fun g hg => by simp [Value.ownBlock] at hg), s, h, Fr.refl _ _, fun k hk => .inl hk⟩
  · rw [if_pos rfl, if_pos rfl]
    refine (qend_yes hyd hu).mono ?_
    rintro e w' ⟨p, q, g, rfl, h1, ⟨h2, h3, h4⟩, h5⟩
    refine ⟨_, rfl, ?_, (fun g hg hm => ?_), _, ⟨h1, ?_, hy0, hc0, hown, rfl, rfl⟩, h5.more (fun k hk => .inl (by simp at hk; subst hk; exact List.mem_cons_self)), fun k hk => .inl hk⟩
    · exact own_fr hyd.bt.own h5 (fun g hg => by have := own_ne hyd.bt.own hyd.at_ (by decide) g hg; simpa using this)
    · obtain ⟨-, -, ⟨_, hcc⟩⟩ := Pt.blocks hyd.wt.pt
      unfold YS.foot at hm
      rcases List.mem_cons.1 hm with rfl | hm
      · exact own_ne hyd.bt.own hyd.at_ (by decide) _ hg rfl
      · rcases List.mem_cons.1 hm with rfl | hm
        · exact own_ne hyd.bt.own hcc (by decide) _ hg rfl
        · cases hv : s.wv.ownBlock with
          | none => rw [hv] at hm; simp at hm
          | some k => rw [hv] at hm; simp at hm; subst hm; exact hyd.apart g hv hg
    · exact h.far (S := [s.y]) (fun k hk => by simp at hk; subst hk; exact List.mem_cons_self) h5
theorem sweep_m (h : Yw w0 w y m s) : Calls Tryz.prog 38 #[.pointer (some ⟨y, 0, none⟩)] w fun e w' => e = .returned (.bool m.un) ∧ w = w' := by
  obtain ⟨hyd, hf, hy0, hc0, hown, rfl, rfl⟩ := id h
  exact qsweep_any hyd
theorem paint_m (h : Yw w0 w y m s) : Calls Tryz.prog 43 #[.pointer (some ⟨y, 0, none⟩)] w fun e w' => ∃ p q g, e = .returned (.pointer (some ⟨p, 0, none⟩)) ∧ Pt w' p q g m.n (cov m.lb) ∧ (w.heap.size ≤ p ∧ w.heap.size ≤ q ∧ w.heap.size ≤ g) ∧ Fr [] w w' := by
  obtain ⟨hyd, hf, hy0, hc0, hown, rfl, rfl⟩ := id h
  exact qpaint_any hyd
theorem new_m (w : World) (n : Nat) (hn : n ≤ 16384) : Calls Tryz.prog 25 #[.int .i64 (16 * n : Nat)] w fun e w' => ∃ y s, e = .returned (.pointer (some ⟨y, 0, none⟩)) ∧ Yw w w' y ⟨n, 0, false, [], []⟩ s ∧ (∀ k ∈ s.foot, w.heap.size ≤ k) ∧ Fr [] w w' := by
  refine (qnew_any w n hn).mono ?_
  rintro e w' ⟨s, rfl, h1, rfl, h3, h4, h5, h6, h7, h8, ⟨h9, h10, h11⟩, h12⟩
  refine ⟨s.y, s, rfl, ⟨h1, h12, h9, h10, (fun g hg => by rw [h7] at hg; simp [Value.ownBlock] at hg), rfl, by unfold YS.ms; rw [h3, h4, h5, h6]⟩, fun k hk => ?_, h12⟩
  unfold YS.foot at hk
  rw [h7] at hk
  simp [Value.ownBlock] at hk
  rcases hk with rfl | rfl
  · exact h9
  · exact h10
end
/-! ### regions held against each other; a list that is just one region -/
theorem rg_eq (a b c d : Int) (w : World) : (Op.equalIn 10000 45 (.agg #[.int .u32 a, .int .u32 b]) (.agg #[.int .u32 c, .int .u32 d])).run Tryz.prog w = .ok (decide (a = c) && decide (b = d)) w := by
  have u1 := Tryz.underlying43
  have a1 := Tryz.isAgg43
  have z1 := Tryz.sizeOf43
  have hS : Tryz.prog.underlying 45 = some (.struct (Tryz.prog.fieldsOf 45)) := by kernel_rfl
  rw [show (10000 : Nat) = 9999 + 1 from rfl, run_equalIn_struct w 9999 45 _ _ hS (by kernel_rfl)]
  simp only [Program.fieldsOf, Tryz.underlying45]
  go_simp
  by_cases h0 : a = c
  rotate_left
  · simp [h0]
  rw [if_pos h0]
  by_cases h1 : b = d
  rotate_left
  · simp [h1]
  rw [if_pos h1]
  simp [h0, h1]
end Go.Proofs.YthjbnbimfpbccaaGreatDoor
/-
  A yard beside an arena and a book of pages: where its batch's paint lies; what leaves it alone. Condition: as for a yard.
-/



set_option linter.unusedVariables false
namespace Go.Proofs.YthjbnbimfpbccaaGreatDoor
open Go.ChangeShapes Go.WideShapes Go.ChangeAt Go.RowKit
/-- A turn that tells where the batch's paint lies. -/
structure TurnC (w0 w : World) (y : Nat) (s : YS) (m' : MS) (w' : World) (s' : YS) : Prop extends Turn w0 w y s m' w' s' where
  cc : s'.c' = s.c' ∨ s'.c' ∈ s.foot ∨ w.heap.size ≤ s'.c'
section
variable {w0 w w' : World} {y : Nat} {m : MS} {s : YS}
theorem free_c (h : Yw w0 w y m s) (a r : Nat) (ha : a < 4294967296) (hr : r < 4294967296) : Calls Tryz.prog 17 #[.pointer (some ⟨y, 0, none⟩), .agg #[.int .u32 a, .int .u32 r]] w fun e w' => e = .returned (.bool (frB m a r)) ∧ ∃ s', TurnC w0 w y s (mFree m a r) w' s' := by
  obtain ⟨hyd, hf, hy0, hc0, hown, rfl, rfl⟩ := id h
  have same : ∀ w', Fr [] w w' → ∃ s', TurnC w0 w s.y s s.ms w' s' := fun w' f => ⟨s, ⟨h.fr f, f.more (by simp), fun k hk => .inl hk⟩, .inl rfl⟩
  by_cases hg : a % 16 = 0 ∧ r % 16 = 0 ∧ 0 < r ∧ a + r ≤ 16 * s.n
  · obtain ⟨A, hA⟩ : ∃ A, a = 16 * A := ⟨a / 16, by omega⟩
    obtain ⟨R, hR⟩ : ∃ R, r = 16 * R := ⟨r / 16, by omega⟩
    subst hA hR
    have hb : frB s.ms (16 * A) (16 * R) = !(tch (cov s.lw) A R || tch (cov s.lb) A R) := by
      unfold frB
      change (decide (16 * A % 16 = 0 ∧ 16 * R % 16 = 0 ∧ 0 < 16 * R ∧ 16 * A + 16 * R ≤ 16 * s.n) && !(tch (cov s.lw) (16 * A / 16) (16 * R / 16) || tch (cov s.lb) (16 * A / 16) (16 * R / 16))) = _
      rw [decide_eq_true hg, Bool.true_and, Nat.mul_div_cancel_left _ (by omega), Nat.mul_div_cancel_left _ (by omega)]
    unfold mFree
    rw [hb]
    cases ht : (tch (cov s.lw) A R || tch (cov s.lb) A R)
    · rw [Bool.not_false, if_pos rfl]
      refine (qfree_yes w s hyd A R (by omega) (by omega) ht).mono ?_
      rintro e w' ⟨k, v', rfl, hp, h1, h2, h3⟩
      have hk := pl_place _ _ _ hp
      refine ⟨rfl, _, ⟨⟨h1, ?_, hy0, hc0, fun g hg => ?_, rfl, ?_⟩, h2, fun q hq => ?_⟩, .inl rfl⟩
      · exact h.far (S := s.foot) (fun k hk => hk) h2
      · rcases h3 g hg with h4 | h4
        · exact hown g h4
        · exact Nat.le_trans hf.size h4
      · unfold YS.ms put
        dsimp only
        rw [hk]
      · unfold YS.foot at hq ⊢
        dsimp only at hq
        rcases List.mem_cons.1 hq with rfl | hq
        · exact .inl List.mem_cons_self
        · rcases List.mem_cons.1 hq with rfl | hq
          · exact .inl (List.mem_cons_of_mem _ List.mem_cons_self)
          · cases hv : v'.ownBlock with
            | none => rw [hv] at hq; simp at hq
            | some g =>
              rw [hv] at hq
              simp at hq
              subst hq
              rcases h3 _ hv with h4 | h4
              · rw [h4]; exact .inl (by simp)
              · exact .inr h4
    · rw [Bool.not_true, if_neg (by simp)]
      refine (qfree_hit w s hyd A R (by omega) (by omega) ht).mono ?_
      rintro e w' ⟨rfl, f⟩
      exact ⟨rfl, same w' f⟩
  · have hb : frB s.ms a r = false := by
      unfold frB
      change (decide (a % 16 = 0 ∧ r % 16 = 0 ∧ 0 < r ∧ a + r ≤ 16 * s.n) && _) = _
      rw [decide_eq_false hg, Bool.false_and]
    unfold mFree
    rw [hb, if_neg (by simp)]
    refine (qfree_no w s hyd a r ha hr hg).mono ?_
    rintro e w' ⟨rfl, f⟩
    exact ⟨rfl, same w' f⟩
theorem begin_c (h : Yw w0 w y m s) (he : m.ep < 1000000) : Calls Tryz.prog 46 #[.pointer (some ⟨y, 0, none⟩)] w fun e w' => e = .returned (.tuple #[.int .u64 (if m.un = true then 0 else m.ep + 1 : Nat), .bool (!m.un)]) ∧ ∃ s', TurnC w0 w y s (mBegin m) w' s' := by
  obtain ⟨hyd, hf, hy0, hc0, hown, rfl, rfl⟩ := id h
  unfold mBegin
  cases hu : s.ms.un
  · rw [if_neg (by simp), if_neg (by simp), Bool.not_false]
    refine (qbegin_yes hyd hu he).mono ?_
    rintro e w' ⟨p, q, g, rfl, h1, ⟨h2, h3, h4⟩, h5⟩
    refine ⟨rfl, _, ⟨⟨h1, ?_, hy0, Nat.le_trans hf.size h4, (fun g hg => by simp [Value.ownBlock] at hg), rfl, rfl⟩, h5.more (fun k hk => .inl (by simp at hk; subst hk; exact List.mem_cons_self)), fun k hk => ?_⟩, .inr (.inl (List.mem_cons_of_mem _ List.mem_cons_self))⟩
    · exact h.far (S := [s.y]) (fun k hk => by simp at hk; subst hk; exact List.mem_cons_self) h5
    · unfold YS.foot at hk
      simp [Value.ownBlock] at hk
      rcases hk with rfl | rfl
      · exact .inl List.mem_cons_self
      · exact .inr h4
  · rw [if_pos rfl, if_pos rfl, Bool.not_true]
    refine (qbegin_no hyd hu).mono ?_
    rintro e w' ⟨rfl, rfl⟩
    exact ⟨rfl, s, ⟨h, Fr.refl _ _, fun k hk => .inl hk⟩, .inl rfl⟩
theorem end_c (h : Yw w0 w y m s) : Calls Tryz.prog 55 #[.pointer (some ⟨y, 0, none⟩)] w fun e w' => ∃ v, e = .returned v ∧ w'.ownsRow 0 45 2 v (if m.un = true then m.lb else []).length (rgv (if m.un = true then m.lb else [])) ∧ (∀ g, v.ownBlock = some g → g ∉ s.foot) ∧ ∃ s', TurnC w0 w y s (mEnd m) w' s' := by
  obtain ⟨hyd, hf, hy0, hc0, hown, rfl, rfl⟩ := id h
  unfold mEnd
  cases hu : s.ms.un
  · rw [if_neg (by simp), if_neg (by simp)]
    refine (qend_no hyd hu).mono ?_
    rintro e w' ⟨rfl, rfl⟩
    exact ⟨_, rfl, World.ownsRow_nil _ _ _ _, (fun g hg => by simp [Value.ownBlock] at hg), s, ⟨h, Fr.refl _ _, fun k hk => .inl hk⟩, .inl rfl⟩
  · rw [if_pos rfl, if_pos rfl]
    refine (qend_yes hyd hu).mono ?_
    rintro e w' ⟨p, q, g, rfl, h1, ⟨h2, h3, h4⟩, h5⟩
    refine ⟨_, rfl, ?_, (fun g hg hm => ?_), _, ⟨⟨h1, ?_, hy0, hc0, hown, rfl, rfl⟩, h5.more (fun k hk => .inl (by simp at hk; subst hk; exact List.mem_cons_self)), fun k hk => .inl hk⟩, .inr (.inr h4)⟩
    · exact own_fr hyd.bt.own h5 (fun g hg => by have := own_ne hyd.bt.own hyd.at_ (by decide) g hg; simpa using this)
    · obtain ⟨-, -, ⟨_, hcc⟩⟩ := Pt.blocks hyd.wt.pt
      unfold YS.foot at hm
      rcases List.mem_cons.1 hm with rfl | hm
      · exact own_ne hyd.bt.own hyd.at_ (by decide) _ hg rfl
      · rcases List.mem_cons.1 hm with rfl | hm
        · exact own_ne hyd.bt.own hcc (by decide) _ hg rfl
        · cases hv : s.wv.ownBlock with
          | none => rw [hv] at hm; simp at hm
          | some k => rw [hv] at hm; simp at hm; subst hm; exact hyd.apart g hv hg
    · exact h.far (S := [s.y]) (fun k hk => by simp at hk; subst hk; exact List.mem_cons_self) h5
theorem Yw.base {v : World} (h : Yw w0 w y m s) (f : Fr [] v w0) : Yw v w y m s :=
  ⟨h.yd, f.trans0 h.f, Nat.le_trans f.size h.y0, Nat.le_trans f.size h.c0, fun g hg => Nat.le_trans f.size (h.own g hg), h.yy, h.ms⟩
/-- A block that is none of a yard's. -/
def Offy (w : World) (s : YS) (k : Nat) : Prop := ∃ t cs, At w k t cs ∧ t ≠ 119 ∧ t ≠ 204 ∧ t ≠ 179 ∧ t ≠ 45 ∧ (t = 28 → k ≠ s.c ∧ k ≠ s.c')
theorem Offy.pt {k a b c n : Nat} {f : Nat → Bool} (h : Pt w a b c n f) (o : Offy w s k) (hc : c = s.c ∨ c = s.c') : a ≠ k ∧ b ≠ k ∧ c ≠ k := by
  obtain ⟨t, cs, hq, t1, t2, t3, t4, t5⟩ := o
  obtain ⟨⟨_, h1⟩, ⟨_, h2⟩, ⟨_, h3⟩⟩ := Pt.blocks h
  refine ⟨?_, ?_, ?_⟩
  · rintro rfl; exact t2 (h1.inj hq).1.symm
  · rintro rfl; exact t3 (h2.inj hq).1.symm
  · rintro rfl
    have := t5 (h3.inj hq).1.symm
    rcases hc with e | e
    · exact this.1 e
    · exact this.2 e
theorem Offy.own {k n : Nat} {v : Value} {xs : List Value} {b : Nat} (h : w.ownsRow b 45 2 v n xs) (o : Offy w s k) : ∀ g, v.ownBlock = some g → g ≠ k := by
  obtain ⟨t, cs, hq, t1, t2, t3, t4, t5⟩ := o
  exact fun g hg e => own_ne h hq t4 g hg e
theorem Yw.nfootY (h : Yw w0 w y m s) {k : Nat} (o : Offy w s k) : k ∉ s.foot := fun hk => by
  unfold YS.foot at hk
  rcases List.mem_cons.1 hk with e | hk
  · obtain ⟨t, cs, hq, t1, _⟩ := o
    subst e; exact t1 (h.yd.at_.inj hq).1.symm
  · rcases List.mem_cons.1 hk with e | hk
    · exact (o.pt h.yd.wt.pt (.inl rfl)).2.2 e.symm
    · cases hv : s.wv.ownBlock with
      | none => rw [hv] at hk; simp at hk
      | some g => rw [hv] at hk; simp at hk; exact o.own h.yd.wt.own g hv hk.symm
theorem Yw.offY {S : List Nat} (h : Yw w0 w y m s) (hS : ∀ k ∈ S, Offy w s k ∧ w0.heap.size ≤ k) (f : Fr S w w') : Yw w0 w' y m s := by
  have n1 : ∀ {a b c n : Nat} {F : Nat → Bool}, Pt w a b c n F → (c = s.c ∨ c = s.c') → a ∉ S ∧ b ∉ S ∧ c ∉ S := fun hp hc =>
    ⟨fun hk => ((hS _ hk).1.pt hp hc).1 rfl, fun hk => ((hS _ hk).1.pt hp hc).2.1 rfl, fun hk => ((hS _ hk).1.pt hp hc).2.2 rfl⟩
  have a1 := n1 h.yd.wt.pt (.inl rfl)
  have a2 := n1 h.yd.bt.pt (.inr rfl)
  have a5 : s.y ∉ S := fun hk => by
    obtain ⟨t, cs, hq, t1, _⟩ := (hS _ hk).1
    exact t1 (h.yd.at_.inj hq).1.symm
  exact ⟨⟨h.yd.at_.fr f a5, h.yd.wt.fr f a1.1 a1.2.1 a1.2.2 (fun g hg hk => (hS _ hk).1.own h.yd.wt.own g hg rfl), h.yd.bt.fr f a2.1 a2.2.1 a2.2.2 (fun g hg hk => (hS _ hk).1.own h.yd.bt.own g hg rfl), h.yd.ne, h.yd.apart, h.yd.up, h.yd.few⟩, h.f.trans f (fun k hk => .inr (hS k hk).2), h.y0, h.c0, h.own, h.yy, h.ms⟩
theorem foot_ltY (h : Yw w0 w y m s) : ∀ k ∈ s.foot, k < w.heap.size := fun k hk => by
  unfold YS.foot at hk
  rcases List.mem_cons.1 hk with e | hk
  · subst e; exact h.yd.at_.lt
  · rcases List.mem_cons.1 hk with e | hk
    · subst e; exact h.yd.wt.lt.2.2
    · cases hv : s.wv.ownBlock with
      | none => rw [hv] at hk; simp at hk
      | some g => rw [hv] at hk; simp at hk; subst hk; exact (h.yd.wt.own.lt k hv).2
/-- What lies apart from a yard does so behind a turn, and reads as it did. -/
theorem Offy.turn {m' : MS} {s' : YS} {k : Nat} (h : Yw w0 w y m s) (ht : TurnC w0 w y s m' w' s') (o : Offy w s k) : Offy w' s' k := by
  have hn := h.nfootY o
  obtain ⟨t, cs, hq, t1, t2, t3, t4, t5⟩ := o
  refine ⟨t, cs, hq.fr ht.f hn, t1, t2, t3, t4, fun e => ⟨fun e1 => ?_, fun e1 => ?_⟩⟩
  · have hc : s'.c ∈ s'.foot := List.mem_cons_of_mem _ List.mem_cons_self
    rw [← e1] at hc
    rcases ht.foot k hc with h1 | h1
    · exact hn h1
    · have := hq.lt; omega
  · rcases ht.cc with h1 | h1 | h1
    · exact (t5 e).2 (e1.trans h1)
    · exact hn (e1 ▸ h1)
    · have := hq.lt; omega
end
end Go.Proofs.YthjbnbimfpbccaaGreatDoor
/-
  Plain: the set places of a map, rising, word by word; the lowest bit of a word. No condition.
-/

set_option linter.unusedVariables false
namespace Go.Proofs.YthjbnbimfpbccaaGreatDoor
open Go.ChangeShapes Go.WideShapes Go.ChangeAt Go.RowKit
/-- The set places below s, rising. -/
def told (f : Nat → Bool) (s : Nat) : List Nat := (List.range s).filter fun i => f i
theorem told_succ (f : Nat → Bool) (s : Nat) : told f (s + 1) = if f s = true then told f s ++ [s] else told f s := by
  unfold told
  rw [List.range_succ, List.filter_append]
  by_cases h : f s = true
  · simp [h]
  · simp [h]
theorem told_skip (f : Nat → Bool) (s : Nat) : ∀ d, (∀ j, j < d → f (s + j) = false) → told f (s + d) = told f s
  | 0, _ => rfl
  | d + 1, h => by
    rw [← Nat.add_assoc, told_succ, h d (by omega), if_neg (by simp)]
    exact told_skip f s d fun j hj => h j (by omega)
theorem told_next (f : Nat → Bool) (s d : Nat) (h : ∀ j, j < d → f (s + j) = false) (hd : f (s + d) = true) : told f (s + d + 1) = told f s ++ [s + d] := by
  rw [told_succ, if_pos hd, told_skip f s d h]
theorem told_mem (f : Nat → Bool) (s x : Nat) : x ∈ told f s ↔ x < s ∧ f x = true := by
  unfold told; simp [List.mem_filter]
theorem told_out (f : Nat → Bool) (n m : Nat) (h : ∀ i, n ≤ i → f i = false) (hm : n ≤ m) : told f m = told f n := by
  obtain ⟨d, rfl⟩ : ∃ d, m = n + d := ⟨m - n, by omega⟩
  exact told_skip f n d fun j _ => h _ (by omega)
theorem told_len (f : Nat → Bool) (s : Nat) : (told f s).length ≤ s := by
  unfold told; exact Nat.le_trans (List.length_filter_le _ _) (by simp)
theorem told_prefix (f : Nat → Bool) (s m : Nat) (h : s ≤ m) : told f s <+: told f m := by
  obtain ⟨d, rfl⟩ : ∃ d, m = s + d := ⟨m - s, by omega⟩
  clear h
  induction d with
  | zero => exact List.prefix_refl _
  | succ d ih =>
    rw [← Nat.add_assoc, told_succ]
    split
    · exact ih.trans (List.prefix_append _ _)
    · exact ih
/-- What is left of a map from a place on. -/
def from_ (f : Nat → Bool) (s : Nat) : Nat → Bool := fun i => f i && decide (s ≤ i)
theorem from_low (f : Nat → Bool) (k : Nat) : wrd (from_ f (64 * k)) k = wrd f k := bitsN_congr 64 fun j _ => by
  unfold from_; rw [decide_eq_true (show 64 * k ≤ 64 * k + j by omega), Bool.and_true]
theorem ctz_bit (x : Nat) (h0 : x ≠ 0) (h : x < 18446744073709551616) : Lib.ctz 64 x < 64 ∧ x.testBit (Lib.ctz 64 x) = true ∧ ∀ j, j < Lib.ctz 64 x → x.testBit j = false := by
  unfold Lib.ctz
  rw [if_neg h0]
  obtain ⟨m, h1, h2⟩ := Lib.ctzFrom_spec 64 x (by omega) h
  generalize Lib.ctzFrom 64 x = t at *
  subst h1
  refine ⟨h2, ?_, fun j hj => ?_⟩
  · rw [Nat.testBit_two_pow_mul]; simp [show (2 * m + 1) % 2 = 1 by omega]
  · rw [Nat.testBit_two_pow_mul]; simp; omega
theorem low_clear (x : Nat) (h0 : x ≠ 0) (h : x < 18446744073709551616) (j : Nat) : (x &&& (x - 1)).testBit j = (x.testBit j && decide (Lib.ctz 64 x < j)) := by
  have hb := ctz_bit x h0 h
  unfold Lib.ctz at hb ⊢
  rw [if_neg h0] at hb ⊢
  obtain ⟨m, h1, h2⟩ := Lib.ctzFrom_spec 64 x (by omega) h
  generalize Lib.ctzFrom 64 x = t at *
  have hp : 1 ≤ 2 ^ t := Nat.one_le_two_pow
  have e : x - 1 = 2 ^ t * (2 * m) + (2 ^ t - 1) := by rw [h1, Nat.mul_add]; omega
  rw [Nat.testBit_and, e, Nat.testBit_two_pow_mul_add _ (by omega)]
  by_cases hj : j < t
  · rw [hb.2.2 j hj]; rfl
  · rw [if_neg hj]
    by_cases hjt : j = t
    · subst hjt; simp
    · rw [decide_eq_true (by omega), h1, Nat.testBit_two_pow_mul]
      obtain ⟨d, rfl⟩ : ∃ d, j = t + (d + 1) := ⟨j - t - 1, by omega⟩
      rw [show t + (d + 1) - t = d + 1 by omega, Nat.testBit_succ, Nat.testBit_succ, show 2 * m / 2 = m by omega, show (2 * m + 1) / 2 = m by omega]
      simp
theorem and_low (x : Nat) (h0 : x ≠ 0) (h : x < 18446744073709551616) (a : Nat) (ha : x &&& (18446744073709551616 - x) = a) :
    IntKind.u64.wrap (bits BinOp.and IntKind.u64 (x : Int) (IntKind.u64.wrap (-(x : Int))) * 285870213051353865) / 288230376151711744 = ((a * 285870213051353865 % 18446744073709551616 / 288230376151711744 : Nat) : Int) := by
  have e1 : IntKind.u64.wrap (-(x : Int)) = ((18446744073709551616 - x : Nat) : Int) := by rw [IntKind.wrap_u64]; omega
  rw [e1, u64_and_nat x _ h (by omega), ha, IntKind.wrap_u64]
  omega
/-- The next place, out of a word's lowest bit. -/
theorem next_place (f : Nat → Bool) (k s : Nat) (hs1 : 64 * k ≤ s) (hs2 : s ≤ 64 * k + 64) (h0 : wrd (from_ f s) k ≠ 0) :
    let t := Lib.ctz 64 (wrd (from_ f s) k)
    t < 64 ∧ s ≤ 64 * k + t ∧ f (64 * k + t) = true ∧ told f (64 * k + t + 1) = told f s ++ [64 * k + t] ∧ wrd (from_ f s) k &&& (wrd (from_ f s) k - 1) = wrd (from_ f (64 * k + t + 1)) k := by
  intro t
  have hb := ctz_bit _ h0 (wrd_lt _ _)
  have ht : t = Lib.ctz 64 (wrd (from_ f s) k) := rfl
  rw [← ht] at hb
  obtain ⟨h1, h2, h3⟩ := hb
  rw [wrd_test, decide_eq_true h1, Bool.true_and] at h2
  unfold from_ at h2
  simp only [Bool.and_eq_true, decide_eq_true_eq] at h2
  have hz : ∀ i, s ≤ i → i < 64 * k + t → f i = false := fun i hi1 hi2 => by
    have := h3 (i - 64 * k) (by omega)
    rw [wrd_test, decide_eq_true (show i - 64 * k < 64 by omega), Bool.true_and] at this
    unfold from_ at this
    rw [show 64 * k + (i - 64 * k) = i by omega, decide_eq_true hi1, Bool.and_true] at this
    exact this
  refine ⟨h1, h2.2, h2.1, ?_, ?_⟩
  · have := told_next f s (64 * k + t - s) (fun j hj => hz _ (by omega) (by omega)) (by rw [show s + (64 * k + t - s) = 64 * k + t by omega]; exact h2.1)
    rw [show s + (64 * k + t - s) = 64 * k + t by omega] at this
    exact this
  · refine Nat.eq_of_testBit_eq fun j => ?_
    rw [low_clear _ h0 (wrd_lt _ _), ← ht, wrd_test, wrd_test]
    by_cases hj : j < 64
    · rw [decide_eq_true hj]
      unfold from_
      by_cases e : t < j
      · rw [decide_eq_true e, decide_eq_true (show 64 * k + t + 1 ≤ 64 * k + j by omega), decide_eq_true (show s ≤ 64 * k + j by omega)]; simp
      · rw [decide_eq_false e, decide_eq_false (show ¬ 64 * k + t + 1 ≤ 64 * k + j by omega)]; simp
    · rw [decide_eq_false hj]; simp
theorem word_done (f : Nat → Bool) (k s : Nat) (hs1 : 64 * k ≤ s) (hs2 : s ≤ 64 * k + 64) (h0 : wrd (from_ f s) k = 0) : told f (64 * (k + 1)) = told f s := by
  obtain ⟨d, hd⟩ : ∃ d, 64 * (k + 1) = s + d := ⟨64 * (k + 1) - s, by omega⟩
  rw [hd]
  refine told_skip f s d fun j hj => ?_
  have := (wrd_zero _ k).1 h0 (s + j - 64 * k) (by omega)
  unfold from_ at this
  rw [show 64 * k + (s + j - 64 * k) = s + j by omega, decide_eq_true (show s ≤ s + j by omega), Bool.and_true] at this
  exact this
end Go.Proofs.YthjbnbimfpbccaaGreatDoor
/-
  The iterator of tags: all that is set, rising. Condition: the table of math/bits is as the library lays it.
-/


set_option linter.unusedVariables false
namespace Go.Proofs.YthjbnbimfpbccaaGreatDoor
open Go.ChangeShapes Go.WideShapes Go.ChangeAt Go.RowKit
attribute [local go_sem] Oper.semAt_some
/-- The table of math/bits, in its variable. -/
def Tab (w : World) : Prop := ∀ j, j < 64 → w.cell? ⟨0, j, none⟩ = some (.int .u8 (Lib.deBruijn64tab.getD j 0))
section
variable {w w' : World} {S : List Nat}
theorem Tab.fr (h : Tab w) (f : Fr S w w') (hS : 0 ∉ S) : Tab w' := fun j hj => (f.cell (a := ⟨0, j, none⟩) (lt_of_cell (h j hj)) hS).trans (h j hj)
theorem Tab.heap (h : Tab w) (hv : w'.heap = w.heap) : Tab w' := fun j hj => by have := h j hj; unfold World.cell? at *; rw [hv]; exact this
theorem Tab.lt (h : Tab w) : 0 < w.heap.size := lt_of_cell (h 0 (by omega))
end
theorem KpB.tg {bs : List Nat} {W W' : World} (h : KpB bs W W') {p g n : Nat} {f : Nat → Bool} (hp : p ∈ bs) (hg : g ∈ bs) (ht : Tg W p g n f) : Tg W' p g n f := by
  obtain ⟨h1, h2, h3, c, cs, h4, h5, h6, h7⟩ := ht
  exact ⟨h1, h2, h3, c, cs, h4, h.at_ hp h5, h.at_ hg h6, h7⟩
theorem KpB.tab {bs : List Nat} {W W' : World} (h : KpB bs W W') (hg : 0 ∈ bs) (ht : Tab W) : Tab W' := fun j hj => by
  have h1 := ht j hj
  obtain ⟨o, ho, hc⟩ := cells_of_cell h1
  cases o with
  | cells cs t r => exact (World.cell?_of_block (a := ⟨0, j, none⟩) ((h 0 hg _ _ _ ho).trans ho.symm)).trans h1
  | _ => cases hc
theorem tz_core (x k idx : Nat) (w : World) (hx0 : ((x : Int) == 0) = false)
    (key : IntKind.u64.wrap (bits BinOp.and IntKind.u64 (x : Int) (IntKind.u64.wrap (-(x : Int))) * 285870213051353865) / 288230376151711744 = (idx : Int))
    (hi : idx < 64) (hk : k < 64) (hcell : w.cell? ⟨0, idx, none⟩ = some (.int .u8 k)) :
    Calls Tryz.prog 130 #[.int .u64 x] w fun e w' => e = .returned (.int .i64 k) ∧ w = w' := by
  go_enter Tryz.func130, Tryz.ntmps130
  go_wp2_with (simp only [key])
  go_ret
  exact ⟨rfl, rfl⟩
theorem tz_any (x : Nat) (h0 : x ≠ 0) (hx : x < 18446744073709551616) (w : World) (hT : Tab w) :
    Calls Tryz.prog 130 #[.int .u64 x] w fun e w' => e = .returned (.int .i64 (Lib.ctz 64 x)) ∧ w = w' := by
  obtain ⟨hlow, hk⟩ := Lib.lowest_bit 64 x h0 hx
  obtain ⟨hi, htab⟩ := Lib.deBruijn64_at _ hk
  have hcell := hT _ hi
  rw [htab] at hcell
  exact tz_core x _ _ w (by simp; omega) (and_low x h0 hx _ hlow) hi hk hcell
theorem and_le_pred (V : Nat) (h : V ≠ 0) : V &&& (V - 1) < V := Nat.lt_of_le_of_lt Nat.and_le_right (by omega)
theorem wrap_u64' (n : Int) : IntKind.u64.wrap n = n % 18446744073709551616 := by simp [IntKind.wrap, IntKind.signed, IntKind.bits]
set_option maxHeartbeats 1000000 in
theorem all_stops (m q p g n : Nat) (f : Nat → Bool) (w : World) (hq : At w q 125 #[.pointer (some ⟨p, 0, none⟩)]) (ht : Tg w p g n f) (hT : Tab w) :
    SeqStopsK Fence.wide m Tryz.prog 129 #[.pointer (some ⟨q, 0, none⟩)] (fun x : Nat => #[.int .i64 (x : Nat)]) (KpB [q, p, g, 0]) (fun xs => xs = told f n) (fun pre => pre <+: told f n) n w := fun l J Jx W hb hJ hJx hY h0 => by
  have hfr : Fr [] w W := Fr.of_below hb
  have Hq := Lib.hid (hq.fr hfr (by simp))
  have Ht := Lib.hid (ht.fr hfr (by simp) (by simp))
  have HT := Lib.hid (hT.fr hfr (by simp))
  have cq := Hq.out.cell 0
  obtain ⟨cp, hcp, c1⟩ := Ht.out.c1
  have hn := ht.2.1
  have H0 := Lib.hid ht.2.2.1
  simp only [List.getElem?_toArray, List.getElem?_cons_zero] at cq
  have HY := Lib.hid hY
  clear hq ht hT hb hfr hY
  refine callsIn_of_wp Tryz.func129 rfl trivial ?_ rfl
  simp only [Tryz.ntmps129, List.size_toArray, List.length_cons, List.length_nil, Nat.reduceAdd, Nat.reduceSub, Array.replicate_succ, Array.replicate_zero, List.push_toArray, List.append_toArray, List.nil_append, List.cons_append]
  gi_wp2
  gi_loopw [12] (fun v wr => ∃ k : Nat, k ≤ (n + 63) / 64 ∧ v = .int .i64 k ∧ J (told f (64 * k)) wr ∧ At wr q 125 #[.pointer (some ⟨p, 0, none⟩)] ∧ Tg wr p g n f ∧ Tab wr) (fun v _ => (n + 63) / 64 - (intOf v).toNat)
  case atStart => exact ⟨0, by omega, rfl, h0, Hq.out, Ht.out, HT.out⟩
  case round =>
    clear Hq Ht HT cq c1 hcp
    obtain ⟨k, hk, rfl, hj, hq, ht, hT⟩ := hrel
    have HJ0 := Lib.hid hj
    clear hj
    by_cases hkn : k < (n + 63) / 64
    · have cq := hq.cell 0
      obtain ⟨cp, hcp, c1⟩ := ht.c1
      have ck := ht.ck k hkn
      rw [← from_low] at ck
      simp only [List.getElem?_toArray, List.getElem?_cons_zero] at cq
      have Hq := Lib.hid hq
      have Ht := Lib.hid ht
      have HT := Lib.hid hT
      have Hl := Lib.hid (wrd_lt (from_ f (64 * k)) k)
      obtain ⟨V0, hV0⟩ : ∃ V, wrd (from_ f (64 * k)) k = V := ⟨_, rfl⟩
      rw [hV0] at ck
      have HV0 := Lib.hid hV0
      clear hq ht hT hV0
      obtain ⟨wo, rfl⟩ : ∃ wo : World, wo = wr := ⟨_, rfl⟩
      have hdk : decide ((k : Int) < ((n : Int) + 63) / 64) = true := by simp; omega
      gi_wp2
      gi_loopw [4] (fun v wr => ∃ s V : Nat, 64 * k ≤ s ∧ s ≤ 64 * k + 64 ∧ v = .int .u64 V ∧ wrd (from_ f s) k = V ∧ J (told f s) wr ∧ At wr q 125 #[.pointer (some ⟨p, 0, none⟩)] ∧ Tg wr p g n f ∧ Tab wr) (fun v _ => (intOf v).toNat)
      case atStart => exact ⟨64 * k, V0, by omega, by omega, rfl, HV0.out, HJ0.out, Hq.out, Ht.out, HT.out⟩
      case round =>
        clear Hq Ht HT cq c1 hcp ck HV0 HJ0 Hl
        obtain ⟨s, V, hs1, hs2, rfl, hV, hj, hq, ht, hT⟩ := hrel
        have Hq := Lib.hid hq
        have Ht := Lib.hid ht
        have HT := Lib.hid hT
        have HV := Lib.hid hV
        by_cases hz : V = 0
        · subst hz
          have HJ := Lib.hid hj
          have HW := Lib.hid (word_done f k s hs1 hs2 hV)
          clear hj hq ht hT hV
          gi_wp2
          go_roundw
          case rel => exact ⟨k + 1, by omega, by go_num, by rw [HW.out]; exact HJ.out, Hq.out, Ht.out, HT.out⟩
          case measure => simp [intOf]; omega
        · have hlt := wrd_lt (from_ f s) k
          rw [hV] at hlt
          obtain ⟨p1, p2, p3, p4, p5⟩ := next_place f k s hs1 hs2 (by rw [hV]; exact hz)
          rw [hV] at p1 p2 p3 p4 p5
          have C := Lib.hid fun W (hW : Tab W) => tz_any V hz hlt W hW
          have hle := and_le_pred V hz
          obtain ⟨t, ht'⟩ : ∃ t, Lib.ctz 64 V = t := ⟨_, rfl⟩
          rw [ht'] at p1 p2 p3 p4 p5 C
          have hxn : 64 * k + t < n := by
            rcases Nat.lt_or_ge (64 * k + t) n with h | h
            · exact h
            · rw [H0.out _ h] at p3; cases p3
          have hlen := told_len f s
          obtain ⟨fn, tmps, assign, body, hy, hR⟩ := HY.out (told f s) (64 * k + t) wr hj (by omega)
          rw [← p4] at hR
          rw [show ((64 * k + t : Nat) : Int) = (k : Int) * 64 + t by omega] at hy
          have hsub : ((V - 1 : Nat) : Int) = (V : Int) - 1 := by omega
          have hand := band V (V - 1) hlt (by omega)
          rw [hsub] at hand
          have HR := Lib.hid hR
          have P4 := Lib.hid p5
          obtain ⟨U, hU⟩ : ∃ U, V &&& (V - 1) = U := ⟨_, rfl⟩
          rw [hU] at hand P4 hle
          clear hj hq ht hT hV hR ht' p3 p4 p5 hsub hU
          gi_wp2_with (refine ⟨trivial, fun h => (by cases h), ?_⟩; refine (callsIn_wide.2 (C.out _ HT.out)).mono ?_; rintro e w' ⟨rfl, rfl⟩)
          refine ⟨fun h => (by cases h), HR.out.mono ?_⟩
          rintro e W3 (⟨rfl, hJ3, hk3⟩ | ⟨rfl, hJx3⟩)
          · have hq3 := hk3.at_ (by simp) Hq.out
            have ht3 := hk3.tg (by simp) (by simp) Ht.out
            have hT3 := hk3.tab (by simp) HT.out
            gi_wp2
            go_roundw
            case rel => exact ⟨64 * k + t + 1, U, by omega, by omega, rfl, P4.out.symm, hJ3, hq3, ht3, hT3⟩
            case measure => simp [intOf]; omega
          · have HPr := Lib.hid (told_prefix f (64 * k + t + 1) n (by omega))
            gi_wp2
            refine bodyPost_ret (results_none rfl _ _ _) rfl ?_
            exact ⟨⟨_, rfl⟩, .inr ⟨_, HPr.out, hJx3⟩⟩
    · obtain rfl : k = (n + 63) / 64 := by omega
      have HW := Lib.hid (told_out f n (64 * ((n + 63) / 64)) H0.out (by omega))
      clear hq ht hT
      gi_wp2
      go_end0
      refine ⟨⟨_, rfl⟩, .inl ⟨_, rfl, ?_⟩⟩
      rw [← HW.out]
      exact HJ0.out
/-- All of a map that is there: a copy of it is captured. -/
theorem tall_any (w : World) (p g n : Nat) (f : Nat → Bool) (h : Tg w p g n f) :
    Calls Tryz.prog 98 #[.pointer (some ⟨p, 0, none⟩)] w fun r w' => ∃ q p' g', r = .returned (.func (.func 129) #[] #[.pointer (some ⟨q, 0, none⟩)]) ∧ At w' q 125 #[.pointer (some ⟨p', 0, none⟩)] ∧ Tg w' p' g' n f ∧ w.heap.size ≤ q ∧ w.heap.size ≤ p' ∧ w.heap.size ≤ g' ∧ q ≠ p' ∧ q ≠ g' ∧ Fr [] w w' := by
  have C := Lib.hid (copy_any w p g n f h)
  clear h
  go_enter Tryz.func98, Tryz.ntmps98
  go_wp2_with (go_at_call 126; refine (C.out).mono ?_; rintro e w2 ⟨p', g', rfl, h2, hp, hg, hf2⟩)
  go_ret
  have hl := h2.lt
  have hs := hf2.size
  exact ⟨w2.heap.size, p', g', rfl, At.new _ _ _, h2.fr (S := []) ((Fr.refl _ _).alloc _) (by simp) (by simp), hs, hp, hg, by omega, by omega, hf2.alloc _⟩
end Go.Proofs.YthjbnbimfpbccaaGreatDoor
/-
  What the functions of barrier compute: a book at block gp over a map of tags. Condition: the table of math/bits is as the library lays it (Next alone).
-/



set_option linter.unusedVariables false
namespace Go.Proofs.YthjbnbimfpbccaaGreatDoor
open Go.ChangeShapes Go.WideShapes Go.ChangeAt Go.RowKit
attribute [local go_sem] Oper.semAt_some
def Gn (w : World) (gp p g n : Nat) (f : Nat → Bool) (ep : Int) : Prop := At w gp 164 #[.pointer (some ⟨p, 0, none⟩), .int .u64 ep] ∧ Tg w p g n f ∧ gp ≠ p ∧ gp ≠ g ∧ n ≤ 1024
section
variable {w w' v : World} {gp p g n : Nat} {f f' : Nat → Bool} {S : List Nat} {ep : Int}
theorem Gn.c (h : Gn w gp p g n f ep) : w.cell? ⟨gp, 0, none⟩ = some (.pointer (some ⟨p, 0, none⟩)) := h.1.cell 0
theorem Gn.c1 (h : Gn w gp p g n f ep) : w.cell? ⟨gp, 1, none⟩ = some (.int .u64 ep) := h.1.cell 1
theorem Gn.fr (h : Gn w gp p g n f ep) (hf : Fr S w w') (h1 : gp ∉ S) (h2 : p ∉ S) (h3 : g ∉ S) : Gn w' gp p g n f ep := ⟨h.1.fr hf h1, h.2.1.fr hf h2 h3, h.2.2⟩
theorem Gn.put (h : Gn w gp p g n f ep) (hf : Fr [g] w w') (ht : Tg w' p g n f') : Gn w' gp p g n f' ep := ⟨h.1.fr hf (by simp; exact h.2.2.2.1), ht, h.2.2⟩
theorem Gn.heap (h : Gn w gp p g n f ep) (hv : w'.heap = w.heap) : Gn w' gp p g n f ep := by unfold Gn Tg At at *; rw [hv]; exact h
theorem Gn.lt (h : Gn w gp p g n f ep) : gp < w.heap.size ∧ p < w.heap.size ∧ g < w.heap.size := ⟨h.1.lt, h.2.1.lt⟩
end
theorem gnone_any (w : World) (gp p g n : Nat) (f : Nat → Bool) (ep : Int) (h : Gn w gp p g n f ep) :
    Calls Tryz.prog 93 #[.pointer (some ⟨gp, 0, none⟩)] w fun r w' => r = .returned (.bool false) ∧ w = w' := by
  have c := h.c
  go_enter Tryz.func93, Tryz.ntmps93
  go_wp2
  go_ret
  exact ⟨rfl, rfl⟩
theorem gnone_nil (w : World) : Calls Tryz.prog 93 #[.pointer none] w fun r w' => r = .returned (.bool true) ∧ w = w' := by
  go_enter Tryz.func93, Tryz.ntmps93
  go_wp2
  go_ret
  exact ⟨rfl, rfl⟩
theorem gnew_any (n : Nat) (w : World) (hn : n ≤ 1024) :
    Calls Tryz.prog 68 #[.int .i64 n] w fun r w' => ∃ gp p g, r = .returned (.pointer (some ⟨gp, 0, none⟩)) ∧ Gn w' gp p g n (fun _ => false) 0 ∧ w.heap.size ≤ gp ∧ w.heap.size ≤ p ∧ w.heap.size ≤ g ∧ Fr [] w w' := by
  go_enter Tryz.func68, Tryz.ntmps68
  go_wp2_with (go_at_call 69; refine (new_any n _ (by omega)).mono ?_; rintro e w2 ⟨p, g, rfl, h2, hp, hg, hf2⟩)
  go_ret
  have hs := hf2.size
  have hl := h2.lt
  exact ⟨w2.heap.size, p, g, rfl, ⟨At.new _ _ _, h2.fr (S := []) ((Fr.refl _ _).alloc _) (by simp) (by simp), by omega, by omega, hn⟩, hs, hp, hg, hf2.alloc _⟩
theorem gnew_bad (n : Int) (w : World) (hn : n < 0 ∨ 1024 < n) :
    Calls Tryz.prog 68 #[.int .i64 n] w fun r w' => r = .returned (.pointer none) ∧ w = w' := by
  rcases hn with h | h
  · go_enter Tryz.func68, Tryz.ntmps68
    go_wp2
    go_ret
    exact ⟨rfl, rfl⟩
  · have h2 : 0 ≤ n := by omega
    go_enter Tryz.func68, Tryz.ntmps68
    go_wp2
    go_ret
    exact ⟨rfl, rfl⟩
theorem gold_any (w : World) (gp p g n : Nat) (f : Nat → Bool) (ep : Int) (h : Gn w gp p g n f ep) (i : Int) :
    Calls Tryz.prog 50 #[.pointer (some ⟨gp, 0, none⟩), .int .i64 i] w fun r w' => r = .returned (.bool (inR i n && f i.toNat)) ∧ w = w' := by
  have c := h.c
  have H := Lib.hid h
  have C := Lib.hid (get_any w p g n f h.2.1 i)
  clear h
  generalize (inR i n && f i.toNat) = b at *
  go_enter Tryz.func50, Tryz.ntmps50
  go_wp2_with (first | (go_at_call 93; refine (gnone_any _ _ _ _ _ _ _ H.out).mono ?_; rintro e w' ⟨rfl, rfl⟩) | (go_at_call 67; refine (C.out).mono ?_; rintro e w' ⟨rfl, rfl⟩))
  go_ret
  exact ⟨rfl, rfl⟩
theorem gold_nil (w : World) (i : Int) : Calls Tryz.prog 50 #[.pointer none, .int .i64 i] w fun r w' => r = .returned (.bool false) ∧ w = w' := by
  go_enter Tryz.func50, Tryz.ntmps50
  go_wp2_with (go_at_call 93; refine (gnone_nil _).mono ?_; rintro e w' ⟨rfl, rfl⟩)
  go_ret
  exact ⟨rfl, rfl⟩
theorem gleft_any (w : World) (gp p g n : Nat) (f : Nat → Bool) (ep : Int) (h : Gn w gp p g n f ep) :
    Calls Tryz.prog 49 #[.pointer (some ⟨gp, 0, none⟩)] w fun r w' => r = .returned (.int .i64 (cnt f n)) ∧ w = w' := by
  have c := h.c
  have H := Lib.hid h
  have C := Lib.hid (count_any w p g n f h.2.1)
  clear h
  go_enter Tryz.func49, Tryz.ntmps49
  go_wp2_with (first | (go_at_call 93; refine (gnone_any _ _ _ _ _ _ _ H.out).mono ?_; rintro e w' ⟨rfl, rfl⟩) | (go_at_call 94; refine (C.out).mono ?_; rintro e w' ⟨rfl, rfl⟩))
  go_ret
  exact ⟨rfl, rfl⟩
theorem gleft_nil (w : World) : Calls Tryz.prog 49 #[.pointer none] w fun r w' => r = .returned (.int .i64 0) ∧ w = w' := by
  go_enter Tryz.func49, Tryz.ntmps49
  go_wp2_with (go_at_call 93; refine (gnone_nil _).mono ?_; rintro e w' ⟨rfl, rfl⟩)
  go_ret
  exact ⟨rfl, rfl⟩
theorem gmark_no (w : World) (gp p g n : Nat) (f : Nat → Bool) (ep : Int) (h : Gn w gp p g n f ep) (i : Int) (hi : (inR i n && f i.toNat) = false) :
    Calls Tryz.prog 52 #[.pointer (some ⟨gp, 0, none⟩), .int .i64 i] w fun r w' => r = .returned (.bool false) ∧ w = w' := by
  have C := Lib.hid (gold_any w gp p g n f ep h i)
  rw [hi] at C
  clear hi h
  go_enter Tryz.func52, Tryz.ntmps52
  go_wp2_with (go_at_call 50; refine (C.out).mono ?_; rintro e w' ⟨rfl, rfl⟩)
  go_ret
  exact ⟨rfl, rfl⟩
theorem gmark_yes (w : World) (gp p g n : Nat) (f : Nat → Bool) (ep : Int) (h : Gn w gp p g n f ep) (i : Nat) (hi : i < n) (hf : f i = true) :
    Calls Tryz.prog 52 #[.pointer (some ⟨gp, 0, none⟩), .int .i64 i] w fun r w' => r = .returned (.bool true) ∧ Gn w' gp p g n (upd f i false) ep ∧ Fr [g] w w' := by
  have C := Lib.hid (gold_any w gp p g n f ep h i)
  rw [inR_nat _ _ hi, Int.toNat_natCast, hf] at C
  have C2 := Lib.hid (put_yes w p g n f h.2.1 i false hi)
  have c := h.c
  have H := Lib.hid h
  clear hf h
  go_enter Tryz.func52, Tryz.ntmps52
  go_wp2_with (first | (go_at_call 50; refine (C.out).mono ?_; rintro e w' ⟨rfl, rfl⟩) | (go_at_call 63; refine (C2.out).mono ?_; rintro e w2 ⟨rfl, h2, hf2⟩))
  go_ret
  exact ⟨rfl, H.out.put hf2 h2, hf2⟩
theorem gmark_nil (w : World) (i : Int) : Calls Tryz.prog 52 #[.pointer none, .int .i64 i] w fun r w' => r = .returned (.bool false) ∧ w = w' := by
  go_enter Tryz.func52, Tryz.ntmps52
  go_wp2_with (go_at_call 50; refine (gold_nil _ i).mono ?_; rintro e w' ⟨rfl, rfl⟩)
  go_ret
  exact ⟨rfl, rfl⟩
theorem gstart_nil (w : World) (e : Int) : Calls Tryz.prog 48 #[.pointer none, .int .u64 e] w fun r w' => r = .returned (.bool false) ∧ w = w' := by
  go_enter Tryz.func48, Tryz.ntmps48
  go_wp2_with (go_at_call 93; refine (gnone_nil _).mono ?_; rintro e w' ⟨rfl, rfl⟩)
  go_ret
  exact ⟨rfl, rfl⟩
theorem gstart_no (w : World) (gp p g n : Nat) (f : Nat → Bool) (ep : Int) (h : Gn w gp p g n f ep) (e : Int) (he : e ≤ ep ∨ 0 < cnt f n) :
    Calls Tryz.prog 48 #[.pointer (some ⟨gp, 0, none⟩), .int .u64 e] w fun r w' => r = .returned (.bool false) ∧ w = w' := by
  have c := h.c
  have c1 := h.c1
  have H := Lib.hid h
  have C := Lib.hid (count_any w p g n f h.2.1)
  clear h
  by_cases h1 : e ≤ ep
  · clear he
    go_enter Tryz.func48, Tryz.ntmps48
    go_wp2_with (first | (go_at_call 93; refine (gnone_any _ _ _ _ _ _ _ H.out).mono ?_; rintro e w' ⟨rfl, rfl⟩))
    go_ret
    exact ⟨rfl, rfl⟩
  · have h2 : 0 < cnt f n := by omega
    clear he
    go_enter Tryz.func48, Tryz.ntmps48
    go_wp2_with (first | (go_at_call 93; refine (gnone_any _ _ _ _ _ _ _ H.out).mono ?_; rintro e w' ⟨rfl, rfl⟩) | (go_at_call 94; refine (C.out).mono ?_; rintro e w' ⟨rfl, rfl⟩))
    go_ret
    exact ⟨rfl, rfl⟩
def allF (n : Nat) : Nat → Bool := fun i => decide (i < n)
def fstF (t : Nat) : Nat → Bool := fun i => decide (i < t)
set_option maxHeartbeats 1000000 in
theorem gstart_yes (w : World) (gp p g n : Nat) (f : Nat → Bool) (ep : Int) (h : Gn w gp p g n f ep) (e : Int) (he : ep < e) (h0 : cnt f n = 0) :
    Calls Tryz.prog 48 #[.pointer (some ⟨gp, 0, none⟩), .int .u64 e] w fun r w' => r = .returned (.bool true) ∧ Gn w' gp p g n (fstF n) e ∧ Fr [gp, g] w w' := by
  have c := h.c
  have c1 := h.c1
  have fz := h.1.froz 1
  have hn := h.2.2.2.2
  have H := Lib.hid h
  have C := Lib.hid (count_any w p g n f h.2.1)
  rw [h0] at C
  have hz : Hid (f = fstF 0) := Lib.hid (funext fun i => by
    unfold fstF
    cases hfi : f i with
    | false => simp
    | true =>
      have hin : i < n := by
        rcases Nat.lt_or_ge i n with h1 | h1
        · exact h1
        · rw [h.2.1.2.2.1 i h1] at hfi; cases hfi
      have := cnt_pos f n i hin hfi
      omega)
  have h1 : ¬ e ≤ ep := by omega
  have hW : Gn (w.setCell ⟨gp, 1, none⟩ (.int .u64 e)) gp p g n (fstF 0) e := ⟨h.1.set 1 _, by rw [← hz.out]; exact h.2.1.fr (S := [gp]) ((Fr.refl _ _).set (.inl (by simp)) _) (by simp; exact h.2.2.1.symm) (by simp; exact h.2.2.2.1.symm), h.2.2⟩
  have HW := Lib.hid hW
  clear h h0 hW hz
  go_enter Tryz.func48, Tryz.ntmps48
  go_wp2_with (first | (go_at_call 93; refine (gnone_any _ _ _ _ _ _ _ H.out).mono ?_; rintro e w' ⟨rfl, rfl⟩) | (go_at_call 94; refine (C.out).mono ?_; rintro e w' ⟨rfl, rfl⟩) | (go_at_call 95; refine (len_any _ p g n _ HW.out.2.1).mono ?_; rintro e w' ⟨rfl, rfl⟩))
  clear C
  go_loopw [33] (fun i wr => ∃ t : Nat, t ≤ n ∧ i = .int .i64 t ∧ Gn wr gp p g n (fstF t) e ∧ Fr [gp, g] w wr) (fun i _ => n - (intOf i).toNat)
  case atStart => exact ⟨0, by omega, rfl, HW.out, (Fr.refl _ _).set (.inl (by simp)) _⟩
  case round =>
    obtain ⟨t, ht, rfl, hG, hf⟩ := hrel
    have HG := Lib.hid hG
    have cr := hG.c
    clear hG
    by_cases htn : t < n
    · have C2 := Lib.hid (put_yes wr p g n _ HG.out.2.1 t true htn)
      rw [show upd (fstF t) t true = fstF (t + 1) from funext fun i => by unfold upd fstF; by_cases e : i = t <;> simp [e]; omega] at C2
      go_wp2_with (go_at_call 63; refine (C2.out).mono ?_; rintro e w5 ⟨rfl, h5, hf5⟩)
      go_roundw
      case rel => exact ⟨t + 1, by omega, by go_num, HG.out.put hf5 h5, hf.trans hf5 (by simp)⟩
      case measure => simp [intOf]; omega
    · obtain rfl : t = n := by omega
      go_wp2
      go_ret
      exact ⟨rfl, HG.out, hf⟩
/-- The lowest place that is set. -/
def nxtP (f : Nat → Bool) (n : Nat) : Int := match told f n with | [] => 0 | x :: _ => (x : Nat)
def nxtB (f : Nat → Bool) (n : Nat) : Bool := match told f n with | [] => false | _ :: _ => true
theorem nxt_nil {f : Nat → Bool} {n : Nat} (h : told f n = []) : nxtP f n = 0 ∧ nxtB f n = false := by unfold nxtP nxtB; rw [h]; exact ⟨rfl, rfl⟩
theorem nxt_one {f : Nat → Bool} {n x : Nat} (h : [x] <+: told f n) : nxtP f n = x ∧ nxtB f n = true := by
  obtain ⟨r, hr⟩ := h
  unfold nxtP nxtB
  rw [← hr]
  exact ⟨rfl, rfl⟩
theorem gnext_nil (w : World) : Calls Tryz.prog 56 #[.pointer none] w fun r w' => r = .returned (.tuple #[.int .i64 0, .bool false]) ∧ Fr [] w w' := by
  go_enter Tryz.func56, Tryz.ntmps56
  go_wp2_with (go_at_call 93; refine (gnone_nil _).mono ?_; rintro e w' ⟨rfl, rfl⟩)
  exact bodyPost_ret (v := .tuple #[.int .i64 0, .bool false]) (by simp [results, Tryz.results56, go_sem]) rfl ⟨rfl, (by repeat (first | exact Fr.refl _ _ | assumption | refine Fr.trans0 ?_ (by assumption) | refine Fr.drewN ?_ _ | refine Fr.alloc ?_ _ | refine Fr.drew ?_))⟩
set_option maxHeartbeats 2000000 in
set_option maxRecDepth 100000 in
theorem gnext_any (w : World) (gp p g n : Nat) (f : Nat → Bool) (ep : Int) (h : Gn w gp p g n f ep) (hT : Tab w) :
    Calls Tryz.prog 56 #[.pointer (some ⟨gp, 0, none⟩)] w fun r w' => r = .returned (.tuple #[.int .i64 (nxtP f n), .bool (nxtB f n)]) ∧ Fr [] w w' := by
  have hf0 : Fr [] w ((w.alloc (.cells #[.int .i64 0] 3)).alloc (.cells #[.bool false] 4)) := (by repeat (first | exact Fr.refl _ _ | assumption | refine Fr.trans0 ?_ (by assumption) | refine Fr.drewN ?_ _ | refine Fr.alloc ?_ _ | refine Fr.drew ?_))
  have a0 := (At.new w 3 #[.int .i64 0]).old (.cells #[.bool false] 4)
  have a1 := At.new (w.alloc (.cells #[.int .i64 0] 3)) 4 #[.bool false]
  simp only [World.size_alloc] at a1
  have H := Lib.hid (h.fr hf0 (by simp) (by simp) (by simp))
  have C := Lib.hid (tall_any _ p g n f (h.fr hf0 (by simp) (by simp) (by simp)).2.1)
  have cc := H.out.c
  have A0 := Lib.hid a0
  have A1 := Lib.hid a1
  have HF0 := Lib.hid hf0
  have HT := Lib.hid (hT.fr hf0 (by simp))
  have hTl := hT.lt
  clear h a0 a1 hf0 hT
  refine (callsIn_wide (n := 3)).1 ?_
  refine callsIn_of_wp_marks Tryz.func56 rfl trivial ?_ rfl
  simp only [Tryz.ntmps56, List.size_toArray, List.length_cons, List.length_nil, Nat.reduceAdd, Nat.reduceSub, Array.replicate_succ, Array.replicate_zero, List.push_toArray, List.append_toArray, List.nil_append, List.cons_append]
  refine wpIn_wide.2 ?_
  go_wp2_with (first | (go_at_call 93; refine (gnone_any _ _ _ _ _ _ _ H.out).mono ?_; rintro e w' ⟨rfl, rfl⟩) | (go_at_call 98; refine (C.out).mono ?_; rintro e w2 ⟨q, p', g', rfl, hq, ht, hq1, hp1, hg1, hqp, hqg, hf2⟩))
  have A0' := Lib.hid (A0.out.fr hf2 (by simp))
  have A1' := Lib.hid (A1.out.fr hf2 (by simp))
  have HF2 := Lib.hid (HF0.out.trans0 hf2)
  have HT2 := Lib.hid (HT.out.fr hf2 (by simp))
  have hst := all_stops (3 - 1) q p' g' n f w2 hq ht HT2.out
  clear C A0 A1 HT cc H
  refine (wpIn_wide (n := 3)).1 ?_
  refine wpIn_rangeFunc_ownF rfl (by omega) (gf := 129) (lb := #[.pointer (some ⟨q, 0, none⟩)]) rfl trivial (enters_of Tryz.func129 (by kernel_rfl) rfl) hst kpB_t kpB_b (Below.refl _ _) (fun _ => rfl)
    (fun pre V => pre = [] ∧ At V w.heap.size 3 #[.int .i64 0] ∧ At V (w.heap.size + 1) 4 #[.bool false] ∧ Fr [] w V)
    (fun c pre V => c = .ret ∧ ∃ x : Nat, pre = [x] ∧ At V w.heap.size 3 #[.int .i64 x] ∧ At V (w.heap.size + 1) 4 #[.bool true] ∧ Fr [] w V)
    (fun x A B row hs hg hr => ⟨hs.1, atK_grown hg (fun r e => (hr r e).2) _ _ _ hs.2.1, atK_grown hg (fun r e => (hr r e).2) _ _ _ hs.2.2.1, hs.2.2.2.row hg HF2.out.size hr⟩)
    (fun c x A B row hs hg hr => ⟨hs.1, hs.2.choose, hs.2.choose_spec.1, atK_grown hg (fun r e => (hr r e).2) _ _ _ hs.2.choose_spec.2.1, atK_grown hg (fun r e => (hr r e).2) _ _ _ hs.2.choose_spec.2.2.1, hs.2.choose_spec.2.2.2.row hg HF2.out.size hr⟩)
    ⟨rfl, A0'.out, A1'.out, HF2.out⟩ ?a1 ?assign ?body ?done ?stop
  case assign =>
    intro l x V K hK
    gi_wp2
    exact hK
  case body =>
    rintro l pre x V ⟨rfl, h0, h1, hF⟩ _
    have c0 := h0.cell 0
    have c1 := h1.cell 0
    have f0 := h0.froz 0
    have f1 := h1.froz 0
    simp only [List.getElem?_toArray, List.getElem?_cons_zero] at c0 c1
    have H0 := Lib.hid h0
    have H1 := Lib.hid h1
    clear h0 h1
    gi_wp2
    have hfs : Fr [w.heap.size, w.heap.size + 1] V ((V.setCell ⟨w.heap.size, 0, none⟩ (.int .i64 (x : Nat))).setCell ⟨w.heap.size + 1, 0, none⟩ (.bool true)) := ((Fr.refl _ _).set (.inl (by simp)) _).set (.inl (by simp)) _
    refine ⟨hfs.keepsFrom (by simp; exact ⟨⟨_, _, H0.out⟩, _, _, H1.out⟩), rfl, x, rfl, (H0.out.set 0 _).far (show w.heap.size ≠ w.heap.size + 1 by omega) _, (H1.out.far (show w.heap.size + 1 ≠ w.heap.size by omega) _).set 0 _, hF.trans hfs (by simp)⟩
  case done =>
    rintro D xs V hD hxs ⟨hx, h0, h1, hF⟩ hK
    have HN := Lib.hid (nxt_nil (f := f) (n := n) (by rw [← hxs, hx]))
    have c0 := h0.cell 0
    have c1 := h1.cell 0
    have f0 := h0.froz 0
    have f1 := h1.froz 0
    simp only [List.getElem?_toArray, List.getElem?_cons_zero] at c0 c1
    have H0 := Lib.hid h0
    have H1 := Lib.hid h1
    have HK := Lib.hid hK
    have hDw : w.heap.size ≤ D := by have := HF2.out.size; omega
    clear hxs hx h0 h1 hK
    go_wp2
    have hk1 := ((KeepsOthers.setCell V ⟨w.heap.size, 0, none⟩ (.int .i64 0)).trans (KeepsOthers.setCell _ ⟨w.heap.size + 1, 0, none⟩ (.bool false))).same D _ HK.out rfl
    refine ⟨by simp, .inl ⟨_, _, rfl, run_takeDeferred hk1, ?_⟩⟩
    have hk := atK_put (.deferred none) hk1 rfl
    have b0 := (hk _ _ _ ((H0.out.set 0 (.int .i64 0)).far (show w.heap.size ≠ w.heap.size + 1 by omega) (.bool false))).cell 0
    have b1 := (hk _ _ _ ((H1.out.far (show w.heap.size + 1 ≠ w.heap.size by omega) (.int .i64 0)).set 0 (.bool false))).cell 0
    rw [HN.out.1, HN.out.2]
    exact ⟨.tuple #[.int .i64 0, .bool false], by simp [results, Tryz.results56, go_sem, b0, b1], rfl, ((hF.set (.inr (Nat.le_refl _)) _).set (.inr (by show w.heap.size ≤ w.heap.size + 1; omega)) _).putObj D _ hDw⟩
  case stop =>
    rintro D c pre V hD hpre ⟨rfl, x, rfl, h0, h1, hF⟩ hK
    have HN := nxt_one hpre
    have hDw : w.heap.size ≤ D := by have := HF2.out.size; omega
    gi_wp2
    refine ⟨by simp, .inl ⟨_, _, rfl, run_takeDeferred hK, ?_⟩⟩
    have hk := atK_put (.deferred none) hK rfl
    have b0 := (hk _ _ _ h0).cell 0
    have b1 := (hk _ _ _ h1).cell 0
    rw [HN.1, HN.2]
    exact ⟨.tuple #[.int .i64 (x : Nat), .bool true], by simp [results, Tryz.results56, go_sem, b0, b1], rfl, hF.putObj D _ hDw⟩
end Go.Proofs.YthjbnbimfpbccaaGreatDoor
