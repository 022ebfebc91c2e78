/-
  What Begin, End, and what a yard tells do. Condition: numbers in their types' ranges.
-/
import Derived.Deep.CutBlock
import Derived.Deep.DeepCutAuto
import Derived.Lib.TrailingZeros
import Derived.Deep.RegionHeld3
import Derived.BigRegion
import Derived.StillTailTactics
import Derived.Laws.EntriesVeiled
import Derived.Laws.IdiomStrings
import Derived.Laws.Concat
import Derived.Test.YthjbnbimfpbccaaGreatDoorJ2



set_option linter.unusedVariables false
namespace Go.Proofs.YthjbnbimfpbccaaGreatDoor
open Go.ChangeShapes Go.WideShapes Go.ChangeAt Go.RowKit
theorem Lt.fr1 {w w' : World} {v : Value} {a b c n y : Nat} {l : List (Nat × Nat)} {cs : Array Value} (h : Lt w v a b c n l) (hy : At w y 119 cs) (f : Fr [y] w w') : Lt w' v a b c n l := by
  obtain ⟨n1, n2, n3⟩ := Pt.apart h.pt hy
  exact h.fr f (by simpa using n1) (by simpa using n2) (by simpa using n3) (fun g hg => by have := own_ne h.own hy (by decide) g hg; simpa using this)
theorem Lt.lt {w : World} {v : Value} {a b c n : Nat} {l : List (Nat × Nat)} (h : Lt w v a b c n l) : a < w.heap.size ∧ b < w.heap.size ∧ c < w.heap.size := h.pt.lt
theorem qsweep_any {w : World} {s : YS} (h : Yd w s) : Calls Tryz.prog 38 #[.pointer (some ⟨s.y, 0, none⟩)] w fun r w' => r = .returned (.bool s.un) ∧ w = w' := by
  have HN := Lib.hid (qnone_any h)
  have H := Lib.hid h
  have hat := h.at_
  have hfew := h.few
  have hup := h.up
  have hn2 := h.wt.pt.2.2.2.2
  unfold YS.cells at hat
  obtain ⟨y, n, ep, un, wv, a, b, c, lw, bv, a', b', c', lb⟩ := s
  dsimp only at *
  obtain ⟨N, hNN⟩ : ∃ N, 16 * n = N := ⟨_, rfl⟩
  rw [hNN] at hat
  have HNN := Lib.hid hNN
  have Y0 := Lib.hid hat
  clear hNN
  have c0 := hat.cell 0
  have c1 := hat.cell 1
  have c2 := hat.cell 2
  have c3 := hat.cell 3
  have c4 := hat.cell 4
  have c5 := hat.cell 5
  have c6 := hat.cell 6
  simp only [List.getElem?_toArray, List.getElem?_cons_zero, List.getElem?_cons_succ] at c0 c1 c2 c3 c4 c5 c6
  clear hat h
  go_enter Tryz.func38, Tryz.ntmps38
  go_wp2_with fail
  refine (HN.out).mono ?_
  rintro e w' ⟨rfl, rfl⟩
  go_wp2_with fail
  go_ret
  exact ⟨rfl, rfl⟩
def endN (s : YS) : Int := if s.un = true then (s.ep : Int) - 1 else s.ep
def tick (s : YS) : Int := if 0 < s.lw.length then (s.ep : Int) + 1 else if 0 < s.lb.length then s.ep else endN s
theorem qpaint_any {w : World} {s : YS} (h : Yd w s) : Calls Tryz.prog 43 #[.pointer (some ⟨s.y, 0, none⟩)] w fun r w' => ∃ p q g, r = .returned (.pointer (some ⟨p, 0, none⟩)) ∧ Pt w' p q g s.n (cov s.lb) ∧ (w.heap.size ≤ p ∧ w.heap.size ≤ q ∧ w.heap.size ≤ g) ∧ Fr [] w w' := by
  have HC := Lib.hid (ptcopy_any w s.a' s.b' s.c' s.n (cov s.lb) h.bt.pt)
  have HN := Lib.hid (qnone_any h)
  have H := Lib.hid h
  have hat := h.at_
  have hfew := h.few
  have hup := h.up
  have hn2 := h.wt.pt.2.2.2.2
  unfold YS.cells at hat
  obtain ⟨y, n, ep, un, wv, a, b, c, lw, bv, a', b', c', lb⟩ := s
  dsimp only at *
  obtain ⟨N, hNN⟩ : ∃ N, 16 * n = N := ⟨_, rfl⟩
  rw [hNN] at hat
  have HNN := Lib.hid hNN
  have Y0 := Lib.hid hat
  clear hNN
  have c0 := hat.cell 0
  have c1 := hat.cell 1
  have c2 := hat.cell 2
  have c3 := hat.cell 3
  have c4 := hat.cell 4
  have c5 := hat.cell 5
  have c6 := hat.cell 6
  simp only [List.getElem?_toArray, List.getElem?_cons_zero, List.getElem?_cons_succ] at c0 c1 c2 c3 c4 c5 c6
  clear hat h
  go_enter Tryz.func43, Tryz.ntmps43
  go_wp2_with fail
  refine (HN.out).mono ?_
  rintro e w' ⟨rfl, rfl⟩
  go_wp2_with fail
  refine (HC.out).mono ?_
  rintro e w2 ⟨p, q, g, rfl, hp, h1, h2, h3, hf⟩
  have HP := Lib.hid hp
  clear hp
  go_wp2_with fail
  go_ret
  exact ⟨p, q, g, rfl, HP.out, ⟨h1, h2, h3⟩, hf⟩
theorem qbegin_no {w : World} {s : YS} (h : Yd w s) (hu : s.un = true) : Calls Tryz.prog 46 #[.pointer (some ⟨s.y, 0, none⟩)] w fun r w' => r = .returned (.tuple #[.int .u64 0, .bool false]) ∧ w = w' := by
  have HN := Lib.hid (qnone_any h)
  have H := Lib.hid h
  have hat := h.at_
  have hfew := h.few
  have hup := h.up
  have hn2 := h.wt.pt.2.2.2.2
  unfold YS.cells at hat
  obtain ⟨y, n, ep, un, wv, a, b, c, lw, bv, a', b', c', lb⟩ := s
  dsimp only at *
  obtain ⟨N, hNN⟩ : ∃ N, 16 * n = N := ⟨_, rfl⟩
  rw [hNN] at hat
  have HNN := Lib.hid hNN
  have Y0 := Lib.hid hat
  clear hNN
  have c0 := hat.cell 0
  have c1 := hat.cell 1
  have c2 := hat.cell 2
  have c3 := hat.cell 3
  have c4 := hat.cell 4
  have c5 := hat.cell 5
  have c6 := hat.cell 6
  simp only [List.getElem?_toArray, List.getElem?_cons_zero, List.getElem?_cons_succ] at c0 c1 c2 c3 c4 c5 c6
  clear hat h
  subst hu
  go_enter Tryz.func46, Tryz.ntmps46
  go_wp2_with fail
  refine (HN.out).mono ?_
  rintro e w' ⟨rfl, rfl⟩
  go_wp2_with fail
  go_ret2
  exact ⟨rfl, rfl⟩
theorem qend_no {w : World} {s : YS} (h : Yd w s) (hu : s.un = false) : Calls Tryz.prog 55 #[.pointer (some ⟨s.y, 0, none⟩)] w fun r w' => r = .returned (.slice none 0 0) ∧ w = w' := by
  have HN := Lib.hid (qnone_any h)
  have H := Lib.hid h
  have hat := h.at_
  have hfew := h.few
  have hup := h.up
  have hn2 := h.wt.pt.2.2.2.2
  unfold YS.cells at hat
  obtain ⟨y, n, ep, un, wv, a, b, c, lw, bv, a', b', c', lb⟩ := s
  dsimp only at *
  obtain ⟨N, hNN⟩ : ∃ N, 16 * n = N := ⟨_, rfl⟩
  rw [hNN] at hat
  have HNN := Lib.hid hNN
  have Y0 := Lib.hid hat
  clear hNN
  have c0 := hat.cell 0
  have c1 := hat.cell 1
  have c2 := hat.cell 2
  have c3 := hat.cell 3
  have c4 := hat.cell 4
  have c5 := hat.cell 5
  have c6 := hat.cell 6
  simp only [List.getElem?_toArray, List.getElem?_cons_zero, List.getElem?_cons_succ] at c0 c1 c2 c3 c4 c5 c6
  clear hat h
  subst hu
  go_enter Tryz.func55, Tryz.ntmps55
  go_wp2_with fail
  refine (HN.out).mono ?_
  rintro e w' ⟨rfl, rfl⟩
  go_wp2_with fail
  go_ret
  exact ⟨rfl, rfl⟩
set_option maxHeartbeats 2000000 in
set_option maxRecDepth 100000 in
theorem qend_yes {w : World} {s : YS} (h : Yd w s) (hu : s.un = true) : Calls Tryz.prog 55 #[.pointer (some ⟨s.y, 0, none⟩)] w fun r w' => ∃ p q g, r = .returned s.bv ∧ Yd w' { s with un := false, bv := .slice none 0 0, a' := p, b' := q, c' := g, lb := [] } ∧ (w.heap.size ≤ p ∧ w.heap.size ≤ q ∧ w.heap.size ≤ g) ∧ Fr [s.y] w w' := by
  have C := Lib.hid fun W => fresh_any s.n W h.wt.pt.2.2.2.2
  have HN := Lib.hid (qnone_any h)
  have H := Lib.hid h
  have hat := h.at_
  have hfew := h.few
  have hup := h.up
  have hn2 := h.wt.pt.2.2.2.2
  unfold YS.cells at hat
  obtain ⟨y, n, ep, un, wv, a, b, c, lw, bv, a', b', c', lb⟩ := s
  dsimp only at *
  obtain ⟨N, hNN⟩ : ∃ N, 16 * n = N := ⟨_, rfl⟩
  rw [hNN] at hat
  have HNN := Lib.hid hNN
  have Y0 := Lib.hid hat
  clear hNN
  rw [HNN.out] at C
  have z1 := hat.froz 1
  have c0 := hat.cell 0
  have c1 := hat.cell 1
  have c2 := hat.cell 2
  have c3 := hat.cell 3
  have c4 := hat.cell 4
  have c5 := hat.cell 5
  have c6 := hat.cell 6
  simp only [List.getElem?_toArray, List.getElem?_cons_zero, List.getElem?_cons_succ] at c0 c1 c2 c3 c4 c5 c6
  clear hat h
  subst hu
  go_enter Tryz.func55, Tryz.ntmps55
  go_wp2_with fail
  refine (HN.out).mono ?_
  rintro e w' ⟨rfl, rfl⟩
  go_upto_region 5 with (fail)
  have F1 : Fr [y] w (w.setCell ⟨y, 1, none⟩ (.bool false)) := (Fr.refl _ _).set (.inl (by simp)) _
  have Y1 := Lib.hid (Y0.out.set 1 (.bool false))
  simp only [List.setIfInBounds_toArray, List.set_cons_zero, List.set_cons_succ] at Y1
  have HF1 := Lib.hid F1
  obtain ⟨w1, hw1⟩ : ∃ W, w.setCell ⟨y, 1, none⟩ (.bool false) = W := ⟨_, rfl⟩
  rw [hw1] at Y1 HF1
  rw [hw1]
  have hs1 := HF1.out.size
  have d2 := Y1.out.cell 2
  simp only [List.getElem?_toArray, List.getElem?_cons_zero, List.getElem?_cons_succ] at d2
  clear c0 c1 c2 c3 c4 c5 c6 z1 F1 hw1 Y0
  go_wp2_with fail
  refine (C.out _).mono ?_
  rintro e w2 ⟨p, q, g, rfl, hl2, hp, hq, hg, hf2⟩
  have Y2 := Lib.hid (Y1.out.fr hf2 (by simp))
  have L2 := Lib.hid hl2
  have F2 := Lib.hid (HF1.out.trans0 hf2)
  have e5 := Y2.out.cell 5
  have e6 := Y2.out.cell 6
  have z5 := Y2.out.froz 5
  have z6 := Y2.out.froz 6
  simp only [List.getElem?_toArray, List.getElem?_cons_zero, List.getElem?_cons_succ] at e5 e6
  clear hl2 hf2 d2 HF1 Y1
  go_wp2_with fail
  go_ret
  have hyl := H.out.at_.lt
  have hcl := H.out.wt.lt.2.2
  have Y3 := (Y2.out.set 5 (.slice none 0 0)).set 6 (.pointer (some ⟨p, 0, none⟩))
  simp only [List.setIfInBounds_toArray, List.set_cons_zero, List.set_cons_succ] at Y3
  have F3 : Fr [y] w2 ((w2.setCell ⟨y, 5, none⟩ (.slice none 0 0)).setCell ⟨y, 6, none⟩ (.pointer (some ⟨p, 0, none⟩))) := ((Fr.refl _ _).set (.inl (by simp)) _).set (.inl (by simp)) _
  have FA := F2.out.trans F3 (fun k hk => .inl hk)
  have q1 : w.heap.size ≤ p := Nat.le_trans hs1 hp
  have q2 : w.heap.size ≤ q := Nat.le_trans hs1 hq
  have q3 : w.heap.size ≤ g := Nat.le_trans hs1 hg
  have hyl' : y < w.heap.size := hyl
  have hcl' : c < w.heap.size := hcl
  refine ⟨p, q, g, rfl, ⟨?_, H.out.wt.fr1 H.out.at_ FA, ?_, (show c ≠ g by omega), (fun g' hg' h => by simp [Value.ownBlock] at h), (fun h => by cases h), hfew⟩, ⟨q1, q2, q3⟩, FA⟩
  · unfold YS.cells
    dsimp only
    rw [HNN.out]
    exact Y3
  · exact L2.out.fr F3 (by simp; omega) (by simp; omega) (by simp; omega) (by simp [Value.ownBlock])
set_option maxHeartbeats 2000000 in
set_option maxRecDepth 100000 in
theorem qbegin_yes {w : World} {s : YS} (h : Yd w s) (hu : s.un = false) (he : s.ep < 1000000) : Calls Tryz.prog 46 #[.pointer (some ⟨s.y, 0, none⟩)] w fun r w' => ∃ p q g, r = .returned (.tuple #[.int .u64 (s.ep + 1 : Nat), .bool true]) ∧ Yd w' { s with ep := s.ep + 1, un := true, wv := .slice none 0 0, a := p, b := q, c := g, lw := [], bv := s.wv, a' := s.a, b' := s.b, c' := s.c, lb := s.lw } ∧ (w.heap.size ≤ p ∧ w.heap.size ≤ q ∧ w.heap.size ≤ g) ∧ Fr [s.y] w w' := by
  have C := Lib.hid fun W => fresh_any s.n W h.wt.pt.2.2.2.2
  have HLI := Lib.hid (show (Tryz.prog.info? 117).map (·.size) = some 2 by kernel_rfl)
  have hone := fun (v : Value) (p : Nat) (hv : v.oneCell' = true) => show ∀ u ∈ [v, Value.pointer (some ⟨p, 0, none⟩)], u.oneCell' = true from fun u hu => by simp at hu; rcases hu with rfl | rfl <;> first | exact hv | rfl
  have HONE := Lib.hid hone
  obtain ⟨va, vc, hva, -⟩ := own_slice h.wt.own
  have hwone : s.wv.oneCell' = true := by rw [hva]; rfl
  have HWO := Lib.hid hwone
  clear hone hva hwone
  have HN := Lib.hid (qnone_any h)
  have H := Lib.hid h
  have hat := h.at_
  have hfew := h.few
  have hup := h.up
  have hn2 := h.wt.pt.2.2.2.2
  unfold YS.cells at hat
  obtain ⟨y, n, ep, un, wv, a, b, c, lw, bv, a', b', c', lb⟩ := s
  dsimp only at *
  obtain ⟨N, hNN⟩ : ∃ N, 16 * n = N := ⟨_, rfl⟩
  rw [hNN] at hat
  have HNN := Lib.hid hNN
  have Y0 := Lib.hid hat
  clear hNN
  rw [HNN.out] at C
  have z0 := hat.froz 0
  have z1 := hat.froz 1
  have c0 := hat.cell 0
  have c1 := hat.cell 1
  have c2 := hat.cell 2
  have c3 := hat.cell 3
  have c4 := hat.cell 4
  have c5 := hat.cell 5
  have c6 := hat.cell 6
  simp only [List.getElem?_toArray, List.getElem?_cons_zero, List.getElem?_cons_succ] at c0 c1 c2 c3 c4 c5 c6
  clear hat h
  subst hu
  have hw : IntKind.u64.wrap ((ep : Int) + 1) = (ep : Int) + 1 := by simp [IntKind.wrap, IntKind.signed, IntKind.bits]; omega
  go_enter Tryz.func46, Tryz.ntmps46
  go_wp2_with fail
  refine (HN.out).mono ?_
  rintro e w' ⟨rfl, rfl⟩
  go_upto_region 5 with (fail)
  have F1 : Fr [y] w ((w.setCell ⟨y, 1, none⟩ (.bool true)).setCell ⟨y, 0, none⟩ (.int .u64 ((ep : Int) + 1))) := ((Fr.refl _ _).set (.inl (by simp)) _).set (.inl (by simp)) _
  have Y1 := (Y0.out.set 1 (.bool true)).set 0 (.int .u64 ((ep : Int) + 1))
  simp only [List.setIfInBounds_toArray, List.set_cons_zero, List.set_cons_succ] at Y1
  obtain ⟨w1, hw1⟩ : ∃ W, (w.setCell ⟨y, 1, none⟩ (.bool true)).setCell ⟨y, 0, none⟩ (.int .u64 ((ep : Int) + 1)) = W := ⟨_, rfl⟩
  rw [hw1] at Y1 F1
  rw [hw1]
  have Y1 := Lib.hid Y1
  have HF1 := Lib.hid F1
  have hs1 := F1.size
  clear c0 c1 c2 c3 c4 c5 c6 z0 z1 F1 hw1 Y0 hw
  refine wp_region_L (fun W => Fr [y] w1 W ∧ ∃ u v : Value, At W y 119 #[.int .u64 ((ep : Int) + 1), .bool true, .int .i64 (N : Int), wv, .pointer (some ⟨a, 0, none⟩), u, v]) [16] (by kernel_rfl) ⟨(Fr.refl _ _).drew, _, _, Y1.out.hp rfl⟩ (fun hHeld => ?_)
  refine wpAnyL_take (i := 0) (v := ?_) rfl (by kernel_rfl) (fun _ _ _ h => h) (Or.inl ⟨by rfl, ?_⟩) (by assumption) ?_; rotate_left; (focus (intro w hSw; skip; go_simp; (try with_reducible rfl))); (try (refine wpAnyL_norm (by simp only [Act.put, List.setIfInBounds_toArray, List.set_cons_zero, List.set_cons_succ]; rfl) ?_))
  refine wpAnyL_take (i := 1) (v := ?_) rfl (by kernel_rfl) (fun _ _ _ h => h) (Or.inl ⟨by rfl, ?_⟩) (by assumption) ?_; rotate_left; (focus (intro w hSw; skip; go_simp; (try with_reducible rfl))); (try (refine wpAnyL_norm (by simp only [Act.put, List.setIfInBounds_toArray, List.set_cons_zero, List.set_cons_succ]; rfl) ?_))
  refine wpAnyL_take (i := 2) (v := ?_) rfl (by kernel_rfl) (fun _ _ _ h => h) (Or.inl ⟨by rfl, ?_⟩) (by assumption) ?_; rotate_left; (focus (intro w hSw; skip; go_simp; (try with_reducible rfl))); (try (refine wpAnyL_norm (by simp only [Act.put, List.setIfInBounds_toArray, List.set_cons_zero, List.set_cons_succ]; rfl) ?_))
  refine wpAnyL_take (i := 3) (v := ?_) rfl (by kernel_rfl) (fun _ _ _ h => h) (Or.inl ⟨by rfl, ?_⟩) (by assumption) ?_; rotate_left; (focus (intro w hSw; skip; go_simp; (try with_reducible rfl))); (try (refine wpAnyL_norm (by simp only [Act.put, List.setIfInBounds_toArray, List.set_cons_zero, List.set_cons_succ]; rfl) ?_))
  refine wpAnyL_take (i := 4) (v := ?_) rfl (by kernel_rfl) (fun _ _ _ h => h) (Or.inl ⟨by rfl, ?_⟩) (by assumption) ?_; rotate_left; (focus (intro w hSw; skip; go_simp; (try with_reducible rfl))); (try (refine wpAnyL_norm (by simp only [Act.put, List.setIfInBounds_toArray, List.set_cons_zero, List.set_cons_succ]; rfl) ?_))
  refine wpAnyL_take (i := 5) rfl (by kernel_rfl) (fun _ _ _ h => h) (yields_load_at 117 (.tmp 30) rfl ⟨y, 3, none⟩ rfl [wv, .pointer (some ⟨a, 0, none⟩)] _ (fun W h => by obtain ⟨_, u, v, hat⟩ := h; exact two_at hat 3 _ _ rfl rfl) Tryz.underlying117 rfl HLI.out rfl) (by assumption) ?_; (try (refine wpAnyL_norm (by simp only [Act.put, List.setIfInBounds_toArray, List.set_cons_zero, List.set_cons_succ]; rfl) ?_))
  refine wpAnyL_take (i := 6) (v := ?_) rfl (by kernel_rfl) (fun _ _ _ h => h) (Or.inl ⟨by rfl, ?_⟩) (by assumption) ?_; rotate_left; (focus (intro w hSw; skip; go_simp; (try with_reducible rfl))); (try (refine wpAnyL_norm (by simp only [Act.put, List.setIfInBounds_toArray, List.set_cons_zero, List.set_cons_succ]; rfl) ?_))
  refine wpAnyL_take (i := 7) (v := ?_) rfl (by kernel_rfl) (fun _ _ _ h => h) (Or.inl ⟨by rfl, ?_⟩) (by assumption) ?_; rotate_left; (focus (intro w hSw; skip; go_simp; (try with_reducible rfl))); (try (refine wpAnyL_norm (by simp only [Act.put, List.setIfInBounds_toArray, List.set_cons_zero, List.set_cons_succ]; rfl) ?_))
  refine wpAnyL_take (i := 8) (v := ?_) rfl (by kernel_rfl) (fun _ _ _ h => h) (Or.inl ⟨by rfl, ?_⟩) (by assumption) ?_; rotate_left; (focus (intro w hSw; skip; go_simp; (try with_reducible rfl))); (try (refine wpAnyL_norm (by simp only [Act.put, List.setIfInBounds_toArray, List.set_cons_zero, List.set_cons_succ]; rfl) ?_))
  refine wpAnyL_take (i := 9) (v := ?_) rfl (by kernel_rfl) (fun _ _ _ h => h) (Or.inl ⟨by rfl, ?_⟩) (by assumption) ?_; rotate_left; (focus (intro w hSw; (obtain ⟨_, u, v, hat⟩ := hSw); (have cc := hat.cell 2); (simp only [List.getElem?_toArray, List.getElem?_cons_zero, List.getElem?_cons_succ] at cc); go_simp; (try with_reducible rfl))); (try (refine wpAnyL_norm (by simp only [Act.put, List.setIfInBounds_toArray, List.set_cons_zero, List.set_cons_succ]; rfl) ?_))
  refine wpAnyL_ready (rs := [10]) (by kernel_rfl) (by simp) ?_; refine AllReadyL.cons rfl (fun K hK => ?_) AllReadyL.nil
  go_simp
  refine (C.out _).mono ?_
  rintro e w2 ⟨p, q, g, rfl, hl2, hp, hq, hg, hf2⟩
  refine hK.out _ _ (fun _ => ⟨hHeld.1.trans0 hf2, by obtain ⟨_, u, v, hat⟩ := hHeld; exact ⟨u, v, hat.fr hf2 (by simp)⟩⟩) (fun hHeld' => ?_); have hHeld := hHeld' (by decide); clear hHeld' hK K; (try (refine wpAnyL_norm (by simp only [Act.put, List.setIfInBounds_toArray, List.set_cons_zero, List.set_cons_succ]; rfl) ?_))
  have hp' : w1.heap.size ≤ p := hp
  have hq' : w1.heap.size ≤ q := hq
  have hg' : w1.heap.size ≤ g := hg
  have L2 := Lib.hid hl2
  have Y2 := Lib.hid (At.fr (Y1.out.hp (w' := w1.drew) rfl) hf2 (by simp))
  have HF2 := Lib.hid (show Fr [] w1 w2 from (Fr.refl [] w1).drew.trans0 hf2)
  have hyl := Y1.out.lt
  clear hl2 hf2 hp hq hg
  refine wpAnyL_take (i := 11) (v := ?_) rfl (by kernel_rfl) (fun _ _ _ h => h) (Or.inl ⟨by rfl, ?_⟩) (by assumption) ?_; rotate_left; (focus (intro w hSw; skip; go_simp; (try with_reducible rfl))); (try (refine wpAnyL_norm (by simp only [Act.put, List.setIfInBounds_toArray, List.set_cons_zero, List.set_cons_succ]; rfl) ?_))
  refine wpAnyL_take (i := 12) (v := ?_) rfl (by kernel_rfl) (fun _ _ _ h => h) (Or.inl ⟨by rfl, ?_⟩) (by assumption) ?_; rotate_left; (focus (intro w hSw; skip; go_simp; (try with_reducible rfl))); (try (refine wpAnyL_norm (by simp only [Act.put, List.setIfInBounds_toArray, List.set_cons_zero, List.set_cons_succ]; rfl) ?_))
  refine wpAnyL_ready (rs := [13]) (by kernel_rfl) (by simp) ?_; refine AllReadyL.cons rfl (fun K hK => ?_) AllReadyL.nil
  rw [if_pos (by rfl)]
  refine wp_store_at 117 (.tmp 38) (.tmp 31) rfl y 5 [wv, .pointer (some ⟨a, 0, none⟩)] rfl rfl 119 [.int .u64 ((ep : Int) + 1), .bool true, .int .i64 (N : Int), wv, .pointer (some ⟨a, 0, none⟩), bv, .pointer (some ⟨a', 0, none⟩)] Y2.out HLI.out (by simp) (HONE.out wv a HWO.out) ?_
  intro w3 hA3 hF3
  simp only [List.length_cons, List.length_nil, Nat.reduceAdd, List.take_succ_cons, List.take_zero, List.drop_succ_cons, List.drop_zero, List.drop_nil, List.cons_append, List.nil_append, List.append_nil] at hA3
  refine hK.out _ _ (fun _ => ⟨(HF2.out.more (by simp)).trans hF3 (fun k hk => .inl hk), _, _, hA3⟩) (fun hHeld' => ?_); have hHeld := hHeld' (by decide); clear hHeld' hK K; (try (refine wpAnyL_norm (by simp only [Act.put, List.setIfInBounds_toArray, List.set_cons_zero, List.set_cons_succ]; rfl) ?_))
  refine wpAnyL_take (i := 14) (v := ?_) rfl (by kernel_rfl) (fun _ _ _ h => h) (Or.inl ⟨by rfl, ?_⟩) (by assumption) ?_; rotate_left; (focus (intro w hSw; skip; go_simp; (try with_reducible rfl))); (try (refine wpAnyL_norm (by simp only [Act.put, List.setIfInBounds_toArray, List.set_cons_zero, List.set_cons_succ]; rfl) ?_))
  refine wpAnyL_take (i := 15) (v := ?_) rfl (by kernel_rfl) (fun _ _ _ h => h) (Or.inl ⟨by rfl, ?_⟩) (by assumption) ?_; rotate_left; (focus (intro w hSw; skip; go_simp; (try with_reducible rfl))); (try (refine wpAnyL_norm (by simp only [Act.put, List.setIfInBounds_toArray, List.set_cons_zero, List.set_cons_succ]; rfl) ?_))
  refine wpAnyL_ready (rs := [16]) (by kernel_rfl) (by simp) ?_; refine AllReadyL.cons rfl (fun K hK => ?_) AllReadyL.nil
  rw [if_pos (by rfl)]
  refine wp_store_at 117 (.tmp 40) (.tmp 36) rfl y 3 [.slice none 0 0, .pointer (some ⟨p, 0, none⟩)] rfl rfl 119 [.int .u64 ((ep : Int) + 1), .bool true, .int .i64 (N : Int), wv, .pointer (some ⟨a, 0, none⟩), wv, .pointer (some ⟨a, 0, none⟩)] hA3 HLI.out (by simp) (HONE.out _ p rfl) ?_
  intro w4 hA4 hF4
  simp only [List.length_cons, List.length_nil, Nat.reduceAdd, List.take_succ_cons, List.take_zero, List.drop_succ_cons, List.drop_zero, List.drop_nil, List.cons_append, List.nil_append, List.append_nil] at hA4
  refine hK.out _ _ (fun h => (h (by decide)).elim) (fun _ => ?_); clear hK K; (try (refine wpAnyL_norm (by simp only [Act.put, List.setIfInBounds_toArray, List.set_cons_zero, List.set_cons_succ]; rfl) ?_))
  refine wpAnyL_done (by kernel_rfl) ?_ _
  have Y4 := Lib.hid hA4
  have F24 := Lib.hid (hF3.trans hF4 (fun k hk => .inl hk))
  have c0 := hA4.cell 0
  simp only [List.getElem?_toArray, List.getElem?_cons_zero] at c0
  clear hA3 hF3 hA4 hF4 hHeld
  go_wp2_with fail
  go_ret2
  have FA := (HF1.out.trans0 HF2.out).trans F24.out (fun k hk => .inl hk)
  have hcl := H.out.wt.lt.2.2
  have q1 : w.heap.size ≤ p := Nat.le_trans hs1 hp'
  have q2 : w.heap.size ≤ q := Nat.le_trans hs1 hq'
  have q3 : w.heap.size ≤ g := Nat.le_trans hs1 hg'
  have hcl' : c < w.heap.size := hcl
  refine ⟨p, q, g, rfl, ⟨?_, ?_, H.out.wt.fr1 H.out.at_ FA, (show g ≠ c by omega), (fun g' h => by simp [Value.ownBlock] at h), (fun _ => by dsimp only; omega), (by dsimp only; omega)⟩, ⟨q1, q2, q3⟩, FA⟩
  · unfold YS.cells
    dsimp only
    rw [HNN.out]
    exact Y4.out
  · exact L2.out.fr F24.out (by simp; omega) (by simp; omega) (by simp; omega) (by simp [Value.ownBlock])
end Go.Proofs.YthjbnbimfpbccaaGreatDoor
/-
  A yard's copy. Condition: numbers in their types' ranges.
-/



set_option linter.unusedVariables false
namespace Go.Proofs.YthjbnbimfpbccaaGreatDoor
open Go.ChangeShapes Go.WideShapes Go.ChangeAt Go.RowKit
end Go.Proofs.YthjbnbimfpbccaaGreatDoor
/-
  A yard by what it holds alone: bytes, sweeps, two lists; every function of a yard told in these words. Condition: numbers in their types' ranges; a million sweeps at most.
-/



set_option linter.unusedVariables false
namespace Go.Proofs.YthjbnbimfpbccaaGreatDoor
open Go.ChangeShapes Go.WideShapes Go.ChangeAt Go.RowKit
structure MS where
  n : Nat
  ep : Nat
  un : Bool
  lw : List (Nat × Nat)
  lb : List (Nat × Nat)
def YS.ms (s : YS) : MS := ⟨s.n, s.ep, s.un, s.lw, s.lb⟩
def pl (l : List (Nat × Nat)) (a : Nat) : Nat := (l.takeWhile fun r => decide (r.1 < a)).length
theorem pl_place : ∀ (l : List (Nat × Nat)) (a k : Nat), Place l a k → k = pl l a
  | [], a, k, h => by have := h.1; simp at this; subst this; rfl
  | r :: l, a, 0, h => by
    have := h.2.2 0 r (by omega) rfl
    unfold pl
    rw [List.takeWhile_cons_of_neg (by simpa using this)]
    rfl
  | r :: l, a, k + 1, h => by
    have h0 := h.2.1 0 r (by omega) rfl
    have ih := pl_place l a k ⟨by have := h.1; simp at this; exact this, fun j s hj hs => h.2.1 (j + 1) s (by omega) hs, fun j s hj hs => h.2.2 (j + 1) s (by omega) hs⟩
    unfold pl at ih ⊢
    rw [List.takeWhile_cons_of_pos (by simpa using h0), List.length_cons, ← ih]
def put (l : List (Nat × Nat)) (r : Nat × Nat) : List (Nat × Nat) := insL l (pl l r.1) r
def frB (m : MS) (a s : Nat) : Bool := decide (a % 16 = 0 ∧ s % 16 = 0 ∧ 0 < s ∧ a + s ≤ 16 * m.n) && !(tch (cov m.lw) (a / 16) (s / 16) || tch (cov m.lb) (a / 16) (s / 16))
def mFree (m : MS) (a s : Nat) : MS := if frB m a s = true then { m with lw := put m.lw (a, s) } else m
def mBegin (m : MS) : MS := if m.un = true then m else { m with ep := m.ep + 1, un := true, lw := [], lb := m.lw }
def mEnd (m : MS) : MS := if m.un = true then { m with un := false, lb := [] } else m
def mEnded (m : MS) : Int := if m.un = true then (m.ep : Int) - 1 else m.ep
def mTick (m : MS) : Int := if 0 < m.lw.length then (m.ep : Int) + 1 else if 0 < m.lb.length then m.ep else mEnded m
/-- A yard all of whose changing blocks are new since w0, where nothing older has turned. -/
structure Yw (w0 w : World) (y : Nat) (m : MS) (s : YS) : Prop where
  yd : Yd w s
  f : Fr [] w0 w
  y0 : w0.heap.size ≤ s.y
  c0 : w0.heap.size ≤ s.c
  own : ∀ g, s.wv.ownBlock = some g → w0.heap.size ≤ g
  yy : s.y = y
  ms : s.ms = m
/-- The blocks that the yard may still change. -/
def YS.foot (s : YS) : List Nat := s.y :: s.c :: s.wv.ownBlock.toList
def Yq (w0 w : World) (y : Nat) (m : MS) : Prop := ∃ s, Yw w0 w y m s
section
variable {w0 w w' : World} {y : Nat} {m : MS} {s : YS}
theorem Yw.fr (h : Yw w0 w y m s) (f : Fr [] w w') : Yw w0 w' y m s := ⟨h.yd.fr0 f, h.f.trans0 f, h.y0, h.c0, h.own, h.yy, h.ms⟩
theorem Yw.far (h : Yw w0 w y m s) {S : List Nat} (hS : ∀ k ∈ S, k ∈ s.foot) (f : Fr S w w') : Fr [] w0 w' := h.f.trans f (fun k hk => .inr (by
  have := hS k hk
  unfold YS.foot at this
  rcases List.mem_cons.1 this with rfl | this
  · exact h.y0
  · rcases List.mem_cons.1 this with rfl | this
    · exact h.c0
    · cases hv : s.wv.ownBlock with
      | none => rw [hv] at this; simp at this
      | some g => rw [hv] at this; simp at this; subst this; exact h.own _ hv))
/-- What a change of a yard leaves: the yard anew, and which blocks may have turned. -/
structure Turn (w0 w : World) (y : Nat) (s : YS) (m' : MS) (w' : World) (s' : YS) : Prop where
  yw : Yw w0 w' y m' s'
  f : Fr s.foot w w'
  foot : ∀ k ∈ s'.foot, k ∈ s.foot ∨ w.heap.size ≤ k
theorem free_m (h : Yw w0 w y m s) (a r : Nat) (ha : a < 4294967296) (hr : r < 4294967296) : Calls Tryz.prog 17 #[.pointer (some ⟨y, 0, none⟩), .agg #[.int .u32 a, .int .u32 r]] w fun e w' => e = .returned (.bool (frB m a r)) ∧ ∃ s', Turn w0 w y s (mFree m a r) w' s' := by
  obtain ⟨hyd, hf, hy0, hc0, hown, rfl, rfl⟩ := id h
  have same : ∀ w', Fr [] w w' → ∃ s', Turn w0 w s.y s s.ms w' s' := fun w' f => ⟨s, h.fr f, f.more (by simp), fun k hk => .inl hk⟩
  by_cases hg : a % 16 = 0 ∧ r % 16 = 0 ∧ 0 < r ∧ a + r ≤ 16 * s.n
  · obtain ⟨A, hA⟩ : ∃ A, a = 16 * A := ⟨a / 16, by omega⟩
    obtain ⟨R, hR⟩ : ∃ R, r = 16 * R := ⟨r / 16, by omega⟩
    subst hA hR
    have hb : frB s.ms (16 * A) (16 * R) = !(tch (cov s.lw) A R || tch (cov s.lb) A R) := by
      unfold frB
      change (decide (16 * A % 16 = 0 ∧ 16 * R % 16 = 0 ∧ 0 < 16 * R ∧ 16 * A + 16 * R ≤ 16 * s.n) && !(tch (cov s.lw) (16 * A / 16) (16 * R / 16) || tch (cov s.lb) (16 * A / 16) (16 * R / 16))) = _
      rw [decide_eq_true hg, Bool.true_and, Nat.mul_div_cancel_left _ (by omega), Nat.mul_div_cancel_left _ (by omega)]
    unfold mFree
    rw [hb]
    cases ht : (tch (cov s.lw) A R || tch (cov s.lb) A R)
    · rw [Bool.not_false, if_pos rfl]
      refine (qfree_yes w s hyd A R (by omega) (by omega) ht).mono ?_
      rintro e w' ⟨k, v', rfl, hp, h1, h2, h3⟩
      have hk := pl_place _ _ _ hp
      refine ⟨rfl, _, ⟨h1, ?_, hy0, hc0, fun g hg => ?_, rfl, ?_⟩, h2, fun q hq => ?_⟩
      · exact h.far (S := s.foot) (fun k hk => hk) h2
      · rcases h3 g hg with h4 | h4
        · exact hown g h4
        · exact Nat.le_trans hf.size h4
      · unfold YS.ms put
        dsimp only
        rw [hk]
      · unfold YS.foot at hq ⊢
        dsimp only at hq
        rcases List.mem_cons.1 hq with rfl | hq
        · exact .inl List.mem_cons_self
        · rcases List.mem_cons.1 hq with rfl | hq
          · exact .inl (List.mem_cons_of_mem _ List.mem_cons_self)
          · cases hv : v'.ownBlock with
            | none => rw [hv] at hq; simp at hq
            | some g =>
              rw [hv] at hq
              simp at hq
              subst hq
              rcases h3 _ hv with h4 | h4
              · rw [h4]; exact .inl (by simp)
              · exact .inr h4
    · rw [Bool.not_true, if_neg (by simp)]
      refine (qfree_hit w s hyd A R (by omega) (by omega) ht).mono ?_
      rintro e w' ⟨rfl, f⟩
      exact ⟨rfl, same w' f⟩
  · have hb : frB s.ms a r = false := by
      unfold frB
      change (decide (a % 16 = 0 ∧ r % 16 = 0 ∧ 0 < r ∧ a + r ≤ 16 * s.n) && _) = _
      rw [decide_eq_false hg, Bool.false_and]
    unfold mFree
    rw [hb, if_neg (by simp)]
    refine (qfree_no w s hyd a r ha hr hg).mono ?_
    rintro e w' ⟨rfl, f⟩
    exact ⟨rfl, same w' f⟩
theorem begin_m (h : Yw w0 w y m s) (he : m.ep < 1000000) : Calls Tryz.prog 46 #[.pointer (some ⟨y, 0, none⟩)] w fun e w' => e = .returned (.tuple #[.int .u64 (if m.un = true then 0 else m.ep + 1 : Nat), .bool (!m.un)]) ∧ ∃ s', Turn w0 w y s (mBegin m) w' s' := by
  obtain ⟨hyd, hf, hy0, hc0, hown, rfl, rfl⟩ := id h
  unfold mBegin
  cases hu : s.ms.un
  · rw [if_neg (by simp), if_neg (by simp), Bool.not_false]
    refine (qbegin_yes hyd hu he).mono ?_
    rintro e w' ⟨p, q, g, rfl, h1, ⟨h2, h3, h4⟩, h5⟩
    refine ⟨rfl, _, ⟨h1, ?_, hy0, Nat.le_trans hf.size h4, (fun g hg => by simp [Value.ownBlock] at hg), rfl, rfl⟩, h5.more (fun k hk => .inl (by simp at hk; subst hk; exact List.mem_cons_self)), fun k hk => ?_⟩
    · exact h.far (S := [s.y]) (fun k hk => by simp at hk; subst hk; exact List.mem_cons_self) h5
    · unfold YS.foot at hk
      simp [Value.ownBlock] at hk
      rcases hk with rfl | rfl
      · exact .inl List.mem_cons_self
      · exact .inr h4
  · rw [if_pos rfl, if_pos rfl, Bool.not_true]
    refine (qbegin_no hyd hu).mono ?_
    rintro e w' ⟨rfl, rfl⟩
    exact ⟨rfl, s, h, Fr.refl _ _, fun k hk => .inl hk⟩
theorem end_m (h : Yw w0 w y m s) : Calls Tryz.prog 55 #[.pointer (some ⟨y, 0, none⟩)] w fun e w' => ∃ v, e = .returned v ∧ w'.ownsRow 0 45 2 v (if m.un = true then m.lb else []).length (rgv (if m.un = true then m.lb else [])) ∧ (∀ g, v.ownBlock = some g → g ∉ s.foot) ∧ ∃ s', Turn w0 w y s (mEnd m) w' s' := by
  obtain ⟨hyd, hf, hy0, hc0, hown, rfl, rfl⟩ := id h
  unfold mEnd
  cases hu : s.ms.un
  · rw [if_neg (by simp), if_neg (by simp)]
    refine (qend_no hyd hu).mono ?_
    rintro e w' ⟨rfl, rfl⟩
    exact ⟨_, rfl, World.ownsRow_nil _ _ _ _, (fun g hg => by simp [Value.ownBlock] at hg), s, h, Fr.refl _ _, fun k hk => .inl hk⟩
  · rw [if_pos rfl, if_pos rfl]
    refine (qend_yes hyd hu).mono ?_
    rintro e w' ⟨p, q, g, rfl, h1, ⟨h2, h3, h4⟩, h5⟩
    refine ⟨_, rfl, ?_, (fun g hg hm => ?_), _, ⟨h1, ?_, hy0, hc0, hown, rfl, rfl⟩, h5.more (fun k hk => .inl (by simp at hk; subst hk; exact List.mem_cons_self)), fun k hk => .inl hk⟩
    · exact own_fr hyd.bt.own h5 (fun g hg => by have := own_ne hyd.bt.own hyd.at_ (by decide) g hg; simpa using this)
    · obtain ⟨-, -, ⟨_, hcc⟩⟩ := Pt.blocks hyd.wt.pt
      unfold YS.foot at hm
      rcases List.mem_cons.1 hm with rfl | hm
      · exact own_ne hyd.bt.own hyd.at_ (by decide) _ hg rfl
      · rcases List.mem_cons.1 hm with rfl | hm
        · exact own_ne hyd.bt.own hcc (by decide) _ hg rfl
        · cases hv : s.wv.ownBlock with
          | none => rw [hv] at hm; simp at hm
          | some k => rw [hv] at hm; simp at hm; subst hm; exact hyd.apart g hv hg
    · exact h.far (S := [s.y]) (fun k hk => by simp at hk; subst hk; exact List.mem_cons_self) h5
theorem sweep_m (h : Yw w0 w y m s) : Calls Tryz.prog 38 #[.pointer (some ⟨y, 0, none⟩)] w fun e w' => e = .returned (.bool m.un) ∧ w = w' := by
  obtain ⟨hyd, hf, hy0, hc0, hown, rfl, rfl⟩ := id h
  exact qsweep_any hyd
theorem paint_m (h : Yw w0 w y m s) : Calls Tryz.prog 43 #[.pointer (some ⟨y, 0, none⟩)] w fun e w' => ∃ p q g, e = .returned (.pointer (some ⟨p, 0, none⟩)) ∧ Pt w' p q g m.n (cov m.lb) ∧ (w.heap.size ≤ p ∧ w.heap.size ≤ q ∧ w.heap.size ≤ g) ∧ Fr [] w w' := by
  obtain ⟨hyd, hf, hy0, hc0, hown, rfl, rfl⟩ := id h
  exact qpaint_any hyd
theorem new_m (w : World) (n : Nat) (hn : n ≤ 16384) : Calls Tryz.prog 25 #[.int .i64 (16 * n : Nat)] w fun e w' => ∃ y s, e = .returned (.pointer (some ⟨y, 0, none⟩)) ∧ Yw w w' y ⟨n, 0, false, [], []⟩ s ∧ (∀ k ∈ s.foot, w.heap.size ≤ k) ∧ Fr [] w w' := by
  refine (qnew_any w n hn).mono ?_
  rintro e w' ⟨s, rfl, h1, rfl, h3, h4, h5, h6, h7, h8, ⟨h9, h10, h11⟩, h12⟩
  refine ⟨s.y, s, rfl, ⟨h1, h12, h9, h10, (fun g hg => by rw [h7] at hg; simp [Value.ownBlock] at hg), rfl, by unfold YS.ms; rw [h3, h4, h5, h6]⟩, fun k hk => ?_, h12⟩
  unfold YS.foot at hk
  rw [h7] at hk
  simp [Value.ownBlock] at hk
  rcases hk with rfl | rfl
  · exact h9
  · exact h10
end
/-! ### regions held against each other; a list that is just one region -/
theorem rg_eq (a b c d : Int) (w : World) : (Op.equalIn 10000 45 (.agg #[.int .u32 a, .int .u32 b]) (.agg #[.int .u32 c, .int .u32 d])).run Tryz.prog w = .ok (decide (a = c) && decide (b = d)) w := by
  have u1 := Tryz.underlying43
  have a1 := Tryz.isAgg43
  have z1 := Tryz.sizeOf43
  have hS : Tryz.prog.underlying 45 = some (.struct (Tryz.prog.fieldsOf 45)) := by kernel_rfl
  rw [show (10000 : Nat) = 9999 + 1 from rfl, run_equalIn_struct w 9999 45 _ _ hS (by kernel_rfl)]
  simp only [Program.fieldsOf, Tryz.underlying45]
  go_simp
  by_cases h0 : a = c
  rotate_left
  · simp [h0]
  rw [if_pos h0]
  by_cases h1 : b = d
  rotate_left
  · simp [h1]
  rw [if_pos h1]
  simp [h0, h1]
end Go.Proofs.YthjbnbimfpbccaaGreatDoor
/-
  A yard beside an arena and a book of pages: where its batch's paint lies; what leaves it alone. Condition: as for a yard.
-/



set_option linter.unusedVariables false
namespace Go.Proofs.YthjbnbimfpbccaaGreatDoor
open Go.ChangeShapes Go.WideShapes Go.ChangeAt Go.RowKit
/-- A turn that tells where the batch's paint lies. -/
structure TurnC (w0 w : World) (y : Nat) (s : YS) (m' : MS) (w' : World) (s' : YS) : Prop extends Turn w0 w y s m' w' s' where
  cc : s'.c' = s.c' ∨ s'.c' ∈ s.foot ∨ w.heap.size ≤ s'.c'
section
variable {w0 w w' : World} {y : Nat} {m : MS} {s : YS}
theorem free_c (h : Yw w0 w y m s) (a r : Nat) (ha : a < 4294967296) (hr : r < 4294967296) : Calls Tryz.prog 17 #[.pointer (some ⟨y, 0, none⟩), .agg #[.int .u32 a, .int .u32 r]] w fun e w' => e = .returned (.bool (frB m a r)) ∧ ∃ s', TurnC w0 w y s (mFree m a r) w' s' := by
  obtain ⟨hyd, hf, hy0, hc0, hown, rfl, rfl⟩ := id h
  have same : ∀ w', Fr [] w w' → ∃ s', TurnC w0 w s.y s s.ms w' s' := fun w' f => ⟨s, ⟨h.fr f, f.more (by simp), fun k hk => .inl hk⟩, .inl rfl⟩
  by_cases hg : a % 16 = 0 ∧ r % 16 = 0 ∧ 0 < r ∧ a + r ≤ 16 * s.n
  · obtain ⟨A, hA⟩ : ∃ A, a = 16 * A := ⟨a / 16, by omega⟩
    obtain ⟨R, hR⟩ : ∃ R, r = 16 * R := ⟨r / 16, by omega⟩
    subst hA hR
    have hb : frB s.ms (16 * A) (16 * R) = !(tch (cov s.lw) A R || tch (cov s.lb) A R) := by
      unfold frB
      change (decide (16 * A % 16 = 0 ∧ 16 * R % 16 = 0 ∧ 0 < 16 * R ∧ 16 * A + 16 * R ≤ 16 * s.n) && !(tch (cov s.lw) (16 * A / 16) (16 * R / 16) || tch (cov s.lb) (16 * A / 16) (16 * R / 16))) = _
      rw [decide_eq_true hg, Bool.true_and, Nat.mul_div_cancel_left _ (by omega), Nat.mul_div_cancel_left _ (by omega)]
    unfold mFree
    rw [hb]
    cases ht : (tch (cov s.lw) A R || tch (cov s.lb) A R)
    · rw [Bool.not_false, if_pos rfl]
      refine (qfree_yes w s hyd A R (by omega) (by omega) ht).mono ?_
      rintro e w' ⟨k, v', rfl, hp, h1, h2, h3⟩
      have hk := pl_place _ _ _ hp
      refine ⟨rfl, _, ⟨⟨h1, ?_, hy0, hc0, fun g hg => ?_, rfl, ?_⟩, h2, fun q hq => ?_⟩, .inl rfl⟩
      · exact h.far (S := s.foot) (fun k hk => hk) h2
      · rcases h3 g hg with h4 | h4
        · exact hown g h4
        · exact Nat.le_trans hf.size h4
      · unfold YS.ms put
        dsimp only
        rw [hk]
      · unfold YS.foot at hq ⊢
        dsimp only at hq
        rcases List.mem_cons.1 hq with rfl | hq
        · exact .inl List.mem_cons_self
        · rcases List.mem_cons.1 hq with rfl | hq
          · exact .inl (List.mem_cons_of_mem _ List.mem_cons_self)
          · cases hv : v'.ownBlock with
            | none => rw [hv] at hq; simp at hq
            | some g =>
              rw [hv] at hq
              simp at hq
              subst hq
              rcases h3 _ hv with h4 | h4
              · rw [h4]; exact .inl (by simp)
              · exact .inr h4
    · rw [Bool.not_true, if_neg (by simp)]
      refine (qfree_hit w s hyd A R (by omega) (by omega) ht).mono ?_
      rintro e w' ⟨rfl, f⟩
      exact ⟨rfl, same w' f⟩
  · have hb : frB s.ms a r = false := by
      unfold frB
      change (decide (a % 16 = 0 ∧ r % 16 = 0 ∧ 0 < r ∧ a + r ≤ 16 * s.n) && _) = _
      rw [decide_eq_false hg, Bool.false_and]
    unfold mFree
    rw [hb, if_neg (by simp)]
    refine (qfree_no w s hyd a r ha hr hg).mono ?_
    rintro e w' ⟨rfl, f⟩
    exact ⟨rfl, same w' f⟩
theorem begin_c (h : Yw w0 w y m s) (he : m.ep < 1000000) : Calls Tryz.prog 46 #[.pointer (some ⟨y, 0, none⟩)] w fun e w' => e = .returned (.tuple #[.int .u64 (if m.un = true then 0 else m.ep + 1 : Nat), .bool (!m.un)]) ∧ ∃ s', TurnC w0 w y s (mBegin m) w' s' := by
  obtain ⟨hyd, hf, hy0, hc0, hown, rfl, rfl⟩ := id h
  unfold mBegin
  cases hu : s.ms.un
  · rw [if_neg (by simp), if_neg (by simp), Bool.not_false]
    refine (qbegin_yes hyd hu he).mono ?_
    rintro e w' ⟨p, q, g, rfl, h1, ⟨h2, h3, h4⟩, h5⟩
    refine ⟨rfl, _, ⟨⟨h1, ?_, hy0, Nat.le_trans hf.size h4, (fun g hg => by simp [Value.ownBlock] at hg), rfl, rfl⟩, h5.more (fun k hk => .inl (by simp at hk; subst hk; exact List.mem_cons_self)), fun k hk => ?_⟩, .inr (.inl (List.mem_cons_of_mem _ List.mem_cons_self))⟩
    · exact h.far (S := [s.y]) (fun k hk => by simp at hk; subst hk; exact List.mem_cons_self) h5
    · unfold YS.foot at hk
      simp [Value.ownBlock] at hk
      rcases hk with rfl | rfl
      · exact .inl List.mem_cons_self
      · exact .inr h4
  · rw [if_pos rfl, if_pos rfl, Bool.not_true]
    refine (qbegin_no hyd hu).mono ?_
    rintro e w' ⟨rfl, rfl⟩
    exact ⟨rfl, s, ⟨h, Fr.refl _ _, fun k hk => .inl hk⟩, .inl rfl⟩
theorem end_c (h : Yw w0 w y m s) : Calls Tryz.prog 55 #[.pointer (some ⟨y, 0, none⟩)] w fun e w' => ∃ v, e = .returned v ∧ w'.ownsRow 0 45 2 v (if m.un = true then m.lb else []).length (rgv (if m.un = true then m.lb else [])) ∧ (∀ g, v.ownBlock = some g → g ∉ s.foot) ∧ ∃ s', TurnC w0 w y s (mEnd m) w' s' := by
  obtain ⟨hyd, hf, hy0, hc0, hown, rfl, rfl⟩ := id h
  unfold mEnd
  cases hu : s.ms.un
  · rw [if_neg (by simp), if_neg (by simp)]
    refine (qend_no hyd hu).mono ?_
    rintro e w' ⟨rfl, rfl⟩
    exact ⟨_, rfl, World.ownsRow_nil _ _ _ _, (fun g hg => by simp [Value.ownBlock] at hg), s, ⟨h, Fr.refl _ _, fun k hk => .inl hk⟩, .inl rfl⟩
  · rw [if_pos rfl, if_pos rfl]
    refine (qend_yes hyd hu).mono ?_
    rintro e w' ⟨p, q, g, rfl, h1, ⟨h2, h3, h4⟩, h5⟩
    refine ⟨_, rfl, ?_, (fun g hg hm => ?_), _, ⟨⟨h1, ?_, hy0, hc0, hown, rfl, rfl⟩, h5.more (fun k hk => .inl (by simp at hk; subst hk; exact List.mem_cons_self)), fun k hk => .inl hk⟩, .inr (.inr h4)⟩
    · exact own_fr hyd.bt.own h5 (fun g hg => by have := own_ne hyd.bt.own hyd.at_ (by decide) g hg; simpa using this)
    · obtain ⟨-, -, ⟨_, hcc⟩⟩ := Pt.blocks hyd.wt.pt
      unfold YS.foot at hm
      rcases List.mem_cons.1 hm with rfl | hm
      · exact own_ne hyd.bt.own hyd.at_ (by decide) _ hg rfl
      · rcases List.mem_cons.1 hm with rfl | hm
        · exact own_ne hyd.bt.own hcc (by decide) _ hg rfl
        · cases hv : s.wv.ownBlock with
          | none => rw [hv] at hm; simp at hm
          | some k => rw [hv] at hm; simp at hm; subst hm; exact hyd.apart g hv hg
    · exact h.far (S := [s.y]) (fun k hk => by simp at hk; subst hk; exact List.mem_cons_self) h5
theorem Yw.base {v : World} (h : Yw w0 w y m s) (f : Fr [] v w0) : Yw v w y m s :=
  ⟨h.yd, f.trans0 h.f, Nat.le_trans f.size h.y0, Nat.le_trans f.size h.c0, fun g hg => Nat.le_trans f.size (h.own g hg), h.yy, h.ms⟩
/-- A block that is none of a yard's. -/
def Offy (w : World) (s : YS) (k : Nat) : Prop := ∃ t cs, At w k t cs ∧ t ≠ 119 ∧ t ≠ 204 ∧ t ≠ 179 ∧ t ≠ 45 ∧ (t = 28 → k ≠ s.c ∧ k ≠ s.c')
theorem Offy.pt {k a b c n : Nat} {f : Nat → Bool} (h : Pt w a b c n f) (o : Offy w s k) (hc : c = s.c ∨ c = s.c') : a ≠ k ∧ b ≠ k ∧ c ≠ k := by
  obtain ⟨t, cs, hq, t1, t2, t3, t4, t5⟩ := o
  obtain ⟨⟨_, h1⟩, ⟨_, h2⟩, ⟨_, h3⟩⟩ := Pt.blocks h
  refine ⟨?_, ?_, ?_⟩
  · rintro rfl; exact t2 (h1.inj hq).1.symm
  · rintro rfl; exact t3 (h2.inj hq).1.symm
  · rintro rfl
    have := t5 (h3.inj hq).1.symm
    rcases hc with e | e
    · exact this.1 e
    · exact this.2 e
theorem Offy.own {k n : Nat} {v : Value} {xs : List Value} {b : Nat} (h : w.ownsRow b 45 2 v n xs) (o : Offy w s k) : ∀ g, v.ownBlock = some g → g ≠ k := by
  obtain ⟨t, cs, hq, t1, t2, t3, t4, t5⟩ := o
  exact fun g hg e => own_ne h hq t4 g hg e
theorem Yw.nfootY (h : Yw w0 w y m s) {k : Nat} (o : Offy w s k) : k ∉ s.foot := fun hk => by
  unfold YS.foot at hk
  rcases List.mem_cons.1 hk with e | hk
  · obtain ⟨t, cs, hq, t1, _⟩ := o
    subst e; exact t1 (h.yd.at_.inj hq).1.symm
  · rcases List.mem_cons.1 hk with e | hk
    · exact (o.pt h.yd.wt.pt (.inl rfl)).2.2 e.symm
    · cases hv : s.wv.ownBlock with
      | none => rw [hv] at hk; simp at hk
      | some g => rw [hv] at hk; simp at hk; exact o.own h.yd.wt.own g hv hk.symm
theorem Yw.offY {S : List Nat} (h : Yw w0 w y m s) (hS : ∀ k ∈ S, Offy w s k ∧ w0.heap.size ≤ k) (f : Fr S w w') : Yw w0 w' y m s := by
  have n1 : ∀ {a b c n : Nat} {F : Nat → Bool}, Pt w a b c n F → (c = s.c ∨ c = s.c') → a ∉ S ∧ b ∉ S ∧ c ∉ S := fun hp hc =>
    ⟨fun hk => ((hS _ hk).1.pt hp hc).1 rfl, fun hk => ((hS _ hk).1.pt hp hc).2.1 rfl, fun hk => ((hS _ hk).1.pt hp hc).2.2 rfl⟩
  have a1 := n1 h.yd.wt.pt (.inl rfl)
  have a2 := n1 h.yd.bt.pt (.inr rfl)
  have a5 : s.y ∉ S := fun hk => by
    obtain ⟨t, cs, hq, t1, _⟩ := (hS _ hk).1
    exact t1 (h.yd.at_.inj hq).1.symm
  exact ⟨⟨h.yd.at_.fr f a5, h.yd.wt.fr f a1.1 a1.2.1 a1.2.2 (fun g hg hk => (hS _ hk).1.own h.yd.wt.own g hg rfl), h.yd.bt.fr f a2.1 a2.2.1 a2.2.2 (fun g hg hk => (hS _ hk).1.own h.yd.bt.own g hg rfl), h.yd.ne, h.yd.apart, h.yd.up, h.yd.few⟩, h.f.trans f (fun k hk => .inr (hS k hk).2), h.y0, h.c0, h.own, h.yy, h.ms⟩
theorem foot_ltY (h : Yw w0 w y m s) : ∀ k ∈ s.foot, k < w.heap.size := fun k hk => by
  unfold YS.foot at hk
  rcases List.mem_cons.1 hk with e | hk
  · subst e; exact h.yd.at_.lt
  · rcases List.mem_cons.1 hk with e | hk
    · subst e; exact h.yd.wt.lt.2.2
    · cases hv : s.wv.ownBlock with
      | none => rw [hv] at hk; simp at hk
      | some g => rw [hv] at hk; simp at hk; subst hk; exact (h.yd.wt.own.lt k hv).2
/-- What lies apart from a yard does so behind a turn, and reads as it did. -/
theorem Offy.turn {m' : MS} {s' : YS} {k : Nat} (h : Yw w0 w y m s) (ht : TurnC w0 w y s m' w' s') (o : Offy w s k) : Offy w' s' k := by
  have hn := h.nfootY o
  obtain ⟨t, cs, hq, t1, t2, t3, t4, t5⟩ := o
  refine ⟨t, cs, hq.fr ht.f hn, t1, t2, t3, t4, fun e => ⟨fun e1 => ?_, fun e1 => ?_⟩⟩
  · have hc : s'.c ∈ s'.foot := List.mem_cons_of_mem _ List.mem_cons_self
    rw [← e1] at hc
    rcases ht.foot k hc with h1 | h1
    · exact hn h1
    · have := hq.lt; omega
  · rcases ht.cc with h1 | h1 | h1
    · exact (t5 e).2 (e1.trans h1)
    · exact hn (e1 ▸ h1)
    · have := hq.lt; omega
end
end Go.Proofs.YthjbnbimfpbccaaGreatDoor
/-
  Plain: the set places of a map, rising, word by word; the lowest bit of a word. No condition.
-/

set_option linter.unusedVariables false
namespace Go.Proofs.YthjbnbimfpbccaaGreatDoor
open Go.ChangeShapes Go.WideShapes Go.ChangeAt Go.RowKit
/-- The set places below s, rising. -/
def told (f : Nat → Bool) (s : Nat) : List Nat := (List.range s).filter fun i => f i
theorem told_succ (f : Nat → Bool) (s : Nat) : told f (s + 1) = if f s = true then told f s ++ [s] else told f s := by
  unfold told
  rw [List.range_succ, List.filter_append]
  by_cases h : f s = true
  · simp [h]
  · simp [h]
theorem told_skip (f : Nat → Bool) (s : Nat) : ∀ d, (∀ j, j < d → f (s + j) = false) → told f (s + d) = told f s
  | 0, _ => rfl
  | d + 1, h => by
    rw [← Nat.add_assoc, told_succ, h d (by omega), if_neg (by simp)]
    exact told_skip f s d fun j hj => h j (by omega)
theorem told_next (f : Nat → Bool) (s d : Nat) (h : ∀ j, j < d → f (s + j) = false) (hd : f (s + d) = true) : told f (s + d + 1) = told f s ++ [s + d] := by
  rw [told_succ, if_pos hd, told_skip f s d h]
theorem told_mem (f : Nat → Bool) (s x : Nat) : x ∈ told f s ↔ x < s ∧ f x = true := by
  unfold told; simp [List.mem_filter]
theorem told_out (f : Nat → Bool) (n m : Nat) (h : ∀ i, n ≤ i → f i = false) (hm : n ≤ m) : told f m = told f n := by
  obtain ⟨d, rfl⟩ : ∃ d, m = n + d := ⟨m - n, by omega⟩
  exact told_skip f n d fun j _ => h _ (by omega)
theorem told_len (f : Nat → Bool) (s : Nat) : (told f s).length ≤ s := by
  unfold told; exact Nat.le_trans (List.length_filter_le _ _) (by simp)
theorem told_prefix (f : Nat → Bool) (s m : Nat) (h : s ≤ m) : told f s <+: told f m := by
  obtain ⟨d, rfl⟩ : ∃ d, m = s + d := ⟨m - s, by omega⟩
  clear h
  induction d with
  | zero => exact List.prefix_refl _
  | succ d ih =>
    rw [← Nat.add_assoc, told_succ]
    split
    · exact ih.trans (List.prefix_append _ _)
    · exact ih
/-- What is left of a map from a place on. -/
def from_ (f : Nat → Bool) (s : Nat) : Nat → Bool := fun i => f i && decide (s ≤ i)
theorem from_low (f : Nat → Bool) (k : Nat) : wrd (from_ f (64 * k)) k = wrd f k := bitsN_congr 64 fun j _ => by
  unfold from_; rw [decide_eq_true (show 64 * k ≤ 64 * k + j by omega), Bool.and_true]
theorem ctz_bit (x : Nat) (h0 : x ≠ 0) (h : x < 18446744073709551616) : Lib.ctz 64 x < 64 ∧ x.testBit (Lib.ctz 64 x) = true ∧ ∀ j, j < Lib.ctz 64 x → x.testBit j = false := by
  unfold Lib.ctz
  rw [if_neg h0]
  obtain ⟨m, h1, h2⟩ := Lib.ctzFrom_spec 64 x (by omega) h
  generalize Lib.ctzFrom 64 x = t at *
  subst h1
  refine ⟨h2, ?_, fun j hj => ?_⟩
  · rw [Nat.testBit_two_pow_mul]; simp [show (2 * m + 1) % 2 = 1 by omega]
  · rw [Nat.testBit_two_pow_mul]; simp; omega
theorem low_clear (x : Nat) (h0 : x ≠ 0) (h : x < 18446744073709551616) (j : Nat) : (x &&& (x - 1)).testBit j = (x.testBit j && decide (Lib.ctz 64 x < j)) := by
  have hb := ctz_bit x h0 h
  unfold Lib.ctz at hb ⊢
  rw [if_neg h0] at hb ⊢
  obtain ⟨m, h1, h2⟩ := Lib.ctzFrom_spec 64 x (by omega) h
  generalize Lib.ctzFrom 64 x = t at *
  have hp : 1 ≤ 2 ^ t := Nat.one_le_two_pow
  have e : x - 1 = 2 ^ t * (2 * m) + (2 ^ t - 1) := by rw [h1, Nat.mul_add]; omega
  rw [Nat.testBit_and, e, Nat.testBit_two_pow_mul_add _ (by omega)]
  by_cases hj : j < t
  · rw [hb.2.2 j hj]; rfl
  · rw [if_neg hj]
    by_cases hjt : j = t
    · subst hjt; simp
    · rw [decide_eq_true (by omega), h1, Nat.testBit_two_pow_mul]
      obtain ⟨d, rfl⟩ : ∃ d, j = t + (d + 1) := ⟨j - t - 1, by omega⟩
      rw [show t + (d + 1) - t = d + 1 by omega, Nat.testBit_succ, Nat.testBit_succ, show 2 * m / 2 = m by omega, show (2 * m + 1) / 2 = m by omega]
      simp
theorem and_low (x : Nat) (h0 : x ≠ 0) (h : x < 18446744073709551616) (a : Nat) (ha : x &&& (18446744073709551616 - x) = a) :
    IntKind.u64.wrap (bits BinOp.and IntKind.u64 (x : Int) (IntKind.u64.wrap (-(x : Int))) * 285870213051353865) / 288230376151711744 = ((a * 285870213051353865 % 18446744073709551616 / 288230376151711744 : Nat) : Int) := by
  have e1 : IntKind.u64.wrap (-(x : Int)) = ((18446744073709551616 - x : Nat) : Int) := by rw [IntKind.wrap_u64]; omega
  rw [e1, u64_and_nat x _ h (by omega), ha, IntKind.wrap_u64]
  omega
/-- The next place, out of a word's lowest bit. -/
theorem next_place (f : Nat → Bool) (k s : Nat) (hs1 : 64 * k ≤ s) (hs2 : s ≤ 64 * k + 64) (h0 : wrd (from_ f s) k ≠ 0) :
    let t := Lib.ctz 64 (wrd (from_ f s) k)
    t < 64 ∧ s ≤ 64 * k + t ∧ f (64 * k + t) = true ∧ told f (64 * k + t + 1) = told f s ++ [64 * k + t] ∧ wrd (from_ f s) k &&& (wrd (from_ f s) k - 1) = wrd (from_ f (64 * k + t + 1)) k := by
  intro t
  have hb := ctz_bit _ h0 (wrd_lt _ _)
  have ht : t = Lib.ctz 64 (wrd (from_ f s) k) := rfl
  rw [← ht] at hb
  obtain ⟨h1, h2, h3⟩ := hb
  rw [wrd_test, decide_eq_true h1, Bool.true_and] at h2
  unfold from_ at h2
  simp only [Bool.and_eq_true, decide_eq_true_eq] at h2
  have hz : ∀ i, s ≤ i → i < 64 * k + t → f i = false := fun i hi1 hi2 => by
    have := h3 (i - 64 * k) (by omega)
    rw [wrd_test, decide_eq_true (show i - 64 * k < 64 by omega), Bool.true_and] at this
    unfold from_ at this
    rw [show 64 * k + (i - 64 * k) = i by omega, decide_eq_true hi1, Bool.and_true] at this
    exact this
  refine ⟨h1, h2.2, h2.1, ?_, ?_⟩
  · have := told_next f s (64 * k + t - s) (fun j hj => hz _ (by omega) (by omega)) (by rw [show s + (64 * k + t - s) = 64 * k + t by omega]; exact h2.1)
    rw [show s + (64 * k + t - s) = 64 * k + t by omega] at this
    exact this
  · refine Nat.eq_of_testBit_eq fun j => ?_
    rw [low_clear _ h0 (wrd_lt _ _), ← ht, wrd_test, wrd_test]
    by_cases hj : j < 64
    · rw [decide_eq_true hj]
      unfold from_
      by_cases e : t < j
      · rw [decide_eq_true e, decide_eq_true (show 64 * k + t + 1 ≤ 64 * k + j by omega), decide_eq_true (show s ≤ 64 * k + j by omega)]; simp
      · rw [decide_eq_false e, decide_eq_false (show ¬ 64 * k + t + 1 ≤ 64 * k + j by omega)]; simp
    · rw [decide_eq_false hj]; simp
theorem word_done (f : Nat → Bool) (k s : Nat) (hs1 : 64 * k ≤ s) (hs2 : s ≤ 64 * k + 64) (h0 : wrd (from_ f s) k = 0) : told f (64 * (k + 1)) = told f s := by
  obtain ⟨d, hd⟩ : ∃ d, 64 * (k + 1) = s + d := ⟨64 * (k + 1) - s, by omega⟩
  rw [hd]
  refine told_skip f s d fun j hj => ?_
  have := (wrd_zero _ k).1 h0 (s + j - 64 * k) (by omega)
  unfold from_ at this
  rw [show 64 * k + (s + j - 64 * k) = s + j by omega, decide_eq_true (show s ≤ s + j by omega), Bool.and_true] at this
  exact this
end Go.Proofs.YthjbnbimfpbccaaGreatDoor
/-
  The iterator of tags: all that is set, rising. Condition: the table of math/bits is as the library lays it.
-/


set_option linter.unusedVariables false
namespace Go.Proofs.YthjbnbimfpbccaaGreatDoor
open Go.ChangeShapes Go.WideShapes Go.ChangeAt Go.RowKit
attribute [local go_sem] Oper.semAt_some
/-- The table of math/bits, in its variable. -/
def Tab (w : World) : Prop := ∀ j, j < 64 → w.cell? ⟨0, j, none⟩ = some (.int .u8 (Lib.deBruijn64tab.getD j 0))
section
variable {w w' : World} {S : List Nat}
theorem Tab.fr (h : Tab w) (f : Fr S w w') (hS : 0 ∉ S) : Tab w' := fun j hj => (f.cell (a := ⟨0, j, none⟩) (lt_of_cell (h j hj)) hS).trans (h j hj)
theorem Tab.heap (h : Tab w) (hv : w'.heap = w.heap) : Tab w' := fun j hj => by have := h j hj; unfold World.cell? at *; rw [hv]; exact this
theorem Tab.lt (h : Tab w) : 0 < w.heap.size := lt_of_cell (h 0 (by omega))
end
theorem KpB.tg {bs : List Nat} {W W' : World} (h : KpB bs W W') {p g n : Nat} {f : Nat → Bool} (hp : p ∈ bs) (hg : g ∈ bs) (ht : Tg W p g n f) : Tg W' p g n f := by
  obtain ⟨h1, h2, h3, c, cs, h4, h5, h6, h7⟩ := ht
  exact ⟨h1, h2, h3, c, cs, h4, h.at_ hp h5, h.at_ hg h6, h7⟩
theorem KpB.tab {bs : List Nat} {W W' : World} (h : KpB bs W W') (hg : 0 ∈ bs) (ht : Tab W) : Tab W' := fun j hj => by
  have h1 := ht j hj
  obtain ⟨o, ho, hc⟩ := cells_of_cell h1
  cases o with
  | cells cs t r => exact (World.cell?_of_block (a := ⟨0, j, none⟩) ((h 0 hg _ _ _ ho).trans ho.symm)).trans h1
  | _ => cases hc
theorem tz_core (x k idx : Nat) (w : World) (hx0 : ((x : Int) == 0) = false)
    (key : IntKind.u64.wrap (bits BinOp.and IntKind.u64 (x : Int) (IntKind.u64.wrap (-(x : Int))) * 285870213051353865) / 288230376151711744 = (idx : Int))
    (hi : idx < 64) (hk : k < 64) (hcell : w.cell? ⟨0, idx, none⟩ = some (.int .u8 k)) :
    Calls Tryz.prog 130 #[.int .u64 x] w fun e w' => e = .returned (.int .i64 k) ∧ w = w' := by
  go_enter Tryz.func130, Tryz.ntmps130
  go_wp2_with (simp only [key])
  go_ret
  exact ⟨rfl, rfl⟩
theorem tz_any (x : Nat) (h0 : x ≠ 0) (hx : x < 18446744073709551616) (w : World) (hT : Tab w) :
    Calls Tryz.prog 130 #[.int .u64 x] w fun e w' => e = .returned (.int .i64 (Lib.ctz 64 x)) ∧ w = w' := by
  obtain ⟨hlow, hk⟩ := Lib.lowest_bit 64 x h0 hx
  obtain ⟨hi, htab⟩ := Lib.deBruijn64_at _ hk
  have hcell := hT _ hi
  rw [htab] at hcell
  exact tz_core x _ _ w (by simp; omega) (and_low x h0 hx _ hlow) hi hk hcell
theorem and_le_pred (V : Nat) (h : V ≠ 0) : V &&& (V - 1) < V := Nat.lt_of_le_of_lt Nat.and_le_right (by omega)
theorem wrap_u64' (n : Int) : IntKind.u64.wrap n = n % 18446744073709551616 := by simp [IntKind.wrap, IntKind.signed, IntKind.bits]
set_option maxHeartbeats 1000000 in
theorem all_stops (m q p g n : Nat) (f : Nat → Bool) (w : World) (hq : At w q 125 #[.pointer (some ⟨p, 0, none⟩)]) (ht : Tg w p g n f) (hT : Tab w) :
    SeqStopsK Fence.wide m Tryz.prog 129 #[.pointer (some ⟨q, 0, none⟩)] (fun x : Nat => #[.int .i64 (x : Nat)]) (KpB [q, p, g, 0]) (fun xs => xs = told f n) (fun pre => pre <+: told f n) n w := fun l J Jx W hb hJ hJx hY h0 => by
  have hfr : Fr [] w W := Fr.of_below hb
  have Hq := Lib.hid (hq.fr hfr (by simp))
  have Ht := Lib.hid (ht.fr hfr (by simp) (by simp))
  have HT := Lib.hid (hT.fr hfr (by simp))
  have cq := Hq.out.cell 0
  obtain ⟨cp, hcp, c1⟩ := Ht.out.c1
  have hn := ht.2.1
  have H0 := Lib.hid ht.2.2.1
  simp only [List.getElem?_toArray, List.getElem?_cons_zero] at cq
  have HY := Lib.hid hY
  clear hq ht hT hb hfr hY
  refine callsIn_of_wp Tryz.func129 rfl trivial ?_ rfl
  simp only [Tryz.ntmps129, List.size_toArray, List.length_cons, List.length_nil, Nat.reduceAdd, Nat.reduceSub, Array.replicate_succ, Array.replicate_zero, List.push_toArray, List.append_toArray, List.nil_append, List.cons_append]
  gi_wp2
  gi_loopw [12] (fun v wr => ∃ k : Nat, k ≤ (n + 63) / 64 ∧ v = .int .i64 k ∧ J (told f (64 * k)) wr ∧ At wr q 125 #[.pointer (some ⟨p, 0, none⟩)] ∧ Tg wr p g n f ∧ Tab wr) (fun v _ => (n + 63) / 64 - (intOf v).toNat)
  case atStart => exact ⟨0, by omega, rfl, h0, Hq.out, Ht.out, HT.out⟩
  case round =>
    clear Hq Ht HT cq c1 hcp
    obtain ⟨k, hk, rfl, hj, hq, ht, hT⟩ := hrel
    have HJ0 := Lib.hid hj
    clear hj
    by_cases hkn : k < (n + 63) / 64
    · have cq := hq.cell 0
      obtain ⟨cp, hcp, c1⟩ := ht.c1
      have ck := ht.ck k hkn
      rw [← from_low] at ck
      simp only [List.getElem?_toArray, List.getElem?_cons_zero] at cq
      have Hq := Lib.hid hq
      have Ht := Lib.hid ht
      have HT := Lib.hid hT
      have Hl := Lib.hid (wrd_lt (from_ f (64 * k)) k)
      obtain ⟨V0, hV0⟩ : ∃ V, wrd (from_ f (64 * k)) k = V := ⟨_, rfl⟩
      rw [hV0] at ck
      have HV0 := Lib.hid hV0
      clear hq ht hT hV0
      obtain ⟨wo, rfl⟩ : ∃ wo : World, wo = wr := ⟨_, rfl⟩
      have hdk : decide ((k : Int) < ((n : Int) + 63) / 64) = true := by simp; omega
      gi_wp2
      gi_loopw [4] (fun v wr => ∃ s V : Nat, 64 * k ≤ s ∧ s ≤ 64 * k + 64 ∧ v = .int .u64 V ∧ wrd (from_ f s) k = V ∧ J (told f s) wr ∧ At wr q 125 #[.pointer (some ⟨p, 0, none⟩)] ∧ Tg wr p g n f ∧ Tab wr) (fun v _ => (intOf v).toNat)
      case atStart => exact ⟨64 * k, V0, by omega, by omega, rfl, HV0.out, HJ0.out, Hq.out, Ht.out, HT.out⟩
      case round =>
        clear Hq Ht HT cq c1 hcp ck HV0 HJ0 Hl
        obtain ⟨s, V, hs1, hs2, rfl, hV, hj, hq, ht, hT⟩ := hrel
        have Hq := Lib.hid hq
        have Ht := Lib.hid ht
        have HT := Lib.hid hT
        have HV := Lib.hid hV
        by_cases hz : V = 0
        · subst hz
          have HJ := Lib.hid hj
          have HW := Lib.hid (word_done f k s hs1 hs2 hV)
          clear hj hq ht hT hV
          gi_wp2
          go_roundw
          case rel => exact ⟨k + 1, by omega, by go_num, by rw [HW.out]; exact HJ.out, Hq.out, Ht.out, HT.out⟩
          case measure => simp [intOf]; omega
        · have hlt := wrd_lt (from_ f s) k
          rw [hV] at hlt
          obtain ⟨p1, p2, p3, p4, p5⟩ := next_place f k s hs1 hs2 (by rw [hV]; exact hz)
          rw [hV] at p1 p2 p3 p4 p5
          have C := Lib.hid fun W (hW : Tab W) => tz_any V hz hlt W hW
          have hle := and_le_pred V hz
          obtain ⟨t, ht'⟩ : ∃ t, Lib.ctz 64 V = t := ⟨_, rfl⟩
          rw [ht'] at p1 p2 p3 p4 p5 C
          have hxn : 64 * k + t < n := by
            rcases Nat.lt_or_ge (64 * k + t) n with h | h
            · exact h
            · rw [H0.out _ h] at p3; cases p3
          have hlen := told_len f s
          obtain ⟨fn, tmps, assign, body, hy, hR⟩ := HY.out (told f s) (64 * k + t) wr hj (by omega)
          rw [← p4] at hR
          rw [show ((64 * k + t : Nat) : Int) = (k : Int) * 64 + t by omega] at hy
          have hsub : ((V - 1 : Nat) : Int) = (V : Int) - 1 := by omega
          have hand := band V (V - 1) hlt (by omega)
          rw [hsub] at hand
          have HR := Lib.hid hR
          have P4 := Lib.hid p5
          obtain ⟨U, hU⟩ : ∃ U, V &&& (V - 1) = U := ⟨_, rfl⟩
          rw [hU] at hand P4 hle
          clear hj hq ht hT hV hR ht' p3 p4 p5 hsub hU
          gi_wp2_with (refine ⟨trivial, fun h => (by cases h), ?_⟩; refine (callsIn_wide.2 (C.out _ HT.out)).mono ?_; rintro e w' ⟨rfl, rfl⟩)
          refine ⟨fun h => (by cases h), HR.out.mono ?_⟩
          rintro e W3 (⟨rfl, hJ3, hk3⟩ | ⟨rfl, hJx3⟩)
          · have hq3 := hk3.at_ (by simp) Hq.out
            have ht3 := hk3.tg (by simp) (by simp) Ht.out
            have hT3 := hk3.tab (by simp) HT.out
            gi_wp2
            go_roundw
            case rel => exact ⟨64 * k + t + 1, U, by omega, by omega, rfl, P4.out.symm, hJ3, hq3, ht3, hT3⟩
            case measure => simp [intOf]; omega
          · have HPr := Lib.hid (told_prefix f (64 * k + t + 1) n (by omega))
            gi_wp2
            refine bodyPost_ret (results_none rfl _ _ _) rfl ?_
            exact ⟨⟨_, rfl⟩, .inr ⟨_, HPr.out, hJx3⟩⟩
    · obtain rfl : k = (n + 63) / 64 := by omega
      have HW := Lib.hid (told_out f n (64 * ((n + 63) / 64)) H0.out (by omega))
      clear hq ht hT
      gi_wp2
      go_end0
      refine ⟨⟨_, rfl⟩, .inl ⟨_, rfl, ?_⟩⟩
      rw [← HW.out]
      exact HJ0.out
/-- All of a map that is there: a copy of it is captured. -/
theorem tall_any (w : World) (p g n : Nat) (f : Nat → Bool) (h : Tg w p g n f) :
    Calls Tryz.prog 98 #[.pointer (some ⟨p, 0, none⟩)] w fun r w' => ∃ q p' g', r = .returned (.func (.func 129) #[] #[.pointer (some ⟨q, 0, none⟩)]) ∧ At w' q 125 #[.pointer (some ⟨p', 0, none⟩)] ∧ Tg w' p' g' n f ∧ w.heap.size ≤ q ∧ w.heap.size ≤ p' ∧ w.heap.size ≤ g' ∧ q ≠ p' ∧ q ≠ g' ∧ Fr [] w w' := by
  have C := Lib.hid (copy_any w p g n f h)
  clear h
  go_enter Tryz.func98, Tryz.ntmps98
  go_wp2_with (go_at_call 126; refine (C.out).mono ?_; rintro e w2 ⟨p', g', rfl, h2, hp, hg, hf2⟩)
  go_ret
  have hl := h2.lt
  have hs := hf2.size
  exact ⟨w2.heap.size, p', g', rfl, At.new _ _ _, h2.fr (S := []) ((Fr.refl _ _).alloc _) (by simp) (by simp), hs, hp, hg, by omega, by omega, hf2.alloc _⟩
end Go.Proofs.YthjbnbimfpbccaaGreatDoor
/-
  What the functions of barrier compute: a book at block gp over a map of tags. Condition: the table of math/bits is as the library lays it (Next alone).
-/



set_option linter.unusedVariables false
namespace Go.Proofs.YthjbnbimfpbccaaGreatDoor
open Go.ChangeShapes Go.WideShapes Go.ChangeAt Go.RowKit
attribute [local go_sem] Oper.semAt_some
def Gn (w : World) (gp p g n : Nat) (f : Nat → Bool) (ep : Int) : Prop := At w gp 164 #[.pointer (some ⟨p, 0, none⟩), .int .u64 ep] ∧ Tg w p g n f ∧ gp ≠ p ∧ gp ≠ g ∧ n ≤ 1024
section
variable {w w' v : World} {gp p g n : Nat} {f f' : Nat → Bool} {S : List Nat} {ep : Int}
theorem Gn.c (h : Gn w gp p g n f ep) : w.cell? ⟨gp, 0, none⟩ = some (.pointer (some ⟨p, 0, none⟩)) := h.1.cell 0
theorem Gn.c1 (h : Gn w gp p g n f ep) : w.cell? ⟨gp, 1, none⟩ = some (.int .u64 ep) := h.1.cell 1
theorem Gn.fr (h : Gn w gp p g n f ep) (hf : Fr S w w') (h1 : gp ∉ S) (h2 : p ∉ S) (h3 : g ∉ S) : Gn w' gp p g n f ep := ⟨h.1.fr hf h1, h.2.1.fr hf h2 h3, h.2.2⟩
theorem Gn.put (h : Gn w gp p g n f ep) (hf : Fr [g] w w') (ht : Tg w' p g n f') : Gn w' gp p g n f' ep := ⟨h.1.fr hf (by simp; exact h.2.2.2.1), ht, h.2.2⟩
theorem Gn.heap (h : Gn w gp p g n f ep) (hv : w'.heap = w.heap) : Gn w' gp p g n f ep := by unfold Gn Tg At at *; rw [hv]; exact h
theorem Gn.lt (h : Gn w gp p g n f ep) : gp < w.heap.size ∧ p < w.heap.size ∧ g < w.heap.size := ⟨h.1.lt, h.2.1.lt⟩
end
theorem gnone_any (w : World) (gp p g n : Nat) (f : Nat → Bool) (ep : Int) (h : Gn w gp p g n f ep) :
    Calls Tryz.prog 93 #[.pointer (some ⟨gp, 0, none⟩)] w fun r w' => r = .returned (.bool false) ∧ w = w' := by
  have c := h.c
  go_enter Tryz.func93, Tryz.ntmps93
  go_wp2
  go_ret
  exact ⟨rfl, rfl⟩
theorem gnone_nil (w : World) : Calls Tryz.prog 93 #[.pointer none] w fun r w' => r = .returned (.bool true) ∧ w = w' := by
  go_enter Tryz.func93, Tryz.ntmps93
  go_wp2
  go_ret
  exact ⟨rfl, rfl⟩
theorem gnew_any (n : Nat) (w : World) (hn : n ≤ 1024) :
    Calls Tryz.prog 68 #[.int .i64 n] w fun r w' => ∃ gp p g, r = .returned (.pointer (some ⟨gp, 0, none⟩)) ∧ Gn w' gp p g n (fun _ => false) 0 ∧ w.heap.size ≤ gp ∧ w.heap.size ≤ p ∧ w.heap.size ≤ g ∧ Fr [] w w' := by
  go_enter Tryz.func68, Tryz.ntmps68
  go_wp2_with (go_at_call 69; refine (new_any n _ (by omega)).mono ?_; rintro e w2 ⟨p, g, rfl, h2, hp, hg, hf2⟩)
  go_ret
  have hs := hf2.size
  have hl := h2.lt
  exact ⟨w2.heap.size, p, g, rfl, ⟨At.new _ _ _, h2.fr (S := []) ((Fr.refl _ _).alloc _) (by simp) (by simp), by omega, by omega, hn⟩, hs, hp, hg, hf2.alloc _⟩
theorem gnew_bad (n : Int) (w : World) (hn : n < 0 ∨ 1024 < n) :
    Calls Tryz.prog 68 #[.int .i64 n] w fun r w' => r = .returned (.pointer none) ∧ w = w' := by
  rcases hn with h | h
  · go_enter Tryz.func68, Tryz.ntmps68
    go_wp2
    go_ret
    exact ⟨rfl, rfl⟩
  · have h2 : 0 ≤ n := by omega
    go_enter Tryz.func68, Tryz.ntmps68
    go_wp2
    go_ret
    exact ⟨rfl, rfl⟩
theorem gold_any (w : World) (gp p g n : Nat) (f : Nat → Bool) (ep : Int) (h : Gn w gp p g n f ep) (i : Int) :
    Calls Tryz.prog 50 #[.pointer (some ⟨gp, 0, none⟩), .int .i64 i] w fun r w' => r = .returned (.bool (inR i n && f i.toNat)) ∧ w = w' := by
  have c := h.c
  have H := Lib.hid h
  have C := Lib.hid (get_any w p g n f h.2.1 i)
  clear h
  generalize (inR i n && f i.toNat) = b at *
  go_enter Tryz.func50, Tryz.ntmps50
  go_wp2_with (first | (go_at_call 93; refine (gnone_any _ _ _ _ _ _ _ H.out).mono ?_; rintro e w' ⟨rfl, rfl⟩) | (go_at_call 67; refine (C.out).mono ?_; rintro e w' ⟨rfl, rfl⟩))
  go_ret
  exact ⟨rfl, rfl⟩
theorem gold_nil (w : World) (i : Int) : Calls Tryz.prog 50 #[.pointer none, .int .i64 i] w fun r w' => r = .returned (.bool false) ∧ w = w' := by
  go_enter Tryz.func50, Tryz.ntmps50
  go_wp2_with (go_at_call 93; refine (gnone_nil _).mono ?_; rintro e w' ⟨rfl, rfl⟩)
  go_ret
  exact ⟨rfl, rfl⟩
theorem gleft_any (w : World) (gp p g n : Nat) (f : Nat → Bool) (ep : Int) (h : Gn w gp p g n f ep) :
    Calls Tryz.prog 49 #[.pointer (some ⟨gp, 0, none⟩)] w fun r w' => r = .returned (.int .i64 (cnt f n)) ∧ w = w' := by
  have c := h.c
  have H := Lib.hid h
  have C := Lib.hid (count_any w p g n f h.2.1)
  clear h
  go_enter Tryz.func49, Tryz.ntmps49
  go_wp2_with (first | (go_at_call 93; refine (gnone_any _ _ _ _ _ _ _ H.out).mono ?_; rintro e w' ⟨rfl, rfl⟩) | (go_at_call 94; refine (C.out).mono ?_; rintro e w' ⟨rfl, rfl⟩))
  go_ret
  exact ⟨rfl, rfl⟩
theorem gleft_nil (w : World) : Calls Tryz.prog 49 #[.pointer none] w fun r w' => r = .returned (.int .i64 0) ∧ w = w' := by
  go_enter Tryz.func49, Tryz.ntmps49
  go_wp2_with (go_at_call 93; refine (gnone_nil _).mono ?_; rintro e w' ⟨rfl, rfl⟩)
  go_ret
  exact ⟨rfl, rfl⟩
theorem gmark_no (w : World) (gp p g n : Nat) (f : Nat → Bool) (ep : Int) (h : Gn w gp p g n f ep) (i : Int) (hi : (inR i n && f i.toNat) = false) :
    Calls Tryz.prog 52 #[.pointer (some ⟨gp, 0, none⟩), .int .i64 i] w fun r w' => r = .returned (.bool false) ∧ w = w' := by
  have C := Lib.hid (gold_any w gp p g n f ep h i)
  rw [hi] at C
  clear hi h
  go_enter Tryz.func52, Tryz.ntmps52
  go_wp2_with (go_at_call 50; refine (C.out).mono ?_; rintro e w' ⟨rfl, rfl⟩)
  go_ret
  exact ⟨rfl, rfl⟩
theorem gmark_yes (w : World) (gp p g n : Nat) (f : Nat → Bool) (ep : Int) (h : Gn w gp p g n f ep) (i : Nat) (hi : i < n) (hf : f i = true) :
    Calls Tryz.prog 52 #[.pointer (some ⟨gp, 0, none⟩), .int .i64 i] w fun r w' => r = .returned (.bool true) ∧ Gn w' gp p g n (upd f i false) ep ∧ Fr [g] w w' := by
  have C := Lib.hid (gold_any w gp p g n f ep h i)
  rw [inR_nat _ _ hi, Int.toNat_natCast, hf] at C
  have C2 := Lib.hid (put_yes w p g n f h.2.1 i false hi)
  have c := h.c
  have H := Lib.hid h
  clear hf h
  go_enter Tryz.func52, Tryz.ntmps52
  go_wp2_with (first | (go_at_call 50; refine (C.out).mono ?_; rintro e w' ⟨rfl, rfl⟩) | (go_at_call 63; refine (C2.out).mono ?_; rintro e w2 ⟨rfl, h2, hf2⟩))
  go_ret
  exact ⟨rfl, H.out.put hf2 h2, hf2⟩
theorem gmark_nil (w : World) (i : Int) : Calls Tryz.prog 52 #[.pointer none, .int .i64 i] w fun r w' => r = .returned (.bool false) ∧ w = w' := by
  go_enter Tryz.func52, Tryz.ntmps52
  go_wp2_with (go_at_call 50; refine (gold_nil _ i).mono ?_; rintro e w' ⟨rfl, rfl⟩)
  go_ret
  exact ⟨rfl, rfl⟩
theorem gstart_nil (w : World) (e : Int) : Calls Tryz.prog 48 #[.pointer none, .int .u64 e] w fun r w' => r = .returned (.bool false) ∧ w = w' := by
  go_enter Tryz.func48, Tryz.ntmps48
  go_wp2_with (go_at_call 93; refine (gnone_nil _).mono ?_; rintro e w' ⟨rfl, rfl⟩)
  go_ret
  exact ⟨rfl, rfl⟩
theorem gstart_no (w : World) (gp p g n : Nat) (f : Nat → Bool) (ep : Int) (h : Gn w gp p g n f ep) (e : Int) (he : e ≤ ep ∨ 0 < cnt f n) :
    Calls Tryz.prog 48 #[.pointer (some ⟨gp, 0, none⟩), .int .u64 e] w fun r w' => r = .returned (.bool false) ∧ w = w' := by
  have c := h.c
  have c1 := h.c1
  have H := Lib.hid h
  have C := Lib.hid (count_any w p g n f h.2.1)
  clear h
  by_cases h1 : e ≤ ep
  · clear he
    go_enter Tryz.func48, Tryz.ntmps48
    go_wp2_with (first | (go_at_call 93; refine (gnone_any _ _ _ _ _ _ _ H.out).mono ?_; rintro e w' ⟨rfl, rfl⟩))
    go_ret
    exact ⟨rfl, rfl⟩
  · have h2 : 0 < cnt f n := by omega
    clear he
    go_enter Tryz.func48, Tryz.ntmps48
    go_wp2_with (first | (go_at_call 93; refine (gnone_any _ _ _ _ _ _ _ H.out).mono ?_; rintro e w' ⟨rfl, rfl⟩) | (go_at_call 94; refine (C.out).mono ?_; rintro e w' ⟨rfl, rfl⟩))
    go_ret
    exact ⟨rfl, rfl⟩
def allF (n : Nat) : Nat → Bool := fun i => decide (i < n)
def fstF (t : Nat) : Nat → Bool := fun i => decide (i < t)
set_option maxHeartbeats 1000000 in
theorem gstart_yes (w : World) (gp p g n : Nat) (f : Nat → Bool) (ep : Int) (h : Gn w gp p g n f ep) (e : Int) (he : ep < e) (h0 : cnt f n = 0) :
    Calls Tryz.prog 48 #[.pointer (some ⟨gp, 0, none⟩), .int .u64 e] w fun r w' => r = .returned (.bool true) ∧ Gn w' gp p g n (fstF n) e ∧ Fr [gp, g] w w' := by
  have c := h.c
  have c1 := h.c1
  have fz := h.1.froz 1
  have hn := h.2.2.2.2
  have H := Lib.hid h
  have C := Lib.hid (count_any w p g n f h.2.1)
  rw [h0] at C
  have hz : Hid (f = fstF 0) := Lib.hid (funext fun i => by
    unfold fstF
    cases hfi : f i with
    | false => simp
    | true =>
      have hin : i < n := by
        rcases Nat.lt_or_ge i n with h1 | h1
        · exact h1
        · rw [h.2.1.2.2.1 i h1] at hfi; cases hfi
      have := cnt_pos f n i hin hfi
      omega)
  have h1 : ¬ e ≤ ep := by omega
  have hW : Gn (w.setCell ⟨gp, 1, none⟩ (.int .u64 e)) gp p g n (fstF 0) e := ⟨h.1.set 1 _, by rw [← hz.out]; exact h.2.1.fr (S := [gp]) ((Fr.refl _ _).set (.inl (by simp)) _) (by simp; exact h.2.2.1.symm) (by simp; exact h.2.2.2.1.symm), h.2.2⟩
  have HW := Lib.hid hW
  clear h h0 hW hz
  go_enter Tryz.func48, Tryz.ntmps48
  go_wp2_with (first | (go_at_call 93; refine (gnone_any _ _ _ _ _ _ _ H.out).mono ?_; rintro e w' ⟨rfl, rfl⟩) | (go_at_call 94; refine (C.out).mono ?_; rintro e w' ⟨rfl, rfl⟩) | (go_at_call 95; refine (len_any _ p g n _ HW.out.2.1).mono ?_; rintro e w' ⟨rfl, rfl⟩))
  clear C
  go_loopw [33] (fun i wr => ∃ t : Nat, t ≤ n ∧ i = .int .i64 t ∧ Gn wr gp p g n (fstF t) e ∧ Fr [gp, g] w wr) (fun i _ => n - (intOf i).toNat)
  case atStart => exact ⟨0, by omega, rfl, HW.out, (Fr.refl _ _).set (.inl (by simp)) _⟩
  case round =>
    obtain ⟨t, ht, rfl, hG, hf⟩ := hrel
    have HG := Lib.hid hG
    have cr := hG.c
    clear hG
    by_cases htn : t < n
    · have C2 := Lib.hid (put_yes wr p g n _ HG.out.2.1 t true htn)
      rw [show upd (fstF t) t true = fstF (t + 1) from funext fun i => by unfold upd fstF; by_cases e : i = t <;> simp [e]; omega] at C2
      go_wp2_with (go_at_call 63; refine (C2.out).mono ?_; rintro e w5 ⟨rfl, h5, hf5⟩)
      go_roundw
      case rel => exact ⟨t + 1, by omega, by go_num, HG.out.put hf5 h5, hf.trans hf5 (by simp)⟩
      case measure => simp [intOf]; omega
    · obtain rfl : t = n := by omega
      go_wp2
      go_ret
      exact ⟨rfl, HG.out, hf⟩
/-- The lowest place that is set. -/
def nxtP (f : Nat → Bool) (n : Nat) : Int := match told f n with | [] => 0 | x :: _ => (x : Nat)
def nxtB (f : Nat → Bool) (n : Nat) : Bool := match told f n with | [] => false | _ :: _ => true
theorem nxt_nil {f : Nat → Bool} {n : Nat} (h : told f n = []) : nxtP f n = 0 ∧ nxtB f n = false := by unfold nxtP nxtB; rw [h]; exact ⟨rfl, rfl⟩
theorem nxt_one {f : Nat → Bool} {n x : Nat} (h : [x] <+: told f n) : nxtP f n = x ∧ nxtB f n = true := by
  obtain ⟨r, hr⟩ := h
  unfold nxtP nxtB
  rw [← hr]
  exact ⟨rfl, rfl⟩
theorem gnext_nil (w : World) : Calls Tryz.prog 56 #[.pointer none] w fun r w' => r = .returned (.tuple #[.int .i64 0, .bool false]) ∧ Fr [] w w' := by
  go_enter Tryz.func56, Tryz.ntmps56
  go_wp2_with (go_at_call 93; refine (gnone_nil _).mono ?_; rintro e w' ⟨rfl, rfl⟩)
  exact bodyPost_ret (v := .tuple #[.int .i64 0, .bool false]) (by simp [results, Tryz.results56, go_sem]) rfl ⟨rfl, (by repeat (first | exact Fr.refl _ _ | assumption | refine Fr.trans0 ?_ (by assumption) | refine Fr.drewN ?_ _ | refine Fr.alloc ?_ _ | refine Fr.drew ?_))⟩
set_option maxHeartbeats 2000000 in
set_option maxRecDepth 100000 in
theorem gnext_any (w : World) (gp p g n : Nat) (f : Nat → Bool) (ep : Int) (h : Gn w gp p g n f ep) (hT : Tab w) :
    Calls Tryz.prog 56 #[.pointer (some ⟨gp, 0, none⟩)] w fun r w' => r = .returned (.tuple #[.int .i64 (nxtP f n), .bool (nxtB f n)]) ∧ Fr [] w w' := by
  have hf0 : Fr [] w ((w.alloc (.cells #[.int .i64 0] 3)).alloc (.cells #[.bool false] 4)) := (by repeat (first | exact Fr.refl _ _ | assumption | refine Fr.trans0 ?_ (by assumption) | refine Fr.drewN ?_ _ | refine Fr.alloc ?_ _ | refine Fr.drew ?_))
  have a0 := (At.new w 3 #[.int .i64 0]).old (.cells #[.bool false] 4)
  have a1 := At.new (w.alloc (.cells #[.int .i64 0] 3)) 4 #[.bool false]
  simp only [World.size_alloc] at a1
  have H := Lib.hid (h.fr hf0 (by simp) (by simp) (by simp))
  have C := Lib.hid (tall_any _ p g n f (h.fr hf0 (by simp) (by simp) (by simp)).2.1)
  have cc := H.out.c
  have A0 := Lib.hid a0
  have A1 := Lib.hid a1
  have HF0 := Lib.hid hf0
  have HT := Lib.hid (hT.fr hf0 (by simp))
  have hTl := hT.lt
  clear h a0 a1 hf0 hT
  refine (callsIn_wide (n := 3)).1 ?_
  refine callsIn_of_wp_marks Tryz.func56 rfl trivial ?_ rfl
  simp only [Tryz.ntmps56, List.size_toArray, List.length_cons, List.length_nil, Nat.reduceAdd, Nat.reduceSub, Array.replicate_succ, Array.replicate_zero, List.push_toArray, List.append_toArray, List.nil_append, List.cons_append]
  refine wpIn_wide.2 ?_
  go_wp2_with (first | (go_at_call 93; refine (gnone_any _ _ _ _ _ _ _ H.out).mono ?_; rintro e w' ⟨rfl, rfl⟩) | (go_at_call 98; refine (C.out).mono ?_; rintro e w2 ⟨q, p', g', rfl, hq, ht, hq1, hp1, hg1, hqp, hqg, hf2⟩))
  have A0' := Lib.hid (A0.out.fr hf2 (by simp))
  have A1' := Lib.hid (A1.out.fr hf2 (by simp))
  have HF2 := Lib.hid (HF0.out.trans0 hf2)
  have HT2 := Lib.hid (HT.out.fr hf2 (by simp))
  have hst := all_stops (3 - 1) q p' g' n f w2 hq ht HT2.out
  clear C A0 A1 HT cc H
  refine (wpIn_wide (n := 3)).1 ?_
  refine wpIn_rangeFunc_ownF rfl (by omega) (gf := 129) (lb := #[.pointer (some ⟨q, 0, none⟩)]) rfl trivial (enters_of Tryz.func129 (by kernel_rfl) rfl) hst kpB_t kpB_b (Below.refl _ _) (fun _ => rfl)
    (fun pre V => pre = [] ∧ At V w.heap.size 3 #[.int .i64 0] ∧ At V (w.heap.size + 1) 4 #[.bool false] ∧ Fr [] w V)
    (fun c pre V => c = .ret ∧ ∃ x : Nat, pre = [x] ∧ At V w.heap.size 3 #[.int .i64 x] ∧ At V (w.heap.size + 1) 4 #[.bool true] ∧ Fr [] w V)
    (fun x A B row hs hg hr => ⟨hs.1, atK_grown hg (fun r e => (hr r e).2) _ _ _ hs.2.1, atK_grown hg (fun r e => (hr r e).2) _ _ _ hs.2.2.1, hs.2.2.2.row hg HF2.out.size hr⟩)
    (fun c x A B row hs hg hr => ⟨hs.1, hs.2.choose, hs.2.choose_spec.1, atK_grown hg (fun r e => (hr r e).2) _ _ _ hs.2.choose_spec.2.1, atK_grown hg (fun r e => (hr r e).2) _ _ _ hs.2.choose_spec.2.2.1, hs.2.choose_spec.2.2.2.row hg HF2.out.size hr⟩)
    ⟨rfl, A0'.out, A1'.out, HF2.out⟩ ?a1 ?assign ?body ?done ?stop
  case assign =>
    intro l x V K hK
    gi_wp2
    exact hK
  case body =>
    rintro l pre x V ⟨rfl, h0, h1, hF⟩ _
    have c0 := h0.cell 0
    have c1 := h1.cell 0
    have f0 := h0.froz 0
    have f1 := h1.froz 0
    simp only [List.getElem?_toArray, List.getElem?_cons_zero] at c0 c1
    have H0 := Lib.hid h0
    have H1 := Lib.hid h1
    clear h0 h1
    gi_wp2
    have hfs : Fr [w.heap.size, w.heap.size + 1] V ((V.setCell ⟨w.heap.size, 0, none⟩ (.int .i64 (x : Nat))).setCell ⟨w.heap.size + 1, 0, none⟩ (.bool true)) := ((Fr.refl _ _).set (.inl (by simp)) _).set (.inl (by simp)) _
    refine ⟨hfs.keepsFrom (by simp; exact ⟨⟨_, _, H0.out⟩, _, _, H1.out⟩), rfl, x, rfl, (H0.out.set 0 _).far (show w.heap.size ≠ w.heap.size + 1 by omega) _, (H1.out.far (show w.heap.size + 1 ≠ w.heap.size by omega) _).set 0 _, hF.trans hfs (by simp)⟩
  case done =>
    rintro D xs V hD hxs ⟨hx, h0, h1, hF⟩ hK
    have HN := Lib.hid (nxt_nil (f := f) (n := n) (by rw [← hxs, hx]))
    have c0 := h0.cell 0
    have c1 := h1.cell 0
    have f0 := h0.froz 0
    have f1 := h1.froz 0
    simp only [List.getElem?_toArray, List.getElem?_cons_zero] at c0 c1
    have H0 := Lib.hid h0
    have H1 := Lib.hid h1
    have HK := Lib.hid hK
    have hDw : w.heap.size ≤ D := by have := HF2.out.size; omega
    clear hxs hx h0 h1 hK
    go_wp2
    have hk1 := ((KeepsOthers.setCell V ⟨w.heap.size, 0, none⟩ (.int .i64 0)).trans (KeepsOthers.setCell _ ⟨w.heap.size + 1, 0, none⟩ (.bool false))).same D _ HK.out rfl
    refine ⟨by simp, .inl ⟨_, _, rfl, run_takeDeferred hk1, ?_⟩⟩
    have hk := atK_put (.deferred none) hk1 rfl
    have b0 := (hk _ _ _ ((H0.out.set 0 (.int .i64 0)).far (show w.heap.size ≠ w.heap.size + 1 by omega) (.bool false))).cell 0
    have b1 := (hk _ _ _ ((H1.out.far (show w.heap.size + 1 ≠ w.heap.size by omega) (.int .i64 0)).set 0 (.bool false))).cell 0
    rw [HN.out.1, HN.out.2]
    exact ⟨.tuple #[.int .i64 0, .bool false], by simp [results, Tryz.results56, go_sem, b0, b1], rfl, ((hF.set (.inr (Nat.le_refl _)) _).set (.inr (by show w.heap.size ≤ w.heap.size + 1; omega)) _).putObj D _ hDw⟩
  case stop =>
    rintro D c pre V hD hpre ⟨rfl, x, rfl, h0, h1, hF⟩ hK
    have HN := nxt_one hpre
    have hDw : w.heap.size ≤ D := by have := HF2.out.size; omega
    gi_wp2
    refine ⟨by simp, .inl ⟨_, _, rfl, run_takeDeferred hK, ?_⟩⟩
    have hk := atK_put (.deferred none) hK rfl
    have b0 := (hk _ _ _ h0).cell 0
    have b1 := (hk _ _ _ h1).cell 0
    rw [HN.1, HN.2]
    exact ⟨.tuple #[.int .i64 (x : Nat), .bool true], by simp [results, Tryz.results56, go_sem, b0, b1], rfl, hF.putObj D _ hDw⟩
end Go.Proofs.YthjbnbimfpbccaaGreatDoor
/-
  What bounds.tell and bounds.Decode compute, and the same of the reference of layer 3. No condition.
-/

set_option linter.unusedVariables false
namespace Go.Proofs.YthjbnbimfpbccaaGreatDoor
open Go.ChangeShapes Go.WideShapes Go.ChangeAt Go.RowKit
/-- The edge, and what is told of a mantissa. -/
def edgeN (b : Nat) : Nat := (b + 3072) % 4096
def trn (x g : Nat) : Int := if x < g then 1 else 0
def hiI (e b c : Nat) : Int := ((c / 2 ^ e / 4096 : Nat) : Int) - trn (c / 2 ^ e % 4096) (edgeN b)
def ofI (hi : Int) (e b x : Nat) : Int := ((hi + trn x (edgeN b)) * 4096 + x) * 2 ^ e
theorem trn_bd (x g : Nat) : 0 ≤ trn x g ∧ trn x g ≤ 1 := by unfold trn; split <;> omega
theorem hi_bd (e b c : Nat) (hc : c < 4294967296) : -1 ≤ hiI e b c ∧ hiI e b c ≤ 1048576 := by
  have h1 := trn_bd (c / 2 ^ e % 4096) (edgeN b)
  have h2 : c / 2 ^ e ≤ c := Nat.div_le_self _ _
  unfold hiI
  generalize c / 2 ^ e = q at *
  omega
theorem pw (e : Nat) (he : e ≤ 21) : 1 ≤ 2 ^ e ∧ 2 ^ e ≤ 2097152 := ⟨Nat.one_le_two_pow, Nat.pow_le_pow_right (n := 2) (by omega) he⟩
theorem hi_lt (e b c : Nat) (hc : c < 4294967296) (he : e ≤ 21) : hiI e b c * 2 ^ e ≤ 1048576 ∧ -2097152 ≤ hiI e b c * 2 ^ e := by
  have h1 := trn_bd (c / 2 ^ e % 4096) (edgeN b)
  have hp := pw e he
  have h2 : c / 2 ^ e / 4096 * 2 ^ e ≤ 1048576 := by
    rw [Nat.div_div_eq_div_mul, Nat.mul_comm (2 ^ e) 4096, ← Nat.div_div_eq_div_mul]
    have h3 : c / 4096 / 2 ^ e * 2 ^ e ≤ c / 4096 := Nat.div_mul_le_self _ _
    omega
  unfold hiI
  rw [Int.sub_mul]
  have e1 : ((c / 2 ^ e / 4096 : Nat) : Int) * 2 ^ e = ((c / 2 ^ e / 4096 * 2 ^ e : Nat) : Int) := by simp
  rw [e1]
  have e2 : (2 : Int) ^ e = ((2 ^ e : Nat) : Int) := by simp
  rw [e2]
  generalize c / 2 ^ e / 4096 * 2 ^ e = A at *
  generalize 2 ^ e = P at *
  rcases (show trn (c / P % 4096) (edgeN b) = 0 ∨ trn (c / P % 4096) (edgeN b) = 1 by omega) with h | h <;> rw [h] <;> omega
theorem of_bd (e b c x : Nat) (hc : c < 4294967296) (he : e ≤ 21) (hx : x < 4096) : -8589934592 ≤ ofI (hiI e b c) e b x ∧ ofI (hiI e b c) e b x ≤ 21474836480 := by
  have h1 := trn_bd x (edgeN b)
  have h2 := hi_lt e b c hc he
  have hp := pw e he
  unfold ofI
  generalize hiI e b c = H at *
  have e2 : (2 : Int) ^ e = ((2 ^ e : Nat) : Int) := by simp
  rw [e2] at h2 ⊢
  generalize 2 ^ e = P at *
  have e3 : ((H + trn x (edgeN b)) * 4096 + (x : Int)) * (P : Int) = H * P * 4096 + (trn x (edgeN b) * 4096 + x) * P := by
    rw [Int.add_mul, Int.add_mul, Int.add_mul, Int.add_mul, Int.mul_assoc H 4096, Int.mul_comm 4096 (P : Int), ← Int.mul_assoc]; omega
  have h5 : (0 : Int) ≤ (trn x (edgeN b) * 4096 + x) * P := Int.mul_nonneg (by omega) (by omega)
  have h6 : (trn x (edgeN b) * 4096 + x) * (P : Int) ≤ 8191 * P := Int.mul_le_mul_of_nonneg_right (by omega) (by omega)
  rw [e3]
  omega
theorem turn_any (w : World) (q g x : Nat) (h : w.cell? ⟨q, 0, none⟩ = some (.int .u16 g)) :
    Calls Tryz.prog 154 #[.int .u16 x, .pointer (some ⟨q, 0, none⟩)] w fun r w' => r = .returned (.int .i64 (trn x g)) ∧ w = w' := by
  by_cases hx : x < g
  · have H : Hid (trn x g = 1) := Lib.hid (if_pos hx)
    go_enter Tryz.func154, Tryz.ntmps154
    go_wp2
    go_ret
    exact ⟨ret_int H.out.symm, rfl⟩
  · have H : Hid (trn x g = 0) := Lib.hid (if_neg hx)
    go_enter Tryz.func154, Tryz.ntmps154
    go_wp2
    go_ret
    exact ⟨ret_int H.out.symm, rfl⟩
theorem of_core (w : World) (q1 q2 q3 q4 e x g : Nat) (H t V : Int) (h1 : w.cell? ⟨q1, 0, none⟩ = some (.int .i64 H)) (h2 : w.cell? ⟨q2, 0, none⟩ = some (.func (.func 154) #[] #[.pointer (some ⟨q4, 0, none⟩)])) (h3 : w.cell? ⟨q3, 0, none⟩ = some (.int .u8 e)) (h4 : w.cell? ⟨q4, 0, none⟩ = some (.int .u16 g))
    (ht : trn x g = t) (t0 : 0 ≤ t) (t1 : t ≤ 1) (b0 : -1 ≤ H) (b1 : H ≤ 1048576) (hx : x < 4096) (he : e ≤ 21) (hV : ((H + t) * 4096 + x) * 2 ^ e = V) (v0 : -8589934592 ≤ V) (v1 : V ≤ 21474836480) :
    Calls Tryz.prog 155 #[.int .u16 x, .pointer (some ⟨q1, 0, none⟩), .pointer (some ⟨q2, 0, none⟩), .pointer (some ⟨q3, 0, none⟩)] w fun r w' => r = .returned (.int .i64 V) ∧ ∃ nd, w' = w.drewN nd := by
  have C := Lib.hid fun nd => turn_any (w.drewN nd) q4 g x h4
  rw [ht] at C
  have HV := Lib.hid hV
  clear hV ht h4
  go_enter Tryz.func155, Tryz.ntmps155
  go_wp2
  go_quiet ((go_at_call 154; exact q_same (C.out _)))
  go_wp2
  go_ret
  refine ⟨ret_int ?_, _, rfl⟩
  show RowKit.wrap64 _ = V
  rw [← IntWalk.i64_left, HV.out]
  exact IntWalk.i64_in _ (by omega)
theorem of_any (w : World) (q1 q2 q3 q4 e b c x : Nat) (h1 : w.cell? ⟨q1, 0, none⟩ = some (.int .i64 (hiI e b c))) (h2 : w.cell? ⟨q2, 0, none⟩ = some (.func (.func 154) #[] #[.pointer (some ⟨q4, 0, none⟩)])) (h3 : w.cell? ⟨q3, 0, none⟩ = some (.int .u8 e)) (h4 : w.cell? ⟨q4, 0, none⟩ = some (.int .u16 (edgeN b)))
    (hc : c < 4294967296) (hx : x < 4096) (he : e ≤ 21) :
    Calls Tryz.prog 155 #[.int .u16 x, .pointer (some ⟨q1, 0, none⟩), .pointer (some ⟨q2, 0, none⟩), .pointer (some ⟨q3, 0, none⟩)] w fun r w' => r = .returned (.int .i64 (ofI (hiI e b c) e b x)) ∧ ∃ nd, w' = w.drewN nd := by
  have h5 := trn_bd x (edgeN b)
  have h6 := hi_bd e b c hc
  have h7 := of_bd e b c x hc he hx
  exact of_core w q1 q2 q3 q4 e x (edgeN b) _ _ _ h1 h2 h3 h4 rfl h5.1 h5.2 h6.1 h6.2 hx he rfl h7.1 h7.2
def mayB (e b t : Nat) : Bool := decide (e ≤ 21) && (decide (b < 4096) && decide (t < 4096))
def okB (x y : Int) : Bool := decide (0 ≤ x) && (decide (x ≤ y) && decide (y ≤ 4294967296))
theorem i64_and4095 (n : Nat) (h : n < 9223372036854775808) : bits .and .i64 (n : Int) 4095 = ((n % 4096 : Nat) : Int) := by
  show IntKind.i64.wrap ((BitVec.ofInt 64 (n : Int) &&& BitVec.ofInt 64 4095).toNat : Int) = _
  rw [BitVec.toNat_and, show (4095 : Int) = ((4095 : Nat) : Int) by rfl, ofInt_u64 n (by omega), ofInt_u64 4095 (by omega), show n &&& 4095 = n % 4096 from Nat.and_two_pow_sub_one_eq_mod n 12, IntWalk.i64_in _ (by omega)]
theorem tell_no (w : World) (e b t c : Nat) (h : mayB e b t = false) :
    Calls Tryz.prog 146 #[.int .u8 e, .int .u16 b, .int .u16 t, .int .u32 c] w fun r w' => r = .returned (.tuple #[.agg #[.int .i64 0, .int .i64 0], .bool false]) ∧ Fr [] w w' := by
  by_cases h1 : e ≤ 21
  · by_cases h2 : b < 4096
    · have h3 : ¬ t ≤ 4095 := fun h3 => by
        unfold mayB at h
        simp [h1, h2] at h
        omega
      have h2' : b ≤ 4095 := by omega
      clear h h2
      go_enter Tryz.func146, Tryz.ntmps146
      go_wp2
      exact bodyPost_ret (by simp [results, Tryz.results146, go_sem]) rfl ⟨rfl, (by repeat (first | exact Fr.refl _ _ | assumption | refine Fr.trans0 ?_ (by assumption) | refine Fr.drewN ?_ _ | refine Fr.alloc ?_ _ | refine Fr.drew ?_))⟩
    · have h2' : ¬ b ≤ 4095 := by omega
      clear h h2
      go_enter Tryz.func146, Tryz.ntmps146
      go_wp2
      exact bodyPost_ret (by simp [results, Tryz.results146, go_sem]) rfl ⟨rfl, (by repeat (first | exact Fr.refl _ _ | assumption | refine Fr.trans0 ?_ (by assumption) | refine Fr.drewN ?_ _ | refine Fr.alloc ?_ _ | refine Fr.drew ?_))⟩
  · clear h
    go_enter Tryz.func146, Tryz.ntmps146
    go_wp2
    exact bodyPost_ret (by simp [results, Tryz.results146, go_sem]) rfl ⟨rfl, (by repeat (first | exact Fr.refl _ _ | assumption | refine Fr.trans0 ?_ (by assumption) | refine Fr.drewN ?_ _ | refine Fr.alloc ?_ _ | refine Fr.drew ?_))⟩
set_option maxHeartbeats 1000000 in
set_option maxRecDepth 100000 in
theorem tell_yes (w : World) (e b t c : Nat) (he : e ≤ 21) (hb : b < 4096) (ht : t < 4096) (hc : c < 4294967296) :
    Calls Tryz.prog 146 #[.int .u8 e, .int .u16 b, .int .u16 t, .int .u32 c] w fun r w' => r = .returned (.tuple #[.agg #[.int .i64 (ofI (hiI e b c) e b b), .int .i64 (ofI (hiI e b c) e b t)], .bool (okB (ofI (hiI e b c) e b b) (ofI (hiI e b c) e b t))]) ∧ Fr [] w w' := by
  have CT := Lib.hid fun W q g x h => turn_any W q g x h
  have CO := Lib.hid fun W q1 q2 q3 q4 x h1 h2 h3 h4 hx => of_any W q1 q2 q3 q4 e b c x h1 h2 h3 h4 hc hx he
  have hed : bits .and .u16 (IntKind.u16.wrap ((b : Int) - 1024)) 4095 = (edgeN b : Int) := by
    have e1 : IntKind.u16.wrap ((b : Int) - 1024) = (((b + 64512) % 65536 : Nat) : Int) := by simp [IntKind.wrap, IntKind.signed, IntKind.bits]; omega
    rw [e1]
    have := u16_and_nat ((b + 64512) % 65536) 4095 (by omega) (by omega)
    rw [show ((4095 : Nat) : Int) = 4095 from rfl] at this
    rw [this, show (4095 : Nat) = 2 ^ 12 - 1 by rfl, Nat.and_two_pow_sub_one_eq_mod]
    unfold edgeN
    omega
  obtain ⟨q, hq⟩ : ∃ q, c / 2 ^ e = q := ⟨_, rfl⟩
  have hqi : (c : Int) / 2 ^ e = (q : Int) := by rw [← hq]; simp
  have hqc : q ≤ c := by rw [← hq]; exact Nat.div_le_self _ _
  obtain ⟨m, hm⟩ : ∃ m, q % 4096 = m := ⟨_, rfl⟩
  have han : bits .and .i64 (q : Int) 4095 = (m : Int) := by rw [i64_and4095 q (by omega), hm]
  have hm1 : m < 4096 := by omega
  obtain ⟨H, hH⟩ : ∃ H, hiI e b c = H := ⟨_, rfl⟩
  obtain ⟨t0, ht0⟩ : ∃ t0, trn m (edgeN b) = t0 := ⟨_, rfl⟩
  have hHq : (q : Int) / 4096 - t0 = H := by rw [← hH, ← ht0, ← hm, ← hq]; unfold hiI; simp
  have hb1 := hi_bd e b c hc
  have ht1 := trn_bd m (edgeN b)
  have hv1 := of_bd e b c b hc he hb
  have hv2 := of_bd e b c t hc he ht
  rw [hH] at hb1 hv1 hv2 CO ⊢
  rw [ht0] at ht1
  have C1 := Lib.hid fun W h => CT.out W (w.heap.size + 1 + 1) (edgeN b) m h
  rw [ht0] at C1
  obtain ⟨G, hG⟩ : ∃ G, edgeN b = G := ⟨_, rfl⟩
  rw [hG] at hed C1
  obtain ⟨X, hX⟩ : ∃ X, ofI H e b b = X := ⟨_, rfl⟩
  obtain ⟨Y, hY⟩ : ∃ Y, ofI H e b t = Y := ⟨_, rfl⟩
  have C2 := Lib.hid fun W h1 h2 h3 h4 => CO.out W (w.heap.size + 1 + 1 + 1 + 1) (w.heap.size + 1 + 1 + 1) w.heap.size (w.heap.size + 1 + 1) b h1 h2 h3 h4 hb
  have C3 := Lib.hid fun W h1 h2 h3 h4 => CO.out W (w.heap.size + 1 + 1 + 1 + 1) (w.heap.size + 1 + 1 + 1) w.heap.size (w.heap.size + 1 + 1) t h1 h2 h3 h4 ht
  rw [hX, hG] at C2
  rw [hY, hG] at C3
  rw [hX] at hv1 ⊢
  rw [hY] at hv2 ⊢
  clear hq hm hH ht0 hG hX hY CT CO
  go_enter Tryz.func146, Tryz.ntmps146
  go_wp2_with fail
  refine (C1.out _ (by go_simp)).mono ?_
  rintro e w' ⟨rfl, rfl⟩
  go_wp2_with fail
  refine (C2.out _ (by go_simp) (by go_simp) (by go_simp) (by go_simp)).mono ?_
  rintro e w2 ⟨rfl, n2, rfl⟩
  go_wp2_with fail
  refine (C3.out _ (by go_simp) (by go_simp) (by go_simp) (by go_simp)).mono ?_
  rintro e w3 ⟨rfl, n3, rfl⟩
  go_wp2_with fail
  obtain ⟨W, hW⟩ : ∃ W, ((((((w.alloc (.cells #[.int .u8 e] 5)).alloc (.cells #[.int .i64 0, .int .i64 0] 225)).alloc (.cells #[.int .u16 G] 47)).alloc (.cells #[.func (.func 154) #[] #[.pointer (some ⟨w.heap.size + 1 + 1, 0, none⟩)]] 234)).alloc (.cells #[.int .i64 H] 2)).drewN (n2 + n3)).alloc (.cells #[.int .i64 X, .int .i64 Y] 225) = W := ⟨_, rfl⟩
  have HF := Lib.hid (show Fr [] w W by rw [← hW]; exact (by repeat (first | exact Fr.refl _ _ | assumption | refine Fr.trans0 ?_ (by assumption) | refine Fr.drewN ?_ _ | refine Fr.alloc ?_ _ | refine Fr.drew ?_)))
  have HL := Lib.hid (show At W (w.heap.size + 1 + 1 + 1 + 1 + 1) 225 #[.int .i64 X, .int .i64 Y] by
    rw [← hW]
    have := At.new (((((w.alloc (.cells #[.int .u8 e] 5)).alloc (.cells #[.int .i64 0, .int .i64 0] 225)).alloc (.cells #[.int .u16 G] 47)).alloc (.cells #[.func (.func 154) #[] #[.pointer (some ⟨w.heap.size + 1 + 1, 0, none⟩)]] 234)).alloc (.cells #[.int .i64 H] 2)) 225 #[.int .i64 X, .int .i64 Y]
    simp only [World.size_alloc] at this
    exact this)
  have HR := Lib.hid (show At W (w.heap.size + 1) 225 #[.int .i64 0, .int .i64 0] by
    rw [← hW]
    have := At.new (w.alloc (.cells #[.int .u8 e] 5)) 225 #[.int .i64 0, .int .i64 0]
    simp only [World.size_alloc] at this
    exact At.old (At.drewN (((this.old _).old _).old _) _) _)
  rw [hW]
  have c0 := HL.out.cell 0
  have c1 := HL.out.cell 1
  have r0 := HR.out.froz 0
  have r1 := HR.out.froz 1
  have s0 := HR.out.cell 0
  have s1 := HR.out.cell 1
  simp only [List.getElem?_toArray, List.getElem?_cons_zero, List.getElem?_cons_succ] at c0 c1 s0 s1
  clear hW hHq hed han hqi hqc hm1 C1 C2 C3
  obtain ⟨L, hL⟩ : ∃ L, w.heap.size + 1 + 1 + 1 + 1 + 1 = L := ⟨_, rfl⟩
  obtain ⟨R, hR⟩ : ∃ R, w.heap.size + 1 = R := ⟨_, rfl⟩
  have hRw : w.heap.size ≤ R := by omega
  have hne : L ≠ R := by omega
  rw [hL] at c0 c1 ⊢
  rw [hR] at r0 r1 s0 s1 HR ⊢
  clear hL hR HL
  rcases Int.lt_or_le X 0 with h0 | h0
  · have d0 : decide (0 ≤ X) = false := by simpa using h0
    have HB := Lib.hid (show okB X Y = false by unfold okB; rw [d0]; rfl)
    go_region
    all_goals
      go_wp2_with fail
      have k0 := ((HR.out.set 0 (.int .i64 X)).set 1 (.int .i64 Y)).cell 0
      have k1 := ((HR.out.set 0 (.int .i64 X)).set 1 (.int .i64 Y)).cell 1
      simp only [List.setIfInBounds_toArray, List.set_cons_zero, List.set_cons_succ, List.getElem?_toArray, List.getElem?_cons_zero, List.getElem?_cons_succ] at k0 k1
      rw [HB.out]
      refine bodyPost_ret (by simp [results, Tryz.results146, go_sem, k0, k1]) rfl ⟨rfl, ((HF.out.set (.inr hRw) _).set (.inr hRw) _).drew⟩
  · have d0 : decide (0 ≤ X) = true := by simpa using h0
    rcases Int.lt_or_le Y X with h1 | h1
    · have d1 : decide (X ≤ Y) = false := by simpa using h1
      have HB := Lib.hid (show okB X Y = false by unfold okB; rw [d1, Bool.false_and, Bool.and_false])
      go_region
      all_goals
        go_wp2_with fail
        have k0 := ((HR.out.set 0 (.int .i64 X)).set 1 (.int .i64 Y)).cell 0
        have k1 := ((HR.out.set 0 (.int .i64 X)).set 1 (.int .i64 Y)).cell 1
        simp only [List.setIfInBounds_toArray, List.set_cons_zero, List.set_cons_succ, List.getElem?_toArray, List.getElem?_cons_zero, List.getElem?_cons_succ] at k0 k1
        rw [HB.out]
        refine bodyPost_ret (by simp [results, Tryz.results146, go_sem, k0, k1]) rfl ⟨rfl, ((HF.out.set (.inr hRw) _).set (.inr hRw) _).drew⟩
    · have d1 : decide (X ≤ Y) = true := by simpa using h1
      have HB := Lib.hid (show okB X Y = decide (Y ≤ 4294967296) by unfold okB; rw [d0, d1]; rfl)
      go_region
      all_goals
        go_wp2_with fail
        have k0 := ((HR.out.set 0 (.int .i64 X)).set 1 (.int .i64 Y)).cell 0
        have k1 := ((HR.out.set 0 (.int .i64 X)).set 1 (.int .i64 Y)).cell 1
        simp only [List.setIfInBounds_toArray, List.set_cons_zero, List.set_cons_succ, List.getElem?_toArray, List.getElem?_cons_zero, List.getElem?_cons_succ] at k0 k1
        rw [HB.out]
        refine bodyPost_ret (by simp [results, Tryz.results146, go_sem, k0, k1]) rfl ⟨rfl, ((HF.out.set (.inr hRw) _).set (.inr hRw) _).drew⟩
/-- The bounds that parts tell at a cursor. -/
def dOk (e b t c : Nat) : Bool := mayB e b t && (okB (ofI (hiI e b c) e b b) (ofI (hiI e b c) e b t) && !(ofI (hiI e b c) e b b == 4294967296))
def dBase (e b t c : Nat) : Int := if dOk e b t c = true then ofI (hiI e b c) e b b else 0
def dTop (e b t c : Nat) : Int := if dOk e b t c = true then ofI (hiI e b c) e b t else 0
theorem dec_any (w : World) (e b t c : Nat) (hc : c < 4294967296) :
    Calls Tryz.prog 127 #[.int .u8 e, .int .u16 b, .int .u16 t, .int .u32 c] w fun r w' => r = .returned (.tuple #[.int .u32 (dBase e b t c), .int .u64 (dTop e b t c)]) ∧ Fr [] w w' := by
  unfold dBase dTop
  by_cases hm : mayB e b t = true
  · have hm2 := hm
    unfold mayB at hm2
    simp only [Bool.and_eq_true, decide_eq_true_eq] at hm2
    obtain ⟨h1, h2, h3⟩ := hm2
    have C := Lib.hid (tell_yes w e b t c h1 h2 h3 hc)
    have HD := Lib.hid (show dOk e b t c = (okB (ofI (hiI e b c) e b b) (ofI (hiI e b c) e b t) && !(ofI (hiI e b c) e b b == 4294967296)) by unfold dOk; rw [hm, Bool.true_and])
    rw [HD.out]
    generalize ofI (hiI e b c) e b b = X at *
    generalize ofI (hiI e b c) e b t = Y at *
    by_cases hk : okB X Y = true
    · rw [hk] at C ⊢
      have hk2 := hk
      unfold okB at hk2
      simp only [Bool.and_eq_true, decide_eq_true_eq] at hk2
      obtain ⟨k1, k2, k3⟩ := hk2
      by_cases hx : X = 4294967296
      · rw [hx]
        rw [hx] at C
        simp only [beq_self_eq_true, Bool.not_true, Bool.and_false, Bool.false_eq_true, if_false]
        clear hk hm HD hx k1 k2 k3
        go_enter Tryz.func127, Tryz.ntmps127
        go_wp2_with (go_at_call 146; refine (C.out).mono ?_; rintro e w2 ⟨rfl, hf2⟩)
        go_ret2
        exact ⟨rfl, (hf2.alloc _)⟩
      · have hx2 : (X == 4294967296) = false := by simpa using hx
        rw [hx2]
        simp only [Bool.not_false, Bool.and_self, if_true]
        have k4 : X < 4294967296 := by omega
        have k5 : 0 ≤ Y := by omega
        have k6 : Y < 18446744073709551616 := by omega
        have e1 : IntKind.u32.wrap X = X := by simp [IntKind.wrap, IntKind.signed, IntKind.bits]; omega
        have e2 : IntKind.u64.wrap Y = Y := by simp [IntKind.wrap, IntKind.signed, IntKind.bits]; omega
        clear hk hm HD hx
        go_enter Tryz.func127, Tryz.ntmps127
        go_wp2_with (go_at_call 146; refine (C.out).mono ?_; rintro e w2 ⟨rfl, hf2⟩)
        go_quiet (fail)
        go_wp2
        go_ret2
        exact ⟨rfl, (hf2.alloc _).drewN _⟩
    · rw [Bool.not_eq_true] at hk
      rw [hk] at C ⊢
      simp only [Bool.false_and, Bool.false_eq_true, if_false]
      clear hk hm HD
      go_enter Tryz.func127, Tryz.ntmps127
      go_wp2_with (go_at_call 146; refine (C.out).mono ?_; rintro e w2 ⟨rfl, hf2⟩)
      go_ret2
      exact ⟨rfl, (hf2.alloc _)⟩
  · rw [Bool.not_eq_true] at hm
    have C := Lib.hid (tell_no w e b t c hm)
    have HD := Lib.hid (show dOk e b t c = false by unfold dOk; rw [hm, Bool.false_and])
    rw [HD.out]
    simp only [Bool.false_eq_true, if_false]
    clear hm HD
    go_enter Tryz.func127, Tryz.ntmps127
    go_wp2_with (go_at_call 146; refine (C.out).mono ?_; rintro e w2 ⟨rfl, hf2⟩)
    go_ret2
    exact ⟨rfl, (hf2.alloc _)⟩
end Go.Proofs.YthjbnbimfpbccaaGreatDoor
/-
  What the bounds functions compute: rounding to multiples of a power of two, the least exponent, padding. Conditions: addresses below 2^32, tops at most 2^32.
-/
namespace Go.Proofs.YthjbnbimfpbccaaGreatDoor
open Go.ChangeShapes Go.WideShapes Go.ChangeAt Go.RowKit
def rdn (b : Int) (e : Nat) : Int := b / 2 ^ e * 2 ^ e
def rup (t : Int) (e : Nat) : Int := (t + (2 ^ e - 1)) / 2 ^ e * 2 ^ e
theorem pow_bd (e : Nat) (he : e ≤ 21) : 1 ≤ (2 : Int) ^ e ∧ (2 : Int) ^ e ≤ 2097152 := by
  have h1 : (1 : Nat) ≤ 2 ^ e := Nat.one_le_two_pow
  have h2 : 2 ^ e ≤ 2 ^ 21 := Nat.pow_le_pow_right (by omega) he
  have : ((2 ^ e : Nat) : Int) = (2 : Int) ^ e := by simp
  omega
theorem rdn_bd (b : Int) (e : Nat) (he : e ≤ 21) (h : 0 ≤ b) : 0 ≤ rdn b e ∧ rdn b e ≤ b ∧ b < rdn b e + 2 ^ e := by
  unfold rdn
  have hp := pow_bd e he
  generalize (2 : Int) ^ e = u at *
  have h1 := Int.ediv_mul_add_emod b u
  have h2 := Int.emod_nonneg b (show u ≠ 0 by omega)
  have h3 := Int.emod_lt_of_pos b (show 0 < u by omega)
  have h4 : 0 ≤ b / u := Int.ediv_nonneg h (by omega)
  have h5 : 0 ≤ b / u * u := Int.mul_nonneg h4 (by omega)
  omega
theorem rup_bd (t : Int) (e : Nat) (he : e ≤ 21) (h : 0 ≤ t) : 0 ≤ rup t e ∧ t ≤ rup t e ∧ rup t e < t + 2 ^ e := by
  have := rdn_bd (t + (2 ^ e - 1)) e he (by have := pow_bd e he; omega)
  unfold rdn at this; unfold rup
  omega
theorem rdn_zero (e : Nat) : rdn 0 e = 0 := by simp [rdn]
theorem dvd_whole (e : Nat) (he : e ≤ 21) : ∃ k : Int, (4294967296 : Int) = 2 ^ e * k :=
  ⟨2 ^ (32 - e), by rw [← Int.pow_add, show e + (32 - e) = 32 by omega]; rfl⟩
/-- A multiple of 2^e that is not less than t is not less than t rounded up. -/
theorem rup_least (t q : Int) (e : Nat) (he : e ≤ 21) (h : t ≤ 2 ^ e * q) : rup t e ≤ 2 ^ e * q := by
  unfold rup
  have hp := pow_bd e he
  generalize (2 : Int) ^ e = u at *
  have h1 : (t + (u - 1)) / u < q + 1 := Int.ediv_lt_of_lt_mul (by omega) (by rw [Int.add_mul, Int.mul_comm q u]; omega)
  rw [Int.mul_comm]
  exact Int.mul_le_mul_of_nonneg_left (by omega) (by omega)
theorem rup_whole (t : Int) (e : Nat) (he : e ≤ 21) (h : t ≤ 4294967296) : rup t e ≤ 4294967296 := by
  obtain ⟨k, hk⟩ := dvd_whole e he
  rw [hk] at h ⊢
  exact rup_least t k e he h
theorem andNot_low (x e : Nat) (hx : x < 2 ^ 64) (he : e ≤ 64) : x &&& (2 ^ 64 - 1 - (2 ^ e - 1)) = x / 2 ^ e * 2 ^ e := by
  apply Nat.eq_of_testBit_eq
  intro j
  rw [Nat.testBit_and, Nat.testBit_mul_two_pow, Nat.testBit_div_two_pow]
  have h : 2 ^ 64 - 1 - (2 ^ e - 1) = 2 ^ 64 - (2 ^ e - 1 + 1) := by
    have : 2 ^ e ≤ 2 ^ 64 := Nat.pow_le_pow_right (by omega) he
    have : 1 ≤ 2 ^ e := Nat.one_le_two_pow
    omega
  rw [h, Nat.testBit_two_pow_sub_succ (by have : 2 ^ e ≤ 2 ^ 64 := Nat.pow_le_pow_right (by omega) he
                                          have : 1 ≤ 2 ^ e := Nat.one_le_two_pow
                                          omega)]
  rw [Nat.testBit_two_pow_sub_one]
  by_cases h1 : e ≤ j
  · have : ¬ j < e := by omega
    by_cases h2 : j < 64
    · simp [h1, this, h2, show j - e + e = j by omega]
    · have : x.testBit j = false := Nat.testBit_lt_two_pow (Nat.lt_of_lt_of_le hx (Nat.pow_le_pow_right (by omega) (by omega)))
      simp [this, h1]
  · have : j < e := by omega
    simp [h1, this]
theorem andNot_pow (x : Int) (e : Nat) (h0 : 0 ≤ x) (h1 : x < 18446744073709551616) (he : e ≤ 21) : bits .andNot .u64 x (2 ^ e - 1) = x / 2 ^ e * 2 ^ e := by
  obtain ⟨X, rfl⟩ := Int.eq_ofNat_of_zero_le h0
  have hp := pow_bd e he
  have h2 : (2 : Int) ^ e = ((2 ^ e : Nat) : Int) := by simp
  rw [u64_andNot _ _ h0 h1 (by omega) (by omega)]
  have h3 : ((2 : Int) ^ e - 1).toNat = 2 ^ e - 1 := by omega
  rw [h3, Int.toNat_natCast]
  have := andNot_low X e (by omega) (by omega)
  rw [show (18446744073709551615 : Nat) = 2 ^ 64 - 1 by rfl, this]
  simp
def goes (b t : Int) (e : Nat) : Bool := decide (rup t e - rdn b e ≤ 2048 * 2 ^ e)
def expoF (b t : Int) : Nat → Nat → Nat
  | 0, e => e
  | n + 1, e => if goes b t e = true then e else expoF b t n (e + 1)
def expo (b t : Int) : Nat := expoF b t 21 0
theorem expoF_yes (b t : Int) (n e : Nat) (h : goes b t e = true) (hn : 0 < n) : expoF b t n e = e := by
  cases n with
  | zero => omega
  | succ n => simp [expoF, h]
theorem expoF_no (b t : Int) (n e : Nat) (h : goes b t e = false) (hn : 0 < n) : expoF b t n e = expoF b t (n - 1) (e + 1) := by
  cases n with
  | zero => omega
  | succ n => simp [expoF, h]
theorem expoF_le (b t : Int) : ∀ n e : Nat, expoF b t n e ≤ e + n
  | 0, e => by simp [expoF]
  | n + 1, e => by
    have := expoF_le b t n (e + 1)
    simp only [expoF]; split <;> omega
theorem expo_le (b t : Int) : expo b t ≤ 21 := by have := expoF_le b t 21 0; unfold expo; omega
theorem goes_iff (b t : Int) (e : Nat) : goes b t e = decide (rup t e - rdn b e ≤ 2048 * 2 ^ e) := rfl
theorem goes_last (b t : Int) (h1 : 0 ≤ b) (h2 : b ≤ t) (h4 : t ≤ 4294967296) : goes b t 21 = true := by
  have q1 := rdn_bd b 21 (by omega) h1
  have q2 := rup_whole t 21 (by omega) h4
  have e : (2 : Int) ^ 21 = 2097152 := rfl
  rw [goes_iff]
  simp; omega
def padB (s : Int) : Int × Int := if rup s (expo 0 s) = 4294967296 then (0, 0) else (rup s (expo 0 s), 2 ^ expo 0 s)

theorem rounded_any (b t : Int) (e : Nat) (w : World) (he : e ≤ 21) (h1 : 0 ≤ b) (h2 : b < 4294967296) (h3 : 0 ≤ t) (h4 : t ≤ 4294967296) :
    Calls Tryz.prog 136 #[.int .u32 b, .int .u64 t, .int .i64 e] w fun r w' => r = .returned (.tuple #[.int .u64 (rdn b e), .int .u64 (rup t e)]) ∧ w = w' := by
  obtain ⟨hp1, hp2⟩ := pow_bd e he
  go_enter Tryz.func136, Tryz.ntmps136
  go_wp2
  go_ret2
  exact ⟨ret_two (andNot_pow b e h1 (by omega) he) (andNot_pow (t + (2 ^ e - 1)) e (by omega) (by omega) he), rfl⟩
theorem exponent_any (b t : Int) (w : World) (h1 : 0 ≤ b) (h2 : b < 4294967296) (h3 : 0 ≤ t) (h4 : t ≤ 4294967296) (h5 : b ≤ t) :
    Calls Tryz.prog 135 #[.int .u32 b, .int .u64 t] w fun r w' => r = .returned (.int .i64 (expo b t)) ∧ w = w' := by
  go_enter Tryz.func135, Tryz.ntmps135
  go_wp2
  go_loop [8] (fun i => ∃ k : Nat, k ≤ 21 ∧ i = .int .i64 k ∧ expo b t = expoF b t (21 - k) k) (fun i => 21 - (intOf i).toNat)
  case atStart => exact ⟨0, by omega, rfl, rfl⟩
  case round =>
    obtain ⟨k, hk, rfl, hex⟩ := hrel
    have Hex := Lib.hid hex; clear hex
    by_cases hlt : k < 21
    · have hp := pow_bd k hk
      have q1 := rdn_bd b k hk h1
      have q2 := rup_bd t k hk h3
      cases hg : goes b t k
      · have Hg := Lib.hid hg
        have ht : decide (rup t k - rdn b k ≤ 2048 * 2 ^ k) = false := by rw [← goes_iff]; exact hg
        clear hg
        go_wp2_with (go_at_call 136; refine (rounded_any b t k _ (by omega) h1 h2 h3 h4).mono ?_; rintro e w' ⟨rfl, rfl⟩)
        refine ⟨⟨k + 1, by omega, by go_num, ?_⟩, by simp [intOf]; omega⟩
        rw [Hex.out, expoF_no _ _ _ _ Hg.out (by omega), Nat.sub_sub]
      · have Hg := Lib.hid hg
        have ht : decide (rup t k - rdn b k ≤ 2048 * 2 ^ k) = true := by rw [← goes_iff]; exact hg
        clear hg
        go_wp2_with (go_at_call 136; refine (rounded_any b t k _ (by omega) h1 h2 h3 h4).mono ?_; rintro e w' ⟨rfl, rfl⟩)
        go_ret
        exact ⟨ret_int (by rw [Hex.out, expoF_yes _ _ _ _ Hg.out (by omega)]), rfl⟩
    · obtain rfl : k = 21 := by omega
      go_wp2
      go_ret
      exact ⟨ret_int (by rw [Hex.out]; rfl), rfl⟩
end Go.Proofs.YthjbnbimfpbccaaGreatDoor
/-
  Capabilities as eight cells; what caps.Range and caps.Make compute; the bounds of what is made. Conditions: numbers in their types' ranges.
-/


set_option linter.unusedVariables false
namespace Go.Proofs.YthjbnbimfpbccaaGreatDoor
open Go.ChangeShapes Go.WideShapes Go.ChangeAt Go.RowKit
/-- Results of which the first lies in a block of its own. -/
theorem res_row_tmp {P : Program} {fn : Func} {p x : Tmp} {ty : TypeId} (h : fn.results = #[.cell p ty, .tmp x]) (tmps : Array Value) (w : World) (g : Nat) (t : TypeId) (cs : Array Value) (d : TypeDesc)
    (hp : tmps.getD p undef = .pointer (some ⟨g, 0, none⟩)) (hg : At w g t cs)
    (hu : P.underlying ty = some d) (hd : (match d with | .struct _ | .array _ _ => true | _ => false) = true) (hi : (P.info? ty).map (·.size) = some cs.size) :
    (results fn tmps).run P w = .ok (.tuple #[.agg cs, tmps.getD x undef]) w := by
  have hp' : tmps[p]?.getD undef = .pointer (some ⟨g, 0, none⟩) := by simpa using hp
  simp [results, h, hp', asAddr, run_loadVar_row w g t ty cs (0, 0) d hg hu hd hi]
/-- A capability. -/
structure Cp where
  cur : Nat
  e : Nat
  b : Nat
  t : Nat
  pm : Nat
  ty : Nat
  rs : Nat
  v : Bool
structure Cp.Ok (c : Cp) : Prop where
  cur : c.cur < 4294967296
  e : c.e < 256
  b : c.b < 65536
  t : c.t < 65536
  pm : c.pm < 65536
  ty : c.ty < 65536
  rs : c.rs < 4294967296
def Cp.l (c : Cp) : List Value := [.int .u32 c.cur, .int .u8 c.e, .int .u16 c.b, .int .u16 c.t, .int .u16 c.pm, .int .u16 c.ty, .int .u32 c.rs, .bool c.v]
def Cp.cells (c : Cp) : Array Value := #[.int .u32 c.cur, .int .u8 c.e, .int .u16 c.b, .int .u16 c.t, .int .u16 c.pm, .int .u16 c.ty, .int .u32 c.rs, .bool c.v]
def Cp.base (c : Cp) : Int := dBase c.e c.b c.t c.cur
def Cp.top (c : Cp) : Int := dTop c.e c.b c.t c.cur
theorem dec_bd (e b t c : Nat) : 0 ≤ dBase e b t c ∧ dBase e b t c < 4294967296 ∧ dBase e b t c ≤ dTop e b t c ∧ dTop e b t c ≤ 4294967296 := by
  unfold dBase dTop
  by_cases h : dOk e b t c = true
  · rw [if_pos h, if_pos h]
    unfold dOk okB at h
    generalize ofI (hiI e b c) e b b = X at *
    generalize ofI (hiI e b c) e b t = Y at *
    simp only [Bool.and_eq_true, decide_eq_true_eq, Bool.not_eq_true', beq_eq_false_iff_ne, ne_eq] at h
    omega
  · rw [if_neg h, if_neg h]; omega
theorem range_any (w : World) (c : Cp) (hc : c.cur < 4294967296) :
    Calls Tryz.prog 92 #[.agg c.cells] w fun r w' => r = .returned (.tuple #[.int .u32 c.base, .int .u64 c.top]) ∧ Fr [] w w' := by
  unfold Cp.base Cp.top Cp.cells
  have C := Lib.hid fun W => dec_any W c.e c.b c.t c.cur hc
  generalize dBase c.e c.b c.t c.cur = X at *
  generalize dTop c.e c.b c.t c.cur = Y at *
  go_enter Tryz.func92, Tryz.ntmps92
  go_wp2_with (go_at_call 127; refine (C.out _).mono ?_; rintro e w2 ⟨rfl, hf2⟩)
  go_ret2
  exact ⟨rfl, (Fr.alloc (Fr.refl [] w) _).trans0 hf2⟩
theorem cend_any (w : World) (a s : Nat) (ha : a < 4294967296) (hs : s < 4294967296) :
    Calls Tryz.prog 107 #[.agg #[.int .u32 a, .int .u32 s]] w fun r w' => r = .returned (.int .u64 (a + s : Nat)) ∧ Fr [] w w' := by
  go_enter Tryz.func107, Tryz.ntmps107
  go_wp2
  go_ret
  exact ⟨by simp, (by repeat (first | exact Fr.refl _ _ | assumption | refine Fr.trans0 ?_ (by assumption) | refine Fr.drewN ?_ _ | refine Fr.alloc ?_ _ | refine Fr.drew ?_))⟩
theorem right_yes (w : World) (b t : Nat) (h : b ≤ t) (h2 : t ≤ 4294967296) (h1 : b < 4294967296) :
    Calls Tryz.prog 134 #[.int .u32 b, .int .u64 t] w fun r w' => r = .returned (.bool true) ∧ w = w' := by
  have d1 : decide (b ≤ t) = true := by simpa using h
  have d2 : decide ((t : Int) ≤ 4294967296) = true := by simp; omega
  go_enter Tryz.func134, Tryz.ntmps134
  go_wp2
  go_ret
  exact ⟨rfl, rfl⟩
/-! ### what is encoded -/
def up (t e : Nat) : Nat := (t + (2 ^ e - 1)) / 2 ^ e
def m1 (b t : Nat) : Nat := b / 2 ^ expo b t % 4096
def m2 (b t : Nat) : Nat := up t (expo b t) % 4096
def exB (b t : Nat) : Bool := decide (b % 2 ^ expo b t = 0) && decide (t % 2 ^ expo b t = 0)
theorem rdn_nat (b e : Nat) : rdn (b : Int) e = ((b / 2 ^ e * 2 ^ e : Nat) : Int) := by unfold rdn; simp
theorem rup_nat (t e : Nat) : rup (t : Int) e = ((up t e * 2 ^ e : Nat) : Int) := by
  unfold rup up
  have : 1 ≤ 2 ^ e := Nat.one_le_two_pow
  rw [show (t : Int) + ((2 : Int) ^ e - 1) = ((t + (2 ^ e - 1) : Nat) : Int) by
    rw [Int.natCast_add, Int.natCast_sub this]; simp]
  simp
theorem rdn_eq (b e : Nat) : (b / 2 ^ e * 2 ^ e = b) ↔ b % 2 ^ e = 0 := by
  have := Nat.div_add_mod b (2 ^ e)
  rw [Nat.mul_comm] at this
  omega
theorem up_eq (t e : Nat) : (up t e * 2 ^ e = t) ↔ t % 2 ^ e = 0 := by
  unfold up
  have hp : 1 ≤ 2 ^ e := Nat.one_le_two_pow
  generalize 2 ^ e = P at *
  constructor
  · intro h
    rw [← h]; exact Nat.mul_mod_left _ _
  · intro h
    obtain ⟨k, rfl⟩ := Nat.dvd_of_mod_eq_zero h
    rw [Nat.mul_comm P k, show k * P + (P - 1) = (P - 1) + P * k by rw [Nat.mul_comm P k]; omega, Nat.add_mul_div_left _ _ (by omega), Nat.div_eq_of_lt (by omega), Nat.zero_add]
theorem and4095 (n : Nat) (h : n < 18446744073709551616) : bits .and .u64 (n : Int) 4095 = ((n % 4096 : Nat) : Int) := by
  have := u64_and_nat n 4095 h (by omega)
  rw [show ((4095 : Nat) : Int) = 4095 from rfl] at this
  rw [this, show (4095 : Nat) = 2 ^ 12 - 1 by rfl, Nat.and_two_pow_sub_one_eq_mod]
theorem enc_any (w : World) (b t : Nat) (h : b ≤ t) (h2 : t ≤ 4294967296) (h1 : b < 4294967296) :
    Calls Tryz.prog 108 #[.int .u32 b, .int .u64 t] w fun r w' => r = .returned (.tuple #[.int .u8 (expo b t), .int .u16 (m1 b t), .int .u16 (m2 b t), .bool (exB b t), .bool true]) ∧ ∃ nd, w' = w.drewN nd := by
  have he := expo_le (b : Int) (t : Int)
  have C1 := Lib.hid fun W => right_yes W b t h h2 h1
  have C2 := Lib.hid fun W => exponent_any (b : Int) (t : Int) W (by omega) (by omega) (by omega) (by omega) (by omega)
  have C3 := Lib.hid fun W => rounded_any (b : Int) (t : Int) (expo b t) W he (by omega) (by omega) (by omega) (by omega)
  have q1 := rup_whole (t : Int) (expo b t) he (by omega)
  have q2 := rdn_bd (b : Int) (expo b t) he (by omega)
  unfold m1 m2 exB
  obtain ⟨e, hee⟩ : ∃ e, expo (b : Int) (t : Int) = e := ⟨_, rfl⟩
  rw [hee] at C2 C3 he q1 q2
  rw [hee]
  rw [rdn_nat, rup_nat] at C3
  rw [rup_nat] at q1
  rw [rdn_nat] at q2
  have hA : ((b / 2 ^ e * 2 ^ e : Nat) : Int) / 2 ^ e = ((b / 2 ^ e : Nat) : Int) := by
    have : (2 : Int) ^ e = ((2 ^ e : Nat) : Int) := by simp
    rw [this, ← Int.natCast_ediv, Nat.mul_div_cancel _ (Nat.two_pow_pos e)]
  have hB : ((up t e * 2 ^ e : Nat) : Int) / 2 ^ e = ((up t e : Nat) : Int) := by
    have : (2 : Int) ^ e = ((2 ^ e : Nat) : Int) := by simp
    rw [this, ← Int.natCast_ediv, Nat.mul_div_cancel _ (Nat.two_pow_pos e)]
  have hu : up t e ≤ up t e * 2 ^ e := Nat.le_mul_of_pos_right _ (Nat.two_pow_pos e)
  have hb0 : b / 2 ^ e ≤ b := Nat.div_le_self _ _
  have n1 := and4095 (b / 2 ^ e) (by omega)
  have n2 := and4095 (up t e) (by omega)
  have x1 := rdn_eq b e
  have x2 := up_eq t e
  have HX := Lib.hid (show (decide (b % 2 ^ e = 0) && decide (t % 2 ^ e = 0)) = (decide (b / 2 ^ e * 2 ^ e = b) && decide (up t e * 2 ^ e = t)) by rw [decide_eq_decide.2 x1, decide_eq_decide.2 x2])
  rw [HX.out]
  have l1 : b / 2 ^ e % 4096 < 4096 := by omega
  have l2 : up t e % 4096 < 4096 := by omega
  have hew : IntKind.u8.wrap (e : Int) = e := by simp [IntKind.wrap, IntKind.signed, IntKind.bits]; omega
  generalize b / 2 ^ e * 2 ^ e = D at *
  generalize up t e * 2 ^ e = U at *
  generalize b / 2 ^ e = A at *
  generalize up t e = T at *
  generalize A % 4096 = M at *
  generalize T % 4096 = N at *
  have w1 : IntKind.u16.wrap (M : Int) = M := by simp [IntKind.wrap, IntKind.signed, IntKind.bits]; omega
  have w2 : IntKind.u16.wrap (N : Int) = N := by simp [IntKind.wrap, IntKind.signed, IntKind.bits]; omega
  have HE := Lib.hid hee
  clear hee x1 x2 HX
  by_cases hd : D = b
  · have d1 : ((D : Int) == (b : Int)) = true := by simp [hd]
    have HD := Lib.hid (show decide (D = b) = true by simpa using hd)
    clear hd
    have HU := Lib.hid (show ((U : Int) == (t : Int)) = decide (U = t) by rw [Bool.eq_iff_iff]; simp; omega)
    rw [HD.out, Bool.true_and, ← HU.out]
    go_enter Tryz.func108, Tryz.ntmps108
    go_wp2_with (first | (go_at_call 134; refine (C1.out _).mono ?_; rintro e w2 ⟨rfl, rfl⟩) | (go_at_call 135; refine (C2.out _).mono ?_; rintro e w2 ⟨rfl, rfl⟩) | (go_at_call 136; refine (C3.out _).mono ?_; rintro e w2 ⟨rfl, rfl⟩))
    go_quiet (fail)
    go_wp2
    exact bodyPost_ret (by simp [results, Tryz.results108, go_sem]) rfl ⟨rfl, _, rfl⟩
  · have d1 : ((D : Int) == (b : Int)) = false := by simp; omega
    have HD := Lib.hid (show decide (D = b) = false by simpa using hd)
    clear hd
    rw [HD.out, Bool.false_and]
    go_enter Tryz.func108, Tryz.ntmps108
    go_wp2_with (first | (go_at_call 134; refine (C1.out _).mono ?_; rintro e w2 ⟨rfl, rfl⟩) | (go_at_call 135; refine (C2.out _).mono ?_; rintro e w2 ⟨rfl, rfl⟩) | (go_at_call 136; refine (C3.out _).mono ?_; rintro e w2 ⟨rfl, rfl⟩))
    go_quiet (fail)
    go_wp2
    exact bodyPost_ret (by simp [results, Tryz.results108, go_sem]) rfl ⟨rfl, _, rfl⟩
/-- What Make makes of a region. -/
def mkB (a s pm : Nat) : Bool := decide (pm ≤ 255) && (decide (a + s ≤ 4294967296) && exB a (a + s))
def mkC (a s pm : Nat) : Cp := ⟨a, expo a (a + s : Nat), m1 a (a + s), m2 a (a + s), pm, 0, 0, true⟩
def noC : Cp := ⟨0, 0, 0, 0, 0, 0, 0, false⟩
set_option maxHeartbeats 1000000 in
theorem make_any (w : World) (a s pm : Nat) (ha : a < 4294967296) (hs : s < 4294967296) :
    Calls Tryz.prog 65 #[.agg #[.int .u32 a, .int .u32 s], .int .u16 pm] w fun r w' => r = .returned (.tuple #[.agg (if mkB a s pm = true then mkC a s pm else noC).cells, .bool (mkB a s pm)]) ∧ Fr [] w w' := by
  by_cases hp : pm ≤ 255
  · by_cases hl : a + s ≤ 4294967296
    · have C1 := Lib.hid fun W => cend_any W a s ha hs
      have C2 := Lib.hid fun W => enc_any W a (a + s) (by omega) hl ha
      have HB := Lib.hid (show mkB a s pm = exB a (a + s) by unfold mkB; simp [hp, hl])
      rw [HB.out]
      have hl2 : ((a : Int) + (s : Int)) ≤ 4294967296 := by omega
      have A0 := Lib.hid ((At.new w 45 #[.int .u32 a, .int .u32 s]).old (.cells noC.cells 49))
      have A1 := At.new (w.alloc (.cells #[.int .u32 a, .int .u32 s] 45)) 49 noC.cells
      rw [World.size_alloc] at A1
      have A1 := Lib.hid A1
      have F0 := Lib.hid (show Fr [] w ((w.alloc (.cells #[.int .u32 a, .int .u32 s] 45)).alloc (.cells noC.cells 49)) from (by repeat (first | exact Fr.refl _ _ | assumption | refine Fr.trans0 ?_ (by assumption) | refine Fr.drewN ?_ _ | refine Fr.alloc ?_ _ | refine Fr.drew ?_)))
      unfold noC Cp.cells at A0 A1 F0
      dsimp only [Int.cast_ofNat_Int] at A0 A1 F0
      unfold mkC
      generalize expo (a : Int) ((a + s : Nat) : Int) = e at *
      generalize m1 a (a + s) = M at *
      generalize m2 a (a + s) = N at *
      by_cases hx : exB a (a + s) = true
      · rw [hx] at C2 ⊢
        rw [if_pos rfl]
        clear HB hx
        go_enter Tryz.func65, Tryz.ntmps65
        go_wp2_with (go_at_call 107; refine (C1.out _).mono ?_; rintro e w2 ⟨rfl, hf2⟩)
        have B0 := Lib.hid (A0.out.fr hf2 (by simp))
        have B1 := Lib.hid (A1.out.fr hf2 (by simp))
        have F2 := Lib.hid (F0.out.trans0 hf2)
        have c0 := B0.out.cell 0
        have c1 := B0.out.cell 1
        simp only [List.getElem?_toArray, List.getElem?_cons_zero, List.getElem?_cons_succ] at c0 c1
        clear hf2 A0 A1 F0
        go_region_held3 (fun w' => w'.cell? ⟨w.heap.size, 0, none⟩ = some (.int .u32 a) ∧ w'.cell? ⟨w.heap.size, 1, none⟩ = some (.int .u32 s)) (first | exact ⟨c0, c1⟩ | exact dd | go_keep) (first | (go_at_call 107; refine (C1.out _).mono ?_; rintro e w5 ⟨rfl, hf5⟩; have dd : w5.cell? ⟨w.heap.size, 0, none⟩ = some (.int .u32 a) ∧ w5.cell? ⟨w.heap.size, 1, none⟩ = some (.int .u32 s) := ⟨(hf5.cell (a := ⟨w.heap.size, 0, none⟩) (lt_of_cell c0) (by simp)).trans c0, (hf5.cell (a := ⟨w.heap.size, 1, none⟩) (lt_of_cell c1) (by simp)).trans c1⟩) | (go_at_call 108; refine (C2.out _).mono ?_; rintro e w6 ⟨rfl, nd, rfl⟩))
        all_goals
          have hf6 : Fr [] w2 w5 := hf5.hd rfl rfl rfl rfl
          have E1 := Lib.hid (B1.out.fr hf6 (by simp))
          have F6 := Lib.hid (F2.out.trans0 hf6)
          have e0 := E1.out.cell 0
          have e1 := E1.out.cell 1
          have e2 := E1.out.cell 2
          have e3 := E1.out.cell 3
          have e4 := E1.out.cell 4
          have e5 := E1.out.cell 5
          have e6 := E1.out.cell 6
          have e7 := E1.out.cell 7
          have f0 := E1.out.froz 0
          have f1 := E1.out.froz 1
          have f2 := E1.out.froz 2
          have f3 := E1.out.froz 3
          have f4 := E1.out.froz 4
          have f5 := E1.out.froz 5
          have f6 := E1.out.froz 6
          have f7 := E1.out.froz 7
          have dd2 : w5.cell? ⟨w.heap.size, 0, none⟩ = some (.int .u32 a) := (hf6.cell (a := ⟨w.heap.size, 0, none⟩) (lt_of_cell c0) (by simp)).trans c0
          simp only [List.getElem?_toArray, List.getElem?_cons_zero, List.getElem?_cons_succ] at e0 e1 e2 e3 e4 e5 e6 e7
          clear hf5 hf6 c0 c1
          go_wp2_with fail
          have K := ((((((((E1.out.drewN nd).set 0 (.int .u32 a)).set 1 (.int .u8 e)).set 2 (.int .u16 M)).set 3 (.int .u16 N)).set 4 (.int .u16 pm)).set 5 (.int .u16 0)).set 6 (.int .u32 0)).set 7 (.bool true)
          simp only [List.setIfInBounds_toArray, List.set_cons_zero, List.set_cons_succ] at K
          have hq : w.heap.size ≤ w.heap.size + 1 := Nat.le_succ _
          refine bodyPost_ret (res_row_tmp rfl _ _ (w.heap.size + 1) 49 _ _ rfl K Tryz.underlying49 rfl (by kernel_rfl)) rfl ⟨rfl, ((((((((F6.out.drewN _).set (.inr hq) _).set (.inr hq) _).set (.inr hq) _).set (.inr hq) _).set (.inr hq) _).set (.inr hq) _).set (.inr hq) _).set (.inr hq) _⟩
      · rw [Bool.not_eq_true] at hx
        rw [hx] at C2 ⊢
        clear HB hx
        go_enter Tryz.func65, Tryz.ntmps65
        go_wp2_with (go_at_call 107; refine (C1.out _).mono ?_; rintro e w2 ⟨rfl, hf2⟩)
        have B0 := Lib.hid (A0.out.fr hf2 (by simp))
        have B1 := Lib.hid (A1.out.fr hf2 (by simp))
        have F2 := Lib.hid (F0.out.trans0 hf2)
        have c0 := B0.out.cell 0
        have c1 := B0.out.cell 1
        simp only [List.getElem?_toArray, List.getElem?_cons_zero, List.getElem?_cons_succ] at c0 c1
        clear hf2 A0 A1 F0
        go_region_held3 (fun w' => w'.cell? ⟨w.heap.size, 0, none⟩ = some (.int .u32 a) ∧ w'.cell? ⟨w.heap.size, 1, none⟩ = some (.int .u32 s)) (first | exact ⟨c0, c1⟩ | exact dd | go_keep) (first | (go_at_call 107; refine (C1.out _).mono ?_; rintro e w5 ⟨rfl, hf5⟩; have dd : w5.cell? ⟨w.heap.size, 0, none⟩ = some (.int .u32 a) ∧ w5.cell? ⟨w.heap.size, 1, none⟩ = some (.int .u32 s) := ⟨(hf5.cell (a := ⟨w.heap.size, 0, none⟩) (lt_of_cell c0) (by simp)).trans c0, (hf5.cell (a := ⟨w.heap.size, 1, none⟩) (lt_of_cell c1) (by simp)).trans c1⟩) | (go_at_call 108; refine (C2.out _).mono ?_; rintro e w6 ⟨rfl, nd, rfl⟩))
        all_goals
          have hf6 : Fr [] w2 w5 := hf5.hd rfl rfl rfl rfl
          have E1 := Lib.hid (B1.out.fr hf6 (by simp))
          have F6 := Lib.hid (F2.out.trans0 hf6)
          have e0 := E1.out.cell 0
          have e1 := E1.out.cell 1
          have e2 := E1.out.cell 2
          have e3 := E1.out.cell 3
          have e4 := E1.out.cell 4
          have e5 := E1.out.cell 5
          have e6 := E1.out.cell 6
          have e7 := E1.out.cell 7
          have f0 := E1.out.froz 0
          have f1 := E1.out.froz 1
          have f2 := E1.out.froz 2
          have f3 := E1.out.froz 3
          have f4 := E1.out.froz 4
          have f5 := E1.out.froz 5
          have f6 := E1.out.froz 6
          have f7 := E1.out.froz 7
          have dd2 : w5.cell? ⟨w.heap.size, 0, none⟩ = some (.int .u32 a) := (hf6.cell (a := ⟨w.heap.size, 0, none⟩) (lt_of_cell c0) (by simp)).trans c0
          simp only [List.getElem?_toArray, List.getElem?_cons_zero, List.getElem?_cons_succ] at e0 e1 e2 e3 e4 e5 e6 e7
          clear hf5 hf6 c0 c1
          go_wp2_with fail
          have K := ((((((((E1.out.drewN nd).set 0 (.int .u32 0)).set 1 (.int .u8 0)).set 2 (.int .u16 0)).set 3 (.int .u16 0)).set 4 (.int .u16 0)).set 5 (.int .u16 0)).set 6 (.int .u32 0)).set 7 (.bool false)
          simp only [List.setIfInBounds_toArray, List.set_cons_zero, List.set_cons_succ] at K
          have hq : w.heap.size ≤ w.heap.size + 1 := Nat.le_succ _
          refine bodyPost_ret (res_row_tmp rfl _ _ (w.heap.size + 1) 49 _ _ rfl K Tryz.underlying49 rfl (by kernel_rfl)) rfl ⟨rfl, ((((((((F6.out.drewN _).set (.inr hq) _).set (.inr hq) _).set (.inr hq) _).set (.inr hq) _).set (.inr hq) _).set (.inr hq) _).set (.inr hq) _).set (.inr hq) _⟩
    · have C1 := Lib.hid fun W => cend_any W a s ha hs
      have HB := Lib.hid (show mkB a s pm = false by unfold mkB; simp [hl])
      rw [HB.out]
      have hl2 : ¬ ((a : Int) + (s : Int)) ≤ 4294967296 := by omega
      have A1 := At.new (w.alloc (.cells #[.int .u32 a, .int .u32 s] 45)) 49 noC.cells
      rw [World.size_alloc] at A1
      have A1 := Lib.hid A1
      have F0 := Lib.hid (show Fr [] w ((w.alloc (.cells #[.int .u32 a, .int .u32 s] 45)).alloc (.cells noC.cells 49)) from (by repeat (first | exact Fr.refl _ _ | assumption | refine Fr.trans0 ?_ (by assumption) | refine Fr.drewN ?_ _ | refine Fr.alloc ?_ _ | refine Fr.drew ?_)))
      unfold noC Cp.cells at A1 F0
      dsimp only [Int.cast_ofNat_Int] at A1 F0
      clear HB
      go_enter Tryz.func65, Tryz.ntmps65
      go_wp2_with (go_at_call 107; refine (C1.out _).mono ?_; rintro e w2 ⟨rfl, hf2⟩; have B1 := Lib.hid (A1.out.fr hf2 (by simp)); have e0 := B1.out.cell 0; have e1 := B1.out.cell 1; have e2 := B1.out.cell 2; have e3 := B1.out.cell 3; have e4 := B1.out.cell 4; have e5 := B1.out.cell 5; have e6 := B1.out.cell 6; have e7 := B1.out.cell 7; have f0 := B1.out.froz 0; have f1 := B1.out.froz 1; have f2 := B1.out.froz 2; have f3 := B1.out.froz 3; have f4 := B1.out.froz 4; have f5 := B1.out.froz 5; have f6 := B1.out.froz 6; have f7 := B1.out.froz 7; simp only [List.getElem?_toArray, List.getElem?_cons_zero, List.getElem?_cons_succ] at e0 e1 e2 e3 e4 e5 e6 e7)
      have K := (((((((B1.out.set 0 (.int .u32 0)).set 1 (.int .u8 0)).set 2 (.int .u16 0)).set 3 (.int .u16 0)).set 4 (.int .u16 0)).set 5 (.int .u16 0)).set 6 (.int .u32 0)).set 7 (.bool false)
      simp only [List.setIfInBounds_toArray, List.set_cons_zero, List.set_cons_succ] at K
      have hq : w.heap.size ≤ w.heap.size + 1 := Nat.le_succ _
      have F2 := F0.out.trans0 hf2
      refine bodyPost_ret (res_row_tmp rfl _ _ (w.heap.size + 1) 49 _ _ rfl K Tryz.underlying49 rfl (by kernel_rfl)) rfl ⟨rfl, (((((((F2.set (.inr hq) _).set (.inr hq) _).set (.inr hq) _).set (.inr hq) _).set (.inr hq) _).set (.inr hq) _).set (.inr hq) _).set (.inr hq) _⟩
  · have HB := Lib.hid (show mkB a s pm = false by unfold mkB; simp [hp])
    rw [HB.out]
    have hp2 : ¬ ((pm : Int)) ≤ 255 := by omega
    have A1 := At.new (w.alloc (.cells #[.int .u32 a, .int .u32 s] 45)) 49 noC.cells
    rw [World.size_alloc] at A1
    have A1 := Lib.hid A1
    have F0 := Lib.hid (show Fr [] w ((w.alloc (.cells #[.int .u32 a, .int .u32 s] 45)).alloc (.cells noC.cells 49)) from (by repeat (first | exact Fr.refl _ _ | assumption | refine Fr.trans0 ?_ (by assumption) | refine Fr.drewN ?_ _ | refine Fr.alloc ?_ _ | refine Fr.drew ?_)))
    clear HB
    go_enter Tryz.func65, Tryz.ntmps65
    go_wp2_with fail
    exact bodyPost_ret (res_row_tmp rfl _ _ (w.heap.size + 1) 49 _ _ rfl A1.out Tryz.underlying49 rfl (by kernel_rfl)) rfl ⟨rfl, F0.out⟩
end Go.Proofs.YthjbnbimfpbccaaGreatDoor
/-
  Bytes as a list of numbers below 256: strings of them, cells of them; conversions between strings and slices of bytes; numbers as bytes. Condition: lengths that are ints.
-/

set_option linter.unusedVariables false
namespace Go.Proofs.YthjbnbimfpbccaaGreatDoor
open Go.ChangeShapes Go.WideShapes Go.ChangeAt Go.RowKit
theorem At.nw {w : World} {g : Nat} {t : TypeId} {cs : Array Value} (h : g = w.heap.size) : At (w.alloc (.cells cs t)) g t cs := by subst h; exact At.new w t cs
def BS (l : List Nat) : ByteArray := ⟨(l.map UInt8.ofNat).toArray⟩
def strV (l : List Nat) : Value := .string (BS l)
def bys (l : List Nat) : List Value := l.map fun (n : Nat) => .int .u8 (n : Int)
def Byt (l : List Nat) : Prop := ∀ n ∈ l, n < 256
theorem BS_size (l : List Nat) : (BS l).size = l.length := by unfold BS ByteArray.size; simp
theorem BS_append (a b : List Nat) : BS a ++ BS b = BS (a ++ b) := by
  unfold BS
  apply ByteArray.ext
  simp [ByteArray.data_append]
theorem BS_nil : BS [] = ⟨#[]⟩ := rfl
theorem bys_len (l : List Nat) : (bys l).length = l.length := by unfold bys; simp
theorem bys_append (a b : List Nat) : bys (a ++ b) = bys a ++ bys b := by unfold bys; simp
theorem bys_get (l : List Nat) (i : Nat) (n : Nat) (h : l[i]? = some n) : (bys l)[i]? = some (.int .u8 (n : Int)) := by unfold bys; rw [List.getElem?_map, h]; rfl
theorem bys_take (l : List Nat) (n : Nat) : (bys l).take n = bys (l.take n) := by unfold bys; rw [List.map_take]
theorem bys_drop (l : List Nat) (n : Nat) : (bys l).drop n = bys (l.drop n) := by unfold bys; rw [List.map_drop]
theorem bys_set (l : List Nat) (i n : Nat) : (bys l).set i (.int .u8 (n : Int)) = bys (l.set i n) := by unfold bys; rw [List.map_set]
theorem bys_one (l : List Nat) : ∀ v ∈ bys l, v.oneCell' = true := fun v hv => by
  unfold bys at hv
  obtain ⟨n, _, rfl⟩ := List.mem_map.1 hv
  rfl
theorem Byt.take {l : List Nat} (h : Byt l) (n : Nat) : Byt (l.take n) := fun x hx => h x (List.mem_of_mem_take hx)
theorem Byt.drop {l : List Nat} (h : Byt l) (n : Nat) : Byt (l.drop n) := fun x hx => h x (List.mem_of_mem_drop hx)
theorem Byt.append {a b : List Nat} (h : Byt a) (h2 : Byt b) : Byt (a ++ b) := fun x hx => (List.mem_append.1 hx).elim (h x) (h2 x)
theorem Byt.set {l : List Nat} (h : Byt l) (i n : Nat) (hn : n < 256) : Byt (l.set i n) := fun x hx => by
  rcases List.mem_or_eq_of_mem_set hx with h1 | rfl
  · exact h x h1
  · exact hn
theorem Byt.rep (n : Nat) : Byt (List.replicate n 0) := fun x hx => by rw [(List.mem_replicate.1 hx).2]; omega
theorem Byt.at_ {l : List Nat} (h : Byt l) (i n : Nat) (hi : l[i]? = some n) : n < 256 := h n (List.mem_of_getElem? hi)
/-- Each string is of bytes. -/
theorem str_of (s : ByteArray) : ∃ l, Byt l ∧ s = BS l := by
  refine ⟨s.data.toList.map UInt8.toNat, fun n hn => ?_, ?_⟩
  · obtain ⟨b, _, rfl⟩ := List.mem_map.1 hn
    exact b.toNat_lt
  · unfold BS
    apply ByteArray.ext
    have e : (UInt8.ofNat ∘ UInt8.toNat) = id := by funext b; simp
    simp [e]
theorem u8_back (n : Nat) (h : n < 256) : (UInt8.ofNat n).toNat = n := by simp; omega
theorem BS_inj {a b : List Nat} (ha : Byt a) (hb : Byt b) (h : BS a = BS b) : a = b := by
  have h1 : a.map UInt8.ofNat = b.map UInt8.ofNat := by
    have := congrArg (fun s : ByteArray => s.data.toList) h
    simpa [BS] using this
  have h2 := congrArg (List.map UInt8.toNat) h1
  rw [List.map_map, List.map_map] at h2
  have key : ∀ l, Byt l → l.map (UInt8.toNat ∘ UInt8.ofNat) = l := fun l hl => by
    conv => rhs; rw [← List.map_id l]
    exact List.map_congr_left fun n hn => u8_back n (hl n hn)
  rwa [key a ha, key b hb] at h2
/-- Where bytes lie, or there are none. -/
def BIn (w : World) (a : Option Addr) (l : List Nat) : Prop := l = [] ∨ ∃ g off, a = some ⟨g, off, none⟩ ∧ g < w.heap.size ∧ ∀ j v, (bys l)[j]? = some v → w.cell? ⟨g, off + j, none⟩ = some v
theorem BIn.fr {w w' : World} {a : Option Addr} {l : List Nat} (h : BIn w a l) (f : Fr [] w w') : BIn w' a l := by
  rcases h with h | ⟨g, off, e, hg, hc⟩
  · exact .inl h
  · exact .inr ⟨g, off, e, Nat.lt_of_lt_of_le hg f.size, fun j v hv => (f.cell (a := ⟨g, off + j, none⟩) hg (by simp)).trans (hc j v hv)⟩
section
variable {P : Program} {ops : Array Oper} {rest : List Oper} {o : Oper} {a : Act} {w : World} {Q : Exit → Act → World → Prop} {K : Act → World → Prop}
theorem run_str (src dst e : TypeId) (hs : P.underlying src = some (.slice e)) (he : P.underlying e = some (.int .u8)) (hd : P.underlying dst = some .string) (w : World) (x : Option Addr) (n cap : Nat) (l : List Nat) (hl : l.length = n) (hb : Byt l) (hi : BIn w x l) (hx : x = none → n = 0) :
    (convert src dst (.slice x n cap)).run P w = .ok (strV l) w := by
  have hd0 : (l.map UInt8.ofNat).length = n := by simpa using hl
  rcases x with _ | ad
  · obtain rfl := hx rfl
    obtain rfl := List.eq_nil_of_length_eq_zero hl
    rw [run_convert_bytes_string w src dst e none 0 cap hs he hd]
    simp [Conv.bytesToString, strV, BS]
    rfl
  · have key := run_convert_bytes_back (P := P) w src dst e ad cap (l.map UInt8.ofNat) hs he hd (fun j hj => by
      have hj2 : j < l.length := by simpa using hj
      rcases hi with h0 | ⟨g, off, e1, _, hc⟩
      · subst h0; simp at hj2
      · injection e1 with e1
        subst e1
        have := hc j _ (bys_get l j _ (List.getElem?_eq_getElem hj2))
        rw [Go.WideShapes.add_plain, this, List.getElem_map, u8_back _ (hb _ (List.getElem_mem hj2))])
    rw [hd0] at key
    exact key
theorem wp_str {src dst : TypeId} (hs' : ∃ e, P.underlying src = some (.slice e) ∧ P.underlying e = some (.int .u8)) (hd : P.underlying dst = some .string) (x : Operand) (ho : o.op = .convert src dst x) (ad : Option Addr) (n cap : Nat) (hx : a.eval x = .slice ad n cap) (l : List Nat) (hl : l.length = n) (hb : Byt l) (hi : BIn w ad l) (hn : ad = none → n = 0)
    (h : K (a.put o.dst (strV l)) w) : o.wp P a w K Q := by
  obtain ⟨e, hs, he⟩ := hs'
  unfold Oper.wp execOp
  simp only [ho, hx, Sem.run_bind, Sem.run_pure, Result.andThen_ok, run_str src dst e hs he hd w ad n cap l hl hb hi hn]
  exact h
theorem wpList_str {src dst : TypeId} (hgd : Region.wanted o (yielded ops a.tmps) = true) (hs' : ∃ e, P.underlying src = some (.slice e) ∧ P.underlying e = some (.int .u8)) (hd : P.underlying dst = some .string) (x : Operand) (ho : o.op = .convert src dst x) (ad : Option Addr) (n cap : Nat) (hx : a.eval x = .slice ad n cap) (l : List Nat) (hl : l.length = n) (hb : Byt l) (hi : BIn w ad l) (hn : ad = none → n = 0)
    (h : wpList P ops Q rest (a.put o.dst (strV l)) w) : wpList P ops Q (o :: rest) a w :=
  wpList_want hgd fun _ hK => wp_str hs' hd x ho ad n cap hx l hl hb hi hn (hK _ _ h)
theorem wp_bytes {src dst : TypeId} (hs : P.underlying src = some .string) (hd' : ∃ e, P.underlying dst = some (.slice e) ∧ P.underlying e = some (.int .u8)) (x : Operand) (ho : o.op = .convert src dst x) (l : List Nat) (hb : Byt l) (hlen : l.length ≤ 1000000) (hx : a.eval x = strV l)
    (h : ∀ w' g cap, w.heap.size ≤ g → l.length ≤ cap → cap ≤ 9223372036854775807 → (∀ j v, (bys l)[j]? = some v → w'.cell? ⟨g, j, none⟩ = some v) → Fr [] w w' → g < w'.heap.size → K (a.put o.dst (.slice (some ⟨g, 0, none⟩) l.length cap)) w') : o.wp P a w K Q := by
  obtain ⟨e, hd, he⟩ := hd'
  have hr := run_bytes_of_string (P := P) w src dst e (BS l) hs hd he
  unfold Oper.wp execOp
  simp only [ho, hx, strV, Sem.run_bind, Sem.run_pure, Result.andThen_ok, hr]
  have hge := grownCap_ge w (BS l).size 0 e
  rw [BS_size] at hge
  have hsz : (BS l).size = l.length := BS_size l
  have hf : Fr [] w (w.drew.alloc (.cells (bytesRow (BS l) (grownCap w (BS l).size 0 e)) e ((bytesRow (BS l) (grownCap w (BS l).size 0 e)).size, (bytesRow (BS l) (grownCap w (BS l).size 0 e)).size + 1))) := (Fr.refl _ _).drew.alloc _
  have hK := h _ w.heap.size (grownCap w (BS l).size 0 e) (Nat.le_refl _) (by rw [hsz]; exact hge) (grownCap_le_maxLen w _ 0 e (by rw [hsz]; unfold maxLen; omega)) (fun j v hv => by
    have hj : j < l.length := by have := (List.getElem?_eq_some_iff.1 hv).1; rwa [bys_len] at this
    have h1 := bytesRow_at (BS l) (grownCap w (BS l).size 0 e) j (by unfold BS; simpa using hj)
    rw [bys_get l j _ (List.getElem?_eq_getElem hj)] at hv
    injection hv with hv
    refine (World.cell?_alloc_mark w.drew _ _ _ j).trans ?_
    rw [h1, ← hv]
    congr 2
    unfold BS
    simp only [List.getElem_toArray, List.getElem_map, u8_back _ (hb _ (List.getElem_mem hj))]) hf (by simp)
  rw [← hsz] at hK
  exact hK
theorem wpList_bytes {src dst : TypeId} (hgd : Region.wanted o (yielded ops a.tmps) = true) (hs : P.underlying src = some .string) (hd' : ∃ e, P.underlying dst = some (.slice e) ∧ P.underlying e = some (.int .u8)) (x : Operand) (ho : o.op = .convert src dst x) (l : List Nat) (hb : Byt l) (hlen : l.length ≤ 1000000) (hx : a.eval x = strV l)
    (h : ∀ w' g cap, w.heap.size ≤ g → l.length ≤ cap → cap ≤ 9223372036854775807 → (∀ j v, (bys l)[j]? = some v → w'.cell? ⟨g, j, none⟩ = some v) → Fr [] w w' → g < w'.heap.size → wpList P ops Q rest (a.put o.dst (.slice (some ⟨g, 0, none⟩) l.length cap)) w') : wpList P ops Q (o :: rest) a w :=
  wpList_want hgd fun _ hK => wp_bytes hs hd' x ho l hb hlen hx (fun w' g cap h1 h2 h3 h4 h5 h6 => hK _ _ (h w' g cap h1 h2 h3 h4 h5 h6))
end
/-- A number's first bytes. -/
def le : Nat → Nat → List Nat
  | 0, _ => []
  | k + 1, v => v % 256 :: le k (v / 256)
theorem le_len : ∀ k v, (le k v).length = k
  | 0, _ => rfl
  | k + 1, v => by unfold le; rw [List.length_cons, le_len]
theorem le_byt : ∀ k v, Byt (le k v)
  | 0, _ => fun _ h => by cases h
  | k + 1, v => fun n h => by
    unfold le at h
    rcases List.mem_cons.1 h with rfl | h
    · omega
    · exact le_byt k _ n h
/-- The number that bytes are. -/
def unle : List Nat → Nat
  | [] => 0
  | b :: l => b + 256 * unle l
theorem unle_le : ∀ k v, unle (le k v) = v % 256 ^ k
  | 0, v => by simp [le, unle, Nat.mod_one]
  | k + 1, v => by
    unfold le unle
    rw [unle_le k, Nat.pow_succ, Nat.mul_comm (256 ^ k) 256, Nat.mod_mul]
theorem unle_lt : ∀ l, Byt l → unle l < 256 ^ l.length
  | [], _ => by simp [unle]
  | b :: l, h => by
    have h1 := unle_lt l (fun n hn => h n (List.mem_cons_of_mem _ hn))
    have h2 := h b (by simp)
    unfold unle
    rw [List.length_cons, Nat.pow_succ]
    omega
end Go.Proofs.YthjbnbimfpbccaaGreatDoor
/-
  Whether a capability's fields are what they may be. Condition: numbers in their types' ranges.
-/


set_option linter.unusedVariables false
namespace Go.Proofs.YthjbnbimfpbccaaGreatDoor
open Go.ChangeShapes Go.WideShapes Go.ChangeAt Go.RowKit
def flatP (ps : List (Nat × Nat)) : List Value := ps.flatMap fun p => [.int .u32 (p.1 : Nat), .int .u32 (p.2 : Nat)]
theorem flatP_get : ∀ (ps : List (Nat × Nat)) (j : Nat) (p : Nat × Nat), ps[j]? = some p → (flatP ps)[2 * j]? = some (.int .u32 (p.1 : Nat)) ∧ (flatP ps)[2 * j + 1]? = some (.int .u32 (p.2 : Nat))
  | [], j, p, h => by simp at h
  | d :: ps, 0, p, h => by simp at h; subst h; exact ⟨rfl, rfl⟩
  | d :: ps, j + 1, p, h => by
    have ih := flatP_get ps j p (by simpa using h)
    unfold flatP at ih ⊢
    rw [List.flatMap_cons, show 2 * (j + 1) = 2 + 2 * j by omega, show 2 + 2 * j + 1 = 2 + (2 * j + 1) by omega]
    exact ⟨by rw [List.getElem?_append_right (by simp)]; simpa using ih.1, by rw [List.getElem?_append_right (by simp)]; simpa using ih.2⟩
def belB (ps : List (Nat × Nat)) : Bool := ps.all fun p => decide (p.1 < p.2)
set_option maxHeartbeats 1000000 in
set_option maxRecDepth 100000 in
theorem below_any (w : World) (q : Nat) (ps : List (Nat × Nat)) (h : At w q 43 (flatP ps).toArray) (n : Nat) (hn : n = 2 * ps.length) (hl : n ≤ 1000) :
    Calls Tryz.prog 106 #[.slice (some ⟨q, 0, none⟩) n n] w fun r w' => r = .returned (.bool (belB ps)) ∧ Fr [] w w' := by
  have HA := Lib.hid h
  have HN := Lib.hid hn
  clear h hn
  go_enter Tryz.func106, Tryz.ntmps106
  go_wp2_with fail
  go_loopw [3] (fun x wr => ∃ i j : Nat, i = 2 * j ∧ i ≤ n ∧ x = .int .i64 i ∧ belB (ps.take j) = true ∧ Fr [] w wr) (fun x _ => n - (intOf x).toNat)
  case atStart => exact ⟨0, 0, rfl, by omega, rfl, by simp [belB], Fr.refl _ _⟩
  case round =>
    obtain ⟨i, j, hij, hi, rfl, hb, hf⟩ := hrel
    have hn := HN.out
    by_cases hin : i < n
    · obtain ⟨p, hp⟩ : ∃ p, ps[j]? = some p := ⟨_, List.getElem?_eq_getElem (by omega)⟩
      obtain ⟨g1, g2⟩ := flatP_get ps j p hp
      have A := HA.out.fr hf (by simp)
      have c1 := A.cell i
      have c2 := A.cell (i + 1)
      rw [List.getElem?_toArray] at c1 c2
      rw [hij] at c1 c2
      rw [g1] at c1
      rw [g2] at c2
      rw [← hij] at c1 c2
      have hlt : (i : Int) + 1 < (n : Int) := by omega
      have HP := Lib.hid hp
      have HB := Lib.hid hb
      have HF := Lib.hid hf
      have HT : Hid (belB (ps.take (j + 1)) = (decide (p.1 < p.2))) := Lib.hid (by
        unfold belB at hb ⊢
        rw [List.take_add_one, hp]
        simp only [Option.toList_some, List.all_append, hb, Bool.true_and, List.all_cons, List.all_nil, Bool.and_true])
      have HIJ := Lib.hid hij
      obtain ⟨x, hx⟩ : ∃ x, p.1 = x := ⟨_, rfl⟩
      obtain ⟨y, hy⟩ : ∃ y, p.2 = y := ⟨_, rfl⟩
      rw [hx] at c1
      rw [hy] at c2
      rw [hx, hy] at HT
      have hn2 : i + 1 < n := by omega
      clear hp hb hf A g1 g2 hn hij hx hy
      by_cases hxy : x < y
      · have hge : ¬ (x : Int) ≥ (y : Int) := by omega
        go_upto_region 4 with (fail)
        go_region
        all_goals
          go_wp2_with fail
          go_roundw
          case rel => exact ⟨i + 2, j + 1, by have := HIJ.out; omega, by omega, by go_num, by rw [HT.out]; simpa using hxy, HF.out.drew⟩
          case measure => simp [intOf]; omega
      · have hge : (x : Int) ≥ (y : Int) := by omega
        have hbf : Hid (belB ps = false) := Lib.hid (by
          cases hc : belB ps
          · rfl
          · exfalso
            have h1 : belB (ps.take (j + 1)) = true := by
              unfold belB at hc ⊢
              rw [List.all_eq_true] at hc ⊢
              exact fun p hp => hc p (List.mem_of_mem_take hp)
            rw [HT.out] at h1
            simp at h1
            omega)
        go_upto_region 4 with (fail)
        go_region
        all_goals
          go_wp2_with fail
          go_ret
          exact ⟨by rw [hbf.out]; rfl, HF.out.drew⟩
    · have hnl : ¬ (i : Int) + 1 < (n : Int) := by omega
      have HF := Lib.hid hf
      have hps : Hid (belB ps = true) := Lib.hid (by rw [← hb, List.take_of_length_le (by omega)])
      clear hb hf
      go_wp2_with fail
      go_ret
      exact ⟨by rw [hps.out]; rfl, HF.out⟩
def soundB (c : Cp) : Bool := belB [(c.e, 22), (c.b, 4096), (c.t, 4096), (c.pm, 256), (c.ty, 4096), (c.rs, 16777216)]
theorem soundB_iff (c : Cp) : soundB c = true ↔ c.e < 22 ∧ c.b < 4096 ∧ c.t < 4096 ∧ c.pm < 256 ∧ c.ty < 4096 ∧ c.rs < 16777216 := by
  unfold soundB belB
  simp
theorem sound_any (w : World) (c : Cp) (hc : c.Ok) : Calls Tryz.prog 64 #[.agg c.cells] w fun r w' => r = .returned (.bool (soundB c)) ∧ Fr [] w w' := by
  unfold soundB Cp.cells
  have C := Lib.hid fun W q (h : At W q 43 #[.int .u32 c.e, .int .u32 22, .int .u32 c.b, .int .u32 4096, .int .u32 c.t, .int .u32 4096, .int .u32 c.pm, .int .u32 256, .int .u32 c.ty, .int .u32 4096, .int .u32 c.rs, .int .u32 16777216]) => below_any W q [(c.e, 22), (c.b, 4096), (c.t, 4096), (c.pm, 256), (c.ty, 4096), (c.rs, 16777216)] (by simpa [flatP] using h) 12 rfl (by omega)
  obtain ⟨B, hB⟩ : ∃ B, belB [(c.e, 22), (c.b, 4096), (c.t, 4096), (c.pm, 256), (c.ty, 4096), (c.rs, 16777216)] = B := ⟨_, rfl⟩
  rw [hB] at C ⊢
  clear hB
  have h1 := hc.e
  have h2 := hc.b
  have h3 := hc.t
  have h4 := hc.pm
  have h5 := hc.ty
  have h6 := hc.rs
  go_enter Tryz.func64, Tryz.ntmps64
  go_wp2_with fail
  refine (C.out _ (w.heap.size + 1) (At.nw (by simp only [World.size_alloc]))).mono ?_
  rintro e w2 ⟨rfl, hf2⟩
  go_wp2_with fail
  go_ret
  exact ⟨rfl, (show Fr [] w _ from (by repeat (first | exact Fr.refl _ _ | assumption | refine Fr.trans0 ?_ (by assumption) | refine Fr.drewN ?_ _ | refine Fr.alloc ?_ _ | refine Fr.drew ?_))).trans0 hf2⟩
end Go.Proofs.YthjbnbimfpbccaaGreatDoor
/-
  What octet's functions compute: numbers laid as bytes, and taken from them. Condition: widths 1, 2 and 4 where said; numbers in their types' ranges.
-/


set_option linter.unusedVariables false
namespace Go.Proofs.YthjbnbimfpbccaaGreatDoor
open Go.ChangeShapes Go.WideShapes Go.ChangeAt Go.RowKit
theorem right_w (w : World) (k : Nat) (hk : k = 1 ∨ k = 2 ∨ k = 4) : Calls Tryz.prog 121 #[.int .i64 k] w fun r w' => r = .returned (.bool true) ∧ w = w' := by
  rcases hk with rfl | rfl | rfl
  all_goals
    go_enter Tryz.func121, Tryz.ntmps121
    go_wp2_with fail
    go_ret
    exact ⟨rfl, rfl⟩
theorem right_no (w : World) (k : Int) (h1 : k ≠ 1) (h2 : k ≠ 2) (h4 : k ≠ 4) : Calls Tryz.prog 121 #[.int .i64 k] w fun r w' => r = .returned (.bool false) ∧ w = w' := by
  have e1 : (k == 1) = false := by simpa using h1
  have e2 : (k == 2) = false := by simpa using h2
  have e4 : (k == 4) = false := by simpa using h4
  go_enter Tryz.func121, Tryz.ntmps121
  go_wp2_with fail
  go_ret
  exact ⟨rfl, rfl⟩
theorem oset_any (w : World) (q k v : Nat) (hk : k = 1 ∨ k = 2 ∨ k = 4) (hv : v < 4294967296) (hq : At w q 200 (bys [0, 0, 0, 0]).toArray) :
    Calls Tryz.prog 122 #[.slice (some ⟨q, 0, none⟩) 4 4, .int .i64 0, .int .i64 k, .int .u32 v] w fun r w' => (∃ x, r = .returned x) ∧ At w' q 200 (bys (le k v ++ List.replicate (4 - k) 0)).toArray ∧ Fr [q] w w' := by
  have C := Lib.hid fun W => right_w W k hk
  have HQ := Lib.hid hq
  have hk4 : k ≤ 4 := by omega
  clear hq hk
  go_enter Tryz.func122, Tryz.ntmps122
  go_wp2_with fail
  refine (C.out _).mono ?_
  rintro e w' ⟨rfl, rfl⟩
  have hkg : ¬ (0 : Int) > 4 - (k : Int) := by omega
  go_wp2_with fail
  go_loopw [26] (fun i wr => ∃ j : Nat, j ≤ k ∧ i = .int .i64 j ∧ At wr q 200 (bys (le j v ++ List.replicate (4 - j) 0)).toArray ∧ Fr [q] w wr) (fun i _ => k - (intOf i).toNat)
  case atStart => exact ⟨0, by omega, rfl, HQ.out, Fr.refl _ _⟩
  case round =>
    clear HQ
    obtain ⟨j, hj, rfl, hq, hf⟩ := hrel
    have HQ := Lib.hid hq
    have HF := Lib.hid hf
    by_cases hjk : j < k
    · have cj := hq.cell j
      have zj := hq.froz j
      have hj4 : j < 4 := by omega
      rcases (show j = 0 ∨ j = 1 ∨ j = 2 ∨ j = 3 by omega) with rfl | rfl | rfl | rfl
      · have h := HQ.out.set 0 (.int .u8 ((v / 1 % 256 : Nat) : Int))
        unfold bys at cj
        simp [le] at cj
        clear hq hf
        go_wp2_with fail
        go_roundw
        case rel =>
          refine ⟨0 + 1, by omega, rfl, ?_, HF.out.set (.inl (by simp)) _⟩
          simpa [bys, le, Nat.div_div_eq_div_mul] using h
        case measure => simp [intOf] <;> omega
      · have h := HQ.out.set 1 (.int .u8 ((v / 256 % 256 : Nat) : Int))
        unfold bys at cj
        simp [le] at cj
        clear hq hf
        go_wp2_with fail
        go_roundw
        case rel =>
          refine ⟨1 + 1, by omega, rfl, ?_, HF.out.set (.inl (by simp)) _⟩
          simpa [bys, le, Nat.div_div_eq_div_mul] using h
        case measure => simp [intOf] <;> omega
      · have h := HQ.out.set 2 (.int .u8 ((v / 65536 % 256 : Nat) : Int))
        unfold bys at cj
        simp [le] at cj
        clear hq hf
        go_wp2_with fail
        go_roundw
        case rel =>
          refine ⟨2 + 1, by omega, rfl, ?_, HF.out.set (.inl (by simp)) _⟩
          simpa [bys, le, Nat.div_div_eq_div_mul] using h
        case measure => simp [intOf] <;> omega
      · have h := HQ.out.set 3 (.int .u8 ((v / 16777216 : Nat) : Int))
        have e3 : (v : Int) / 16777216 % 256 = (v : Int) / 16777216 := by omega
        unfold bys at cj
        simp [le] at cj
        clear hq hf
        go_wp2_with fail
        go_roundw
        case rel =>
          refine ⟨3 + 1, by omega, rfl, ?_, HF.out.set (.inl (by simp)) _⟩
          simpa [bys, le, Nat.div_div_eq_div_mul, e3] using h
        case measure => simp [intOf] <;> omega
    · obtain rfl : j = k := by omega
      clear hq hf
      go_wp2_with fail
      go_ret
      exact ⟨⟨_, rfl⟩, HQ.out, HF.out⟩
set_option maxRecDepth 100000 in
theorem oput_any (w : World) (s : List Nat) (hs : Byt s) (hl : s.length ≤ 1000000) (k v : Nat) (hk : k = 1 ∨ k = 2 ∨ k = 4) (hv : v < 4294967296) :
    Calls Tryz.prog 87 #[strV s, .int .i64 k, .int .u32 v] w fun r w' => r = .returned (strV (s ++ le k v)) ∧ Fr [] w w' := by
  have C := Lib.hid fun W => right_w W k hk
  have HA := Lib.hid (At.new w 200 (bys [0, 0, 0, 0]).toArray)
  have CS := Lib.hid (oset_any (w.alloc (.cells (bys [0, 0, 0, 0]).toArray 200)) w.heap.size k v hk hv (At.new w _ _))
  have HF := Lib.hid (show Fr [] w (w.alloc (.cells (bys [0, 0, 0, 0]).toArray 200)) from (by repeat (first | exact Fr.refl _ _ | assumption | refine Fr.trans0 ?_ (by assumption) | refine Fr.drewN ?_ _ | refine Fr.alloc ?_ _ | refine Fr.drew ?_)))
  have hk4 : k ≤ 4 := by omega
  unfold strV
  have hsum : (BS s).size + (BS (le k v)).size ≤ 9223372036854775807 := by rw [BS_size, BS_size, le_len]; omega
  have hadd := fun W : World => run_string_add_sum (P := Tryz.prog) W (BS s) (BS (le k v)) hsum
  have hap := BS_append s (le k v)
  obtain ⟨S, hS⟩ : ∃ S, BS s = S := ⟨_, rfl⟩
  obtain ⟨T, hT⟩ : ∃ T, BS (le k v) = T := ⟨_, rfl⟩
  obtain ⟨U, hU⟩ : ∃ U, BS (s ++ le k v) = U := ⟨_, rfl⟩
  rw [hS, hT] at hadd hap
  rw [hU] at hap
  simp only [hap] at hadd
  rw [hS, hU]
  have HT := Lib.hid hT
  clear hS hU hv hs hl hsum hap hT
  have HL := Lib.hid (le_len k v)
  have HB := Lib.hid (le_byt k v)
  obtain ⟨L, hL⟩ : ∃ L, le k v = L := ⟨_, rfl⟩
  rw [hL] at HL HB CS HT
  clear hL
  rcases hk with rfl | rfl | rfl
  all_goals
    go_enter Tryz.func87, Tryz.ntmps87
    go_wp2_with fail
    refine (C.out _).mono ?_
    rintro e w' ⟨rfl, rfl⟩
    go_wp2_with fail
    refine (CS.out).mono ?_
    rintro e w2 ⟨⟨x, rfl⟩, h2, hf2⟩
    have H2 := Lib.hid h2
    have F2 := Lib.hid (HF.out.trans hf2 (by simp))
    have hlt := h2.lt
    have HIN : Hid (BIn w2 (some ⟨w.heap.size, 0, none⟩) L) := Lib.hid (.inr ⟨w.heap.size, 0, rfl, hlt, fun j u hu => by
      rw [Nat.zero_add, h2.cell, List.getElem?_toArray, bys_append, List.getElem?_append_left (List.getElem?_eq_some_iff.1 hu).1]
      exact hu⟩)
    clear h2 hf2 CS
    go_wp2_with (refine wpList_str rfl ⟨5, Tryz.underlying22, Tryz.underlying5⟩ Tryz.underlying9 (.tmp 18) rfl _ _ 4 rfl L HL.out HB.out HIN.out (fun h => by cases h) ?_; unfold strV; rw [HT.out])
    go_ret
    exact ⟨rfl, F2.out⟩
/-! ### numbers taken from bytes -/
theorem oget_no (w : World) (a : Option Addr) (n cap : Nat) (at_ k : Int) (h : k ≠ 1 ∧ k ≠ 2 ∧ k ≠ 4) : Calls Tryz.prog 141 #[.slice a n cap, .int .i64 at_, .int .i64 k] w fun r w' => r = .returned (.tuple #[.int .u32 0, .bool false]) ∧ w = w' := by
  have C := Lib.hid fun W => right_no W k h.1 h.2.1 h.2.2
  clear h
  go_enter Tryz.func141, Tryz.ntmps141
  go_wp2_with fail
  refine (C.out _).mono ?_
  rintro e w' ⟨rfl, rfl⟩
  go_wp2_with fail
  go_ret2
  exact ⟨rfl, rfl⟩
set_option maxRecDepth 100000 in
theorem oget_out (w : World) (a : Option Addr) (n cap : Nat) (at_ k : Nat) (hk : k = 1 ∨ k = 2 ∨ k = 4) (ha : n < at_ + k) (hn : n ≤ 1000000) (hat : at_ ≤ 4294967296) : Calls Tryz.prog 141 #[.slice a n cap, .int .i64 at_, .int .i64 k] w fun r w' => r = .returned (.tuple #[.int .u32 0, .bool false]) ∧ w = w' := by
  have C := Lib.hid fun W => right_w W k hk
  have hgt : (at_ : Int) > (n : Int) - (k : Int) := by omega
  have hk4 : k ≤ 4 := by omega
  clear hk
  go_enter Tryz.func141, Tryz.ntmps141
  go_wp2_with fail
  refine (C.out _).mono ?_
  rintro e w' ⟨rfl, rfl⟩
  go_wp2_with fail
  go_ret2
  exact ⟨rfl, rfl⟩
theorem or_sum (a b k : Nat) (hb : b < 2 ^ k) (ha : a * 2 ^ k + b < 4294967296) : bits .or .u32 ((a * 2 ^ k : Nat) : Int) ((b : Nat) : Int) = ((a * 2 ^ k + b : Nat) : Int) := by
  rw [u32_or_nat _ _ (by omega) (by omega), Nat.mul_comm a, Nat.two_pow_add_eq_or_of_lt hb]
theorem or_zero (b : Nat) (hb : b < 4294967296) : bits .or .u32 0 (b : Int) = (b : Int) := by
  have := u32_or_nat 0 b (by omega) hb
  rw [Nat.zero_or] at this
  exact this
theorem or_two (b0 b1 : Nat) (h0 : b0 < 256) (h1 : b1 < 256) : bits .or .u32 (bits .or .u32 0 ((b1 : Int) * 256)) (b0 : Int) = ((unle [b0, b1] : Nat) : Int) := by
  have e1 := or_zero (b1 * 256) (by omega)
  have e2 := or_sum b1 b0 8 (by omega) (by omega)
  rw [show ((b1 : Int) * 256) = ((b1 * 256 : Nat) : Int) by simp, e1]
  rw [show b1 * 2 ^ 8 = b1 * 256 from rfl] at e2
  rw [e2]
  simp [unle]; omega
theorem or_four (b0 b1 b2 b3 : Nat) (h0 : b0 < 256) (h1 : b1 < 256) (h2 : b2 < 256) (h3 : b3 < 256) :
    bits .or .u32 (bits .or .u32 (bits .or .u32 ((b3 : Int) * 16777216) ((b2 : Int) * 65536)) ((b1 : Int) * 256)) (b0 : Int) = ((unle [b0, b1, b2, b3] : Nat) : Int) := by
  have e1 := or_sum b3 (b2 * 65536) 24 (by omega) (by omega)
  have e2 := or_sum (b3 * 256 + b2) (b1 * 256) 16 (by omega) (by omega)
  have e3 := or_sum (b3 * 65536 + b2 * 256 + b1) b0 8 (by omega) (by omega)
  rw [show b3 * 2 ^ 24 = b3 * 16777216 from rfl] at e1
  rw [show (b3 * 256 + b2) * 2 ^ 16 = b3 * 16777216 + b2 * 65536 by omega] at e2
  rw [show (b3 * 65536 + b2 * 256 + b1) * 2 ^ 8 = b3 * 16777216 + b2 * 65536 + b1 * 256 by omega] at e3
  rw [show ((b3 : Int) * 16777216) = ((b3 * 16777216 : Nat) : Int) by simp, show ((b2 : Int) * 65536) = ((b2 * 65536 : Nat) : Int) by simp, show ((b1 : Int) * 256) = ((b1 * 256 : Nat) : Int) by simp, e1, e2, e3]
  simp [unle]; omega
theorem oget_any (w : World) (g off n cap : Nat) (at_ k : Nat) (hk : k = 1 ∨ k = 2 ∨ k = 4) (ha : at_ + k ≤ n) (hn : n ≤ 1000000) (hc : n ≤ cap) (hc2 : cap ≤ 9223372036854775807) (l : List Nat) (hl : l.length = k) (hb : Byt l) (hi : ∀ j v, (bys l)[j]? = some v → w.cell? ⟨g, off + at_ + j, none⟩ = some v) :
    Calls Tryz.prog 141 #[.slice (some ⟨g, off, none⟩) n cap, .int .i64 at_, .int .i64 k] w fun r w' => r = .returned (.tuple #[.int .u32 (unle l), .bool true]) ∧ ∃ m, w' = w.drewN m := by
  have C := Lib.hid fun W => right_w W k hk
  have hgt : ¬ (at_ : Int) > (n : Int) - (k : Int) := by omega
  rcases hk with rfl | rfl | rfl
  · obtain ⟨b0, rfl⟩ : ∃ b0, l = [b0] := List.length_eq_one_iff.1 hl
    have c0 := hi 0 _ (bys_get _ 0 b0 rfl)
    have h0 := hb b0 (by simp)
    have hv : unle [b0] = b0 := by simp [unle]
    rw [hv]
    rw [Nat.add_zero] at c0
    have hor := or_zero b0 (by omega)
    clear hi hb hv
    go_enter Tryz.func141, Tryz.ntmps141
    go_wp2_with fail
    refine (C.out _).mono ?_
    rintro e w' ⟨rfl, rfl⟩
    go_wp2_with fail
    go_ret2
    exact ⟨rfl, 0, rfl⟩
  · obtain ⟨b0, b1, rfl⟩ : ∃ b0 b1, l = [b0, b1] := by
      match l, hl with
      | [b0, b1], _ => exact ⟨_, _, rfl⟩
    have c0 := hi 0 _ (bys_get _ 0 b0 rfl)
    have c1 := hi 1 _ (bys_get _ 1 b1 rfl)
    have h0 := hb b0 (by simp)
    have h1 := hb b1 (by simp)
    rw [Nat.add_zero] at c0
    have hor := or_two b0 b1 h0 h1
    clear hi hb
    go_enter Tryz.func141, Tryz.ntmps141
    go_wp2_with fail
    refine (C.out _).mono ?_
    rintro e w' ⟨rfl, rfl⟩
    go_wp2_with fail
    go_ret2
    exact ⟨rfl, 0, rfl⟩
  · obtain ⟨b0, b1, b2, b3, rfl⟩ : ∃ b0 b1 b2 b3, l = [b0, b1, b2, b3] := by
      match l, hl with
      | [b0, b1, b2, b3], _ => exact ⟨_, _, _, _, rfl⟩
    have c0 := hi 0 _ (bys_get _ 0 b0 rfl)
    have c1 := hi 1 _ (bys_get _ 1 b1 rfl)
    have c2 := hi 2 _ (bys_get _ 2 b2 rfl)
    have c3 := hi 3 _ (bys_get _ 3 b3 rfl)
    have h0 := hb b0 (by simp)
    have h1 := hb b1 (by simp)
    have h2 := hb b2 (by simp)
    have h3 := hb b3 (by simp)
    have hor := or_four b0 b1 b2 b3 h0 h1 h2 h3
    rw [Nat.add_zero] at c0
    clear hi hb
    go_enter Tryz.func141, Tryz.ntmps141
    go_wp2_with fail
    refine (C.out _).mono ?_
    rintro e w' ⟨rfl, rfl⟩
    go_upto_region 8 with (fail)
    go_region
    all_goals
      go_wp2_with fail
      go_ret2
      exact ⟨rfl, 1, rfl⟩
end Go.Proofs.YthjbnbimfpbccaaGreatDoor
/-
  What a reader of bytes does. Condition: widths 1, 2 and 4, and as many bytes left.
-/


set_option linter.unusedVariables false
namespace Go.Proofs.YthjbnbimfpbccaaGreatDoor
open Go.ChangeShapes Go.WideShapes Go.ChangeAt Go.RowKit
/-- A reader at block rp: the bytes l are left, in block g. -/
def Rd (w : World) (rp g : Nat) (l : List Nat) : Prop := rp ≠ g ∧ l.length ≤ 1000000 ∧ Byt l ∧ ∃ off cap, At w rp 217 #[.slice (some ⟨g, off, none⟩) l.length cap] ∧ l.length ≤ cap ∧ cap ≤ 9223372036854775807 ∧ g < w.heap.size ∧ ∀ j v, (bys l)[j]? = some v → w.cell? ⟨g, off + j, none⟩ = some v
theorem Rd.fr {w w' : World} {rp g : Nat} {l : List Nat} {S : List Nat} (h : Rd w rp g l) (f : Fr S w w') (h1 : rp ∉ S) (h2 : g ∉ S) : Rd w' rp g l := by
  obtain ⟨hne, hl, hb, off, cap, hA, hc, hc2, hg, hi⟩ := h
  exact ⟨hne, hl, hb, off, cap, hA.fr f h1, hc, hc2, Nat.lt_of_lt_of_le hg f.size, fun j v hv => (f.cell (a := ⟨g, off + j, none⟩) hg h2).trans (hi j v hv)⟩
theorem onew_any (w : World) (l : List Nat) (hb : Byt l) (hl : l.length ≤ 1000000) :
    Calls Tryz.prog 118 #[strV l] w fun r w' => ∃ rp g, r = .returned (.pointer (some ⟨rp, 0, none⟩)) ∧ Rd w' rp g l ∧ w.heap.size ≤ rp ∧ w.heap.size ≤ g ∧ Fr [] w w' := by
  have HB := Lib.hid hb
  obtain ⟨s, hs⟩ : ∃ s, strV l = s := ⟨_, rfl⟩
  have HS := Lib.hid hs
  have HL := Lib.hid hl
  rw [hs]
  clear hb hs hl
  go_enter Tryz.func118, Tryz.ntmps118
  go_wp2_with (refine wpList_bytes rfl Tryz.underlying9 ⟨5, Tryz.underlying22, Tryz.underlying5⟩ (.tmp 3) rfl l HB.out HL.out HS.out.symm ?_; intro w2 g cap hg hcap hcm hc hf hgl)
  go_ret
  have F := (show Fr [] w2 (w2.alloc (.cells #[.slice (some ⟨g, 0, none⟩) l.length cap] 217)) from (by repeat (first | exact Fr.refl _ _ | assumption | refine Fr.trans0 ?_ (by assumption) | refine Fr.drewN ?_ _ | refine Fr.alloc ?_ _ | refine Fr.drew ?_)))
  exact ⟨_, g, rfl, ⟨by omega, HL.out, HB.out, 0, cap, At.new _ _ _, hcap, hcm, by simp; omega, fun j v hv => by rw [Nat.zero_add]; exact (F.cell (a := ⟨g, j, none⟩) hgl (by simp)).trans (hc j v hv)⟩, hf.size, hg, hf.trans0 F⟩
theorem oleft_any (w : World) (rp g : Nat) (l : List Nat) (h : Rd w rp g l) : Calls Tryz.prog 153 #[.pointer (some ⟨rp, 0, none⟩)] w fun r w' => r = .returned (.int .i64 l.length) ∧ w = w' := by
  obtain ⟨hne, hl, hb, off, cap, hA, hc, hc2, hg, hi⟩ := h
  have c0 := hA.cell 0
  simp only [List.getElem?_toArray, List.getElem?_cons_zero] at c0
  clear hi hA
  go_enter Tryz.func153, Tryz.ntmps153
  go_wp2_with fail
  go_ret
  exact ⟨rfl, rfl⟩
theorem otake_any (w : World) (rp g : Nat) (l : List Nat) (h : Rd w rp g l) (k : Nat) (hk : k ≤ l.length) : Calls Tryz.prog 142 #[.pointer (some ⟨rp, 0, none⟩), .int .i64 k] w fun r w' => r = .returned (.tuple #[strV (l.take k), .bool true]) ∧ Rd w' rp g (l.drop k) ∧ Fr [rp] w w' := by
  have C := Lib.hid (oleft_any w rp g l h)
  obtain ⟨hne, hl, hb, off, cap, hA, hc, hc2, hg, hi⟩ := h
  have c0 := hA.cell 0
  have z0 := hA.froz 0
  simp only [List.getElem?_toArray, List.getElem?_cons_zero] at c0
  obtain ⟨n, hn⟩ : ∃ n, l.length = n := ⟨_, rfl⟩
  have HI := Lib.hid (show BIn w (some ⟨g, off, none⟩) (l.take k) from .inr ⟨g, off, rfl, hg, fun j v hv => by
    rw [← bys_take] at hv
    rw [List.getElem?_take] at hv
    split at hv
    · exact hi j v hv
    · cases hv⟩)
  have HBT := Lib.hid (hb.take k)
  have HLT := Lib.hid (show (l.take k).length = k by rw [List.length_take]; omega)
  have HA := Lib.hid hA
  have HE := Lib.hid hi
  have HB := Lib.hid hb
  have HN := Lib.hid hn
  have hgt : ¬ (k : Int) > (n : Int) := by omega
  have hk0 : ¬ (k : Int) < 0 := by omega
  rw [hn] at C c0 hl hc hk
  unfold strV
  obtain ⟨S, hS⟩ : ∃ S, BS (l.take k) = S := ⟨_, rfl⟩
  have HS := Lib.hid (show strV (l.take k) = .string S by unfold strV; rw [hS])
  rw [hS]
  clear hA hb hi hn hS
  go_enter Tryz.func142, Tryz.ntmps142
  go_wp2_with fail
  refine (C.out).mono ?_
  rintro e w' ⟨rfl, rfl⟩
  go_wp2_with (refine wpList_str rfl ⟨5, Tryz.underlying22, Tryz.underlying5⟩ Tryz.underlying9 (.tmp 25) rfl _ k k rfl (l.take k) HLT.out HBT.out HI.out (fun h => by cases h) ?_; rw [HS.out])
  case inl =>
    go_ret2
    have F : Fr [rp] w (w.setCell ⟨rp, 0, none⟩ (.slice (some ⟨g, off, none⟩) (n - k) 0)) := (Fr.refl _ _).set (.inl (by simp)) _
    have hdl : (l.drop k).length = n - k := by rw [List.length_drop, HN.out]
    have hnk : n - k = 0 := by omega
    refine ⟨rfl, ⟨hne, by rw [hdl]; omega, HB.out.drop k, off, 0, ?_, by rw [hdl]; omega, by omega, Nat.lt_of_lt_of_le hg F.size, fun j v hv => ?_⟩, F⟩
    · have := HA.out.set 0 (.slice (some ⟨g, off, none⟩) (n - k) 0)
      rw [hdl]; exact this
    · have hj := (List.getElem?_eq_some_iff.1 hv).1
      rw [bys_len, hdl] at hj
      omega
  case inr =>
    go_ret2
    have F : Fr [rp] w (w.setCell ⟨rp, 0, none⟩ (.slice (some ⟨g, off + k, none⟩) (n - k) (cap - k))) := (Fr.refl _ _).set (.inl (by simp)) _
    have hdl : (l.drop k).length = n - k := by rw [List.length_drop, HN.out]
    refine ⟨rfl, ⟨hne, by rw [hdl]; omega, HB.out.drop k, off + k, cap - k, ?_, by rw [hdl]; omega, by omega, Nat.lt_of_lt_of_le hg F.size, fun j v hv => ?_⟩, F⟩
    · have := HA.out.set 0 (.slice (some ⟨g, off + k, none⟩) (n - k) (cap - k))
      rw [hdl]; exact this
    · rw [← bys_drop, List.getElem?_drop] at hv
      have := HE.out (k + j) v hv
      rw [show off + k + j = off + (k + j) by omega]
      exact (F.cell (a := ⟨g, off + (k + j), none⟩) hg (by simp; omega)).trans this
theorem onumber_any (w : World) (rp g : Nat) (l : List Nat) (h : Rd w rp g l) (k : Nat) (hk : k = 1 ∨ k = 2 ∨ k = 4) (hkl : k ≤ l.length) : Calls Tryz.prog 120 #[.pointer (some ⟨rp, 0, none⟩), .int .i64 k] w fun r w' => r = .returned (.tuple #[.int .u32 (unle (l.take k)), .bool true]) ∧ Rd w' rp g (l.drop k) ∧ Fr [rp] w w' := by
  have H := Lib.hid h
  obtain ⟨hne, hl, hb, off, cap, hA, hc, hc2, hg, hi⟩ := h
  have CG := Lib.hid (oget_any w g off l.length cap 0 k hk (by omega) hl hc hc2 (l.take k) (by rw [List.length_take]; omega) (hb.take k) (fun j v hv => by
    rw [← bys_take, List.getElem?_take] at hv
    split at hv
    · exact hi j v hv
    · cases hv))
  have CT := Lib.hid fun W hW => otake_any W rp g l (H.out.fr (S := []) hW (by simp) (by simp)) k hkl
  have c0 := hA.cell 0
  simp only [List.getElem?_toArray, List.getElem?_cons_zero] at c0
  obtain ⟨N, hN⟩ : ∃ N, unle (l.take k) = N := ⟨_, rfl⟩
  rw [hN] at CG ⊢
  clear hA hb hi hN hk
  go_enter Tryz.func120, Tryz.ntmps120
  go_wp2_with fail
  refine (CG.out).mono ?_
  rintro e w' ⟨rfl, m, rfl⟩
  go_wp2_with fail
  refine (CT.out _ ((Fr.refl _ _).drewN m)).mono ?_
  rintro e w3 ⟨rfl, h3, hf3⟩
  have H3 := Lib.hid h3
  go_wp2_with fail
  go_ret2
  exact ⟨rfl, H3.out, hf3.hd rfl rfl rfl rfl⟩
end Go.Proofs.YthjbnbimfpbccaaGreatDoor
