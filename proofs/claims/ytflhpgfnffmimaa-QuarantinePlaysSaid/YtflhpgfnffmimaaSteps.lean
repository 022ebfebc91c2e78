/-
  What Begin, End, and what a yard tells do. Condition: numbers in their types' ranges.
-/



import Derived.Test.YtflhpgfnffmimaaFree
import Derived.Deep.CutBlock
import Derived.Deep.DeepCutAuto
set_option linter.unusedVariables false
namespace Go.Proofs.Ytflhpgfnffmimaa
open Go.ChangeShapes Go.WideShapes Go.ChangeAt Go.RowKit
theorem Lt.fr1 {w w' : World} {v : Value} {a b c n y : Nat} {l : List (Nat × Nat)} {cs : Array Value} (h : Lt w v a b c n l) (hy : At w y 68 cs) (f : Fr [y] w w') : Lt w' v a b c n l := by
  obtain ⟨n1, n2, n3⟩ := Pt.apart h.pt hy
  exact h.fr f (by simpa using n1) (by simpa using n2) (by simpa using n3) (fun g hg => by have := own_ne h.own hy (by decide) g hg; simpa using this)
theorem Lt.lt {w : World} {v : Value} {a b c n : Nat} {l : List (Nat × Nat)} (h : Lt w v a b c n l) : a < w.heap.size ∧ b < w.heap.size ∧ c < w.heap.size := h.pt.lt
theorem qended_any {w : World} {s : YS} (h : Yd w s) : Calls Try.prog 38 #[.pointer (some ⟨s.y, 0, none⟩)] w fun r w' => r = .returned (.int .u64 (if s.un = true then (s.ep : Int) - 1 else s.ep)) ∧ w = w' := by
  have HN := Lib.hid (qnone_any h)
  have H := Lib.hid h
  have hat := h.at_
  have hfew := h.few
  have hup := h.up
  have hn2 := h.wt.pt.2.2.2.2
  unfold YS.cells at hat
  obtain ⟨y, n, ep, un, wv, a, b, c, lw, bv, a', b', c', lb⟩ := s
  dsimp only at *
  obtain ⟨N, hNN⟩ : ∃ N, 16 * n = N := ⟨_, rfl⟩
  rw [hNN] at hat
  have HNN := Lib.hid hNN
  have Y0 := Lib.hid hat
  clear hNN
  have c0 := hat.cell 0
  have c1 := hat.cell 1
  have c2 := hat.cell 2
  have c3 := hat.cell 3
  have c4 := hat.cell 4
  have c5 := hat.cell 5
  have c6 := hat.cell 6
  simp only [List.getElem?_toArray, List.getElem?_cons_zero, List.getElem?_cons_succ] at c0 c1 c2 c3 c4 c5 c6
  clear hat h
  cases un
  · rw [if_neg (by simp)]
    go_enter Try.func38, Try.ntmps38
    go_wp2_with fail
    go_ret
    exact ⟨rfl, rfl⟩
  · rw [if_pos rfl]
    have h1 := hup rfl
    have h2 : IntKind.u64.wrap ((ep : Int) - 1) = (ep : Int) - 1 := by simp [IntKind.wrap, IntKind.signed, IntKind.bits]; omega
    go_enter Try.func38, Try.ntmps38
    go_wp2_with fail
    go_ret
    exact ⟨rfl, rfl⟩
theorem qsweep_any {w : World} {s : YS} (h : Yd w s) : Calls Try.prog 18 #[.pointer (some ⟨s.y, 0, none⟩)] w fun r w' => r = .returned (.bool s.un) ∧ w = w' := by
  have HN := Lib.hid (qnone_any h)
  have H := Lib.hid h
  have hat := h.at_
  have hfew := h.few
  have hup := h.up
  have hn2 := h.wt.pt.2.2.2.2
  unfold YS.cells at hat
  obtain ⟨y, n, ep, un, wv, a, b, c, lw, bv, a', b', c', lb⟩ := s
  dsimp only at *
  obtain ⟨N, hNN⟩ : ∃ N, 16 * n = N := ⟨_, rfl⟩
  rw [hNN] at hat
  have HNN := Lib.hid hNN
  have Y0 := Lib.hid hat
  clear hNN
  have c0 := hat.cell 0
  have c1 := hat.cell 1
  have c2 := hat.cell 2
  have c3 := hat.cell 3
  have c4 := hat.cell 4
  have c5 := hat.cell 5
  have c6 := hat.cell 6
  simp only [List.getElem?_toArray, List.getElem?_cons_zero, List.getElem?_cons_succ] at c0 c1 c2 c3 c4 c5 c6
  clear hat h
  go_enter Try.func18, Try.ntmps18
  go_wp2_with fail
  refine (HN.out).mono ?_
  rintro e w' ⟨rfl, rfl⟩
  go_wp2_with fail
  go_ret
  exact ⟨rfl, rfl⟩
theorem qepoch_any {w : World} {s : YS} (h : Yd w s) : Calls Try.prog 32 #[.pointer (some ⟨s.y, 0, none⟩)] w fun r w' => r = .returned (.int .u64 (s.ep : Int)) ∧ w = w' := by
  have HN := Lib.hid (qnone_any h)
  have H := Lib.hid h
  have hat := h.at_
  have hfew := h.few
  have hup := h.up
  have hn2 := h.wt.pt.2.2.2.2
  unfold YS.cells at hat
  obtain ⟨y, n, ep, un, wv, a, b, c, lw, bv, a', b', c', lb⟩ := s
  dsimp only at *
  obtain ⟨N, hNN⟩ : ∃ N, 16 * n = N := ⟨_, rfl⟩
  rw [hNN] at hat
  have HNN := Lib.hid hNN
  have Y0 := Lib.hid hat
  clear hNN
  have c0 := hat.cell 0
  have c1 := hat.cell 1
  have c2 := hat.cell 2
  have c3 := hat.cell 3
  have c4 := hat.cell 4
  have c5 := hat.cell 5
  have c6 := hat.cell 6
  simp only [List.getElem?_toArray, List.getElem?_cons_zero, List.getElem?_cons_succ] at c0 c1 c2 c3 c4 c5 c6
  clear hat h
  go_enter Try.func32, Try.ntmps32
  go_wp2_with fail
  refine (HN.out).mono ?_
  rintro e w' ⟨rfl, rfl⟩
  go_wp2_with fail
  go_ret
  exact ⟨rfl, rfl⟩
def endN (s : YS) : Int := if s.un = true then (s.ep : Int) - 1 else s.ep
def tick (s : YS) : Int := if 0 < s.lw.length then (s.ep : Int) + 1 else if 0 < s.lb.length then s.ep else endN s
theorem qdone_any {w : World} {s : YS} (h : Yd w s) (t : Int) : Calls Try.prog 17 #[.pointer (some ⟨s.y, 0, none⟩), .int .u64 t] w fun r w' => r = .returned (.bool (decide (t ≤ endN s))) ∧ w = w' := by
  have HE := Lib.hid (qended_any h)
  unfold endN
  obtain ⟨E, hE⟩ : ∃ E, (if s.un = true then (s.ep : Int) - 1 else s.ep) = E := ⟨_, rfl⟩
  rw [hE] at HE ⊢
  clear hE
  have HN := Lib.hid (qnone_any h)
  have H := Lib.hid h
  have hat := h.at_
  have hfew := h.few
  have hup := h.up
  have hn2 := h.wt.pt.2.2.2.2
  unfold YS.cells at hat
  obtain ⟨y, n, ep, un, wv, a, b, c, lw, bv, a', b', c', lb⟩ := s
  dsimp only at *
  obtain ⟨N, hNN⟩ : ∃ N, 16 * n = N := ⟨_, rfl⟩
  rw [hNN] at hat
  have HNN := Lib.hid hNN
  have Y0 := Lib.hid hat
  clear hNN
  clear hat h hup
  go_enter Try.func17, Try.ntmps17
  go_wp2_with fail
  refine (HN.out).mono ?_
  rintro e w' ⟨rfl, rfl⟩
  go_wp2_with fail
  refine (HE.out).mono ?_
  rintro e w' ⟨rfl, rfl⟩
  go_wp2_with fail
  go_ret
  exact ⟨rfl, rfl⟩
theorem qticket_any {w : World} {s : YS} (h : Yd w s) : Calls Try.prog 16 #[.pointer (some ⟨s.y, 0, none⟩)] w fun r w' => r = .returned (.int .u64 (tick s)) ∧ w = w' := by
  have HE := Lib.hid (qended_any h)
  have h1 := own_slice h.wt.own
  have h2 := own_slice h.bt.own
  unfold tick endN
  obtain ⟨E, hE⟩ : ∃ E, (if s.un = true then (s.ep : Int) - 1 else s.ep) = E := ⟨_, rfl⟩
  rw [hE] at HE ⊢
  clear hE
  have HN := Lib.hid (qnone_any h)
  have H := Lib.hid h
  have hat := h.at_
  have hfew := h.few
  have hup := h.up
  have hn2 := h.wt.pt.2.2.2.2
  unfold YS.cells at hat
  obtain ⟨y, n, ep, un, wv, a, b, c, lw, bv, a', b', c', lb⟩ := s
  dsimp only at *
  obtain ⟨N, hNN⟩ : ∃ N, 16 * n = N := ⟨_, rfl⟩
  rw [hNN] at hat
  have HNN := Lib.hid hNN
  have Y0 := Lib.hid hat
  clear hNN
  obtain ⟨va, vc, rfl, -⟩ := h1
  obtain ⟨ba, bc, rfl, -⟩ := h2
  have c0 := hat.cell 0
  have c1 := hat.cell 1
  have c2 := hat.cell 2
  have c3 := hat.cell 3
  have c4 := hat.cell 4
  have c5 := hat.cell 5
  have c6 := hat.cell 6
  simp only [List.getElem?_toArray, List.getElem?_cons_zero, List.getElem?_cons_succ] at c0 c1 c2 c3 c4 c5 c6
  clear hat h
  have hw : IntKind.u64.wrap ((ep : Int) + 1) = (ep : Int) + 1 := by simp [IntKind.wrap, IntKind.signed, IntKind.bits]; omega
  obtain ⟨p, hp⟩ : ∃ p, lw.length = p := ⟨_, rfl⟩
  obtain ⟨q, hq⟩ : ∃ p, lb.length = p := ⟨_, rfl⟩
  rw [hp] at c3 ⊢
  rw [hq] at c5 ⊢
  clear hp hq hup
  by_cases hp0 : 0 < p
  · have hpi : (0 : Int) < (p : Int) := by omega
    rw [if_pos hp0]
    go_enter Try.func16, Try.ntmps16
    go_wp2_with fail
    refine (HN.out).mono ?_
    rintro e w' ⟨rfl, rfl⟩
    go_wp2_with fail
    go_ret
    exact ⟨rfl, rfl⟩
  · have hpi : p = 0 := by omega
    subst hpi
    rw [if_neg hp0]
    by_cases hq0 : 0 < q
    · have hqi : (0 : Int) < (q : Int) := by omega
      rw [if_pos hq0]
      go_enter Try.func16, Try.ntmps16
      go_wp2_with fail
      refine (HN.out).mono ?_
      rintro e w' ⟨rfl, rfl⟩
      go_wp2_with fail
      go_ret
      exact ⟨rfl, rfl⟩
    · have hqi : q = 0 := by omega
      subst hqi
      rw [if_neg hq0]
      go_enter Try.func16, Try.ntmps16
      go_wp2_with fail
      refine (HN.out).mono ?_
      rintro e w' ⟨rfl, rfl⟩
      go_wp2_with fail
      refine (HE.out).mono ?_
      rintro e w' ⟨rfl, rfl⟩
      go_wp2_with fail
      go_ret
      exact ⟨rfl, rfl⟩
theorem qwait_any {w : World} {s : YS} (h : Yd w s) : Calls Try.prog 14 #[.pointer (some ⟨s.y, 0, none⟩)] w fun r w' => ∃ v', r = .returned v' ∧ w'.ownsRow w.heap.size 30 2 v' s.lw.length (rgv s.lw) ∧ Fr [] w w' := by
  have hl := h.wt.good.len
  have hn := h.wt.pt.2.2.2.2
  have HC := Lib.hid (qclone_any h.wt.own (by omega))
  have HN := Lib.hid (qnone_any h)
  have H := Lib.hid h
  have hat := h.at_
  have hfew := h.few
  have hup := h.up
  have hn2 := h.wt.pt.2.2.2.2
  unfold YS.cells at hat
  obtain ⟨y, n, ep, un, wv, a, b, c, lw, bv, a', b', c', lb⟩ := s
  dsimp only at *
  obtain ⟨N, hNN⟩ : ∃ N, 16 * n = N := ⟨_, rfl⟩
  rw [hNN] at hat
  have HNN := Lib.hid hNN
  have Y0 := Lib.hid hat
  clear hNN
  have c0 := hat.cell 0
  have c1 := hat.cell 1
  have c2 := hat.cell 2
  have c3 := hat.cell 3
  have c4 := hat.cell 4
  have c5 := hat.cell 5
  have c6 := hat.cell 6
  simp only [List.getElem?_toArray, List.getElem?_cons_zero, List.getElem?_cons_succ] at c0 c1 c2 c3 c4 c5 c6
  clear hat h
  go_enter Try.func14, Try.ntmps14
  go_wp2_with fail
  refine (HN.out).mono ?_
  rintro e w' ⟨rfl, rfl⟩
  go_wp2_with fail
  refine (HC.out).mono ?_
  rintro e w2 ⟨v', rfl, ho, hf⟩
  have HO := Lib.hid ho
  clear ho
  go_wp2_with fail
  go_ret
  exact ⟨_, rfl, HO.out, hf⟩
theorem qbatch_any {w : World} {s : YS} (h : Yd w s) : Calls Try.prog 15 #[.pointer (some ⟨s.y, 0, none⟩)] w fun r w' => ∃ v', r = .returned v' ∧ w'.ownsRow w.heap.size 30 2 v' s.lb.length (rgv s.lb) ∧ Fr [] w w' := by
  have hl := h.bt.good.len
  have hn := h.bt.pt.2.2.2.2
  have HC := Lib.hid (qclone_any h.bt.own (by omega))
  have HN := Lib.hid (qnone_any h)
  have H := Lib.hid h
  have hat := h.at_
  have hfew := h.few
  have hup := h.up
  have hn2 := h.wt.pt.2.2.2.2
  unfold YS.cells at hat
  obtain ⟨y, n, ep, un, wv, a, b, c, lw, bv, a', b', c', lb⟩ := s
  dsimp only at *
  obtain ⟨N, hNN⟩ : ∃ N, 16 * n = N := ⟨_, rfl⟩
  rw [hNN] at hat
  have HNN := Lib.hid hNN
  have Y0 := Lib.hid hat
  clear hNN
  have c0 := hat.cell 0
  have c1 := hat.cell 1
  have c2 := hat.cell 2
  have c3 := hat.cell 3
  have c4 := hat.cell 4
  have c5 := hat.cell 5
  have c6 := hat.cell 6
  simp only [List.getElem?_toArray, List.getElem?_cons_zero, List.getElem?_cons_succ] at c0 c1 c2 c3 c4 c5 c6
  clear hat h
  go_enter Try.func15, Try.ntmps15
  go_wp2_with fail
  refine (HN.out).mono ?_
  rintro e w' ⟨rfl, rfl⟩
  go_wp2_with fail
  refine (HC.out).mono ?_
  rintro e w2 ⟨v', rfl, ho, hf⟩
  have HO := Lib.hid ho
  clear ho
  go_wp2_with fail
  go_ret
  exact ⟨_, rfl, HO.out, hf⟩
theorem qpaint_any {w : World} {s : YS} (h : Yd w s) : Calls Try.prog 27 #[.pointer (some ⟨s.y, 0, none⟩)] w fun r w' => ∃ p q g, r = .returned (.pointer (some ⟨p, 0, none⟩)) ∧ Pt w' p q g s.n (cov s.lb) ∧ (w.heap.size ≤ p ∧ w.heap.size ≤ q ∧ w.heap.size ≤ g) ∧ Fr [] w w' := by
  have HC := Lib.hid (ptcopy_any w s.a' s.b' s.c' s.n (cov s.lb) h.bt.pt)
  have HN := Lib.hid (qnone_any h)
  have H := Lib.hid h
  have hat := h.at_
  have hfew := h.few
  have hup := h.up
  have hn2 := h.wt.pt.2.2.2.2
  unfold YS.cells at hat
  obtain ⟨y, n, ep, un, wv, a, b, c, lw, bv, a', b', c', lb⟩ := s
  dsimp only at *
  obtain ⟨N, hNN⟩ : ∃ N, 16 * n = N := ⟨_, rfl⟩
  rw [hNN] at hat
  have HNN := Lib.hid hNN
  have Y0 := Lib.hid hat
  clear hNN
  have c0 := hat.cell 0
  have c1 := hat.cell 1
  have c2 := hat.cell 2
  have c3 := hat.cell 3
  have c4 := hat.cell 4
  have c5 := hat.cell 5
  have c6 := hat.cell 6
  simp only [List.getElem?_toArray, List.getElem?_cons_zero, List.getElem?_cons_succ] at c0 c1 c2 c3 c4 c5 c6
  clear hat h
  go_enter Try.func27, Try.ntmps27
  go_wp2_with fail
  refine (HN.out).mono ?_
  rintro e w' ⟨rfl, rfl⟩
  go_wp2_with fail
  refine (HC.out).mono ?_
  rintro e w2 ⟨p, q, g, rfl, hp, h1, h2, h3, hf⟩
  have HP := Lib.hid hp
  clear hp
  go_wp2_with fail
  go_ret
  exact ⟨p, q, g, rfl, HP.out, ⟨h1, h2, h3⟩, hf⟩
theorem qbegin_no {w : World} {s : YS} (h : Yd w s) (hu : s.un = true) : Calls Try.prog 11 #[.pointer (some ⟨s.y, 0, none⟩)] w fun r w' => r = .returned (.tuple #[.int .u64 0, .bool false]) ∧ w = w' := by
  have HN := Lib.hid (qnone_any h)
  have H := Lib.hid h
  have hat := h.at_
  have hfew := h.few
  have hup := h.up
  have hn2 := h.wt.pt.2.2.2.2
  unfold YS.cells at hat
  obtain ⟨y, n, ep, un, wv, a, b, c, lw, bv, a', b', c', lb⟩ := s
  dsimp only at *
  obtain ⟨N, hNN⟩ : ∃ N, 16 * n = N := ⟨_, rfl⟩
  rw [hNN] at hat
  have HNN := Lib.hid hNN
  have Y0 := Lib.hid hat
  clear hNN
  have c0 := hat.cell 0
  have c1 := hat.cell 1
  have c2 := hat.cell 2
  have c3 := hat.cell 3
  have c4 := hat.cell 4
  have c5 := hat.cell 5
  have c6 := hat.cell 6
  simp only [List.getElem?_toArray, List.getElem?_cons_zero, List.getElem?_cons_succ] at c0 c1 c2 c3 c4 c5 c6
  clear hat h
  subst hu
  go_enter Try.func11, Try.ntmps11
  go_wp2_with fail
  refine (HN.out).mono ?_
  rintro e w' ⟨rfl, rfl⟩
  go_wp2_with fail
  go_ret2
  exact ⟨rfl, rfl⟩
theorem qend_no {w : World} {s : YS} (h : Yd w s) (hu : s.un = false) : Calls Try.prog 12 #[.pointer (some ⟨s.y, 0, none⟩)] w fun r w' => r = .returned (.slice none 0 0) ∧ w = w' := by
  have HN := Lib.hid (qnone_any h)
  have H := Lib.hid h
  have hat := h.at_
  have hfew := h.few
  have hup := h.up
  have hn2 := h.wt.pt.2.2.2.2
  unfold YS.cells at hat
  obtain ⟨y, n, ep, un, wv, a, b, c, lw, bv, a', b', c', lb⟩ := s
  dsimp only at *
  obtain ⟨N, hNN⟩ : ∃ N, 16 * n = N := ⟨_, rfl⟩
  rw [hNN] at hat
  have HNN := Lib.hid hNN
  have Y0 := Lib.hid hat
  clear hNN
  have c0 := hat.cell 0
  have c1 := hat.cell 1
  have c2 := hat.cell 2
  have c3 := hat.cell 3
  have c4 := hat.cell 4
  have c5 := hat.cell 5
  have c6 := hat.cell 6
  simp only [List.getElem?_toArray, List.getElem?_cons_zero, List.getElem?_cons_succ] at c0 c1 c2 c3 c4 c5 c6
  clear hat h
  subst hu
  go_enter Try.func12, Try.ntmps12
  go_wp2_with fail
  refine (HN.out).mono ?_
  rintro e w' ⟨rfl, rfl⟩
  go_wp2_with fail
  go_ret
  exact ⟨rfl, rfl⟩
set_option maxHeartbeats 2000000 in
set_option maxRecDepth 100000 in
theorem qend_yes {w : World} {s : YS} (h : Yd w s) (hu : s.un = true) : Calls Try.prog 12 #[.pointer (some ⟨s.y, 0, none⟩)] w fun r w' => ∃ p q g, r = .returned s.bv ∧ Yd w' { s with un := false, bv := .slice none 0 0, a' := p, b' := q, c' := g, lb := [] } ∧ (w.heap.size ≤ p ∧ w.heap.size ≤ q ∧ w.heap.size ≤ g) ∧ Fr [s.y] w w' := by
  have C := Lib.hid fun W => fresh_any s.n W h.wt.pt.2.2.2.2
  have HN := Lib.hid (qnone_any h)
  have H := Lib.hid h
  have hat := h.at_
  have hfew := h.few
  have hup := h.up
  have hn2 := h.wt.pt.2.2.2.2
  unfold YS.cells at hat
  obtain ⟨y, n, ep, un, wv, a, b, c, lw, bv, a', b', c', lb⟩ := s
  dsimp only at *
  obtain ⟨N, hNN⟩ : ∃ N, 16 * n = N := ⟨_, rfl⟩
  rw [hNN] at hat
  have HNN := Lib.hid hNN
  have Y0 := Lib.hid hat
  clear hNN
  rw [HNN.out] at C
  have z1 := hat.froz 1
  have c0 := hat.cell 0
  have c1 := hat.cell 1
  have c2 := hat.cell 2
  have c3 := hat.cell 3
  have c4 := hat.cell 4
  have c5 := hat.cell 5
  have c6 := hat.cell 6
  simp only [List.getElem?_toArray, List.getElem?_cons_zero, List.getElem?_cons_succ] at c0 c1 c2 c3 c4 c5 c6
  clear hat h
  subst hu
  go_enter Try.func12, Try.ntmps12
  go_wp2_with fail
  refine (HN.out).mono ?_
  rintro e w' ⟨rfl, rfl⟩
  go_upto_region 5 with (fail)
  have F1 : Fr [y] w (w.setCell ⟨y, 1, none⟩ (.bool false)) := (Fr.refl _ _).set (.inl (by simp)) _
  have Y1 := Lib.hid (Y0.out.set 1 (.bool false))
  simp only [List.setIfInBounds_toArray, List.set_cons_zero, List.set_cons_succ] at Y1
  have HF1 := Lib.hid F1
  obtain ⟨w1, hw1⟩ : ∃ W, w.setCell ⟨y, 1, none⟩ (.bool false) = W := ⟨_, rfl⟩
  rw [hw1] at Y1 HF1
  rw [hw1]
  have hs1 := HF1.out.size
  have d2 := Y1.out.cell 2
  simp only [List.getElem?_toArray, List.getElem?_cons_zero, List.getElem?_cons_succ] at d2
  clear c0 c1 c2 c3 c4 c5 c6 z1 F1 hw1 Y0
  go_wp2_with fail
  refine (C.out _).mono ?_
  rintro e w2 ⟨p, q, g, rfl, hl2, hp, hq, hg, hf2⟩
  have Y2 := Lib.hid (Y1.out.fr hf2 (by simp))
  have L2 := Lib.hid hl2
  have F2 := Lib.hid (HF1.out.trans0 hf2)
  have e5 := Y2.out.cell 5
  have e6 := Y2.out.cell 6
  have z5 := Y2.out.froz 5
  have z6 := Y2.out.froz 6
  simp only [List.getElem?_toArray, List.getElem?_cons_zero, List.getElem?_cons_succ] at e5 e6
  clear hl2 hf2 d2 HF1 Y1
  go_wp2_with fail
  go_ret
  have hyl := H.out.at_.lt
  have hcl := H.out.wt.lt.2.2
  have Y3 := (Y2.out.set 5 (.slice none 0 0)).set 6 (.pointer (some ⟨p, 0, none⟩))
  simp only [List.setIfInBounds_toArray, List.set_cons_zero, List.set_cons_succ] at Y3
  have F3 : Fr [y] w2 ((w2.setCell ⟨y, 5, none⟩ (.slice none 0 0)).setCell ⟨y, 6, none⟩ (.pointer (some ⟨p, 0, none⟩))) := ((Fr.refl _ _).set (.inl (by simp)) _).set (.inl (by simp)) _
  have FA := F2.out.trans F3 (fun k hk => .inl hk)
  have q1 : w.heap.size ≤ p := Nat.le_trans hs1 hp
  have q2 : w.heap.size ≤ q := Nat.le_trans hs1 hq
  have q3 : w.heap.size ≤ g := Nat.le_trans hs1 hg
  have hyl' : y < w.heap.size := hyl
  have hcl' : c < w.heap.size := hcl
  refine ⟨p, q, g, rfl, ⟨?_, H.out.wt.fr1 H.out.at_ FA, ?_, (show c ≠ g by omega), (fun g' hg' h => by simp [Value.ownBlock] at h), (fun h => by cases h), hfew⟩, ⟨q1, q2, q3⟩, FA⟩
  · unfold YS.cells
    dsimp only
    rw [HNN.out]
    exact Y3
  · exact L2.out.fr F3 (by simp; omega) (by simp; omega) (by simp; omega) (by simp [Value.ownBlock])
set_option maxHeartbeats 2000000 in
set_option maxRecDepth 100000 in
theorem qbegin_yes {w : World} {s : YS} (h : Yd w s) (hu : s.un = false) (he : s.ep < 1000000) : Calls Try.prog 11 #[.pointer (some ⟨s.y, 0, none⟩)] w fun r w' => ∃ p q g, r = .returned (.tuple #[.int .u64 (s.ep + 1 : Nat), .bool true]) ∧ Yd w' { s with ep := s.ep + 1, un := true, wv := .slice none 0 0, a := p, b := q, c := g, lw := [], bv := s.wv, a' := s.a, b' := s.b, c' := s.c, lb := s.lw } ∧ (w.heap.size ≤ p ∧ w.heap.size ≤ q ∧ w.heap.size ≤ g) ∧ Fr [s.y] w w' := by
  have C := Lib.hid fun W => fresh_any s.n W h.wt.pt.2.2.2.2
  have HLI := Lib.hid (show (Try.prog.info? 66).map (·.size) = some 2 by kernel_rfl)
  have hone := fun (v : Value) (p : Nat) (hv : v.oneCell' = true) => show ∀ u ∈ [v, Value.pointer (some ⟨p, 0, none⟩)], u.oneCell' = true from fun u hu => by simp at hu; rcases hu with rfl | rfl <;> first | exact hv | rfl
  have HONE := Lib.hid hone
  obtain ⟨va, vc, hva, -⟩ := own_slice h.wt.own
  have hwone : s.wv.oneCell' = true := by rw [hva]; rfl
  have HWO := Lib.hid hwone
  clear hone hva hwone
  have HN := Lib.hid (qnone_any h)
  have H := Lib.hid h
  have hat := h.at_
  have hfew := h.few
  have hup := h.up
  have hn2 := h.wt.pt.2.2.2.2
  unfold YS.cells at hat
  obtain ⟨y, n, ep, un, wv, a, b, c, lw, bv, a', b', c', lb⟩ := s
  dsimp only at *
  obtain ⟨N, hNN⟩ : ∃ N, 16 * n = N := ⟨_, rfl⟩
  rw [hNN] at hat
  have HNN := Lib.hid hNN
  have Y0 := Lib.hid hat
  clear hNN
  rw [HNN.out] at C
  have z0 := hat.froz 0
  have z1 := hat.froz 1
  have c0 := hat.cell 0
  have c1 := hat.cell 1
  have c2 := hat.cell 2
  have c3 := hat.cell 3
  have c4 := hat.cell 4
  have c5 := hat.cell 5
  have c6 := hat.cell 6
  simp only [List.getElem?_toArray, List.getElem?_cons_zero, List.getElem?_cons_succ] at c0 c1 c2 c3 c4 c5 c6
  clear hat h
  subst hu
  have hw : IntKind.u64.wrap ((ep : Int) + 1) = (ep : Int) + 1 := by simp [IntKind.wrap, IntKind.signed, IntKind.bits]; omega
  go_enter Try.func11, Try.ntmps11
  go_wp2_with fail
  refine (HN.out).mono ?_
  rintro e w' ⟨rfl, rfl⟩
  go_upto_region 5 with (fail)
  have F1 : Fr [y] w ((w.setCell ⟨y, 1, none⟩ (.bool true)).setCell ⟨y, 0, none⟩ (.int .u64 ((ep : Int) + 1))) := ((Fr.refl _ _).set (.inl (by simp)) _).set (.inl (by simp)) _
  have Y1 := (Y0.out.set 1 (.bool true)).set 0 (.int .u64 ((ep : Int) + 1))
  simp only [List.setIfInBounds_toArray, List.set_cons_zero, List.set_cons_succ] at Y1
  obtain ⟨w1, hw1⟩ : ∃ W, (w.setCell ⟨y, 1, none⟩ (.bool true)).setCell ⟨y, 0, none⟩ (.int .u64 ((ep : Int) + 1)) = W := ⟨_, rfl⟩
  rw [hw1] at Y1 F1
  rw [hw1]
  have Y1 := Lib.hid Y1
  have HF1 := Lib.hid F1
  have hs1 := F1.size
  clear c0 c1 c2 c3 c4 c5 c6 z0 z1 F1 hw1 Y0 hw
  refine wp_region_L (fun W => Fr [y] w1 W ∧ ∃ u v : Value, At W y 68 #[.int .u64 ((ep : Int) + 1), .bool true, .int .i64 (N : Int), wv, .pointer (some ⟨a, 0, none⟩), u, v]) [16] (by kernel_rfl) ⟨(Fr.refl _ _).drew, _, _, Y1.out.hp rfl⟩ (fun hHeld => ?_)
  refine wpAnyL_take (i := 0) (v := ?_) rfl (by kernel_rfl) (fun _ _ _ h => h) (Or.inl ⟨by rfl, ?_⟩) (by assumption) ?_; rotate_left; (focus (intro w hSw; skip; go_simp; (try with_reducible rfl))); (try (refine wpAnyL_norm (by simp only [Act.put, List.setIfInBounds_toArray, List.set_cons_zero, List.set_cons_succ]; rfl) ?_))
  refine wpAnyL_take (i := 1) (v := ?_) rfl (by kernel_rfl) (fun _ _ _ h => h) (Or.inl ⟨by rfl, ?_⟩) (by assumption) ?_; rotate_left; (focus (intro w hSw; skip; go_simp; (try with_reducible rfl))); (try (refine wpAnyL_norm (by simp only [Act.put, List.setIfInBounds_toArray, List.set_cons_zero, List.set_cons_succ]; rfl) ?_))
  refine wpAnyL_take (i := 2) (v := ?_) rfl (by kernel_rfl) (fun _ _ _ h => h) (Or.inl ⟨by rfl, ?_⟩) (by assumption) ?_; rotate_left; (focus (intro w hSw; skip; go_simp; (try with_reducible rfl))); (try (refine wpAnyL_norm (by simp only [Act.put, List.setIfInBounds_toArray, List.set_cons_zero, List.set_cons_succ]; rfl) ?_))
  refine wpAnyL_take (i := 3) (v := ?_) rfl (by kernel_rfl) (fun _ _ _ h => h) (Or.inl ⟨by rfl, ?_⟩) (by assumption) ?_; rotate_left; (focus (intro w hSw; skip; go_simp; (try with_reducible rfl))); (try (refine wpAnyL_norm (by simp only [Act.put, List.setIfInBounds_toArray, List.set_cons_zero, List.set_cons_succ]; rfl) ?_))
  refine wpAnyL_take (i := 4) (v := ?_) rfl (by kernel_rfl) (fun _ _ _ h => h) (Or.inl ⟨by rfl, ?_⟩) (by assumption) ?_; rotate_left; (focus (intro w hSw; skip; go_simp; (try with_reducible rfl))); (try (refine wpAnyL_norm (by simp only [Act.put, List.setIfInBounds_toArray, List.set_cons_zero, List.set_cons_succ]; rfl) ?_))
  refine wpAnyL_take (i := 5) rfl (by kernel_rfl) (fun _ _ _ h => h) (yields_load_at 66 (.tmp 30) rfl ⟨y, 3, none⟩ rfl [wv, .pointer (some ⟨a, 0, none⟩)] _ (fun W h => by obtain ⟨_, u, v, hat⟩ := h; exact two_at hat 3 _ _ rfl rfl) Try.underlying66 rfl HLI.out rfl) (by assumption) ?_; (try (refine wpAnyL_norm (by simp only [Act.put, List.setIfInBounds_toArray, List.set_cons_zero, List.set_cons_succ]; rfl) ?_))
  refine wpAnyL_take (i := 6) (v := ?_) rfl (by kernel_rfl) (fun _ _ _ h => h) (Or.inl ⟨by rfl, ?_⟩) (by assumption) ?_; rotate_left; (focus (intro w hSw; skip; go_simp; (try with_reducible rfl))); (try (refine wpAnyL_norm (by simp only [Act.put, List.setIfInBounds_toArray, List.set_cons_zero, List.set_cons_succ]; rfl) ?_))
  refine wpAnyL_take (i := 7) (v := ?_) rfl (by kernel_rfl) (fun _ _ _ h => h) (Or.inl ⟨by rfl, ?_⟩) (by assumption) ?_; rotate_left; (focus (intro w hSw; skip; go_simp; (try with_reducible rfl))); (try (refine wpAnyL_norm (by simp only [Act.put, List.setIfInBounds_toArray, List.set_cons_zero, List.set_cons_succ]; rfl) ?_))
  refine wpAnyL_take (i := 8) (v := ?_) rfl (by kernel_rfl) (fun _ _ _ h => h) (Or.inl ⟨by rfl, ?_⟩) (by assumption) ?_; rotate_left; (focus (intro w hSw; skip; go_simp; (try with_reducible rfl))); (try (refine wpAnyL_norm (by simp only [Act.put, List.setIfInBounds_toArray, List.set_cons_zero, List.set_cons_succ]; rfl) ?_))
  refine wpAnyL_take (i := 9) (v := ?_) rfl (by kernel_rfl) (fun _ _ _ h => h) (Or.inl ⟨by rfl, ?_⟩) (by assumption) ?_; rotate_left; (focus (intro w hSw; (obtain ⟨_, u, v, hat⟩ := hSw); (have cc := hat.cell 2); (simp only [List.getElem?_toArray, List.getElem?_cons_zero, List.getElem?_cons_succ] at cc); go_simp; (try with_reducible rfl))); (try (refine wpAnyL_norm (by simp only [Act.put, List.setIfInBounds_toArray, List.set_cons_zero, List.set_cons_succ]; rfl) ?_))
  refine wpAnyL_ready (rs := [10]) (by kernel_rfl) (by simp) ?_; refine AllReadyL.cons rfl (fun K hK => ?_) AllReadyL.nil
  go_simp
  refine (C.out _).mono ?_
  rintro e w2 ⟨p, q, g, rfl, hl2, hp, hq, hg, hf2⟩
  refine hK.out _ _ (fun _ => ⟨hHeld.1.trans0 hf2, by obtain ⟨_, u, v, hat⟩ := hHeld; exact ⟨u, v, hat.fr hf2 (by simp)⟩⟩) (fun hHeld' => ?_); have hHeld := hHeld' (by decide); clear hHeld' hK K; (try (refine wpAnyL_norm (by simp only [Act.put, List.setIfInBounds_toArray, List.set_cons_zero, List.set_cons_succ]; rfl) ?_))
  have hp' : w1.heap.size ≤ p := hp
  have hq' : w1.heap.size ≤ q := hq
  have hg' : w1.heap.size ≤ g := hg
  have L2 := Lib.hid hl2
  have Y2 := Lib.hid (At.fr (Y1.out.hp (w' := w1.drew) rfl) hf2 (by simp))
  have HF2 := Lib.hid (show Fr [] w1 w2 from (Fr.refl [] w1).drew.trans0 hf2)
  have hyl := Y1.out.lt
  clear hl2 hf2 hp hq hg
  refine wpAnyL_take (i := 11) (v := ?_) rfl (by kernel_rfl) (fun _ _ _ h => h) (Or.inl ⟨by rfl, ?_⟩) (by assumption) ?_; rotate_left; (focus (intro w hSw; skip; go_simp; (try with_reducible rfl))); (try (refine wpAnyL_norm (by simp only [Act.put, List.setIfInBounds_toArray, List.set_cons_zero, List.set_cons_succ]; rfl) ?_))
  refine wpAnyL_take (i := 12) (v := ?_) rfl (by kernel_rfl) (fun _ _ _ h => h) (Or.inl ⟨by rfl, ?_⟩) (by assumption) ?_; rotate_left; (focus (intro w hSw; skip; go_simp; (try with_reducible rfl))); (try (refine wpAnyL_norm (by simp only [Act.put, List.setIfInBounds_toArray, List.set_cons_zero, List.set_cons_succ]; rfl) ?_))
  refine wpAnyL_ready (rs := [13]) (by kernel_rfl) (by simp) ?_; refine AllReadyL.cons rfl (fun K hK => ?_) AllReadyL.nil
  rw [if_pos (by rfl)]
  refine wp_store_at 66 (.tmp 38) (.tmp 31) rfl y 5 [wv, .pointer (some ⟨a, 0, none⟩)] rfl rfl 68 [.int .u64 ((ep : Int) + 1), .bool true, .int .i64 (N : Int), wv, .pointer (some ⟨a, 0, none⟩), bv, .pointer (some ⟨a', 0, none⟩)] Y2.out HLI.out (by simp) (HONE.out wv a HWO.out) ?_
  intro w3 hA3 hF3
  simp only [List.length_cons, List.length_nil, Nat.reduceAdd, List.take_succ_cons, List.take_zero, List.drop_succ_cons, List.drop_zero, List.drop_nil, List.cons_append, List.nil_append, List.append_nil] at hA3
  refine hK.out _ _ (fun _ => ⟨(HF2.out.more (by simp)).trans hF3 (fun k hk => .inl hk), _, _, hA3⟩) (fun hHeld' => ?_); have hHeld := hHeld' (by decide); clear hHeld' hK K; (try (refine wpAnyL_norm (by simp only [Act.put, List.setIfInBounds_toArray, List.set_cons_zero, List.set_cons_succ]; rfl) ?_))
  refine wpAnyL_take (i := 14) (v := ?_) rfl (by kernel_rfl) (fun _ _ _ h => h) (Or.inl ⟨by rfl, ?_⟩) (by assumption) ?_; rotate_left; (focus (intro w hSw; skip; go_simp; (try with_reducible rfl))); (try (refine wpAnyL_norm (by simp only [Act.put, List.setIfInBounds_toArray, List.set_cons_zero, List.set_cons_succ]; rfl) ?_))
  refine wpAnyL_take (i := 15) (v := ?_) rfl (by kernel_rfl) (fun _ _ _ h => h) (Or.inl ⟨by rfl, ?_⟩) (by assumption) ?_; rotate_left; (focus (intro w hSw; skip; go_simp; (try with_reducible rfl))); (try (refine wpAnyL_norm (by simp only [Act.put, List.setIfInBounds_toArray, List.set_cons_zero, List.set_cons_succ]; rfl) ?_))
  refine wpAnyL_ready (rs := [16]) (by kernel_rfl) (by simp) ?_; refine AllReadyL.cons rfl (fun K hK => ?_) AllReadyL.nil
  rw [if_pos (by rfl)]
  refine wp_store_at 66 (.tmp 40) (.tmp 36) rfl y 3 [.slice none 0 0, .pointer (some ⟨p, 0, none⟩)] rfl rfl 68 [.int .u64 ((ep : Int) + 1), .bool true, .int .i64 (N : Int), wv, .pointer (some ⟨a, 0, none⟩), wv, .pointer (some ⟨a, 0, none⟩)] hA3 HLI.out (by simp) (HONE.out _ p rfl) ?_
  intro w4 hA4 hF4
  simp only [List.length_cons, List.length_nil, Nat.reduceAdd, List.take_succ_cons, List.take_zero, List.drop_succ_cons, List.drop_zero, List.drop_nil, List.cons_append, List.nil_append, List.append_nil] at hA4
  refine hK.out _ _ (fun h => (h (by decide)).elim) (fun _ => ?_); clear hK K; (try (refine wpAnyL_norm (by simp only [Act.put, List.setIfInBounds_toArray, List.set_cons_zero, List.set_cons_succ]; rfl) ?_))
  refine wpAnyL_done (by kernel_rfl) ?_ _
  have Y4 := Lib.hid hA4
  have F24 := Lib.hid (hF3.trans hF4 (fun k hk => .inl hk))
  have c0 := hA4.cell 0
  simp only [List.getElem?_toArray, List.getElem?_cons_zero] at c0
  clear hA3 hF3 hA4 hF4 hHeld
  go_wp2_with fail
  go_ret2
  have FA := (HF1.out.trans0 HF2.out).trans F24.out (fun k hk => .inl hk)
  have hcl := H.out.wt.lt.2.2
  have q1 : w.heap.size ≤ p := Nat.le_trans hs1 hp'
  have q2 : w.heap.size ≤ q := Nat.le_trans hs1 hq'
  have q3 : w.heap.size ≤ g := Nat.le_trans hs1 hg'
  have hcl' : c < w.heap.size := hcl
  refine ⟨p, q, g, rfl, ⟨?_, ?_, H.out.wt.fr1 H.out.at_ FA, (show g ≠ c by omega), (fun g' h => by simp [Value.ownBlock] at h), (fun _ => by dsimp only; omega), (by dsimp only; omega)⟩, ⟨q1, q2, q3⟩, FA⟩
  · unfold YS.cells
    dsimp only
    rw [HNN.out]
    exact Y4.out
  · exact L2.out.fr F24.out (by simp; omega) (by simp; omega) (by simp; omega) (by simp [Value.ownBlock])
end Go.Proofs.Ytflhpgfnffmimaa
