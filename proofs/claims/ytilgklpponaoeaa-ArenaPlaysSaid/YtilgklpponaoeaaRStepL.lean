/-
  A step of both arenas: what is told. Condition: numbers in their types' ranges.
-/





import Derived.Test.YtilgklpponaoeaaRStepW
import Derived.Test.YtilgklpponaoeaaArWorks
set_option linter.unusedVariables false
namespace Go.Proofs.Ytilgklpponaoeaa
open Go.ChangeShapes Go.WideShapes Go.ChangeAt Go.RowKit
set_option maxHeartbeats 4000000 in
set_option maxRecDepth 100000 in
theorem step_5 (w : World) (ap p g bg cap r bb tb cb ct : Nat) (bs : List Nat) (f : Nat → Bool) (h : Pr w ap p g bg cap r bb tb cb ct bs f) (k : Int) (A : Nat) (hA : A < 4294967296) (wd : Int) (k1 : -9223372036854775808 ≤ wd) (k2 : wd ≤ 9223372036854775807) (v : Nat) (hv : v < 4294967296) (c : Cp) (hc : c.Ok) (l : List Nat) (hb : Byt l) (h0 : kindOf k = 5 ∨ kindOf k = 6) :
    Calls Try.prog 13 #[.pointer (some ⟨ap, 0, none⟩), .pointer (some ⟨r, 0, none⟩), .agg (dc k A wd v c l)] w (stepPost w ap p g bg cap r bb tb cb ct bs.length) := by
  obtain ⟨b0, hb0⟩ : ∃ b, w.heap.size = b := ⟨_, rfl⟩
  obtain ⟨w1, hw1⟩ : ∃ W, w.alloc (.cells (dc k A wd v c l) 40) = W := ⟨_, rfl⟩
  have A0 := Lib.hid (show At w1 b0 40 (dc k A wd v c l) from by rw [← hw1, ← hb0]; exact At.new w _ _)
  have F0 := Lib.hid (show Fr [] w w1 from by rw [← hw1]; exact (by repeat (first | exact Fr.refl _ _ | assumption | refine Fr.trans0 ?_ (by assumption) | refine Fr.drewN ?_ _ | refine Fr.alloc ?_ _ | refine Fr.drew ?_)))
  have P0 := Lib.hid (h.fr0 F0.out)
  have HW1 := Lib.hid hw1
  have HB0 := Lib.hid hb0
  have hlt := Lib.hid (show (ap < b0 ∧ p < b0 ∧ g < b0 ∧ bg < b0) ∧ (r < b0 ∧ bb < b0 ∧ tb < b0) from by rw [← hb0]; exact ⟨h.aa.lt, h.rr.lt⟩)
  obtain ⟨m, m1, m2, m3, m4, m5⟩ := kind_facts k
  have q0 := A0.out.cell 0
  have q1 := A0.out.cell 1
  have q2 := A0.out.cell 2
  have q3 := A0.out.cell 3
  have q12 := A0.out.cell 12
  unfold dc at q0 q1 q2 q3 q12
  simp only [List.getElem?_toArray, List.getElem?_cons_zero, List.getElem?_cons_succ] at q0 q1 q2 q3 q12
  have Q1 := Lib.hid fun W (hW : Fr [g, bg, bb, tb] w1 W) => (hW.cell (a := ⟨b0, 1, none⟩) A0.out.lt (by have := hlt.out; simp; omega)).trans q1
  have Q2 := Lib.hid fun W (hW : Fr [g, bg, bb, tb] w1 W) => (hW.cell (a := ⟨b0, 2, none⟩) A0.out.lt (by have := hlt.out; simp; omega)).trans q2
  have Q3 := Lib.hid fun W (hW : Fr [g, bg, bb, tb] w1 W) => (hW.cell (a := ⟨b0, 3, none⟩) A0.out.lt (by have := hlt.out; simp; omega)).trans q3
  have Q4 := Lib.hid fun W (hW : Fr [g, bg, bb, tb] w1 W) => (show At W b0 40 (dc k A wd v c l) from A0.out.fr hW (by have := hlt.out; simp; omega))
  have D0 := Lib.hid h.d
  clear h hw1 hb0
  have HI8 := Lib.hid (show ∀ c : Cp, (Try.prog.info? 38).map (·.size) = some c.cells.size by intro c; kernel_rfl)
  obtain ⟨q, hq, hq5⟩ : ∃ q : Int, kindOf k = q ∧ 5 ≤ q := ⟨_, rfl, by omega⟩
  rw [hq] at m4 m5
  have n0 : ¬ q = 0 := by omega
  have n1 : ¬ q = 1 := by omega
  have n2 : ¬ q = 2 := by omega
  have n3 : ¬ q = 3 := by omega
  have n4 : ¬ q = 4 := by omega
  have CA := Lib.hid (aload_b _ _ _ _ _ _ _ _ P0.out.aa A hA wd k1 k2)
  obtain ⟨V, hV⟩ : ∃ V, ldN bs A wd = V := ⟨_, rfl⟩
  obtain ⟨B1, hB1⟩ : ∃ B, okE bs.length A wd = B := ⟨_, rfl⟩
  obtain ⟨C, hC⟩ : ∃ C, ldC bs f A = C := ⟨_, rfl⟩
  obtain ⟨B2, hB2⟩ : ∃ B, whB bs.length A = B := ⟨_, rfl⟩
  obtain ⟨L, hL⟩ : ∃ L, (if thB bs.length A wd = true then sub bs A wd.toNat else []) = L := ⟨_, rfl⟩
  obtain ⟨B3, hB3⟩ : ∃ B, thB bs.length A wd = B := ⟨_, rfl⟩
  rw [hV, hB1] at CA
  have HE := Lib.hid (show ldN bs A wd = V ∧ okE bs.length A wd = B1 ∧ ldC bs f A = C ∧ whB bs.length A = B2 ∧ (if thB bs.length A wd = true then sub bs A wd.toNat else []) = L ∧ thB bs.length A wd = B3 from ⟨hV, hB1, hC, hB2, hL, hB3⟩)
  clear hV hB1 hC hB2 hL hB3 hq h0 hq5
  go_enter Try.func13, Try.ntmps13
  go_upto_region 1 with (fail)
  rw [HW1.out, HB0.out]
  go_wp2_with fail
  refine CA.out.mono ?_
  rintro e w3 ⟨rfl, hf3⟩
  have F3 := Lib.hid hf3
  clear hf3 CA q0 q1 q2 q3 q12
  have P3 := Lib.hid (P0.out.fr0 F3.out)
  have CB := Lib.hid (rload_b _ _ _ _ _ _ _ _ P3.out.rr A hA wd k1 k2)
  rw [HE.out.1, HE.out.2.1] at CB
  have q1 := Q1.out _ (F3.out.more (by simp))
  have q2 := Q2.out _ (F3.out.more (by simp))
  go_wp2_with fail
  refine CB.out.mono ?_
  rintro e w3' ⟨rfl, rfl⟩
  clear CB
  have CC := Lib.hid (aloadc_b _ _ _ _ _ _ _ _ P3.out.aa A hA)
  rw [HE.out.2.2.1, HE.out.2.2.2.1] at CC
  go_wp2_with fail
  refine CC.out.mono ?_
  rintro e w5 ⟨rfl, hf5⟩
  have F5 := Lib.hid (F3.out.trans0 hf5)
  clear hf5 CC q1 q2
  have hs5 := F5.out.size
  have hb1 := A0.out.lt
  have F5a := Lib.hid (F5.out.alloc (.cells noC.cells 38))
  have N5 := Lib.hid (show w1.heap.size ≤ w5.heap.size from F5.out.size)
  obtain ⟨g5, hg5⟩ : ∃ b, w5.heap.size = b := ⟨_, rfl⟩
  rw [hg5] at N5
  have HG5 := Lib.hid hg5
  clear hs5 hb1 hg5
  go_wp2_with (rw [HG5.out]; refine wpList_store_all (by rfl) 38 (.tmp 12) (.tmp 130) rfl g5 C.cells rfl rfl 38 noC.cells (At.nw HG5.out.symm) (HI8.out C) rfl (cellz_all C) ?_; intro w6 hA6 hF6; have F6 := Lib.hid (F5a.out.trans hF6 (fun x hx => .inr (by have := N5.out; simp at hx; omega))); have A6 := Lib.hid hA6; clear hA6 hF6; have q1 := Q1.out w6 (F6.out.more (by simp)))
  have P6 := Lib.hid (P0.out.fr0 F6.out)
  have CD := Lib.hid (rloadc_any _ _ _ _ _ _ _ _ P6.out.rr A hA)
  rw [HE.out.2.2.1, HE.out.2.2.2.1] at CD
  refine CD.out.mono ?_
  rintro e w7 ⟨rfl, hf7⟩
  have F7 := Lib.hid (F6.out.trans0 hf7)
  have A7 := Lib.hid (A6.out.fr hf7 (by simp))
  have F7a := Lib.hid (F7.out.alloc (.cells noC.cells 38))
  have N7 := Lib.hid (show w1.heap.size ≤ w7.heap.size from F7.out.size)
  have G7 := Lib.hid (show g5 < w7.heap.size from A7.out.lt)
  obtain ⟨g7, hg7⟩ : ∃ b, w7.heap.size = b := ⟨_, rfl⟩
  rw [hg7] at N7 G7
  have HG7 := Lib.hid hg7
  clear hf7 CD q1 A6 P6 hg7
  go_wp2_with (rw [HG7.out]; refine wpList_store_all (by rfl) 38 (.tmp 14) (.tmp 137) rfl g7 C.cells rfl rfl 38 noC.cells (At.nw HG7.out.symm) (HI8.out C) rfl (cellz_all C) ?_; intro w8 hA8 hF8; have F8 := Lib.hid (F7a.out.trans hF8 (fun x hx => .inr (by have := N7.out; simp at hx; omega))); have B8 := Lib.hid hA8; have A8 := Lib.hid (show At w8 g5 38 C.cells from (A7.out.old (.cells noC.cells 38)).fr hF8 (by have := G7.out; simp; omega)); clear hA8 hF8; have q1 := Q1.out w8 (F8.out.more (by simp)); have q2 := Q2.out w8 (F8.out.more (by simp)))
  have P8 := Lib.hid (P0.out.fr0 F8.out)
  have CE := Lib.hid (aread_b _ _ _ _ _ _ _ _ P8.out.aa A hA wd k1 k2)
  rw [HE.out.2.2.2.2.1, HE.out.2.2.2.2.2] at CE
  unfold strV at CE
  obtain ⟨S, hS⟩ : ∃ S, BS L = S := ⟨_, rfl⟩
  rw [hS] at CE
  have HS := Lib.hid hS
  clear hS
  refine CE.out.mono ?_
  rintro e w8' ⟨rfl, rfl⟩
  have CF := Lib.hid (rread_b _ _ _ _ _ _ _ _ P8.out.rr A hA wd k1 k2)
  rw [HE.out.2.2.2.2.1, HE.out.2.2.2.2.2] at CF
  unfold strV at CF
  rw [HS.out] at CF
  clear CE
  go_wp2_with fail
  refine CF.out.mono ?_
  rintro e w8' ⟨rfl, rfl⟩
  have CEQ := fun W => cap_eqz C C W rfl
  clear CF q1 q2
  go_wp2_with (first | (refine wpList_load_all (by rfl) 38 (.tmp 12) rfl g5 rfl 38 C.cells _ A8.out Try.underlying38 rfl (HI8.out C) ?_) | (refine wpList_load_all (by rfl) 38 (.tmp 14) rfl g7 rfl 38 C.cells _ B8.out Try.underlying38 rfl (HI8.out C) ?_))
  go_ret
  exact ⟨bs, f, rfl, P8.out, (F0.out.trans0 F8.out).more (by simp), rfl⟩
theorem step_any (w : World) (ap p g bg cap r bb tb cb ct : Nat) (bs : List Nat) (f : Nat → Bool) (h : Pr w ap p g bg cap r bb tb cb ct bs f) (k : Int) (A : Nat) (hA : A < 4294967296) (wd : Int) (k1 : -9223372036854775808 ≤ wd) (k2 : wd ≤ 9223372036854775807) (v : Nat) (hv : v < 4294967296) (c : Cp) (hc : c.Ok) (l : List Nat) (hb : Byt l) (hl : l.length ≤ 9223372036854775807) :
    Calls Try.prog 13 #[.pointer (some ⟨ap, 0, none⟩), .pointer (some ⟨r, 0, none⟩), .agg (dc k A wd v c l)] w (stepPost w ap p g bg cap r bb tb cb ct bs.length) := by
  have hq := kind_lt k
  rcases (show kindOf k = 0 ∨ kindOf k = 1 ∨ kindOf k = 2 ∨ kindOf k = 3 ∨ kindOf k = 4 ∨ (kindOf k = 5 ∨ kindOf k = 6) by omega) with h0 | h0 | h0 | h0 | h0 | h0
  · exact step_0 w ap p g bg cap r bb tb cb ct bs f h k A hA wd k1 k2 v hv c hc l hb h0
  · exact step_1 w ap p g bg cap r bb tb cb ct bs f h k A hA wd k1 k2 v hv c hc l hb h0
  · exact step_2 w ap p g bg cap r bb tb cb ct bs f h k A hA wd k1 k2 v hv c hc l hb hl h0
  · exact step_3 w ap p g bg cap r bb tb cb ct bs f h k A hA wd k1 k2 v hv c hc l hb h0
  · exact step_4 w ap p g bg cap r bb tb cb ct bs f h k A hA wd k1 k2 v hv c hc l hb h0
  · exact step_5 w ap p g bg cap r bb tb cb ct bs f h k A hA wd k1 k2 v hv c hc l hb h0
end Go.Proofs.Ytilgklpponaoeaa
