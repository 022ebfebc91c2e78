/-
  The small check 'works' of layer 17. No condition.
-/




import Derived.Test.YtilgklpponaoeaaOf
set_option linter.unusedVariables false
namespace Go.Proofs.Ytilgklpponaoeaa
open Go.ChangeShapes Go.WideShapes Go.ChangeAt Go.RowKit
theorem ofC_is (a n : Nat) (h1 : a + n ≤ 4294967296) (h2 : n ≤ 2048) (h3 : a < 4294967296) : ofC a n = mkC a n 1 ∧ (ofC a n).base = a ∧ (ofC a n).v = true ∧ (ofC a n).cur = a := by
  obtain ⟨e1, e2⟩ := small_exact a (a + n) (by omega) (by omega)
  have hb : mkB a n 1 = true := by unfold mkB; rw [e2]; simp; omega
  have e : ofC a n = mkC a n 1 := if_pos hb
  refine ⟨e, ?_, ?_, ?_⟩
  · rw [e]; exact (dec_exact a (a + n) a (by omega) h1 h3 e2 (Nat.le_refl _) (by omega)).1
  · rw [e]; rfl
  · rw [e]; rfl
def fz : Nat → Bool := fun _ => false
def pf : Nat → Bool := newC 256 fz 256 64 true
theorem pf_ok : okC 256 fz 256 64 true = true := by decide +kernel
theorem pf_has : hasP 256 pf 256 = true ∧ hasP 256 pf 240 = false := by decide +kernel
set_option maxHeartbeats 1000000 in
set_option maxRecDepth 100000 in
theorem works_any (w : World) : Calls Try.prog 23 #[] w fun r w' => r = .returned (.bool true) ∧ Fr [] w w' := by
  obtain ⟨-, b1, v1, u1⟩ := ofC_is 256 64 (by omega) (by omega) (by omega)
  obtain ⟨-, b2, v2, u2⟩ := ofC_is 240 80 (by omega) (by omega) (by omega)
  have CO1 := Lib.hid fun W => of_anyC W 256 64 (by omega) (by omega)
  have CO2 := Lib.hid fun W => of_anyC W 240 80 (by omega) (by omega)
  generalize ofC 256 64 = c1 at *
  generalize ofC 240 80 = c2 at *
  have S1 := Lib.hid (show stB (hasP 256 pf) c1 = true by unfold stB; rw [v1, b1]; exact pf_has.1)
  have S2 := Lib.hid (show stB (hasP 256 pf) c2 = false by unfold stB; rw [v2, b2]; exact pf_has.2)
  have U1 := Lib.hid (show c1.cur < 4294967296 by omega)
  have U2 := Lib.hid (show c2.cur < 4294967296 by omega)
  have V2 := Lib.hid v2
  unfold Cp.cells at CO1 CO2
  clear b1 v1 u1 b2 v2 u2
  go_enter Try.func23, Try.ntmps23
  go_wp2_with fail
  refine (ptnew_any 256 _ (by omega)).mono ?_
  rintro e w1 ⟨pp, p, g, rfl, h1, hpp, hp, hg, hf1⟩
  go_wp2_with fail
  refine (ptadd_any _ pp p g 256 _ h1 256 64 (by omega) (by omega) (by omega) (by omega)).mono ?_
  rw [show okC 256 (fun _ => false) 256 64 true = true from pf_ok]
  rintro e w2 ⟨rfl, h2, hf2⟩
  have H2 := Lib.hid (show Hs w2.heap.size w2 (some ⟨pp, 0, none⟩) (hasP 256 pf) from Hs.of h2)
  have F2 := Lib.hid (hf1.trans hf2 (by simp; exact hg))
  clear h1 h2 hf1 hf2
  go_wp2_with fail
  refine (CO1.out _).mono ?_
  rintro e w3 ⟨rfl, hf3⟩
  have F3 := Lib.hid (F2.out.trans0 hf3)
  have G3 := Lib.hid hf3
  clear hf3
  go_wp2_with fail
  refine (CO2.out _).mono ?_
  rintro e w4 ⟨rfl, hf4⟩
  have F4 := Lib.hid (F3.out.trans0 hf4)
  have G4 := Lib.hid (G3.out.trans0 hf4)
  clear hf4
  go_wp2_with fail
  have A4 := At.new w4 38 (cat [c1, c2]).toArray
  have hfa : Fr [] w4 (w4.alloc (.cells (cat [c1, c2]).toArray 38)) := (by repeat (first | exact Fr.refl _ _ | assumption | refine Fr.trans0 ?_ (by assumption) | refine Fr.drewN ?_ _ | refine Fr.alloc ?_ _ | refine Fr.drew ?_))
  have hs4 := F4.out.size
  have hs2 := F2.out.size
  have hs24 := G4.out.size
  have CS := Lib.hid (scaps_any ((H2.out.fr G4.out (by simp)).fr hfa (by simp)) (by simp; omega) (some ⟨w4.heap.size, 0, none⟩) 2 [c1, c2] (.inr ⟨_, rfl, fun j v hv => by rw [Go.WideShapes.add_plain, Nat.zero_add, A4.cell, List.getElem?_toArray]; exact hv⟩) (by simp; exact ⟨U1.out, U2.out⟩) (by simp))
  have F5 := Lib.hid (F4.out.trans0 hfa)
  have G5 := Lib.hid (G4.out.trans0 hfa)
  have HS := Lib.hid (show sums (hasP 256 pf) [c1, c2] = 1 by unfold sums sOne; simp [S1.out, S2.out])
  have HM := Lib.hid (show [c1, c2].map (cln (hasP 256 pf)) = [c1.off, c2] by unfold cln; simp [S1.out, S2.out])
  rw [HS.out, HM.out] at CS
  clear hfa A4
  refine (CS.out).mono ?_
  rintro e w6 ⟨g6, rfl, h6, hg6, hf6⟩
  have F6 := Lib.hid (F5.out.trans0 hf6)
  have G6 := Lib.hid (G5.out.trans0 hf6)
  have A6 := Lib.hid h6
  clear CS HS HM h6 hf6 G5 F5
  go_wp2_with fail
  refine (CO1.out _).mono ?_
  rintro e w7 ⟨rfl, hf7⟩
  have hs6 := F6.out.size
  have hs26 := G6.out.size
  have hs7 := hf7.size
  have CT1 := Lib.hid (sstale_any (H2.out.fr (G6.out.trans0 hf7) (by simp)) (by omega) c1 U1.out)
  rw [S1.out] at CT1
  unfold Cp.cells at CT1
  have F7 := Lib.hid (F6.out.trans0 hf7)
  have G7 := Lib.hid (G6.out.trans0 hf7)
  have A7 := Lib.hid (A6.out.fr hf7 (by simp))
  clear hf7
  go_wp2_with fail
  refine (CT1.out).mono ?_
  rintro e w8 ⟨rfl, hf8⟩
  have F8 := Lib.hid (F7.out.trans0 hf8)
  have G8 := Lib.hid (G7.out.trans0 hf8)
  have A8 := Lib.hid (A7.out.fr hf8 (by simp))
  clear hf8 CT1
  go_wp2_with fail
  refine (CO2.out _).mono ?_
  rintro e w9 ⟨rfl, hf9⟩
  have hs9 := (G8.out.trans0 hf9).size
  have CT2 := Lib.hid (sstale_any (H2.out.fr (G8.out.trans0 hf9) (by simp)) hs9 c2 U2.out)
  rw [S2.out] at CT2
  unfold Cp.cells at CT2
  have F9 := Lib.hid (F8.out.trans0 hf9)
  have A9 := Lib.hid (A8.out.fr hf9 (by simp))
  clear hf9
  go_wp2_with fail
  refine (CT2.out).mono ?_
  rintro e w10 ⟨rfl, hf10⟩
  have F10 := Lib.hid (F9.out.trans0 hf10)
  have A10 := A9.out.fr hf10 (by simp)
  have d7 := (cat_cell A10 0 c1.off rfl).2.2.2.2.2.2.2
  have d15 := (cat_cell A10 1 c2 rfl).2.2.2.2.2.2.2
  rw [V2.out] at d15
  simp only [Nat.zero_mul, Nat.zero_add, Nat.one_mul, Nat.reduceAdd] at d7 d15
  change _ = some (Value.bool false) at d7
  clear hf10 CT2 A10
  go_wp2_with fail
  go_ret
  exact ⟨rfl, F10.out⟩
end Go.Proofs.Ytilgklpponaoeaa
