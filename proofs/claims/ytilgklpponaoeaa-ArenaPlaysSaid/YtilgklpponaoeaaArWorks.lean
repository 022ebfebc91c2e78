/-
  The arena and the small check of layer 6's statements. No condition.
-/





import Derived.Test.YtilgklpponaoeaaSub
import Derived.Test.YtilgklpponaoeaaMade
import Derived.Test.YtilgklpponaoeaaCells
import Derived.BigRegion
set_option linter.unusedVariables false
namespace Go.Proofs.Ytilgklpponaoeaa
open Go.ChangeShapes Go.WideShapes Go.ChangeAt Go.RowKit
theorem lmade_any (w : World) : Calls Try.prog 52 #[] w fun r w' => ∃ ap p g bg cap, r = .returned (.pointer (some ⟨ap, 0, none⟩)) ∧ Ar w' ap p g bg cap (List.replicate 4096 0) (fun _ => false) ∧ w.heap.size ≤ ap ∧ w.heap.size ≤ p ∧ w.heap.size ≤ g ∧ w.heap.size ≤ bg ∧ Fr [] w w' := by
  have C := Lib.hid (anew_any w 16 (by omega) (by omega))
  obtain ⟨B, hB⟩ : ∃ B, List.replicate (256 * 16) 0 = B := ⟨_, rfl⟩
  rw [show List.replicate 4096 0 = B from hB]
  rw [hB] at C
  clear hB
  go_enter Try.func52, Try.ntmps52
  go_wp2_with fail
  refine (C.out).mono ?_
  rintro e w2 ⟨ap, p, g, bg, cap, rfl, h2, h3, h4, h5, h6, hf⟩
  have H2 := Lib.hid h2
  clear h2
  go_wp2_with fail
  go_ret
  exact ⟨ap, p, g, bg, cap, rfl, H2.out, h3, h4, h5, h6, hf⟩
theorem wrF_false (bs : List Nat) (a : Nat) (l : List Nat) : wrF bs (fun _ => false) a l = fun _ => false := by
  unfold wrF putF clr
  split <;> rfl
theorem cap_eqz (a b : Cp) (w : World) (h : a = b) : (Op.equalIn 10000 38 (.agg a.cells) (.agg b.cells)).run Try.prog w = .ok true w := by
  subst h
  have u1 := Try.underlying35
  have u2 := Try.underlying5
  have u3 := Try.underlying36
  have u4 := Try.underlying4
  have a1 := Try.isAgg35
  have a2 := Try.isAgg5
  have a3 := Try.isAgg36
  have a4 := Try.isAgg4
  have z1 := Try.sizeOf35
  have z2 := Try.sizeOf5
  have z3 := Try.sizeOf36
  have z4 := Try.sizeOf4
  have hS : Try.prog.underlying 38 = some (.struct (Try.prog.fieldsOf 38)) := by kernel_rfl
  rw [show (10000 : Nat) = 9999 + 1 from rfl, run_equalIn_struct w 9999 38 _ _ hS (by kernel_rfl)]
  simp only [Program.fieldsOf, Try.underlying38]
  unfold Cp.cells
  go_simp
def wC : Cp := mkC 256 64 3
theorem wC_ok : wC.Ok ∧ wC.rs = 0 ∧ wC.v = true ∧ soundB wC = true ∧ mkB 256 64 3 = true := by
  refine ⟨⟨?_, ?_, ?_, ?_, ?_, ?_, ?_⟩, rfl, rfl, ?_, ?_⟩ <;> decide +kernel
/-- What the arena's states come to in the small check. -/
theorem states : ∃ (bs1 bs2 bs3 bs4 : List Nat) (f4 : Nat → Bool), bs1.length = 4096 ∧ bs2.length = 4096 ∧ bs3.length = 4096 ∧ bs4.length = 4096 ∧
    wrL (List.replicate 4096 0) 4094 (le 2 515) = bs1 ∧ wrF (List.replicate 4096 0) (fun _ => false) 4094 (le 2 515) = (fun _ => false) ∧
    wrL bs1 4095 (le 2 1) = bs2 ∧ wrF bs1 (fun _ => false) 4095 (le 2 1) = (fun _ => false) ∧ unle (sub bs2 4094 1) = 3 ∧
    wrL bs2 32 (bytesC wC) = bs3 ∧ stF bs2 (fun _ => false) 32 wC = upd (fun _ => false) 2 true ∧ ofB (sub bs3 32 16) true = wC ∧ tgP 4096 (upd (fun _ => false) 2 true) 0 = [32] ∧
    wrL bs3 47 (le 1 0) = bs4 ∧ wrF bs3 (upd (fun _ => false) 2 true) 47 (le 1 0) = f4 ∧ f4 2 = false ∧ tgP 4096 f4 0 = [] := by
  have l0 : (List.replicate 4096 0).length = 4096 := List.length_replicate
  have l1 : (wrL (List.replicate 4096 0) 4094 (le 2 515)).length = 4096 := by rw [wrL_len]; exact l0
  have l2 : (wrL (wrL (List.replicate 4096 0) 4094 (le 2 515)) 4095 (le 2 1)).length = 4096 := by rw [wrL_len]; exact l1
  have l3 : (wrL (wrL (wrL (List.replicate 4096 0) 4094 (le 2 515)) 4095 (le 2 1)) 32 (bytesC wC)).length = 4096 := by rw [wrL_len]; exact l2
  have l4 : (wrL (wrL (wrL (wrL (List.replicate 4096 0) 4094 (le 2 515)) 4095 (le 2 1)) 32 (bytesC wC)) 47 (le 1 0)).length = 4096 := by rw [wrL_len]; exact l3
  have e2 : wrL (wrL (List.replicate 4096 0) 4094 (le 2 515)) 4095 (le 2 1) = wrL (List.replicate 4096 0) 4094 (le 2 515) := by
    conv => lhs; unfold wrL
    rw [if_neg (by rw [show (le 2 1).length = 2 from rfl]; unfold wrL at l1; rw [l1]; omega)]
    rfl
  obtain ⟨bs1, h1⟩ : ∃ b, wrL (List.replicate 4096 0) 4094 (le 2 515) = b := ⟨_, rfl⟩
  have s1 : sub bs1 4094 1 = [3] := by
    rw [← h1]
    unfold wrL
    rw [if_pos (by rw [l0]; decide), sub_pre _ _ _ (by rw [l0]; decide) 1 (by decide)]
    rfl
  rw [h1] at l1 l2 l3 l4 e2
  rw [e2] at l2 l3 l4
  obtain ⟨bs3, h3⟩ : ∃ b, wrL bs1 32 (bytesC wC) = b := ⟨_, rfl⟩
  have s3 : sub bs3 32 16 = bytesC wC := by rw [← h3]; exact wrL_sub _ _ _ (by rw [bytesC_len, l1]; omega) 16 (by rw [bytesC_len])
  rw [h3] at l3 l4
  obtain ⟨bs4, h4⟩ : ∃ b, wrL bs3 47 (le 1 0) = b := ⟨_, rfl⟩
  rw [h4] at l4
  have hf4 : wrF bs3 (upd (fun _ => false) 2 true) 47 (le 1 0) = putF (upd (fun _ => false) 2 true) 47 1 := by
    unfold wrF
    rw [show (le 1 0).length = 1 from rfl, l3, if_pos (by omega)]
  refine ⟨bs1, bs1, bs3, bs4, _, l1, l1, l3, l4, h1, wrF_false _ _ _, e2, wrF_false _ _ _, by rw [s1]; rfl, h3, ?_, ?_, by decide, h4, hf4, by decide, by decide⟩
  · unfold stF
    rw [wrF_false, wC_ok.2.2.1, wC_ok.2.2.2.1]
    rfl
  · rw [s3, ofB_bytes wC wC_ok.1 true (by rw [wC_ok.2.1]; omega), wC_ok.2.2.2.1]
    rfl
set_option maxHeartbeats 2000000 in
set_option maxRecDepth 100000 in
theorem works_any (w : World) : Calls Try.prog 15 #[] w fun r w' => r = .returned (.bool true) ∧ Fr [] w w' := by
  obtain ⟨bs1, bs2, bs3, bs4, f4, l1, l2, l3, l4, e1, g1, e2, g2, v1, e3, g3, c3, t3, e4, g4, z4, t4⟩ := states
  obtain ⟨ok, hrs, hv, hsd, hmk⟩ := wC_ok
  have CL := Lib.hid (lmade_any w)
  have l0 : (List.replicate 4096 0).length = 4096 := List.length_replicate
  obtain ⟨B, hB⟩ : ∃ B, List.replicate 4096 0 = B := ⟨_, rfl⟩
  rw [hB] at CL e1 g1 l0
  have CM := Lib.hid fun W => (show Calls Try.prog 53 #[.agg #[.int .u32 (256 : Nat), .int .u32 (64 : Nat)], .int .u16 (3 : Nat)] W fun r w' => r = .returned (.tuple #[.agg wC.cells, .bool true]) ∧ Fr [] W w' from by
    have h := make_any W 256 64 3 (by omega) (by omega)
    rw [hmk] at h
    exact h)
  obtain ⟨C, hC⟩ : ∃ C, wC = C := ⟨_, rfl⟩
  rw [hC] at CM e3 g3 c3 ok hv
  have CS0 := Lib.hid fun W ap p g bg cap h => astore_any W ap p g bg cap B (fun _ => false) h 4094 (by omega) 2 515 (by omega) (by omega)
  have CS1 := Lib.hid fun W ap p g bg cap h => astore_any W ap p g bg cap bs1 (fun _ => false) h 4095 (by omega) 2 1 (by omega) (by omega)
  have CLd := Lib.hid fun W ap p g bg cap h => aload_yes W ap p g bg cap bs2 (fun _ => false) h 4094 1 (by omega) (by omega) (by rw [l2]; omega)
  have CSC := Lib.hid fun W ap p g bg cap h => astorec_yes W ap p g bg cap bs2 (fun _ => false) h 32 (by omega) (by rw [l2]; omega) C ok
  have CLC := Lib.hid fun W ap p g bg cap h => aloadc_yes W ap p g bg cap bs3 (upd (fun _ => false) 2 true) h 32 (by omega) (by rw [l3]; omega)
  have CT := Lib.hid fun W ap p g bg cap h => atagged_any W ap p g bg cap bs3 (upd (fun _ => false) 2 true) h 0
  have CS4 := Lib.hid fun W ap p g bg cap h => astore_any W ap p g bg cap bs3 (upd (fun _ => false) 2 true) h 47 (by omega) 1 0 (by omega) (by omega)
  have CLC4 := Lib.hid fun W ap p g bg cap h => aloadc_yes W ap p g bg cap bs4 f4 h 32 (by omega) (by rw [l4]; omega)
  have CT4 := Lib.hid fun W ap p g bg cap h => atagged_any W ap p g bg cap bs4 f4 h 0
  have CZ := Lib.hid fun W ap p g bg cap h => asize_any W ap p g bg cap B (fun _ => false) h
  rw [e1, g1, l0] at CS0
  rw [e2, g2, l1] at CS1
  rw [show (bs2.drop 4094).take 1 = sub bs2 4094 1 from rfl, v1] at CLd
  rw [e3, g3] at CSC
  rw [show (bs3.drop 32).take 16 = sub bs3 32 16 from rfl, show 32 / 16 = 2 from rfl, show upd (fun _ => false) 2 true 2 = true from rfl, c3] at CLC
  rw [l3, t3] at CT
  rw [e4, g4, l3] at CS4
  rw [show 32 / 16 = 2 from rfl, z4] at CLC4
  rw [l4, t4] at CT4
  rw [l0] at CZ
  obtain ⟨E, hE⟩ : ∃ E, ofB ((bs4.drop 32).take 16) false = E := ⟨_, rfl⟩
  have hEv : E.v = false := by rw [← hE]; rfl
  rw [hE] at CLC4
  have HEV := Lib.hid hEv
  have HCV := Lib.hid hv
  have HIC := Lib.hid (show ∀ c : Cp, (Try.prog.info? 38).map (·.size) = some c.cells.size from fun c => by kernel_rfl)
  have HCA := Lib.hid cellz_all
  have CEQ := fun W => cap_eqz C C W rfl
  clear l1 l2 l3 l4 e1 g1 e2 g2 v1 e3 g3 c3 t3 e4 g4 z4 t4 ok hrs hv hsd hmk hB hC hE hEv l0
  go_enter Try.func15, Try.ntmps15
  go_wp2_with fail
  refine (CL.out).mono ?_
  rintro e w2 ⟨ap, p, g, bg, cap, rfl, h2, p1, p2, p3, p4, hf2⟩
  have A2 := Lib.hid h2
  have F2 := Lib.hid hf2
  clear h2 hf2 CL
  go_wp2_with fail
  refine (CZ.out _ _ _ _ _ _ A2.out).mono ?_
  rintro e w' ⟨rfl, rfl⟩
  go_wp2_with fail
  refine (CS0.out _ _ _ _ _ _ A2.out).mono ?_
  rintro e w3 ⟨rfl, h3, hf3⟩
  have A3 := Lib.hid h3
  have F3 := Lib.hid (F2.out.trans hf3 (by simp; omega))
  clear h3 hf3 A2 F2
  go_wp2_with fail
  refine (CS1.out _ _ _ _ _ _ A3.out).mono ?_
  rintro e w4 ⟨rfl, h4, hf4⟩
  have A4 := Lib.hid h4
  have F4 := Lib.hid (F3.out.trans hf4 (by simp; omega))
  clear h4 hf4 A3 F3
  go_wp2_with fail
  refine (CLd.out _ _ _ _ _ _ A4.out).mono ?_
  rintro e w5 ⟨rfl, hf5⟩
  have A5 := Lib.hid (A4.out.fr0 hf5)
  have F5 := Lib.hid (F4.out.trans0 hf5)
  clear hf5 A4 F4
  go_wp2_with fail
  refine (CM.out _).mono ?_
  rintro e w6 ⟨rfl, hf6⟩
  have A6 := Lib.hid (A5.out.fr0 hf6)
  have F6 := Lib.hid (F5.out.trans0 hf6)
  clear hf6 A5 F5
  go_wp2_with (first
    | (refine wpList_store_all rfl 38 (.tmp 4) (.tmp 37) rfl _ C.cells rfl rfl 38 noC.cells (At.nw rfl) (HIC.out C) rfl (HCA.out C) ?_; intro w7 hA7 hF7)
    | (refine wpList_load_all rfl 38 (.tmp 4) rfl w6.heap.size rfl 38 C.cells _ hA7 Try.underlying38 rfl (HIC.out C) ?_))
  have hga : Fr [] w6 (w6.alloc (.cells noC.cells 38)) := (by repeat (first | exact Fr.refl _ _ | assumption | refine Fr.trans0 ?_ (by assumption) | refine Fr.drewN ?_ _ | refine Fr.alloc ?_ _ | refine Fr.drew ?_))
  have hl6 := A6.out.lt
  have A7 := Lib.hid ((A6.out.fr0 hga).fr hF7 (by simp; omega) (by simp; omega) (by simp; omega) (by simp; omega))
  have hs6 := F6.out.size
  have F7 := Lib.hid ((F6.out.trans0 hga).trans hF7 (by simp; omega))
  obtain ⟨q7, hq7⟩ : ∃ q, w6.heap.size = q := ⟨_, rfl⟩
  rw [hq7] at hA7 hl6 hs6 ⊢
  have Q7 := Lib.hid hA7
  clear hga hA7 hF7 hq7 A6 F6
  refine (CSC.out _ _ _ _ _ _ A7.out).mono ?_
  rintro e w8 ⟨rfl, h8, hf8⟩
  have A8 := Lib.hid h8
  have F8 := Lib.hid (F7.out.trans hf8 (by simp; omega))
  have Q8 := Lib.hid (Q7.out.fr hf8 (by simp; omega))
  clear h8 hf8 A7 F7 Q7
  go_wp2_with fail
  refine (CLC.out _ _ _ _ _ _ A8.out).mono ?_
  rintro e w9 ⟨rfl, hf9⟩
  have A9 := Lib.hid (A8.out.fr0 hf9)
  have F9 := Lib.hid (F8.out.trans0 hf9)
  have Q9 := Lib.hid (Q8.out.fr hf9 (by simp))
  clear hf9 A8 F8 Q8
  go_wp2_with (refine wpList_store_all rfl 38 (.tmp 7) (.tmp 45) rfl _ C.cells rfl rfl 38 noC.cells (At.nw rfl) (HIC.out C) rfl (HCA.out C) ?_; intro w10 hA10 hF10)
  have hga : Fr [] w9 (w9.alloc (.cells noC.cells 38)) := (by repeat (first | exact Fr.refl _ _ | assumption | refine Fr.trans0 ?_ (by assumption) | refine Fr.drewN ?_ _ | refine Fr.alloc ?_ _ | refine Fr.drew ?_))
  have hl9 := A9.out.lt
  have hq9 := Q9.out.lt
  have hs9 := F9.out.size
  have A10 := Lib.hid ((A9.out.fr0 hga).fr hF10 (by simp; omega) (by simp; omega) (by simp; omega) (by simp; omega))
  have F10 := Lib.hid ((F9.out.trans0 hga).trans hF10 (by simp; omega))
  have Q10 := Lib.hid ((Q9.out.fr hga (by simp)).fr hF10 (by simp; omega))
  obtain ⟨r10, hr10⟩ : ∃ q, w9.heap.size = q := ⟨_, rfl⟩
  rw [hr10] at hA10 hl9 hq9 hs9 ⊢
  have R10 := Lib.hid hA10
  clear hga hA10 hF10 hr10 A9 F9 Q9
  refine (CT.out _ _ _ _ _ _ A10.out).mono ?_
  rintro e w11 ⟨v11, rfl, ho11, hf11⟩
  obtain ⟨g11, c11, rfl, hc11, hg11, hgw11, hcl11, hfz11⟩ := own_open ho11 (by simp)
  have z11 := hcl11 0 (by simp)
  simp only [u32s, List.map_cons, List.map_nil, List.getElem?_cons_zero] at z11
  have A11 := Lib.hid (A10.out.fr0 hf11)
  have F11 := Lib.hid (F10.out.trans0 hf11)
  have Q11 := Lib.hid (Q10.out.fr hf11 (by simp))
  have R11 := Lib.hid (R10.out.fr hf11 (by simp))
  have Z11 := Lib.hid z11
  have hl10 := A10.out.lt
  have hr10l := R10.out.lt
  have hq10l := Q10.out.lt
  clear ho11 hf11 hcl11 hfz11 z11 A10 F10 Q10 R10
  go_wp2_with fail
  refine (CS4.out _ _ _ _ _ _ A11.out).mono ?_
  rintro e w12 ⟨rfl, h12, hf12⟩
  have A12 := Lib.hid h12
  have F12 := Lib.hid (F11.out.trans hf12 (by simp; omega))
  have Q12 := Lib.hid (Q11.out.fr hf12 (by simp; omega))
  have R12 := Lib.hid (R11.out.fr hf12 (by simp; omega))
  have Z12 := Lib.hid ((hf12.cell (a := ⟨g11, 0, none⟩) hgw11 (by simp; omega)).trans Z11.out)
  have hw12 := hf12.size
  clear h12 hf12 A11 F11 Q11 R11 Z11
  go_wp2_with fail
  refine (CLC4.out _ _ _ _ _ _ A12.out).mono ?_
  rintro e w13 ⟨rfl, hf13⟩
  have A13 := Lib.hid (A12.out.fr0 hf13)
  have F13 := Lib.hid (F12.out.trans0 hf13)
  have Q13 := Lib.hid (Q12.out.fr hf13 (by simp))
  have R13 := Lib.hid (R12.out.fr hf13 (by simp))
  have Z13 := Lib.hid ((hf13.cell (a := ⟨g11, 0, none⟩) (by show g11 < _; omega) (by simp)).trans Z12.out)
  have hw13 := hf13.size
  clear hf13 A12 F12 Q12 R12 Z12
  have hcv := HCV.out
  have hev := HEV.out
  go_wp2_with (first
    | (refine wpList_store_all rfl 38 (.tmp 10) (.tmp 54) rfl _ E.cells rfl rfl 38 noC.cells (At.nw rfl) (HIC.out E) rfl (HCA.out E) ?_; intro w14 hA14 hF14;
       have hga : Fr [] w13 (w13.alloc (.cells noC.cells 38)) := (by repeat (first | exact Fr.refl _ _ | assumption | refine Fr.trans0 ?_ (by assumption) | refine Fr.drewN ?_ _ | refine Fr.alloc ?_ _ | refine Fr.drew ?_));
       have hl13 := A13.out.lt; have hq13 := Q13.out.lt; have hr13 := R13.out.lt; have hs13 := F13.out.size;
       have A14 := Lib.hid ((A13.out.fr0 hga).fr hF14 (by simp; omega) (by simp; omega) (by simp; omega) (by simp; omega));
       have F14 := Lib.hid ((F13.out.trans0 hga).trans hF14 (by simp; omega));
       have Q14 := (Q13.out.fr hga (by simp)).fr hF14 (by simp; omega);
       have R14 := (R13.out.fr hga (by simp)).fr hF14 (by simp; omega);
       have z14 := ((hF14.cell (a := ⟨g11, 0, none⟩) (by simp; omega) (by simp; omega)).trans ((hga.cell (a := ⟨g11, 0, none⟩) (by show g11 < _; omega) (by simp)).trans Z13.out));
       have cv14 : w14.cell? ⟨q7, 7, none⟩ = some (.bool C.v) := Q14.cell 7;
       have ce14 : w14.cell? ⟨w13.heap.size, 7, none⟩ = some (.bool E.v) := hA14.cell 7;
       rw [hcv] at cv14; rw [hev] at ce14)
    | (refine wpList_load_all rfl 38 (.tmp 7) rfl r10 rfl 38 C.cells _ R14 Try.underlying38 rfl (HIC.out C) ?_)
    | (refine wpList_load_all rfl 38 (.tmp 4) rfl q7 rfl 38 C.cells _ Q14 Try.underlying38 rfl (HIC.out C) ?_))
  have hl14 := hA14.lt
  refine (CT4.out _ _ _ _ _ _ A14.out).mono ?_
  rintro e w15 ⟨v15, rfl, ho15, hf15⟩
  obtain ⟨a15, c15, rfl, hc15⟩ := own_slice ho15
  have ce15 := (hf15.cell (a := ⟨w13.heap.size, 7, none⟩) hl14 (by simp)).trans ce14
  have F15 := Lib.hid (F14.out.trans0 hf15)
  clear ho15 hf15
  go_wp2_with fail
  go_ret
  exact ⟨rfl, F15.out⟩
end Go.Proofs.Ytilgklpponaoeaa
