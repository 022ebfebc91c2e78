/-
  ScanKnown: the chapter's examples. Closed.
-/







import Derived.Test.YtilgklpponaoeaaKnBox
set_option linter.unusedVariables false
namespace Go.Proofs.Ytilgklpponaoeaa
open Go.ChangeShapes Go.WideShapes Go.ChangeAt Go.RowKit
theorem zf17 : zf.length = 17 := rfl
namespace scanKnown
set_option maxHeartbeats 16000000 in
set_option maxRecDepth 100000 in
theorem walk (w : World) : Calls Try.prog 5 #[] w fun e w' => e = .returned (.bool true) ∧ Fr [] w w' := by
  obtain ⟨ic, b1, v1, u1⟩ := ofC_is 256 64 (by omega) (by omega) (by omega)
  obtain ⟨id', b2, v2, u2⟩ := ofC_is 240 80 (by omega) (by omega) (by omega)
  obtain ⟨-, b3, v3, u3⟩ := ofC_is 272 0 (by omega) (by omega) (by omega)
  have CO1 := Lib.hid fun W => of_anyC W 256 64 (by omega) (by omega)
  have CO2 := Lib.hid fun W => of_anyC W 240 80 (by omega) (by omega)
  have CO3 := Lib.hid fun W => of_anyC W 272 0 (by omega) (by omega)
  have kc := kc_ok
  have kd := kd_ok
  rw [← ic] at kc
  rw [← id'] at kd
  clear ic id'
  obtain ⟨c, hc⟩ : ∃ c, ofC 256 64 = c := ⟨_, rfl⟩
  obtain ⟨d, hd⟩ : ∃ d, ofC 240 80 = d := ⟨_, rfl⟩
  obtain ⟨x, hx⟩ : ∃ x, ofC 272 0 = x := ⟨_, rfl⟩
  rw [hc] at b1 v1 u1 CO1 kc
  rw [hd] at b2 v2 u2 CO2 kd
  rw [hx] at b3 v3 u3 CO3
  clear hc hd hx
  obtain ⟨hs, hhs⟩ : ∃ hs, hasP 256 pf = hs := ⟨_, rfl⟩
  have pfh := pf_has
  have pfh2 := pf_has2
  rw [hhs] at pfh pfh2
  have S1 := Lib.hid (show stB hs c = true by unfold stB; rw [v1, b1]; exact pfh.1)
  have S2 := Lib.hid (show stB hs d = false by unfold stB; rw [v2, b2]; exact pfh.2)
  have S3 := Lib.hid (show stB hs x = true by unfold stB; rw [v3, b3]; exact pfh2)
  have S4 := Lib.hid (show stB hs c.off = false by rfl)
  have U1 := Lib.hid (show c.cur < 4294967296 by omega)
  have U2 := Lib.hid (show d.cur < 4294967296 by omega)
  have U3 := Lib.hid (show x.cur < 4294967296 by omega)
  have HV1 := Lib.hid v1
  have HHS := Lib.hid hhs
  have G2 := Lib.hid (show Good2 c d hs from ⟨kc.1, kd.1, kc.2.1, kd.2.1, v1, v2, kc.2.2, kd.2.2, S1.out, S2.out⟩)
  have HOC := Lib.hid kc.1
  have HOD := Lib.hid kd.1
  have HIC := Lib.hid (fun c : Cp => (show (Try.prog.info? 38).map (·.size) = some c.cells.size from infoCapZ))
  clear b1 v1 u1 b2 v2 u2 b3 v3 u3 kc kd pfh pfh2 hhs
  have hz := fun w => zeroFrame w
  obtain ⟨Z, hZ⟩ : ∃ Z, (cat zf).toArray = Z := ⟨_, rfl⟩
  rw [hZ] at hz
  have HZ := Lib.hid hZ
  clear hZ
  go_enter Try.func5, Try.ntmps5
  go_wp2_with fail
  refine (ptnew_any 256 _ (by omega)).mono ?_
  rintro e w1 ⟨pp, p0, g0, rfl, h1, hpp, hp, hg, hf1⟩
  have P1 := Lib.hid h1
  have F1 := Lib.hid hf1
  have hB0 := hf1.size
  obtain ⟨hl1, hl2, hl3⟩ := h1.lt
  clear h1 hf1
  go_wp2_with fail
  refine (anew_any _ 16 (by omega) (by omega)).mono ?_
  rintro e w2 ⟨ap, p, g, bg, cap, rfl, ha, n1, n2, n3, n4, hf2⟩
  have A2 := Lib.hid ha
  have P2 := P1.out.fr hf2 (by simp) (by simp) (by simp)
  have F2 := Lib.hid (F1.out.trans0 hf2)
  have hs2 := hf2.size
  obtain ⟨hla, hlp, hlg, hlb⟩ := ha.lt
  clear ha hf2 P1 F1
  go_wp2_with fail
  refine (ptadd_any _ pp p0 g0 256 _ P2 256 64 (by omega) (by omega) (by omega) (by omega)).mono ?_
  rw [show okC 256 (fun _ => false) 256 64 true = true from pf_ok]
  rintro e w3 ⟨rfl, h3, hf3⟩
  have H3 : Hid (Hs w1.heap.size w3 (some ⟨pp, 0, none⟩) hs) := Lib.hid (.inr ⟨pp, p0, g0, 256, pf, rfl, h3, HHS.out.symm, hl1, hl2, hl3⟩)
  have A3 := Lib.hid (A2.out.fr hf3 (by simp; omega) (by simp; omega) (by simp; omega) (by simp; omega))
  have F3 := Lib.hid (F2.out.trans hf3 (by simp; omega))
  have hs3 := hf3.size
  clear h3 hf3 P2 A2 F2
  obtain ⟨B, hB⟩ : ∃ B, w1.heap.size = B := ⟨_, rfl⟩
  rw [hB] at H3 hs2 n1 n2 n3 n4 hB0
  have HL0 := Lib.hid (show (List.replicate (256 * 16) 0).length = 4096 by simp)
  obtain ⟨bs0, hbs0⟩ : ∃ bs, List.replicate (256 * 16) 0 = bs := ⟨_, rfl⟩
  rw [hbs0] at HL0 A3
  clear hB hbs0
  go_wp2_with fail
  refine (CO1.out _).mono ?_
  rintro e w4 ⟨rfl, hf4⟩
  go_wp2_with fail
  refine (CO2.out _).mono ?_
  rintro e w5 ⟨rfl, hf5⟩
  go_wp2_with fail
  refine (CO3.out _).mono ?_
  rintro e w6 ⟨rfl, hf6⟩
  have F36 := Lib.hid ((hf4.trans0 hf5).trans0 hf6)
  have hs6 := F36.out.size
  clear hf4 hf5 hf6 CO1 CO2 CO3
  go_upto_region 6 with (first | (refine wpList_store_all (by rfl) 38 (.tmp 4) (.tmp 36) rfl w6.heap.size c.cells rfl rfl 38 noC.cells (((At.nw rfl).old _).old _) (HIC.out c) rfl (cellz_all c) ?_; intro x1 hx1 fx1) | (refine wpList_store_all (by rfl) 38 (.tmp 5) (.tmp 37) rfl (w6.heap.size + 1) d.cells rfl rfl 38 noC.cells (((At.nw (by simp only [World.size_alloc])).old _).fr fx1 (by simp <;> omega)) (HIC.out d) rfl (cellz_all d) ?_; intro x2 hx2 fx2) | (refine wpList_store_all (by rfl) 38 (.tmp 6) (.tmp 38) rfl (w6.heap.size + 1 + 1) x.cells rfl rfl 38 noC.cells (((At.nw (by simp only [World.size_alloc])).fr fx1 (by simp <;> omega)).fr fx2 (by simp <;> omega)) (HIC.out x) rfl (cellz_all x) ?_; intro x3 hx3 fx3))
  have B4 := Lib.hid ((hx1.fr fx2 (by simp <;> omega)).fr fx3 (by simp <;> omega))
  have B5 := Lib.hid (hx2.fr fx3 (by simp <;> omega))
  have B6 := Lib.hid hx3
  have F63 := Lib.hid ((((F36.out.alloc (.cells noC.cells 38)).alloc (.cells noC.cells 38)).alloc (.cells noC.cells 38)).trans (((fx1.more (T := [w6.heap.size, w6.heap.size + 1, w6.heap.size + 1 + 1]) (by simp)).trans fx2 (by simp)).trans fx3 (by simp)) (by simp; omega))
  have hl6 := hx3.lt
  clear hx1 hx2 hx3 fx1 fx2 fx3 F36
  obtain ⟨q4, hq4⟩ : ∃ q, w6.heap.size = q := ⟨_, rfl⟩
  rw [hq4] at B4 B5 B6 hs6 hl6 ⊢
  clear hq4
  go_upto_region 7 with (first | (refine wpList_load_all (by rfl) 38 (.tmp 4) rfl q4 rfl 38 c.cells _ B4.out Try.underlying38 rfl (HIC.out c) ?_) | (refine wpList_store_all (by rfl) 38 (.tmp 7) (.tmp 39) rfl _ c.cells rfl rfl 38 noC.cells (At.nw rfl) (HIC.out c) rfl (cellz_all c) ?_; intro x4 hx4 fx4))
  have f34 := (Fr.refl [] x3).alloc (.cells noC.cells 38)
  have C4 := (B4.out.fr f34 (by simp)).fr fx4 (by simp; omega)
  have C5 := (B5.out.fr f34 (by simp)).fr fx4 (by simp; omega)
  have C6 := (B6.out.fr f34 (by simp)).fr fx4 (by simp; omega)
  have F64 := F63.out.trans (f34.trans fx4 (by simp)) (by simp)
  have c7 := hx4.cell 7
  have z7 := hx4.froz 7
  unfold Cp.cells at c7
  simp only [List.getElem?_toArray, List.getElem?_cons_zero, List.getElem?_cons_succ] at c7
  obtain ⟨q7, hq7⟩ : ∃ q, x3.heap.size = q := ⟨_, rfl⟩
  rw [hq7] at hx4 c7 z7 hl6 ⊢
  have D7 : At (x4.setCell ⟨q7, 7, none⟩ (.bool false)) q7 38 c.off.cells := hx4.set 7 (.bool false)
  have f45 : Fr [q7] x4 (x4.setCell ⟨q7, 7, none⟩ (.bool false)) := (Fr.refl _ _).set (.inl (by simp)) _
  have hgq : g < q4 ∧ bg < q4 := by omega
  have K : Hid (Kx w (x4.setCell ⟨q7, 7, none⟩ (.bool false)) B q4 pp hs ap p g bg cap bs0 (fun _ => false) c d x c.off q4 (q4 + 1) (q4 + 1 + 1) q7) := Lib.hid ⟨(F3.out.trans0 F64).trans f45 (by simp; omega), (H3.out.fr F64 (by simp)).fr f45 (by simp; omega), by have := F64.size; simp; omega, (A3.out.fr0 F64).fr f45 (by simp; omega) (by simp; omega) (by simp; omega) (by simp; omega), C4.fr f45 (by simp; omega), C5.fr f45 (by simp; omega), C6.fr f45 (by simp; omega), D7, hB0, n3, n4, hgq.1, hgq.2, Nat.le_refl _, by omega, by omega, by omega⟩
  obtain ⟨x5, hx5⟩ : ∃ W, x4.setCell ⟨q7, 7, none⟩ (.bool false) = W := ⟨_, rfl⟩
  rw [hx5] at K
  have HX5 := Lib.hid hx5
  obtain ⟨q5, hq5⟩ : ∃ q, q4 + 1 = q := ⟨_, rfl⟩
  rw [hq5] at K
  obtain ⟨q6, hq6⟩ : ∃ q, q5 + 1 = q := ⟨_, rfl⟩
  rw [hq6] at K
  have HQ5 := Lib.hid hq5
  have HQ6 := Lib.hid hq6
  have HQ7 := Lib.hid hq7
  clear C4 C5 C6 D7 f45 f34 F64 hq5 hq6 hx5 hq7 B4 B5 B6 hx4 fx4 H3 A3 F3 F63
  have CSc := Lib.hid fun W (h : Hs B W (some ⟨pp, 0, none⟩) hs) (hB : B ≤ W.heap.size) => (show Calls Try.prog 27 #[.agg c.cells, .pointer (some ⟨pp, 0, none⟩)] W fun r w' => r = .returned (.bool true) ∧ Fr [] W w' from by have := sstale_any h hB c U1.out; rw [S1.out] at this; exact this)
  have CSd := Lib.hid fun W (h : Hs B W (some ⟨pp, 0, none⟩) hs) (hB : B ≤ W.heap.size) => (show Calls Try.prog 27 #[.agg d.cells, .pointer (some ⟨pp, 0, none⟩)] W fun r w' => r = .returned (.bool false) ∧ Fr [] W w' from by have := sstale_any h hB d U2.out; rw [S2.out] at this; exact this)
  have CSx := Lib.hid fun W (h : Hs B W (some ⟨pp, 0, none⟩) hs) (hB : B ≤ W.heap.size) => (show Calls Try.prog 27 #[.agg x.cells, .pointer (some ⟨pp, 0, none⟩)] W fun r w' => r = .returned (.bool true) ∧ Fr [] W w' from by have := sstale_any h hB x U3.out; rw [S3.out] at this; exact this)
  have CSn := Lib.hid fun W (h : Hs B W (some ⟨pp, 0, none⟩) hs) (hB : B ≤ W.heap.size) => (show Calls Try.prog 27 #[.agg c.off.cells, .pointer (some ⟨pp, 0, none⟩)] W fun r w' => r = .returned (.bool false) ∧ Fr [] W w' from by have := sstale_any h hB c.off U1.out; rw [S4.out] at this; exact this)
  have CS0 := Lib.hid fun W => (show Calls Try.prog 27 #[.agg c.cells, .pointer none] W fun r w' => r = .returned (.bool false) ∧ Fr [] W w' from by have := sstale_any (Hs.nil 0 W) (Nat.zero_le _) c U1.out; unfold stB nohs at this; rw [Bool.and_false] at this; exact this)
  obtain ⟨n, hn⟩ : ∃ n, c.off = n := ⟨_, rfl⟩
  rw [hn] at K CSn
  have HN := Lib.hid hn
  clear hn
  go_upto_region 8 with (fail)
  rw [HQ5.out, HQ6.out, HX5.out]
  go_wp2_with (first | (refine wpList_load_all (by rfl) 38 (.tmp 4) rfl q4 rfl 38 c.cells _ K.out.a4 Try.underlying38 rfl (HIC.out c) ?_) | (refine wpList_load_all (by rfl) 38 (.tmp 5) rfl q5 rfl 38 d.cells _ K.out.a5 Try.underlying38 rfl (HIC.out d) ?_) | (refine wpList_load_all (by rfl) 38 (.tmp 6) rfl q6 rfl 38 x.cells _ K.out.a6 Try.underlying38 rfl (HIC.out x) ?_) | (refine wpList_load_all (by rfl) 38 (.tmp 7) rfl q7 rfl 38 n.cells _ K.out.a7 Try.underlying38 rfl (HIC.out n) ?_)); refine (CSc.out _ K.out.H K.out.hB).mono ?_; rintro e wn ⟨rfl, hf⟩; replace K := Lib.hid (K.out.fr0 hf); clear hf
  go_wp2_with (first | (refine wpList_load_all (by rfl) 38 (.tmp 4) rfl q4 rfl 38 c.cells _ K.out.a4 Try.underlying38 rfl (HIC.out c) ?_) | (refine wpList_load_all (by rfl) 38 (.tmp 5) rfl q5 rfl 38 d.cells _ K.out.a5 Try.underlying38 rfl (HIC.out d) ?_) | (refine wpList_load_all (by rfl) 38 (.tmp 6) rfl q6 rfl 38 x.cells _ K.out.a6 Try.underlying38 rfl (HIC.out x) ?_) | (refine wpList_load_all (by rfl) 38 (.tmp 7) rfl q7 rfl 38 n.cells _ K.out.a7 Try.underlying38 rfl (HIC.out n) ?_)); refine (CSd.out _ K.out.H K.out.hB).mono ?_; rintro e wn ⟨rfl, hf⟩; replace K := Lib.hid (K.out.fr0 hf); clear hf
  go_wp2_with (first | (refine wpList_load_all (by rfl) 38 (.tmp 4) rfl q4 rfl 38 c.cells _ K.out.a4 Try.underlying38 rfl (HIC.out c) ?_) | (refine wpList_load_all (by rfl) 38 (.tmp 5) rfl q5 rfl 38 d.cells _ K.out.a5 Try.underlying38 rfl (HIC.out d) ?_) | (refine wpList_load_all (by rfl) 38 (.tmp 6) rfl q6 rfl 38 x.cells _ K.out.a6 Try.underlying38 rfl (HIC.out x) ?_) | (refine wpList_load_all (by rfl) 38 (.tmp 7) rfl q7 rfl 38 n.cells _ K.out.a7 Try.underlying38 rfl (HIC.out n) ?_)); refine (CSx.out _ K.out.H K.out.hB).mono ?_; rintro e wn ⟨rfl, hf⟩; replace K := Lib.hid (K.out.fr0 hf); clear hf
  go_wp2_with (first | (refine wpList_load_all (by rfl) 38 (.tmp 4) rfl q4 rfl 38 c.cells _ K.out.a4 Try.underlying38 rfl (HIC.out c) ?_) | (refine wpList_load_all (by rfl) 38 (.tmp 5) rfl q5 rfl 38 d.cells _ K.out.a5 Try.underlying38 rfl (HIC.out d) ?_) | (refine wpList_load_all (by rfl) 38 (.tmp 6) rfl q6 rfl 38 x.cells _ K.out.a6 Try.underlying38 rfl (HIC.out x) ?_) | (refine wpList_load_all (by rfl) 38 (.tmp 7) rfl q7 rfl 38 n.cells _ K.out.a7 Try.underlying38 rfl (HIC.out n) ?_)); refine (CSn.out _ K.out.H K.out.hB).mono ?_; rintro e wn ⟨rfl, hf⟩; replace K := Lib.hid (K.out.fr0 hf); clear hf
  go_wp2_with (first | (refine wpList_load_all (by rfl) 38 (.tmp 4) rfl q4 rfl 38 c.cells _ K.out.a4 Try.underlying38 rfl (HIC.out c) ?_) | (refine wpList_load_all (by rfl) 38 (.tmp 5) rfl q5 rfl 38 d.cells _ K.out.a5 Try.underlying38 rfl (HIC.out d) ?_) | (refine wpList_load_all (by rfl) 38 (.tmp 6) rfl q6 rfl 38 x.cells _ K.out.a6 Try.underlying38 rfl (HIC.out x) ?_) | (refine wpList_load_all (by rfl) 38 (.tmp 7) rfl q7 rfl 38 n.cells _ K.out.a7 Try.underlying38 rfl (HIC.out n) ?_)); refine (CS0.out _).mono ?_; rintro e wn ⟨rfl, hf⟩; replace K := Lib.hid (K.out.fr0 hf); clear hf
  have HSU := Lib.hid (show sums hs [c, d, x] = 2 by unfold sums sOne; simp [S1.out, S2.out, S3.out])
  have HMP := Lib.hid (show [c, d, x].map (cln hs) = [n, d, x.off] by unfold cln; simp [S1.out, S2.out, S3.out, HN.out])
  go_upto_region 10 with (fail)
  obtain ⟨wa, hwa⟩ : ∃ W, wn = W := ⟨_, rfl⟩
  subst hwa
  go_wp2_with (first | (first | (refine wpList_load_all (by rfl) 38 (.tmp 4) rfl q4 rfl 38 c.cells _ K.out.a4 Try.underlying38 rfl (HIC.out c) ?_) | (refine wpList_load_all (by rfl) 38 (.tmp 5) rfl q5 rfl 38 d.cells _ K.out.a5 Try.underlying38 rfl (HIC.out d) ?_) | (refine wpList_load_all (by rfl) 38 (.tmp 6) rfl q6 rfl 38 x.cells _ K.out.a6 Try.underlying38 rfl (HIC.out x) ?_) | (refine wpList_load_all (by rfl) 38 (.tmp 7) rfl q7 rfl 38 n.cells _ K.out.a7 Try.underlying38 rfl (HIC.out n) ?_)) | (refine wpList_buildSlice rfl 73 3 _ _ _ _ (built3 _ c d x) rfl (by simp [go_sem]) ?_))
  have KA := K.out.fr0 ((Fr.refl [] _).alloc (.cells (cat [c, d, x]).toArray 38))
  have AL := fun W => At.new W 38 (cat [c, d, x]).toArray
  refine (scaps_any KA.H KA.hB (some ⟨_, 0, none⟩) 3 [c, d, x] (.inr ⟨_, rfl, fun j v hv => by rw [Go.WideShapes.add_plain, Nat.zero_add, (AL _).cell, List.getElem?_toArray]; exact hv⟩) (by simp; exact ⟨U1.out, U2.out, U3.out⟩) (by simp)).mono ?_
  rw [HSU.out, HMP.out]
  rintro e w10 ⟨g10, rfl, h10, hg10, hf10⟩
  replace K := Lib.hid (KA.fr0 hf10)
  have L10 := Lib.hid h10
  have XO := Lib.hid fun W (hW : Fr [] w10 W) => (show W.cell? ⟨g10, 23, none⟩ = some (.bool false) from by
    have := (cat_cell (h10.fr hW (by simp)) 2 x.off rfl).2.2.2.2.2.2.2
    exact this)
  have EQn : ∀ w : World, (Op.equalIn 10000 38 (.agg n.cells) (.agg n.cells)).run Try.prog w = .ok true w := fun w => by rw [cap_eq, eqC_self]
  have EQd : ∀ w : World, (Op.equalIn 10000 38 (.agg d.cells) (.agg d.cells)).run Try.prog w = .ok true w := fun w => by rw [cap_eq, eqC_self]
  have HEn := Lib.hid EQn
  have HEd := Lib.hid EQd
  clear KA AL h10 hg10 hf10 HSU HMP
  go_wp2_with fail
  refine wp_region_L (fun W => Fr [] w10 W) [] (by kernel_rfl) ((Fr.refl _ _).drew) (fun hHeld => ?_)
  refine wpAnyL_take (i := 0) (v := ?_) rfl (by kernel_rfl) (fun _ _ _ h => h) (Or.inl ⟨by rfl, ?_⟩) (by assumption) ?_; rotate_left; (focus (intro w hSw; skip; go_simp; (try with_reducible rfl))); (try (refine wpAnyL_norm (by simp only [Act.put, List.setIfInBounds_toArray, List.set_cons_zero, List.set_cons_succ]; rfl) ?_))
  refine wpAnyL_take (i := 1) (v := ?_) rfl (by kernel_rfl) (fun _ _ _ h => h) (Or.inl ⟨by rfl, ?_⟩) (by assumption) ?_; rotate_left; (focus (intro w hSw; skip; go_simp; (try with_reducible rfl))); (try (refine wpAnyL_norm (by simp only [Act.put, List.setIfInBounds_toArray, List.set_cons_zero, List.set_cons_succ]; rfl) ?_))
  refine wpAnyL_take (i := 2) (v := ?_) rfl (by kernel_rfl) (fun _ _ _ h => h) (Or.inl ⟨by rfl, ?_⟩) (by assumption) ?_; rotate_left; (focus (intro w hSw; skip; go_simp; (try with_reducible rfl))); (try (refine wpAnyL_norm (by simp only [Act.put, List.setIfInBounds_toArray, List.set_cons_zero, List.set_cons_succ]; rfl) ?_))
  refine wpAnyL_take (i := 3) (v := ?_) rfl (by kernel_rfl) (fun _ _ _ h => h) (Or.inl ⟨by rfl, ?_⟩) (by assumption) ?_; rotate_left; (focus (intro w hSw; skip; go_simp; (try with_reducible rfl))); (try (refine wpAnyL_norm (by simp only [Act.put, List.setIfInBounds_toArray, List.set_cons_zero, List.set_cons_succ]; rfl) ?_))
  refine wpAnyL_take (i := 4) (v := ?_) rfl (by kernel_rfl) (fun _ _ _ h => h) (Or.inl ⟨by rfl, ?_⟩) (by assumption) ?_; rotate_left; (focus (intro w hSw; skip; go_simp; (try with_reducible rfl))); (try (refine wpAnyL_norm (by simp only [Act.put, List.setIfInBounds_toArray, List.set_cons_zero, List.set_cons_succ]; rfl) ?_))
  refine wpAnyL_take (i := 5) (v := ?_) rfl (by kernel_rfl) (fun _ _ _ h => h) (Or.inl ⟨by rfl, ?_⟩) (by assumption) ?_; rotate_left; (focus (intro w hSw; skip; go_simp; (try with_reducible rfl))); (try (refine wpAnyL_norm (by simp only [Act.put, List.setIfInBounds_toArray, List.set_cons_zero, List.set_cons_succ]; rfl) ?_))
  refine wpAnyL_take (i := 6) (v := ?_) rfl (by kernel_rfl) (fun _ _ _ h => h) (Or.inl ⟨by rfl, ?_⟩) (by assumption) ?_; rotate_left; (focus (intro w hSw; skip; go_simp; (try with_reducible rfl))); (try (refine wpAnyL_norm (by simp only [Act.put, List.setIfInBounds_toArray, List.set_cons_zero, List.set_cons_succ]; rfl) ?_))
  refine wpAnyL_take (i := 7) (v := ?_) rfl (by kernel_rfl) (fun _ _ _ h => h) (Or.inl ⟨by rfl, ?_⟩) (by assumption) ?_; rotate_left; (focus (intro w hSw; skip; go_simp; (try with_reducible rfl))); (try (refine wpAnyL_norm (by simp only [Act.put, List.setIfInBounds_toArray, List.set_cons_zero, List.set_cons_succ]; rfl) ?_))
  refine wpAnyL_take (i := 8) (v := ?_) rfl (by kernel_rfl) (fun _ _ _ h => h) (Or.inl ⟨by rfl, ?_⟩) (by assumption) ?_; rotate_left; (focus (intro w hSw; skip; go_simp; (try with_reducible rfl))); (try (refine wpAnyL_norm (by simp only [Act.put, List.setIfInBounds_toArray, List.set_cons_zero, List.set_cons_succ]; rfl) ?_))
  refine wpAnyL_take (i := 9) (v := ?_) rfl (by kernel_rfl) (fun _ _ _ h => h) (Or.inl ⟨by rfl, ?_⟩) (by assumption) ?_; rotate_left; (focus (intro w hSw; skip; go_simp; (try with_reducible rfl))); (try (refine wpAnyL_norm (by simp only [Act.put, List.setIfInBounds_toArray, List.set_cons_zero, List.set_cons_succ]; rfl) ?_))
  refine wpAnyL_take (i := 10) rfl (by kernel_rfl) (fun _ _ _ h => h) (yields_load_cap (.tmp 83) rfl g10 0 rfl 38 [n, d, x.off] (fun W h => L10.out.fr h (by simp)) 0 rfl n rfl rfl) (by assumption) ?_; (try (refine wpAnyL_norm (by simp only [Act.put, List.setIfInBounds_toArray, List.set_cons_zero, List.set_cons_succ]; rfl) ?_))
  refine wpAnyL_take (i := 11) rfl (by kernel_rfl) (fun _ _ _ h => h) (yields_load_cp (.tmp 7) rfl q7 rfl 38 n (fun W h => (K.out.fr0 h).a7) rfl) (by assumption) ?_; (try (refine wpAnyL_norm (by simp only [Act.put, List.setIfInBounds_toArray, List.set_cons_zero, List.set_cons_succ]; rfl) ?_))
  refine wpAnyL_take (i := 12) (v := ?_) rfl (by kernel_rfl) (fun _ _ _ h => h) (Or.inl ⟨by rfl, ?_⟩) (by assumption) ?_; rotate_left; (focus (intro w hSw; skip; go_simp; (try with_reducible rfl))); (try (refine wpAnyL_norm (by simp only [Act.put, List.setIfInBounds_toArray, List.set_cons_zero, List.set_cons_succ]; rfl) ?_))
  refine wpAnyL_take (i := 13) (v := ?_) rfl (by kernel_rfl) (fun _ _ _ h => h) (Or.inl ⟨by rfl, ?_⟩) (by assumption) ?_; rotate_left; (focus (intro w hSw; skip; go_simp; (try with_reducible rfl))); (try (refine wpAnyL_norm (by simp only [Act.put, List.setIfInBounds_toArray, List.set_cons_zero, List.set_cons_succ]; rfl) ?_))
  refine wpAnyL_take (i := 14) (v := ?_) rfl (by kernel_rfl) (fun _ _ _ h => h) (Or.inl ⟨by rfl, ?_⟩) (by assumption) ?_; rotate_left; (focus (intro w hSw; skip; go_simp; (try with_reducible rfl))); (try (refine wpAnyL_norm (by simp only [Act.put, List.setIfInBounds_toArray, List.set_cons_zero, List.set_cons_succ]; rfl) ?_))
  refine wpAnyL_take (i := 15) (v := ?_) rfl (by kernel_rfl) (fun _ _ _ h => h) (Or.inl ⟨by rfl, ?_⟩) (by assumption) ?_; rotate_left; (focus (intro w hSw; skip; go_simp; (try with_reducible rfl))); (try (refine wpAnyL_norm (by simp only [Act.put, List.setIfInBounds_toArray, List.set_cons_zero, List.set_cons_succ]; rfl) ?_))
  refine wpAnyL_take (i := 16) (v := ?_) rfl (by kernel_rfl) (fun _ _ _ h => h) (Or.inl ⟨by rfl, ?_⟩) (by assumption) ?_; rotate_left; (focus (intro w hSw; skip; go_simp; (try with_reducible rfl))); (try (refine wpAnyL_norm (by simp only [Act.put, List.setIfInBounds_toArray, List.set_cons_zero, List.set_cons_succ]; rfl) ?_))
  refine wpAnyL_take (i := 17) rfl (by kernel_rfl) (fun _ _ _ h => h) (yields_load_cap (.tmp 90) rfl g10 8 rfl 38 [n, d, x.off] (fun W h => L10.out.fr h (by simp)) 1 rfl d rfl rfl) (by assumption) ?_; (try (refine wpAnyL_norm (by simp only [Act.put, List.setIfInBounds_toArray, List.set_cons_zero, List.set_cons_succ]; rfl) ?_))
  refine wpAnyL_take (i := 18) rfl (by kernel_rfl) (fun _ _ _ h => h) (yields_load_cp (.tmp 5) rfl q5 rfl 38 d (fun W h => (K.out.fr0 h).a5) rfl) (by assumption) ?_; (try (refine wpAnyL_norm (by simp only [Act.put, List.setIfInBounds_toArray, List.set_cons_zero, List.set_cons_succ]; rfl) ?_))
  refine wpAnyL_take (i := 19) (v := ?_) rfl (by kernel_rfl) (fun _ _ _ h => h) (Or.inl ⟨by rfl, ?_⟩) (by assumption) ?_; rotate_left; (focus (intro w hSw; skip; go_simp; (try with_reducible rfl))); (try (refine wpAnyL_norm (by simp only [Act.put, List.setIfInBounds_toArray, List.set_cons_zero, List.set_cons_succ]; rfl) ?_))
  refine wpAnyL_take (i := 20) (v := ?_) rfl (by kernel_rfl) (fun _ _ _ h => h) (Or.inl ⟨by rfl, ?_⟩) (by assumption) ?_; rotate_left; (focus (intro w hSw; skip; go_simp; (try with_reducible rfl))); (try (refine wpAnyL_norm (by simp only [Act.put, List.setIfInBounds_toArray, List.set_cons_zero, List.set_cons_succ]; rfl) ?_))
  refine wpAnyL_take (i := 21) (v := ?_) rfl (by kernel_rfl) (fun _ _ _ h => h) (Or.inl ⟨by rfl, ?_⟩) (by assumption) ?_; rotate_left; (focus (intro w hSw; skip; go_simp; (try with_reducible rfl))); (try (refine wpAnyL_norm (by simp only [Act.put, List.setIfInBounds_toArray, List.set_cons_zero, List.set_cons_succ]; rfl) ?_))
  refine wpAnyL_take (i := 22) (v := ?_) rfl (by kernel_rfl) (fun _ _ _ h => h) (Or.inl ⟨by rfl, ?_⟩) (by assumption) ?_; rotate_left; (focus (intro w hSw; skip; go_simp; (try with_reducible rfl))); (try (refine wpAnyL_norm (by simp only [Act.put, List.setIfInBounds_toArray, List.set_cons_zero, List.set_cons_succ]; rfl) ?_))
  refine wpAnyL_take (i := 23) (v := ?_) rfl (by kernel_rfl) (fun _ _ _ h => h) (Or.inl ⟨by rfl, ?_⟩) (by assumption) ?_; rotate_left; (focus (intro w hSw; skip; go_simp; (try with_reducible rfl))); (try (refine wpAnyL_norm (by simp only [Act.put, List.setIfInBounds_toArray, List.set_cons_zero, List.set_cons_succ]; rfl) ?_))
  refine wpAnyL_take (i := 24) (v := ?_) rfl (by kernel_rfl) (fun _ _ _ h => h) (Or.inl ⟨by rfl, ?_⟩) (by assumption) ?_; rotate_left; (focus (intro w hSw; skip; go_simp; (try with_reducible rfl))); (try (refine wpAnyL_norm (by simp only [Act.put, List.setIfInBounds_toArray, List.set_cons_zero, List.set_cons_succ]; rfl) ?_))
  refine wpAnyL_take (i := 25) (v := ?_) rfl (by kernel_rfl) (fun _ _ _ h => h) (Or.inl ⟨by rfl, ?_⟩) (by assumption) ?_; rotate_left; (focus (intro w hSw; (have cc := XO.out _ hSw); go_simp; (try with_reducible rfl))); (try (refine wpAnyL_norm (by simp only [Act.put, List.setIfInBounds_toArray, List.set_cons_zero, List.set_cons_succ]; rfl) ?_))
  refine wpAnyL_take (i := 26) (v := ?_) rfl (by kernel_rfl) (fun _ _ _ h => h) (Or.inl ⟨by rfl, ?_⟩) (by assumption) ?_; rotate_left; (focus (intro w hSw; skip; go_simp; (try with_reducible rfl))); (try (refine wpAnyL_norm (by simp only [Act.put, List.setIfInBounds_toArray, List.set_cons_zero, List.set_cons_succ]; rfl) ?_))
  refine wpAnyL_done (by kernel_rfl) ?_ _
  replace K := Lib.hid (K.out.fr0 hHeld)
  clear hHeld L10 XO
  go_upto_region 13 with (fail)
  obtain ⟨wd, hwd⟩ : ∃ W, w10.drew = W := ⟨_, rfl⟩
  rw [hwd] at K ⊢
  clear hwd
  go_upto_region 14 with (fail)
  have f0 := (Fr.refl [] wd).alloc (.cells Z 78)
  have A13 : At (wd.alloc (.cells Z 78)) wd.heap.size 78 (cat zf).toArray := by rw [HZ.out]; exact At.nw rfl
  have KB := K
  replace K := Lib.hid (KB.out.fr0 f0)
  obtain ⟨q10, hq10⟩ : ∃ q, wd.heap.size = q := ⟨_, rfl⟩
  rw [hq10] at A13 ⊢
  go_upto_region 15 with (first | (first | (refine wpList_load_all (by rfl) 38 (.tmp 4) rfl q4 rfl 38 c.cells _ K.out.a4 Try.underlying38 rfl (HIC.out c) ?_) | (refine wpList_load_all (by rfl) 38 (.tmp 5) rfl q5 rfl 38 d.cells _ K.out.a5 Try.underlying38 rfl (HIC.out d) ?_) | (refine wpList_load_all (by rfl) 38 (.tmp 6) rfl q6 rfl 38 x.cells _ K.out.a6 Try.underlying38 rfl (HIC.out x) ?_) | (refine wpList_load_all (by rfl) 38 (.tmp 7) rfl q7 rfl 38 n.cells _ K.out.a7 Try.underlying38 rfl (HIC.out n) ?_)) | (refine wpList_store_cap (by rfl) (.tmp 103) (.tmp 101) rfl q10 24 c rfl rfl 78 zf A13 3 rfl (by rw [zf17]; omega) ?_; intro w14 hA14 hF14))
  have f1 := f0.trans hF14 (by simp; omega)
  replace K := Lib.hid (KB.out.fr0 f1)
  go_upto_region 16 with (first | (first | (refine wpList_load_all (by rfl) 38 (.tmp 4) rfl q4 rfl 38 c.cells _ K.out.a4 Try.underlying38 rfl (HIC.out c) ?_) | (refine wpList_load_all (by rfl) 38 (.tmp 5) rfl q5 rfl 38 d.cells _ K.out.a5 Try.underlying38 rfl (HIC.out d) ?_) | (refine wpList_load_all (by rfl) 38 (.tmp 6) rfl q6 rfl 38 x.cells _ K.out.a6 Try.underlying38 rfl (HIC.out x) ?_) | (refine wpList_load_all (by rfl) 38 (.tmp 7) rfl q7 rfl 38 n.cells _ K.out.a7 Try.underlying38 rfl (HIC.out n) ?_)) | (refine wpList_store_cap (by rfl) (.tmp 105) (.tmp 104) rfl q10 128 c rfl rfl 78 _ hA14 16 rfl (by rw [List.length_set, zf17]; omega) ?_; intro w15 hA15 hF15))
  have f2 := f1.trans hF15 (by simp; omega)
  replace K := Lib.hid (KB.out.fr0 f2)
  have A15 := Lib.hid hA15
  clear hA14 hA15 hF14 hF15 f0 f1 f2 A13 KB hq10
  have hfl : ((zf.set 3 c).set 16 c).length = 17 := by rw [List.length_set, List.length_set, zf17]
  have hfc : ∀ e ∈ (zf.set 3 c).set 16 c, e.cur < 4294967296 := fun e he => by
    rcases List.mem_or_eq_of_mem_set he with h1 | rfl
    · rcases List.mem_or_eq_of_mem_set h1 with h2 | rfl
      · have : e = noC := List.eq_of_mem_replicate h2
        rw [this]; decide
      · exact U1.out
    · exact U1.out
  have hno : cln hs noC = noC := by unfold cln stB; rfl
  have hmp : ((zf.set 3 c).set 16 c).map (cln hs) = (zf.set 3 n).set 16 n := by
    rw [List.map_set, List.map_set, show cln hs c = n by unfold cln; rw [S1.out, if_pos rfl]; exact HN.out, show zf.map (cln hs) = zf by unfold zf; rw [List.map_replicate, hno]]
  have hsm : sums hs ((zf.set 3 c).set 16 c) = 2 := by
    have s0 : sOne hs noC = 0 := by unfold sOne stB; rfl
    have s1 : sOne hs c = 1 := by unfold sOne; rw [S1.out]; rfl
    unfold zf
    simp [List.replicate, List.set, sums, s0, s1]
  have CF := Lib.hid (sframe_any K.out.H K.out.hB _ hfl hfc)
  rw [hmp, hsm] at CF
  have cv := A15.out.cell 135
  rw [List.getElem?_toArray, show 135 = 16 * 8 + 7 from rfl, cat_get _ 16 7 c (by rw [List.getElem?_set_self (by rw [List.length_set, zf17]; omega)]) (by omega)] at cv
  have CV := Lib.hid (show w15.cell? ⟨q10, 135, none⟩ = some (.bool true) from by rw [← HV1.out]; exact cv)
  have hql := A15.out.lt
  obtain ⟨f0, hf0⟩ : ∃ l, (zf.set 3 c).set 16 c = l := ⟨_, rfl⟩
  rw [hf0] at A15 CF hfl
  have hml : ((zf.set 3 n).set 16 n).length = 17 := by rw [List.length_set, List.length_set, zf17]
  have M3 := Lib.hid (show ((zf.set 3 n).set 16 n)[3]? = some n from rfl)
  have M16 := Lib.hid (show ((zf.set 3 n).set 16 n)[16]? = some n from rfl)
  obtain ⟨M, hM⟩ : ∃ l, (zf.set 3 n).set 16 n = l := ⟨_, rfl⟩
  rw [hM] at CF hml M3 M16
  have HFI := Lib.hid (show (Try.prog.info? 78).map (·.size) = some (cat f0).toArray.size by rw [infoFrame, cat_size hfl])
  have HDI := Lib.hid (show (Try.prog.info? 78).map (·.size) = some (cat M).toArray.size by rw [infoFrame, cat_size hml])
  have HQM := Lib.hid (show Z.size = (cat M).toArray.size by rw [← HZ.out, cat_size hml, cat_size (n := 17) zf17])
  have HAM := Lib.hid (cat_all M)
  clear hf0 hM hfl hml hfc hno hmp hsm cv
  go_wp2_with (refine wpList_load_all (by rfl) 78 (.tmp 10) rfl q10 rfl 78 (cat f0).toArray _ A15.out Try.underlying78 rfl HFI.out ?_)
  refine (CF.out).mono ?_
  rintro e w16 ⟨rfl, hf16⟩
  have KB := Lib.hid (K.out.fr0 hf16)
  have cv16 := (hf16.cell (a := ⟨q10, 135, none⟩) hql (by simp)).trans CV.out
  have hql16 := Nat.lt_of_lt_of_le hql hf16.size
  clear hf16 CF
  go_upto_region 17 with (refine wpList_store_all (by rfl) 78 (.tmp 11) (.tmp 110) rfl _ (cat M).toArray rfl rfl 78 Z (At.nw rfl) HDI.out HQM.out HAM.out ?_; intro w17 hA17 hF17)
  have f17 := ((Fr.refl [] w16).alloc (.cells Z 78)).trans hF17 (by simp)
  replace K := Lib.hid (KB.out.fr0 f17)
  have cv17 := (f17.cell (a := ⟨q10, 135, none⟩) hql16 (by simp)).trans cv16
  obtain ⟨q11, hq11⟩ : ∃ q, w16.heap.size = q := ⟨_, rfl⟩
  rw [hq11] at hA17 ⊢
  have A17 := Lib.hid hA17
  clear hA17 hF17 f17 KB cv16 hql16 hq11
  have EQn := HEn.out
  go_upto_region 19 with (first | (first | (refine wpList_load_all (by rfl) 38 (.tmp 4) rfl q4 rfl 38 c.cells _ K.out.a4 Try.underlying38 rfl (HIC.out c) ?_) | (refine wpList_load_all (by rfl) 38 (.tmp 5) rfl q5 rfl 38 d.cells _ K.out.a5 Try.underlying38 rfl (HIC.out d) ?_) | (refine wpList_load_all (by rfl) 38 (.tmp 6) rfl q6 rfl 38 x.cells _ K.out.a6 Try.underlying38 rfl (HIC.out x) ?_) | (refine wpList_load_all (by rfl) 38 (.tmp 7) rfl q7 rfl 38 n.cells _ K.out.a7 Try.underlying38 rfl (HIC.out n) ?_)) | (refine wpList_load_cap (by rfl) (.tmp 116) rfl q11 24 rfl 78 M A17.out 3 rfl n M3.out ?_) | (refine wpList_load_cap (by rfl) (.tmp 122) rfl q11 128 rfl 78 M A17.out 16 rfl n M16.out ?_))
  clear A17 cv17 EQn M3 M16 HFI HDI HQM HAM CV A15 hql
  obtain ⟨bs1, bs2, bs3, bs4, bs5, l1, l2, l3, l4, l5, e1, e2, e3, e4, p1, p2, p3, p4, p5, p6, p7, p8, p9, p10, p11, p12, e5, e6, e7, e8, e9, e10, p13, p14, t7, k1, k2⟩ := states c d hs G2.out bs0 HL0.out
  rw [HN.out] at k1
  have L1 := Lib.hid l1
  have L2 := Lib.hid l2
  have L3 := Lib.hid l3
  have L4 := Lib.hid l4
  have L5 := Lib.hid l5
  have E1 := Lib.hid e1
  have E2 := Lib.hid e2
  have E3 := Lib.hid e3
  have E4 := Lib.hid e4
  have E5 := Lib.hid e5
  have E6 := Lib.hid e6
  have E7 := Lib.hid e7
  have E8 := Lib.hid e8
  have E9 := Lib.hid e9
  have E10 := Lib.hid e10
  have N1 := Lib.hid p1
  have N2 := Lib.hid p2
  have N3 := Lib.hid p3
  have N4 := Lib.hid p4
  have N5 := Lib.hid p5
  have N6 := Lib.hid p6
  have N7 := Lib.hid p7
  have N8 := Lib.hid p8
  have N9 := Lib.hid p9
  have N10 := Lib.hid p10
  have N11 := Lib.hid p11
  have N12 := Lib.hid p12
  have N13 := Lib.hid p13
  have N14 := Lib.hid p14
  have T7 := Lib.hid t7
  have K1 := Lib.hid k1
  have K2 := Lib.hid k2
  clear l1 l2 l3 l4 l5 e1 e2 e3 e4 e5 e6 e7 e8 e9 e10 p1 p2 p3 p4 p5 p6 p7 p8 p9 p10 p11 p12 p13 p14 t7 k1 k2
  go_wp2_with (first | (refine wpList_load_all (by rfl) 38 (.tmp 4) rfl q4 rfl 38 c.cells _ K.out.a4 Try.underlying38 rfl (HIC.out c) ?_) | (refine wpList_load_all (by rfl) 38 (.tmp 5) rfl q5 rfl 38 d.cells _ K.out.a5 Try.underlying38 rfl (HIC.out d) ?_) | (refine wpList_load_all (by rfl) 38 (.tmp 6) rfl q6 rfl 38 x.cells _ K.out.a6 Try.underlying38 rfl (HIC.out x) ?_) | (refine wpList_load_all (by rfl) 38 (.tmp 7) rfl q7 rfl 38 n.cells _ K.out.a7 Try.underlying38 rfl (HIC.out n) ?_)); refine ((show Calls Try.prog 11 #[.pointer (some ⟨ap, 0, none⟩), .int .u32 32, .agg c.cells] _ fun r w' => r = .returned (.bool true) ∧ Ar w' ap p g bg cap bs1 (tgs [2]) ∧ Fr [g, bg] _ w' from by have := astorec_b _ ap p g bg cap bs0 _ K.out.A 32 (by omega) c HOC.out; rw [HL0.out, E1.out, E2.out, show whB 4096 32 = true by decide] at this; exact this)).mono ?_; rintro e wn ⟨rfl, hA, hf⟩; replace K := Lib.hid (K.out.st hA hf); clear hA hf
  go_wp2_with (first | (refine wpList_load_all (by rfl) 38 (.tmp 4) rfl q4 rfl 38 c.cells _ K.out.a4 Try.underlying38 rfl (HIC.out c) ?_) | (refine wpList_load_all (by rfl) 38 (.tmp 5) rfl q5 rfl 38 d.cells _ K.out.a5 Try.underlying38 rfl (HIC.out d) ?_) | (refine wpList_load_all (by rfl) 38 (.tmp 6) rfl q6 rfl 38 x.cells _ K.out.a6 Try.underlying38 rfl (HIC.out x) ?_) | (refine wpList_load_all (by rfl) 38 (.tmp 7) rfl q7 rfl 38 n.cells _ K.out.a7 Try.underlying38 rfl (HIC.out n) ?_)); refine ((show Calls Try.prog 11 #[.pointer (some ⟨ap, 0, none⟩), .int .u32 48, .agg d.cells] _ fun r w' => r = .returned (.bool true) ∧ Ar w' ap p g bg cap bs2 (tgs [3, 2]) ∧ Fr [g, bg] _ w' from by have := astorec_b _ ap p g bg cap bs1 _ K.out.A 48 (by omega) d HOD.out; rw [L1.out, E3.out, E4.out, show whB 4096 48 = true by decide] at this; exact this)).mono ?_; rintro e wn ⟨rfl, hA, hf⟩; replace K := Lib.hid (K.out.st hA hf); clear hA hf
  go_wp2_with (first | (refine wpList_load_all (by rfl) 38 (.tmp 4) rfl q4 rfl 38 c.cells _ K.out.a4 Try.underlying38 rfl (HIC.out c) ?_) | (refine wpList_load_all (by rfl) 38 (.tmp 5) rfl q5 rfl 38 d.cells _ K.out.a5 Try.underlying38 rfl (HIC.out d) ?_) | (refine wpList_load_all (by rfl) 38 (.tmp 6) rfl q6 rfl 38 x.cells _ K.out.a6 Try.underlying38 rfl (HIC.out x) ?_) | (refine wpList_load_all (by rfl) 38 (.tmp 7) rfl q7 rfl 38 n.cells _ K.out.a7 Try.underlying38 rfl (HIC.out n) ?_)); refine ((show Calls Try.prog 19 #[.pointer (some ⟨ap, 0, none⟩), .int .i64 0, .pointer none] _ fun r w' => r = .returned (.int .i64 0) ∧ Ar w' ap p g bg cap bs2 (tgs [3, 2]) ∧ Fr [g] _ w' from by have := spage_any ap p g bg cap bs2 _ K.out.A (Hs.nil B _) K.out.hB K.out.g0 0; rw [L2.out, N1.out, N2.out] at this; exact this)).mono ?_; rintro e wn ⟨rfl, hA, hf⟩; replace K := Lib.hid (K.out.pg hA hf); clear hA hf
  go_wp2_with (first | (refine wpList_load_all (by rfl) 38 (.tmp 4) rfl q4 rfl 38 c.cells _ K.out.a4 Try.underlying38 rfl (HIC.out c) ?_) | (refine wpList_load_all (by rfl) 38 (.tmp 5) rfl q5 rfl 38 d.cells _ K.out.a5 Try.underlying38 rfl (HIC.out d) ?_) | (refine wpList_load_all (by rfl) 38 (.tmp 6) rfl q6 rfl 38 x.cells _ K.out.a6 Try.underlying38 rfl (HIC.out x) ?_) | (refine wpList_load_all (by rfl) 38 (.tmp 7) rfl q7 rfl 38 n.cells _ K.out.a7 Try.underlying38 rfl (HIC.out n) ?_)); refine ((show Calls Try.prog 19 #[.pointer (some ⟨ap, 0, none⟩), .int .i64 1, .pointer (some ⟨pp, 0, none⟩)] _ fun r w' => r = .returned (.int .i64 0) ∧ Ar w' ap p g bg cap bs2 (tgs [3, 2]) ∧ Fr [g] _ w' from by have := spage_any ap p g bg cap bs2 _ K.out.A K.out.H K.out.hB K.out.g0 1; rw [L2.out, N3.out, N4.out] at this; exact this)).mono ?_; rintro e wn ⟨rfl, hA, hf⟩; replace K := Lib.hid (K.out.pg hA hf); clear hA hf
  go_wp2_with (first | (refine wpList_load_all (by rfl) 38 (.tmp 4) rfl q4 rfl 38 c.cells _ K.out.a4 Try.underlying38 rfl (HIC.out c) ?_) | (refine wpList_load_all (by rfl) 38 (.tmp 5) rfl q5 rfl 38 d.cells _ K.out.a5 Try.underlying38 rfl (HIC.out d) ?_) | (refine wpList_load_all (by rfl) 38 (.tmp 6) rfl q6 rfl 38 x.cells _ K.out.a6 Try.underlying38 rfl (HIC.out x) ?_) | (refine wpList_load_all (by rfl) 38 (.tmp 7) rfl q7 rfl 38 n.cells _ K.out.a7 Try.underlying38 rfl (HIC.out n) ?_)); refine ((show Calls Try.prog 19 #[.pointer (some ⟨ap, 0, none⟩), .int .i64 0, .pointer (some ⟨pp, 0, none⟩)] _ fun r w' => r = .returned (.int .i64 1) ∧ Ar w' ap p g bg cap bs2 (tgs [3]) ∧ Fr [g] _ w' from by have := spage_any ap p g bg cap bs2 _ K.out.A K.out.H K.out.hB K.out.g0 0; rw [L2.out, N5.out, N6.out] at this; exact this)).mono ?_; rintro e wn ⟨rfl, hA, hf⟩; replace K := Lib.hid (K.out.pg hA hf); clear hA hf
  go_wp2_with (first | (refine wpList_load_all (by rfl) 38 (.tmp 4) rfl q4 rfl 38 c.cells _ K.out.a4 Try.underlying38 rfl (HIC.out c) ?_) | (refine wpList_load_all (by rfl) 38 (.tmp 5) rfl q5 rfl 38 d.cells _ K.out.a5 Try.underlying38 rfl (HIC.out d) ?_) | (refine wpList_load_all (by rfl) 38 (.tmp 6) rfl q6 rfl 38 x.cells _ K.out.a6 Try.underlying38 rfl (HIC.out x) ?_) | (refine wpList_load_all (by rfl) 38 (.tmp 7) rfl q7 rfl 38 n.cells _ K.out.a7 Try.underlying38 rfl (HIC.out n) ?_)); refine ((show Calls Try.prog 19 #[.pointer (some ⟨ap, 0, none⟩), .int .i64 0, .pointer (some ⟨pp, 0, none⟩)] _ fun r w' => r = .returned (.int .i64 0) ∧ Ar w' ap p g bg cap bs2 (tgs [3]) ∧ Fr [g] _ w' from by have := spage_any ap p g bg cap bs2 _ K.out.A K.out.H K.out.hB K.out.g0 0; rw [L2.out, N7.out, N8.out] at this; exact this)).mono ?_; rintro e wn ⟨rfl, hA, hf⟩; replace K := Lib.hid (K.out.pg hA hf); clear hA hf
  go_wp2_with (first | (refine wpList_load_all (by rfl) 38 (.tmp 4) rfl q4 rfl 38 c.cells _ K.out.a4 Try.underlying38 rfl (HIC.out c) ?_) | (refine wpList_load_all (by rfl) 38 (.tmp 5) rfl q5 rfl 38 d.cells _ K.out.a5 Try.underlying38 rfl (HIC.out d) ?_) | (refine wpList_load_all (by rfl) 38 (.tmp 6) rfl q6 rfl 38 x.cells _ K.out.a6 Try.underlying38 rfl (HIC.out x) ?_) | (refine wpList_load_all (by rfl) 38 (.tmp 7) rfl q7 rfl 38 n.cells _ K.out.a7 Try.underlying38 rfl (HIC.out n) ?_)); refine ((show Calls Try.prog 19 #[.pointer (some ⟨ap, 0, none⟩), .int .i64 (-1), .pointer (some ⟨pp, 0, none⟩)] _ fun r w' => r = .returned (.int .i64 0) ∧ Ar w' ap p g bg cap bs2 (tgs [3]) ∧ Fr [g] _ w' from by have := spage_any ap p g bg cap bs2 _ K.out.A K.out.H K.out.hB K.out.g0 (-1); rw [L2.out, N9.out, N10.out] at this; exact this)).mono ?_; rintro e wn ⟨rfl, hA, hf⟩; replace K := Lib.hid (K.out.pg hA hf); clear hA hf
  go_wp2_with (first | (refine wpList_load_all (by rfl) 38 (.tmp 4) rfl q4 rfl 38 c.cells _ K.out.a4 Try.underlying38 rfl (HIC.out c) ?_) | (refine wpList_load_all (by rfl) 38 (.tmp 5) rfl q5 rfl 38 d.cells _ K.out.a5 Try.underlying38 rfl (HIC.out d) ?_) | (refine wpList_load_all (by rfl) 38 (.tmp 6) rfl q6 rfl 38 x.cells _ K.out.a6 Try.underlying38 rfl (HIC.out x) ?_) | (refine wpList_load_all (by rfl) 38 (.tmp 7) rfl q7 rfl 38 n.cells _ K.out.a7 Try.underlying38 rfl (HIC.out n) ?_)); refine ((show Calls Try.prog 19 #[.pointer (some ⟨ap, 0, none⟩), .int .i64 16, .pointer (some ⟨pp, 0, none⟩)] _ fun r w' => r = .returned (.int .i64 0) ∧ Ar w' ap p g bg cap bs2 (tgs [3]) ∧ Fr [g] _ w' from by have := spage_any ap p g bg cap bs2 _ K.out.A K.out.H K.out.hB K.out.g0 16; rw [L2.out, N11.out, N12.out] at this; exact this)).mono ?_; rintro e wn ⟨rfl, hA, hf⟩; replace K := Lib.hid (K.out.pg hA hf); clear hA hf
  go_wp2_with (first | (refine wpList_load_all (by rfl) 38 (.tmp 4) rfl q4 rfl 38 c.cells _ K.out.a4 Try.underlying38 rfl (HIC.out c) ?_) | (refine wpList_load_all (by rfl) 38 (.tmp 5) rfl q5 rfl 38 d.cells _ K.out.a5 Try.underlying38 rfl (HIC.out d) ?_) | (refine wpList_load_all (by rfl) 38 (.tmp 6) rfl q6 rfl 38 x.cells _ K.out.a6 Try.underlying38 rfl (HIC.out x) ?_) | (refine wpList_load_all (by rfl) 38 (.tmp 7) rfl q7 rfl 38 n.cells _ K.out.a7 Try.underlying38 rfl (HIC.out n) ?_))
  refine (spage_nil _ _).mono ?_
  rintro e wz ⟨rfl, rfl⟩
  go_upto_region 21 with (fail)
  go_wp2_with (first | (refine wpList_load_all (by rfl) 38 (.tmp 4) rfl q4 rfl 38 c.cells _ K.out.a4 Try.underlying38 rfl (HIC.out c) ?_) | (refine wpList_load_all (by rfl) 38 (.tmp 5) rfl q5 rfl 38 d.cells _ K.out.a5 Try.underlying38 rfl (HIC.out d) ?_) | (refine wpList_load_all (by rfl) 38 (.tmp 6) rfl q6 rfl 38 x.cells _ K.out.a6 Try.underlying38 rfl (HIC.out x) ?_) | (refine wpList_load_all (by rfl) 38 (.tmp 7) rfl q7 rfl 38 n.cells _ K.out.a7 Try.underlying38 rfl (HIC.out n) ?_)); refine ((show Calls Try.prog 11 #[.pointer (some ⟨ap, 0, none⟩), .int .u32 512, .agg c.cells] _ fun r w' => r = .returned (.bool true) ∧ Ar w' ap p g bg cap bs3 (tgs [32, 3]) ∧ Fr [g, bg] _ w' from by have := astorec_b _ ap p g bg cap bs2 _ K.out.A 512 (by omega) c HOC.out; rw [L2.out, E5.out, E6.out, show whB 4096 512 = true by decide] at this; exact this)).mono ?_; rintro e wn ⟨rfl, hA, hf⟩; replace K := Lib.hid (K.out.st hA hf); clear hA hf
  go_wp2_with (first | (refine wpList_load_all (by rfl) 38 (.tmp 4) rfl q4 rfl 38 c.cells _ K.out.a4 Try.underlying38 rfl (HIC.out c) ?_) | (refine wpList_load_all (by rfl) 38 (.tmp 5) rfl q5 rfl 38 d.cells _ K.out.a5 Try.underlying38 rfl (HIC.out d) ?_) | (refine wpList_load_all (by rfl) 38 (.tmp 6) rfl q6 rfl 38 x.cells _ K.out.a6 Try.underlying38 rfl (HIC.out x) ?_) | (refine wpList_load_all (by rfl) 38 (.tmp 7) rfl q7 rfl 38 n.cells _ K.out.a7 Try.underlying38 rfl (HIC.out n) ?_)); refine ((show Calls Try.prog 11 #[.pointer (some ⟨ap, 0, none⟩), .int .u32 528, .agg d.cells] _ fun r w' => r = .returned (.bool true) ∧ Ar w' ap p g bg cap bs4 (tgs [33, 32, 3]) ∧ Fr [g, bg] _ w' from by have := astorec_b _ ap p g bg cap bs3 _ K.out.A 528 (by omega) d HOD.out; rw [L3.out, E7.out, E8.out, show whB 4096 528 = true by decide] at this; exact this)).mono ?_; rintro e wn ⟨rfl, hA, hf⟩; replace K := Lib.hid (K.out.st hA hf); clear hA hf
  go_wp2_with (first | (refine wpList_load_all (by rfl) 38 (.tmp 4) rfl q4 rfl 38 c.cells _ K.out.a4 Try.underlying38 rfl (HIC.out c) ?_) | (refine wpList_load_all (by rfl) 38 (.tmp 5) rfl q5 rfl 38 d.cells _ K.out.a5 Try.underlying38 rfl (HIC.out d) ?_) | (refine wpList_load_all (by rfl) 38 (.tmp 6) rfl q6 rfl 38 x.cells _ K.out.a6 Try.underlying38 rfl (HIC.out x) ?_) | (refine wpList_load_all (by rfl) 38 (.tmp 7) rfl q7 rfl 38 n.cells _ K.out.a7 Try.underlying38 rfl (HIC.out n) ?_)); refine ((show Calls Try.prog 11 #[.pointer (some ⟨ap, 0, none⟩), .int .u32 544, .agg c.cells] _ fun r w' => r = .returned (.bool true) ∧ Ar w' ap p g bg cap bs5 (tgs [34, 33, 32, 3]) ∧ Fr [g, bg] _ w' from by have := astorec_b _ ap p g bg cap bs4 _ K.out.A 544 (by omega) c HOC.out; rw [L4.out, E9.out, E10.out, show whB 4096 544 = true by decide] at this; exact this)).mono ?_; rintro e wn ⟨rfl, hA, hf⟩; replace K := Lib.hid (K.out.st hA hf); clear hA hf
  go_wp2_with (first | (refine wpList_load_all (by rfl) 38 (.tmp 4) rfl q4 rfl 38 c.cells _ K.out.a4 Try.underlying38 rfl (HIC.out c) ?_) | (refine wpList_load_all (by rfl) 38 (.tmp 5) rfl q5 rfl 38 d.cells _ K.out.a5 Try.underlying38 rfl (HIC.out d) ?_) | (refine wpList_load_all (by rfl) 38 (.tmp 6) rfl q6 rfl 38 x.cells _ K.out.a6 Try.underlying38 rfl (HIC.out x) ?_) | (refine wpList_load_all (by rfl) 38 (.tmp 7) rfl q7 rfl 38 n.cells _ K.out.a7 Try.underlying38 rfl (HIC.out n) ?_)); refine ((show Calls Try.prog 19 #[.pointer (some ⟨ap, 0, none⟩), .int .i64 2, .pointer (some ⟨pp, 0, none⟩)] _ fun r w' => r = .returned (.int .i64 2) ∧ Ar w' ap p g bg cap bs5 (tgs [33, 3]) ∧ Fr [g] _ w' from by have := spage_any ap p g bg cap bs5 _ K.out.A K.out.H K.out.hB K.out.g0 2; rw [L5.out, N13.out, N14.out] at this; exact this)).mono ?_; rintro e wn ⟨rfl, hA, hf⟩; replace K := Lib.hid (K.out.pg hA hf); clear hA hf
  go_wp2_with (first | (refine wpList_load_all (by rfl) 38 (.tmp 4) rfl q4 rfl 38 c.cells _ K.out.a4 Try.underlying38 rfl (HIC.out c) ?_) | (refine wpList_load_all (by rfl) 38 (.tmp 5) rfl q5 rfl 38 d.cells _ K.out.a5 Try.underlying38 rfl (HIC.out d) ?_) | (refine wpList_load_all (by rfl) 38 (.tmp 6) rfl q6 rfl 38 x.cells _ K.out.a6 Try.underlying38 rfl (HIC.out x) ?_) | (refine wpList_load_all (by rfl) 38 (.tmp 7) rfl q7 rfl 38 n.cells _ K.out.a7 Try.underlying38 rfl (HIC.out n) ?_))
  have CTG := atagged_any _ ap p g bg cap bs5 (tgs [33, 3]) K.out.A 2
  rw [L5.out, T7.out] at CTG
  refine CTG.mono ?_
  rintro e wn ⟨v, rfl, ho, hf⟩
  obtain ⟨va, vc, rfl, -⟩ := own_slice (n := 1) ho
  replace K := Lib.hid (K.out.fr0 hf)
  clear ho hf CTG
  go_upto_region 23 with (fail)
  go_wp2_with fail
  have CL1 := aloadc_b _ ap p g bg cap bs5 (tgs [33, 3]) K.out.A 32 (by omega)
  rw [L5.out, K1.out, show whB 4096 32 = true by decide] at CL1
  refine CL1.mono ?_
  rintro e wl ⟨rfl, hf⟩
  have KB := Lib.hid (K.out.fr0 hf)
  clear hf CL1
  go_upto_region 24 with (refine wpList_store_all (by rfl) 38 (.tmp 13) (.tmp 214) rfl _ n.cells rfl rfl 38 noC.cells (At.nw rfl) (HIC.out n) rfl (cellz_all n) ?_; intro wm hAm hFm)
  have fm := ((Fr.refl [] wl).alloc (.cells noC.cells 38)).trans hFm (by simp)
  replace K := Lib.hid (KB.out.fr0 fm)
  obtain ⟨q13, hq13⟩ : ∃ q, wl.heap.size = q := ⟨_, rfl⟩
  rw [hq13] at hAm ⊢
  have A13 := Lib.hid hAm
  clear hAm hFm fm KB hq13
  go_wp2_with fail
  have CL2 := aloadc_b _ ap p g bg cap bs5 (tgs [33, 3]) K.out.A 48 (by omega)
  rw [L5.out, K2.out, show whB 4096 48 = true by decide] at CL2
  refine CL2.mono ?_
  rintro e wl2 ⟨rfl, hf⟩
  have KB := Lib.hid (K.out.fr0 hf)
  replace A13 := Lib.hid (A13.out.fr hf (by simp))
  clear hf CL2
  go_upto_region 25 with (refine wpList_store_all (by rfl) 38 (.tmp 15) (.tmp 219) rfl _ d.cells rfl rfl 38 noC.cells (At.nw rfl) (HIC.out d) rfl (cellz_all d) ?_; intro wm2 hAm hFm)
  have fm := ((Fr.refl [] wl2).alloc (.cells noC.cells 38)).trans hFm (by simp)
  replace K := Lib.hid (KB.out.fr0 fm)
  replace A13 := Lib.hid (A13.out.fr fm (by simp))
  obtain ⟨q15, hq15⟩ : ∃ q, wl2.heap.size = q := ⟨_, rfl⟩
  rw [hq15] at hAm ⊢
  have A15 := Lib.hid hAm
  clear hAm hFm fm KB hq15
  go_wp2_with fail
  refine (scaps_any K.out.H K.out.hB none 0 [] (.inl rfl) (by simp) (by simp)).mono ?_
  rintro e wp ⟨gz, rfl, -, -, hf⟩
  rw [show sums hs [] = 0 from rfl]
  replace K := Lib.hid (K.out.fr0 hf)
  replace A13 := Lib.hid (A13.out.fr hf (by simp))
  replace A15 := Lib.hid (A15.out.fr hf (by simp))
  clear hf
  have EQn := HEn.out
  have EQd := HEd.out
  go_wp2_with (first | (first | (refine wpList_load_all (by rfl) 38 (.tmp 4) rfl q4 rfl 38 c.cells _ K.out.a4 Try.underlying38 rfl (HIC.out c) ?_) | (refine wpList_load_all (by rfl) 38 (.tmp 5) rfl q5 rfl 38 d.cells _ K.out.a5 Try.underlying38 rfl (HIC.out d) ?_) | (refine wpList_load_all (by rfl) 38 (.tmp 6) rfl q6 rfl 38 x.cells _ K.out.a6 Try.underlying38 rfl (HIC.out x) ?_) | (refine wpList_load_all (by rfl) 38 (.tmp 7) rfl q7 rfl 38 n.cells _ K.out.a7 Try.underlying38 rfl (HIC.out n) ?_)) | (refine wpList_load_all (by rfl) 38 (.tmp 13) rfl q13 rfl 38 n.cells _ A13.out Try.underlying38 rfl (HIC.out n) ?_) | (refine wpList_load_all (by rfl) 38 (.tmp 15) rfl q15 rfl 38 d.cells _ A15.out Try.underlying38 rfl (HIC.out d) ?_))
  refine (works_any _).mono ?_
  rintro e wq ⟨rfl, hf⟩
  go_wp2_with fail
  go_ret
  exact ⟨rfl, K.out.fr.trans0 hf⟩
theorem laidOut : laidOutB Try.prog = true := by kernel_rfl
set_option maxRecDepth 100000 in
theorem lifted (os : Os) (started : os.Started) (H : Type) (enc : TypeId × Value → H) :
    ReturnsInHanded {} Try.checked os 5 .any (Rows.scanKnownSpec.pre6 enc Try.prog Try.f5 Rows.scanKnownRow.domain false) (Rows.scanKnownSpec.post enc Try.prog Try.f5 false true false false) := by
  refine returnsInHanded_of_change (C := Try.checked) own started (by kernel_rfl) Try.func5
    (ChangeSpec.witness6 (enc := enc) (C := Try.checked) false ⟨#[], #[], []⟩ 8 (by kernel_rfl) (by kernel_rfl) (by kernel_rfl) (by kernel_rfl)) ?_
  intro W base args ds gs before hval0 hW hcnd _
  have hval : ∀ (j : Nat) t v, Try.f5.params[j]? = some t → args[j]? = some v → Value.okWide Try.prog W .any base t v := hval0
  have hW' := hW
  obtain ⟨p, q, hA0, hV, rfl, hfz, hnd⟩ := hW
  have hA : DataW.TrodAll enc Try.prog W 0 (fun _ => true) true Try.f5.params.toList args.toList ds p := hA0
  rw [Try.params5] at hA hval
  obtain ⟨rfl, rfl, rfl⟩ := trodAll_none hA
  obtain ⟨rfl, rfl⟩ := trodVars_none hV
  clear hA0 hval0
  simp only [List.append_nil] at hW'
  refine (walk  W ).mono fun e W' ⟨he, hg⟩ => ?_
  subst he
  exact ⟨_, rfl, post_fr (pa := []) (pv := []) hW' (fun _ _ _ => (trodAll_cons_mk (shut_bool Try.underlying4 _) trodAll_mk0)) (fun sp _ => rfl) (fun _ _ => rfl) rfl
    hg (ok_one (by kernel_rfl) rfl (okWide_bool_mk Try.underlying4 _))⟩
theorem over : Rows.scanKnownRow.holds Try.pinned (OpenSpec.ofChange Rows.scanKnownSpec) :=
  OpenClaim.holds_of_wide 5 Try.f5 rfl rfl rfl rfl rfl rfl rfl ⟨rfl, rfl, rfl, rfl, rfl⟩ rfl rfl rfl rfl rfl (by kernel_rfl) Try.func5 (by kernel_rfl)
    (of_decide_eq_true (by kernel_rfl)) (by unfold Func.isWrapper; first | (rw [if_pos (by decide +kernel)]; kernel_rfl) | (rw [if_neg (by decide +kernel)]; exact ⟨rfl, rfl⟩))
    (fun os started H enc _ => lifted os started H enc)
/-- The statement, proved. -/
theorem proved : Rows.ScanKnownSaid :=
  over
end scanKnown
end Go.Proofs.Ytilgklpponaoeaa
