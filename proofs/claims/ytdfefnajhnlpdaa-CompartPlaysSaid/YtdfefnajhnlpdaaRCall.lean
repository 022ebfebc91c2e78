/-
  What a call does by the reference of layer 20. Condition: numbers in their types' ranges.
-/



import Derived.Test.YtdfefnajhnlpdaaRRet
import Derived.Test.YtdfefnajhnlpdaaCall
import Derived.Deep.AppendLies
import Derived.Deep.CutBlock
import Derived.Deep.DeepCutAuto
set_option linter.unusedVariables false
namespace Go.Proofs.Ytdfefnajhnlpdaa
open Go.ChangeShapes Go.WideShapes Go.ChangeAt Go.RowKit
set_option maxHeartbeats 1000000 in
set_option maxRecDepth 100000 in
theorem r20call_bad (w : World) (u : Value) (l : List Cp) (hu : w.ownsRow 0 25 8 u l.length (cat l)) (fr : List Cp) (a b : Cp) (ht : trapI a b ≠ 0) :
    Calls Try.prog 21 #[u, .agg (cat fr).toArray, .agg a.cells, .agg b.cells] w fun r w' => r = .returned (.tuple #[u, .agg (cat zf).toArray, .int .i64 (trapI a b)]) ∧ Fr [] w w' := by
  have hz := fun w => zeroFrame w
  have hb := fun w => builtFrame w
  have ZI := Lib.hid (frInfo zf_len)
  have ZA := Lib.hid (cat_all zf)
  obtain ⟨Z, hZ⟩ : ∃ Z, (cat zf).toArray = Z := ⟨_, rfl⟩
  rw [hZ] at hz hb ZI ZA
  have HZ := Lib.hid hZ
  clear hZ
  have CT := Lib.hid fun W => r20trap_any W a b
  obtain ⟨A, hA⟩ : ∃ A, (cat fr).toArray = A := ⟨_, rfl⟩
  have HA := Lib.hid hA
  rw [hA]
  clear hA
  obtain ⟨X, hX⟩ : ∃ X, (((w.alloc (.cells A 31)).alloc (.cells a.cells 25)).alloc (.cells b.cells 25)).alloc (.cells Z 31) = X := ⟨_, rfl⟩
  have B0 : At X w.heap.size 31 A := by rw [← hX]; repeat (first | exact At.newq (by first | rfl | simp only [World.size_alloc]) | refine At.old ?_ _)
  have B1 : At X (w.heap.size + 1) 25 a.cells := by rw [← hX]; exact ((At.newq (by first | rfl | simp only [World.size_alloc])).old _).old _
  have B2 : At X (w.heap.size + 1 + 1) 25 b.cells := by rw [← hX]; exact (At.newq (by first | rfl | simp only [World.size_alloc])).old _
  have B3 : At X (w.heap.size + 1 + 1 + 1) 31 Z := by rw [← hX]; exact At.newq (by first | rfl | simp only [World.size_alloc])
  have FX : Fr [] w X := by rw [← hX]; exact (by repeat (first | exact Fr.refl _ _ | assumption | refine Fr.trans0 ?_ (by assumption) | refine Fr.drewN ?_ _ | refine Fr.alloc ?_ _ | refine Fr.drew ?_))
  have HB0 := Lib.hid B0
  have HB1 := Lib.hid B1
  have HB2 := Lib.hid B2
  have HB3 := Lib.hid B3
  have HFX := Lib.hid FX
  have HX := Lib.hid hX
  unfold Cp.cells at HX HB1 HB2 CT ⊢
  clear B0 B1 B2 B3 FX hX
  obtain ⟨tr, htr⟩ : ∃ t, trapI a b = t := ⟨_, rfl⟩
  rw [htr] at CT ht ⊢
  have hne : (tr != 0) = true := by simpa using ht
  have heq : (tr == 0) = false := by simpa using ht
  rw [HZ.out]
  clear htr ht hu
  go_enter Try.func21, Try.ntmps21
  go_wp2_with fail
  rw [HX.out]
  refine (CT.out _).mono ?_
  rintro e w2 ⟨rfl, hf2⟩
  have C0 := Lib.hid (HB0.out.fr hf2 (by simp))
  have C1 := Lib.hid (HB1.out.fr hf2 (by simp))
  have C2 := Lib.hid (HB2.out.fr hf2 (by simp))
  have C3 := Lib.hid (HB3.out.fr hf2 (by simp))
  have CF := Lib.hid (HFX.out.trans0 hf2)
  clear hf2 HB0 HB1 HB2 HB3 HFX HX CT
  go_wp2_with (refine wpList_store_all rfl 31 (.tmp 9) (.tmp 27) rfl _ Z rfl rfl 31 Z C3.out ZI.out rfl ZA.out ?_; intro w3 hA3 hF3)
  exact bodyPost_ret (res_tmp_row_tmp rfl _ _ _ 31 _ _ rfl hA3 Try.underlying31 rfl ZI.out) rfl ⟨rfl, CF.out.trans hF3 (by simp <;> omega)⟩
set_option maxHeartbeats 1000000 in
set_option maxRecDepth 100000 in
theorem r20call_full (w : World) (u : Value) (l : List Cp) (hu : w.ownsRow 0 25 8 u l.length (cat l)) (hl : 48 ≤ l.length) (fr : List Cp) (a b : Cp) (ht : trapI a b = 0) :
    Calls Try.prog 21 #[u, .agg (cat fr).toArray, .agg a.cells, .agg b.cells] w fun r w' => r = .returned (.tuple #[u, .agg (cat zf).toArray, .int .i64 9]) ∧ Fr [] w w' := by
  have hz := fun w => zeroFrame w
  have hb := fun w => builtFrame w
  have ZI := Lib.hid (frInfo zf_len)
  have ZA := Lib.hid (cat_all zf)
  obtain ⟨Z, hZ⟩ : ∃ Z, (cat zf).toArray = Z := ⟨_, rfl⟩
  rw [hZ] at hz hb ZI ZA
  have HZ := Lib.hid hZ
  clear hZ
  have CT := Lib.hid fun W => r20trap_any W a b
  obtain ⟨A, hA⟩ : ∃ A, (cat fr).toArray = A := ⟨_, rfl⟩
  have HA := Lib.hid hA
  rw [hA]
  clear hA
  obtain ⟨X, hX⟩ : ∃ X, (((w.alloc (.cells A 31)).alloc (.cells a.cells 25)).alloc (.cells b.cells 25)).alloc (.cells Z 31) = X := ⟨_, rfl⟩
  have B0 : At X w.heap.size 31 A := by rw [← hX]; repeat (first | exact At.newq (by first | rfl | simp only [World.size_alloc]) | refine At.old ?_ _)
  have B1 : At X (w.heap.size + 1) 25 a.cells := by rw [← hX]; exact ((At.newq (by first | rfl | simp only [World.size_alloc])).old _).old _
  have B2 : At X (w.heap.size + 1 + 1) 25 b.cells := by rw [← hX]; exact (At.newq (by first | rfl | simp only [World.size_alloc])).old _
  have B3 : At X (w.heap.size + 1 + 1 + 1) 31 Z := by rw [← hX]; exact At.newq (by first | rfl | simp only [World.size_alloc])
  have FX : Fr [] w X := by rw [← hX]; exact (by repeat (first | exact Fr.refl _ _ | assumption | refine Fr.trans0 ?_ (by assumption) | refine Fr.drewN ?_ _ | refine Fr.alloc ?_ _ | refine Fr.drew ?_))
  have HB0 := Lib.hid B0
  have HB1 := Lib.hid B1
  have HB2 := Lib.hid B2
  have HB3 := Lib.hid B3
  have HFX := Lib.hid FX
  have HX := Lib.hid hX
  unfold Cp.cells at HX HB1 HB2 CT ⊢
  clear B0 B1 B2 B3 FX hX
  obtain ⟨ua, uc, rfl, huc⟩ := own_slice hu
  obtain ⟨n, hn⟩ : ∃ n, l.length = n := ⟨_, rfl⟩
  rw [hn] at hl ⊢
  rw [ht] at CT
  have hg : (n : Int) ≥ 48 := by omega
  rw [HZ.out]
  clear ht hu hn huc
  go_enter Try.func21, Try.ntmps21
  go_wp2_with fail
  rw [HX.out]
  refine (CT.out _).mono ?_
  rintro e w2 ⟨rfl, hf2⟩
  have C0 := Lib.hid (HB0.out.fr hf2 (by simp))
  have C1 := Lib.hid (HB1.out.fr hf2 (by simp))
  have C2 := Lib.hid (HB2.out.fr hf2 (by simp))
  have C3 := Lib.hid (HB3.out.fr hf2 (by simp))
  have CF := Lib.hid (HFX.out.trans0 hf2)
  clear hf2 HB0 HB1 HB2 HB3 HFX HX CT
  go_wp2_with (refine wpList_store_all rfl 31 (.tmp 9) (.tmp 27) rfl _ Z rfl rfl 31 Z C3.out ZI.out rfl ZA.out ?_; intro w3 hA3 hF3)
  exact bodyPost_ret (res_tmp_row_tmp rfl _ _ _ 31 _ _ rfl hA3 Try.underlying31 rfl ZI.out) rfl ⟨rfl, CF.out.trans hF3 (by simp <;> omega)⟩
set_option maxHeartbeats 4000000 in
set_option maxRecDepth 100000 in
theorem r20call_ok (w : World) (u : Value) (l : List Cp) (hu : w.ownsRow 0 25 8 u l.length (cat l)) (hl : l.length < 48) (fr : List Cp) (hfr : fr.length = 17) (pc x14 x15 : Cp) (hpc : fr[16]? = some pc) (h14 : fr[14]? = some x14) (h15 : fr[15]? = some x15) (hcur : pc.cur < 4294967296)
    (a b : Cp) (ht : trapI a b = 0) :
    Calls Try.prog 21 #[u, .agg (cat fr).toArray, .agg a.cells, .agg b.cells] w fun r w' => ∃ u', r = .returned (.tuple #[u', .agg (cat (((passF fr).set 16 a.opened).set 15 b.opened)).toArray, .int .i64 0]) ∧ w'.ownsRow w.heap.size 25 8 u' (l.length + 3) (cat (l ++ [pc.addr ((pc.cur + 4) % 4294967296), x14, x15])) ∧ Fr [] w w' := by
  obtain ⟨i0, hii, hz0, hz1, hz2⟩ := info_parts infoCap8
  have hz := fun w => zeroFrame w
  have hb := fun w => builtFrame w
  have ZI := Lib.hid (frInfo zf_len)
  have ZA := Lib.hid (cat_all zf)
  obtain ⟨Z, hZ⟩ : ∃ Z, (cat zf).toArray = Z := ⟨_, rfl⟩
  rw [hZ] at hz hb ZI ZA
  have HZ := Lib.hid hZ
  clear hZ
  have CT := Lib.hid fun W => r20trap_any W a b
  obtain ⟨A, hA⟩ : ∃ A, (cat fr).toArray = A := ⟨_, rfl⟩
  have HA := Lib.hid hA
  rw [hA]
  clear hA
  obtain ⟨X, hX⟩ : ∃ X, (((w.alloc (.cells A 31)).alloc (.cells a.cells 25)).alloc (.cells b.cells 25)).alloc (.cells Z 31) = X := ⟨_, rfl⟩
  have B0 : At X w.heap.size 31 A := by rw [← hX]; repeat (first | exact At.newq (by first | rfl | simp only [World.size_alloc]) | refine At.old ?_ _)
  have B1 : At X (w.heap.size + 1) 25 a.cells := by rw [← hX]; exact ((At.newq (by first | rfl | simp only [World.size_alloc])).old _).old _
  have B2 : At X (w.heap.size + 1 + 1) 25 b.cells := by rw [← hX]; exact (At.newq (by first | rfl | simp only [World.size_alloc])).old _
  have B3 : At X (w.heap.size + 1 + 1 + 1) 31 Z := by rw [← hX]; exact At.newq (by first | rfl | simp only [World.size_alloc])
  have FX : Fr [] w X := by rw [← hX]; exact (by repeat (first | exact Fr.refl _ _ | assumption | refine Fr.trans0 ?_ (by assumption) | refine Fr.drewN ?_ _ | refine Fr.alloc ?_ _ | refine Fr.drew ?_))
  have HB0 := Lib.hid B0
  have HB1 := Lib.hid B1
  have HB2 := Lib.hid B2
  have HB3 := Lib.hid B3
  have HFX := Lib.hid FX
  have HX := Lib.hid hX
  unfold Cp.cells at HX HB1 HB2 CT ⊢
  clear B0 B1 B2 B3 FX hX
  rw [ht] at CT
  have hc1 := cat_len l
  have HCL := Lib.hid hc1
  have HONE := Lib.hid (cat_one' l)
  have HU := Lib.hid hu
  obtain ⟨L, hL⟩ : ∃ L, l.length = L := ⟨_, rfl⟩
  have HL := Lib.hid hL
  obtain ⟨ua, uc, rfl, huc⟩ := own_slice hu
  rw [hL] at hl huc HU HCL ⊢
  have hg : decide ((48 : Int) ≤ (L : Int)) = false := by simp; omega
  have HPC := Lib.hid hpc
  have H14 := Lib.hid h14
  have H15 := Lib.hid h15
  have HFR := Lib.hid hfr
  have hwr : IntKind.u32.wrap ((pc.cur : Int) + 4) = (((pc.cur + 4) % 4294967296 : Nat) : Int) := by simp [IntKind.wrap, IntKind.signed, IntKind.bits]
  have hwl : (pc.cur + 4) % 4294967296 < 4294967296 := Nat.mod_lt _ (by omega)
  have CA := Lib.hid fun W => r05addr_any W pc ((pc.cur + 4) % 4294967296) hcur hwl
  obtain ⟨nx, hnx⟩ : ∃ n, (pc.cur + 4) % 4294967296 = n := ⟨_, rfl⟩
  rw [hnx] at CA hwr
  have HNX := Lib.hid hnx
  have hnn : ∀ W : World, (Builtin.append_ #[45, 45] 45 #[.slice none 0 0, .slice none 0 0]).run Try.prog W = .ok (.slice none 0 0) W := fun W => by kernel_rfl
  have HNN := Lib.hid hnn
  clear ht hL hpc h14 h15 hfr hwl hcur hu hc1 hnx hnn
  go_enter Try.func21, Try.ntmps21
  go_wp2_with fail
  rw [HX.out]
  refine (CT.out _).mono ?_
  rintro e w2 ⟨rfl, hf2⟩
  have C0 := Lib.hid (HB0.out.fr hf2 (by simp))
  have C1 := Lib.hid (HB1.out.fr hf2 (by simp))
  have C2 := Lib.hid (HB2.out.fr hf2 (by simp))
  have C3 := Lib.hid (HB3.out.fr hf2 (by simp))
  have CF := Lib.hid (HFX.out.trans0 hf2)
  clear hf2 HB0 HB1 HB2 HB3 HFX HX CT
  go_upto_region 7 with (fail)
  go_cut [12] from 31 to 31 (fun s wx => wx.ownsRow w2.heap.size 25 8 s L (cat l) ∧ Fr [] w2 wx)
  case first =>
    rcases HU.out.2 with ⟨e1, e2⟩ | ⟨g, cap, cur, e1, -, hg0, h1, h2, h3, h4⟩
    · injection e1 with e1 e3 e4
      subst e1 e3 e4
      have e0 : cat l = [] := List.eq_nil_of_length_eq_zero HCL.out
      have E0 := Lib.hid e0
      clear e0 e2
      go_wp2_with fail
      go_meet
      exact ⟨by rw [E0.out]; exact World.ownsRow_nil _ _ _ _, Fr.refl _ _⟩
    · injection e1 with e1 e3 e4
      subst e1 e4
      clear e3
      have hcell := Lib.hid fun j u (hu : (cat l)[j]? = some u) => show w2.cell? ((⟨g, 0, none⟩ : Addr).add j) = some u by
        rw [Go.WideShapes.add_plain, Nat.zero_add, (At.fr (show At w g 25 cur from hg0) CF.out (by simp)).cell j]
        rw [← h4, List.getElem?_take] at hu
        split at hu
        · simpa using hu
        · cases hu
      clear hg0 h4 h3 h2 h1
      go_wp2_with (at_builtin; refine wpList_append_own_at _ rfl (.tmp 29) (.tmp 30) 45 rfl w2.heap.size 25 i0 (.agg noC.cells) 8 24 Try.underlying45 hii hz0 hz1 hz2 rfl (by omega) (.slice none 0 0) 0 [] rfl (World.ownsRow_nil _ _ _ _) ⟨g, 0, none⟩ L _ (cat l) rfl HCL.out hcell.out HONE.out (by unfold maxLen; omega) (by omega) (Nat.le_refl _) ?_; intro v1 w3 hown1 hg1 hnil1 hat1)
      go_meet
      rw [Nat.zero_add, List.nil_append] at hown1
      exact ⟨hown1, (Fr.refl [] w2).trans (Fr.grown hg1) (by simp [Value.ownBlock])⟩
  obtain ⟨ho, hf⟩ := hcut
  obtain ⟨va, vc, rfl, hvc⟩ := own_slice ho
  obtain ⟨w3, rfl⟩ : ∃ W : World, W = wc := ⟨_, rfl⟩
  have D0 := Lib.hid (show At w3 w.heap.size 31 (cat fr).toArray by rw [HA.out]; exact C0.out.fr hf (by simp))
  have D1 := Lib.hid (C1.out.fr hf (by simp))
  have D2 := Lib.hid (C2.out.fr hf (by simp))
  have D3 := Lib.hid (C3.out.fr hf (by simp))
  have DF := Lib.hid (CF.out.trans0 hf)
  have hs23 := hf.size
  have hs3 := C3.out.lt
  have HO := Lib.hid ho
  clear ho hf C0 C1 C2 C3 CF hvc HNN HU huc HCL HONE
  go_wp2_with fail
  refine wp_region_L (fun W => At W w.heap.size 31 (cat fr).toArray) [] (by kernel_rfl) (D0.out.hp rfl) (fun hHeld => ?_)
  refine wpAnyL_take (i := 0) (v := ?_) rfl (by kernel_rfl) (fun _ _ _ h => h) (Or.inl ⟨by rfl, ?_⟩) (by assumption) ?_; rotate_left; (focus (intro w hSw; skip; go_simp; (try with_reducible rfl))); (try (refine wpAnyL_norm (by simp only [Act.put, List.setIfInBounds_toArray, List.set_cons_zero, List.set_cons_succ]; rfl) ?_))
  refine wpAnyL_take (i := 1) (v := ?_) rfl (by kernel_rfl) (fun _ _ _ h => h) (Or.inl ⟨by rfl, ?_⟩) (by assumption) ?_; rotate_left; (focus (intro w hSw; skip; go_simp; (try with_reducible rfl))); (try (refine wpAnyL_norm (by simp only [Act.put, List.setIfInBounds_toArray, List.set_cons_zero, List.set_cons_succ]; rfl) ?_))
  refine wpAnyL_take (i := 2) rfl (by kernel_rfl) (fun _ _ _ h => h) (yields_load_cap (.tmp 33) rfl w.heap.size 128 rfl 31 fr (fun W h => h) 16 rfl pc HPC.out rfl) (by assumption) ?_; (try (refine wpAnyL_norm (by simp only [Act.put, List.setIfInBounds_toArray, List.set_cons_zero, List.set_cons_succ]; rfl) ?_))
  refine wpAnyL_take (i := 3) (v := ?_) rfl (by kernel_rfl) (fun _ _ _ h => h) (Or.inl ⟨by rfl, ?_⟩) (by assumption) ?_; rotate_left; (focus (intro w hSw; skip; go_simp; (try with_reducible rfl))); (try (refine wpAnyL_norm (by simp only [Act.put, List.setIfInBounds_toArray, List.set_cons_zero, List.set_cons_succ]; rfl) ?_))
  refine wpAnyL_take (i := 4) (v := ?_) rfl (by kernel_rfl) (fun _ _ _ h => h) (Or.inl ⟨by rfl, ?_⟩) (by assumption) ?_; rotate_left; (focus (intro w hSw; skip; go_simp; (try with_reducible rfl))); (try (refine wpAnyL_norm (by simp only [Act.put, List.setIfInBounds_toArray, List.set_cons_zero, List.set_cons_succ]; rfl) ?_))
  refine wpAnyL_take (i := 5) (v := ?_) rfl (by kernel_rfl) (fun _ _ _ h => h) (Or.inl ⟨by rfl, ?_⟩) (by assumption) ?_; rotate_left; (focus (intro w hSw; (have hcl := (cat_cell hSw 16 pc HPC.out).1; simp only [Nat.reduceMul] at hcl); go_simp; (try with_reducible rfl))); (try (refine wpAnyL_norm (by simp only [Act.put, List.setIfInBounds_toArray, List.set_cons_zero, List.set_cons_succ]; rfl) ?_))
  refine wpAnyL_take (i := 6) (v := ?_) rfl (by kernel_rfl) (fun _ _ _ h => h) (Or.inl ⟨by rfl, ?_⟩) (by assumption) ?_; rotate_left; (focus (intro w hSw; skip; go_simp; (try with_reducible rfl))); (try (refine wpAnyL_norm (by simp only [Act.put, List.setIfInBounds_toArray, List.set_cons_zero, List.set_cons_succ]; rfl) ?_))
  refine wpAnyL_take (i := 8) (v := ?_) rfl (by kernel_rfl) (fun _ _ _ h => h) (Or.inl ⟨by rfl, ?_⟩) (by assumption) ?_; rotate_left; (focus (intro w hSw; skip; go_simp; (try with_reducible rfl))); (try (refine wpAnyL_norm (by simp only [Act.put, List.setIfInBounds_toArray, List.set_cons_zero, List.set_cons_succ]; rfl) ?_))
  refine wpAnyL_take (i := 9) (v := ?_) rfl (by kernel_rfl) (fun _ _ _ h => h) (Or.inl ⟨by rfl, ?_⟩) (by assumption) ?_; rotate_left; (focus (intro w hSw; skip; go_simp; (try with_reducible rfl))); (try (refine wpAnyL_norm (by simp only [Act.put, List.setIfInBounds_toArray, List.set_cons_zero, List.set_cons_succ]; rfl) ?_))
  refine wpAnyL_take (i := 10) rfl (by kernel_rfl) (fun _ _ _ h => h) (yields_load_cap (.tmp 41) rfl w.heap.size 112 rfl 31 fr (fun W h => h) 14 rfl x14 H14.out rfl) (by assumption) ?_; (try (refine wpAnyL_norm (by simp only [Act.put, List.setIfInBounds_toArray, List.set_cons_zero, List.set_cons_succ]; rfl) ?_))
  refine wpAnyL_take (i := 11) (v := ?_) rfl (by kernel_rfl) (fun _ _ _ h => h) (Or.inl ⟨by rfl, ?_⟩) (by assumption) ?_; rotate_left; (focus (intro w hSw; skip; go_simp; (try with_reducible rfl))); (try (refine wpAnyL_norm (by simp only [Act.put, List.setIfInBounds_toArray, List.set_cons_zero, List.set_cons_succ]; rfl) ?_))
  refine wpAnyL_take (i := 12) (v := ?_) rfl (by kernel_rfl) (fun _ _ _ h => h) (Or.inl ⟨by rfl, ?_⟩) (by assumption) ?_; rotate_left; (focus (intro w hSw; skip; go_simp; (try with_reducible rfl))); (try (refine wpAnyL_norm (by simp only [Act.put, List.setIfInBounds_toArray, List.set_cons_zero, List.set_cons_succ]; rfl) ?_))
  refine wpAnyL_take (i := 13) rfl (by kernel_rfl) (fun _ _ _ h => h) (yields_load_cap (.tmp 44) rfl w.heap.size 120 rfl 31 fr (fun W h => h) 15 rfl x15 H15.out rfl) (by assumption) ?_; (try (refine wpAnyL_norm (by simp only [Act.put, List.setIfInBounds_toArray, List.set_cons_zero, List.set_cons_succ]; rfl) ?_))
  refine wpAnyL_ready (rs := [7]) (by kernel_rfl) (by simp) ?_; refine AllReadyL.cons rfl (fun K hK => ?_) AllReadyL.nil
  go_simp
  refine (CA.out _).mono ?_
  rintro e w4 ⟨rfl, hf4⟩
  have HF4 := Lib.hid (show Fr [] w3 w4 from hf4.hd rfl rfl rfl rfl)
  refine hK.out _ _ (fun _ => hHeld.fr hf4 (by simp)) (fun hHeld' => ?_); have hHeld := hHeld' (by decide); clear hHeld' hK K; (try (refine wpAnyL_norm (by simp only [Act.put, List.setIfInBounds_toArray, List.set_cons_zero, List.set_cons_succ]; rfl) ?_))
  clear hf4
  refine wpAnyL_ready (rs := [14]) (by kernel_rfl) (by simp) ?_; refine AllReadyL.cons rfl (fun K hK => ?_) AllReadyL.nil
  rw [if_pos (by rfl)]
  refine wp_buildSl 45 3 _ _ _ _ (built3 _ (pc.addr nx) x14 x15) rfl (by kernel_rfl) ?_
  have hf5 : Fr [] w4 (w4.alloc (.cells (cat [pc.addr nx, x14, x15]).toArray 25)) := (by repeat (first | exact Fr.refl _ _ | assumption | refine Fr.trans0 ?_ (by assumption) | refine Fr.drewN ?_ _ | refine Fr.alloc ?_ _ | refine Fr.drew ?_))
  refine hK.out _ _ (fun _ => hHeld.fr hf5 (by simp)) (fun hHeld' => ?_); have hHeld := hHeld' (by decide); clear hHeld' hK K; (try (refine wpAnyL_norm (by simp only [Act.put, List.setIfInBounds_toArray, List.set_cons_zero, List.set_cons_succ]; rfl) ?_))
  have N5 := Lib.hid (At.new w4 25 (cat [pc.addr nx, x14, x15]).toArray)
  have HF5 := Lib.hid (HF4.out.trans0 hf5)
  obtain ⟨w5, hw5⟩ : ∃ W, w4.alloc (.cells (cat [pc.addr nx, x14, x15]).toArray 25) = W := ⟨_, rfl⟩
  obtain ⟨q5, hq5⟩ : ∃ q, w4.heap.size = q := ⟨_, rfl⟩
  rw [hw5] at N5 HF5 hHeld
  rw [hq5] at N5
  rw [hw5, hq5]
  have hsz3 := DF.out.size
  have hsz5 := HF5.out.size
  clear hf5 hw5 hq5
  refine wpAnyL_ready (rs := [15]) (by kernel_rfl) (by simp) ?_; refine AllReadyL.cons rfl (fun K hK => ?_) AllReadyL.nil
  have HO5 := Lib.hid (own_fr0 HO.out HF5.out)
  refine step_append_lies _ rfl (.tmp 32) (.tmp 46) 45 rfl w2.heap.size 25 i0 (.agg noC.cells) 8 24 Try.underlying45 hii hz0 hz1 hz2 rfl (by omega) (.slice va L vc) L (cat l) rfl HO5.out ⟨q5, 0, none⟩ 3 3 (cat [pc.addr nx, x14, x15]) rfl (by rw [cat_len]; rfl) (fun j u hu => by rw [Go.WideShapes.add_plain, Nat.zero_add, N5.out.cell, List.getElem?_toArray]; exact hu) (cat_one' _) (by omega) (by unfold maxLen; omega) (by omega) (by omega) _ rfl ?_
  intro gg cap w6 hown6 hg6 hat6 hlt6
  have G6 := Lib.hid (Fr.grown hg6)
  have nf6 := Lib.hid (own_toList HO5.out hHeld (by decide))
  have hbig : ∀ k ∈ (Value.slice va L vc).ownBlock.toList, w2.heap.size ≤ k := fun k hk => by
    cases hv : (Value.slice va L vc).ownBlock with
    | none => rw [hv] at hk; simp at hk
    | some r => rw [hv] at hk; simp at hk; subst hk; exact (HO5.out.lt _ hv).1
  have far : ∀ k, k < w2.heap.size → k ∉ (Value.slice va L vc).ownBlock.toList := fun k hk h => by have := hbig k h; omega
  refine hK.out _ _ (fun _ => hHeld.fr G6.out nf6.out) (fun hHeld' => ?_); have hHeld := hHeld' (by decide); clear hHeld' hK K; (try (refine wpAnyL_norm (by simp only [Act.put, List.setIfInBounds_toArray, List.set_cons_zero, List.set_cons_succ]; rfl) ?_))
  refine wpAnyL_take (i := 16) (v := ?_) rfl (by kernel_rfl) (fun _ _ _ h => h) (Or.inl ⟨by rfl, ?_⟩) (by assumption) ?_; rotate_left; (focus (intro w hSw; skip; go_simp; (try with_reducible rfl))); (try (refine wpAnyL_norm (by simp only [Act.put, List.setIfInBounds_toArray, List.set_cons_zero, List.set_cons_succ]; rfl) ?_))
  refine wpAnyL_done (by kernel_rfl) ?_ _
  have FF := Lib.hid ((DF.out.trans0 HF5.out).trans G6.out (fun k hk => .inr (by have := hbig k hk; omega)))
  have E0 := Lib.hid hHeld
  have E1 := Lib.hid ((D1.out.fr HF5.out (by simp)).fr G6.out (far _ (by omega)))
  have E2 := Lib.hid ((D2.out.fr HF5.out (by simp)).fr G6.out (far _ (by omega)))
  have E3 := Lib.hid ((D3.out.fr HF5.out (by simp)).fr G6.out (far _ (by omega)))
  have EO := Lib.hid (show w6.ownsRow w.heap.size 25 8 (.slice (some ⟨gg, 0, none⟩) (L + 3) cap) (L + 3) (cat (l ++ [pc.addr nx, x14, x15])) by rw [cat_append]; exact own_base hown6 (by omega))
  have hgg : w2.heap.size ≤ gg := (hown6.lt gg rfl).1
  clear hHeld hown6 hg6 hat6 nf6 G6 HO5 N5 HF5 HF4 HO D0 D1 D2 D3 DF far hbig CA hsz3 hsz5
  have HI := Lib.hid (frInfo HFR.out)
  go_wp2_with (refine wpList_load_all rfl 31 (.tmp 5) rfl w.heap.size rfl 31 (cat fr).toArray _ E0.out Try.underlying31 rfl HI.out ?_)
  refine (r20clean_any _ fr HFR.out).mono ?_
  rintro e w7 ⟨rfl, hf7⟩
  have HPL : (passF fr).length = 17 := by unfold passF; rw [List.length_set, List.length_set, zf_len]
  have HPI := Lib.hid (frInfo HPL)
  have G1 := Lib.hid (E1.out.fr hf7 (by simp))
  have G2 := Lib.hid (E2.out.fr hf7 (by simp))
  have G3 := Lib.hid (E3.out.fr hf7 (by simp))
  have GO := Lib.hid (own_fr0 EO.out hf7)
  have GF := Lib.hid (FF.out.trans0 hf7)
  have hs7 : w.heap.size + 1 + 1 + 1 < w7.heap.size := G3.out.lt
  have ZP := Lib.hid (show Z.size = (cat (passF fr)).toArray.size by rw [← HZ.out, cat_size HPL, cat_size zf_len])
  have HPA := Lib.hid (cat_all (passF fr))
  obtain ⟨G, hG⟩ : ∃ G, passF fr = G := ⟨_, rfl⟩
  rw [hG] at HPL HPI ZP HPA ⊢
  have HG := Lib.hid hG
  have HGL := Lib.hid HPL
  clear hf7 hG HPL E0 E1 E2 E3 EO FF
  go_upto_region 10 with (refine wpList_store_all rfl 31 (.tmp 13) (.tmp 49) rfl _ (cat G).toArray rfl rfl 31 Z (At.newq rfl) HPI.out ZP.out HPA.out ?_; intro w8 hA8 hF8)
  have hga : Fr [] w7 (w7.alloc (.cells Z 31)) := (by repeat (first | exact Fr.refl _ _ | assumption | refine Fr.trans0 ?_ (by assumption) | refine Fr.drewN ?_ _ | refine Fr.alloc ?_ _ | refine Fr.drew ?_))
  have hggl := (GO.out.lt gg rfl).2
  obtain ⟨B, hB⟩ : ∃ B, w7.heap.size = B := ⟨_, rfl⟩
  rw [hB] at hA8 hF8 hs7 hggl ⊢
  have hgB : ∀ g', (Value.slice (some ⟨gg, 0, none⟩) (L + 3) cap).ownBlock = some g' → g' ∉ [B] := fun g' hg => by simp [Value.ownBlock] at hg; subst hg; simp; omega
  have I1 := Lib.hid ((G1.out.fr hga (by simp)).fr hF8 (by simp <;> omega))
  have I2 := Lib.hid ((G2.out.fr hga (by simp)).fr hF8 (by simp <;> omega))
  have I3 := Lib.hid ((G3.out.fr hga (by simp)).fr hF8 (by simp <;> omega))
  have IO := Lib.hid (own_fr (own_fr0 GO.out hga) hF8 hgB)
  have IF := Lib.hid ((GF.out.trans0 hga).trans hF8 (by simp <;> omega))
  have HA8 := Lib.hid hA8
  have CO := Lib.hid fun W c => r20open_any W c
  clear hA8 hF8 hB G1 G2 G3 GO GF hga
  have AG := Lib.hid fun (c : Cp) => show Value.agg #[.int .u32 c.cur, .int .u8 c.e, .int .u16 c.b, .int .u16 c.t, .int .u16 c.pm, .int .u16 c.ty, .int .u32 c.rs, .bool c.v] = Value.agg c.cells from rfl
  go_wp2_with (refine wpList_load_all rfl 25 (.tmp 6) rfl (w.heap.size + 1) rfl 25 a.cells _ I1.out Try.underlying25 rfl infoCapS ?_)
  refine (CO.out _ a).mono ?_
  rintro e w9 ⟨rfl, hf9⟩
  have J8 := Lib.hid (HA8.out.fr hf9 (by simp))
  have J2 := Lib.hid (I2.out.fr hf9 (by simp))
  have J3 := Lib.hid (I3.out.fr hf9 (by simp))
  have JO := Lib.hid (own_fr0 IO.out hf9)
  have JF := Lib.hid (IF.out.trans0 hf9)
  clear hf9 I1 I2 I3 IO IF HA8
  go_upto_region 11 with (refine wpList_store_cap rfl (.tmp 52) (.tmp 51) rfl B 128 a.opened rfl rfl 31 G J8.out 16 rfl (by rw [HGL.out]; omega) ?_; intro w10 hA10 hF10)
  have K2 := Lib.hid (J2.out.fr hF10 (by simp <;> omega))
  have K3 := Lib.hid (J3.out.fr hF10 (by simp <;> omega))
  have KO := Lib.hid (own_fr JO.out hF10 hgB)
  have KF := Lib.hid (JF.out.trans hF10 (by simp <;> omega))
  have K8 := Lib.hid hA10
  clear hA10 hF10 J8 J2 J3 JO JF
  go_wp2_with (refine wpList_load_all rfl 25 (.tmp 7) rfl (w.heap.size + 1 + 1) rfl 25 b.cells _ K2.out Try.underlying25 rfl infoCapS ?_)
  refine (CO.out _ b).mono ?_
  rintro e w11 ⟨rfl, hf11⟩
  have L8 := Lib.hid (K8.out.fr hf11 (by simp))
  have L3 := Lib.hid (K3.out.fr hf11 (by simp))
  have LO := Lib.hid (own_fr0 KO.out hf11)
  have LF := Lib.hid (KF.out.trans0 hf11)
  clear hf11 K2 K3 KO KF K8
  go_upto_region 12 with (refine wpList_store_cap rfl (.tmp 56) (.tmp 54) rfl B 120 b.opened rfl rfl 31 _ L8.out 15 rfl (by rw [List.length_set, HGL.out]; omega) ?_; intro w12 hA12 hF12)
  have M3 := Lib.hid (L3.out.fr hF12 (by simp <;> omega))
  have MO := Lib.hid (own_fr LO.out hF12 hgB)
  have MF := Lib.hid (LF.out.trans hF12 (by simp <;> omega))
  have M8 := Lib.hid hA12
  clear hA12 hF12 L8 L3 LO LF
  have HQL : ((G.set 16 a.opened).set 15 b.opened).length = 17 := by rw [List.length_set, List.length_set, HGL.out]
  have HQI := Lib.hid (frInfo HQL)
  have HQM := Lib.hid (frInfoL HQL)
  have ZQ := Lib.hid (show Z.size = (cat ((G.set 16 a.opened).set 15 b.opened)).toArray.size by rw [← HZ.out, cat_size zf_len, cat_size HQL])
  obtain ⟨R, hR⟩ : ∃ R, (G.set 16 a.opened).set 15 b.opened = R := ⟨_, rfl⟩
  rw [hR] at M8 HQI HQM ZQ
  have HR := Lib.hid hR
  clear hR HQL
  refine wp_region_L (fun W => At W B 31 (cat R).toArray) [] (by kernel_rfl) (M8.out.hp rfl) (fun hHeld => ?_)
  refine wpAnyL_take (i := 0) (v := ?_) rfl (by kernel_rfl) (fun _ _ _ h => h) (Or.inl ⟨by rfl, ?_⟩) (by assumption) ?_; rotate_left; (focus (intro w hSw; skip; go_simp; (try with_reducible rfl))); (try (refine wpAnyL_norm (by simp only [Act.put, List.setIfInBounds_toArray, List.set_cons_zero, List.set_cons_succ]; rfl) ?_))
  refine wpAnyL_take (i := 1) rfl (by kernel_rfl) (fun _ _ _ h => h) (yields_load_at 31 (.tmp 13) rfl ⟨B, 0, none⟩ rfl (cat R) _ (fun W h => At.whole h) Try.underlying31 rfl HQM.out rfl) (by assumption) ?_; (try (refine wpAnyL_norm (by simp only [Act.put, List.setIfInBounds_toArray, List.set_cons_zero, List.set_cons_succ]; rfl) ?_))
  refine wpAnyL_take (i := 2) (v := ?_) rfl (by kernel_rfl) (fun _ _ _ h => h) (Or.inl ⟨by rfl, ?_⟩) (by assumption) ?_; rotate_left; (focus (intro w hSw; skip; go_simp; (try with_reducible rfl))); (try (refine wpAnyL_norm (by simp only [Act.put, List.setIfInBounds_toArray, List.set_cons_zero, List.set_cons_succ]; rfl) ?_))
  refine wpAnyL_ready (rs := [3]) (by kernel_rfl) (by simp) ?_; refine AllReadyL.cons rfl (fun K hK => ?_) AllReadyL.nil
  rw [if_pos (by rfl)]
  refine wp_store_whole 31 (.tmp 9) (.tmp 58) rfl (w.heap.size + 1 + 1 + 1) (cat R).toArray rfl rfl 31 Z (M3.out.hp rfl) HQI.out ZQ.out (cat_all _) ?_
  intro w13 hA13 hF13
  refine hK.out _ _ (fun _ => hHeld.fr hF13 (by simp <;> omega)) (fun hHeld' => ?_); have hHeld := hHeld' (by decide); clear hHeld' hK K; (try (refine wpAnyL_norm (by simp only [Act.put, List.setIfInBounds_toArray, List.set_cons_zero, List.set_cons_succ]; rfl) ?_))
  refine wpAnyL_take (i := 4) (v := ?_) rfl (by kernel_rfl) (fun _ _ _ h => h) (Or.inl ⟨by rfl, ?_⟩) (by assumption) ?_; rotate_left; (focus (intro w hSw; skip; go_simp; (try with_reducible rfl))); (try (refine wpAnyL_norm (by simp only [Act.put, List.setIfInBounds_toArray, List.set_cons_zero, List.set_cons_succ]; rfl) ?_))
  refine wpAnyL_done (by kernel_rfl) ?_ _
  have hf13 : Fr [w.heap.size + 1 + 1 + 1] w12 w13 := Fr.hd hF13 rfl rfl rfl rfl
  have NO := Lib.hid (own_fr MO.out hf13 (fun g' hg => by simp [Value.ownBlock] at hg; subst hg; simp; omega))
  have NF := Lib.hid (MF.out.trans hf13 (by simp <;> omega))
  have NA := Lib.hid hA13
  clear hf13 hF13 hA13 hHeld M3 MO MF M8
  go_wp2_with fail
  refine bodyPost_ret (res_tmp_row_tmp rfl _ _ _ 31 _ _ rfl NA.out Try.underlying31 rfl HQI.out) rfl ⟨.slice (some ⟨gg, 0, none⟩) (L + 3) cap, by rw [HG.out, HR.out]; rfl, by rw [HNX.out]; exact NO.out, NF.out⟩
end Go.Proofs.Ytdfefnajhnlpdaa
