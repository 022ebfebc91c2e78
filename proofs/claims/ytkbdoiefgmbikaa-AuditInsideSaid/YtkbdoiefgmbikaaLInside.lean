/-
  AuditInside: what is derived of a boot set or a grant does not lie outside. No condition.
-/



import Derived.Test.YtkbdoiefgmbikaaInner
import Derived.Test.YtkbdoiefgmbikaaIn
import Derived.Deep.CutBlock
import Derived.Deep.DeepCutAuto
import Derived.BigRegion
set_option linter.unusedVariables false
namespace Go.Proofs.Ytkbdoiefgmbikaa
open Go.ChangeShapes Go.WideShapes Go.ChangeAt Go.RowKit
namespace auditInside
theorem w32 (n : Nat) (h : n < 4294967296) : IntKind.u32.wrap (n : Int) = n := by
  simp [IntKind.wrap, IntKind.signed, IntKind.bits]; omega
theorem makeY (W : World) (a s pm : Nat) (hp : pm ≤ 255) (hs : s ≤ 2048) (ha : a < 100000) : Calls Try.prog 18 #[.agg #[.int .u32 a, .int .u32 s], .int .u16 pm] W fun r w' => r = .returned (.tuple #[.agg (mkC a s pm).cells, .bool true]) ∧ Fr [] W w' := by
  have := make_any W a s pm (by omega) (by omega)
  rw [mk_yes a s pm hp hs (by omega), if_pos rfl] at this
  exact this
theorem hdl_get : ∀ (l : List Hd) (k : Nat) (c : Hd) (j : Nat), l[k]? = some c → j < 11 → (l.flatMap Hd.l)[k * 11 + j]? = c.l[j]?
  | [], k, c, j, h, _ => by cases h
  | a :: l, 0, c, j, h, hj => by
    simp at h; subst h
    show (a.l ++ l.flatMap Hd.l)[0 * 11 + j]? = _
    rw [Nat.zero_mul, Nat.zero_add, List.getElem?_append_left (by show j < 11; exact hj)]
  | a :: l, k + 1, c, j, h, hj => by
    have := hdl_get l k c j (by simpa using h) hj
    show (a.l ++ l.flatMap Hd.l)[(k + 1) * 11 + j]? = _
    rw [List.getElem?_append_right (by show 11 ≤ _; omega), show (k + 1) * 11 + j - a.l.length = k * 11 + j by show (k + 1) * 11 + j - 11 = _; omega]
    exact this
theorem hd_rows {W : World} {g : Nat} {t : TypeId} {l : List Hd} (h : At W g t (l.flatMap Hd.l).toArray) : RowsAt W (some ⟨g, 0, none⟩) 11 (l.map Hd.l) :=
  .inr ⟨g, 0, rfl, h.lt, fun k c hk j v hv => by
    rw [List.getElem?_map, Option.map_eq_some_iff] at hk
    obtain ⟨x, hk, rfl⟩ := hk
    have hj : j < 11 := (List.getElem?_eq_some_iff.1 hv).1
    rw [Go.WideShapes.add_plain, h.cell, Nat.zero_add, List.getElem?_toArray, hdl_get l k x j hk hj, hv]⟩
theorem cap_rows {W : World} {g : Nat} {t : TypeId} {l : List Cp} (h : At W g t (catC l).toArray) : RowsAt W (some ⟨g, 0, none⟩) 8 (l.map Cp.l) :=
  .inr ⟨g, 0, rfl, h.lt, fun k c hk j v hv => by
    rw [List.getElem?_map, Option.map_eq_some_iff] at hk
    obtain ⟨x, hk, rfl⟩ := hk
    have hj : j < 8 := (List.getElem?_eq_some_iff.1 hv).1
    rw [Go.WideShapes.add_plain, h.cell, Nat.zero_add, List.getElem?_toArray, catC_get l k x j hk hj, hv]⟩
theorem intsL (W : World) (a : Option Addr) (c q : Nat) (l : List Nat) (h1 : RowsAt W a 1 (iRow l)) (hq : At W q 3 (nts l).toArray) (hl : l.length ≤ 1000) :
    Calls Try.prog 10 #[.slice a l.length c, .slice (some ⟨q, 0, none⟩) l.length l.length] W fun r w' => r = .returned (.bool true) ∧ Fr [] W w' := by
  have := ints_any W a (some ⟨q, 0, none⟩) c l.length l l h1 (.inr ⟨q, 0, rfl, hq.lt, fun k r hk j v hv => by
    unfold iRow at hk
    rw [List.getElem?_map, Option.map_eq_some_iff] at hk
    obtain ⟨x, hk, rfl⟩ := hk
    obtain rfl : j = 0 := by have := (List.getElem?_eq_some_iff.1 hv).1; simp at this; exact this
    rw [Go.WideShapes.add_plain, hq.cell, Nat.zero_add, List.getElem?_toArray, Nat.mul_one, Nat.add_zero]
    unfold nts
    rw [List.getElem?_map, hk]
    simpa using hv⟩) (by omega) (by omega)
  rw [decide_eq_true rfl] at this
  exact this
def fiv (r : Nat) (Y1 Y2 Y3 Y4 : Cp) : List Hd := [⟨0, 0, 0, Y1⟩, ⟨0, 0, 0, Y2⟩, ⟨0, 0, 0, Y3⟩, ⟨0, 0, 0, Y4⟩, hiN r]
theorem builtI (w : World) (r : Nat) (Y1 Y2 Y3 Y4 : Cp) : (Instr.buildSlice 22 5 #[(0, .agg (Hd.l ⟨0, 0, 0, Y1⟩).toArray), (1, .agg (Hd.l ⟨0, 0, 0, Y2⟩).toArray), (2, .agg (Hd.l ⟨0, 0, 0, Y3⟩).toArray), (3, .agg (Hd.l ⟨0, 0, 0, Y4⟩).toArray), (4, .agg (Hd.l (hiN r)).toArray)]).run Try.prog w = .ok (.slice (some ⟨w.heap.size, 0, none⟩) 5 5) (w.alloc (.cells ((fiv r Y1 Y2 Y3 Y4).flatMap Hd.l).toArray 55)) := by kernel_rfl
/-- Outside, of these five. -/
theorem outI (W : World) (H : Nat) (l : List Hd) (h5 : l.length = 5) (hH : At W H 55 (l.flatMap Hd.l).toArray) (hcur : ∀ h ∈ l, h.c.cur < 4294967296) (ba : Option Addr) (bc : Nat) (bl : List Cp) (hb : RowsAt W ba 8 (bl.map Cp.l)) (hnil : ba = none → bc = 0) (hbc : ∀ b ∈ bl, b.cur < 4294967296) (hbn : bl.length ≤ 1000)
    (ra : Option Addr) (rc : Nat) (rl : List (Nat × Nat)) (hr : RowsAt W ra 2 (rl.map rgl)) (hrb : ∀ r ∈ rl, r.1 < 4294967296 ∧ r.2 < 4294967296) (hrn : rl.length ≤ 1000) (R : List Nat) (hR : plc (fun c => !((bl ++ gcs rl).any (withinB c))) l 0 = R) :
    Calls Try.prog 11 #[.slice (some ⟨H, 0, none⟩) 5 5, .slice ba bl.length bc, .slice ra rl.length rc] W fun r w' => ∃ va vc, r = .returned (.slice va R.length vc) ∧ RowsAt w' va 1 (iRow R) ∧ Fr [] W w' := by
  have := outside_any W (some ⟨H, 0, none⟩) 5 l ba bc bl ra rc rl (hd_rows hH) hcur (by omega) hb hnil hbc hbn hr hrb hrn
  rw [h5] at this
  refine this.mono ?_
  rintro e w' ⟨v, rfl, ho, hf⟩
  rw [hR] at ho
  obtain ⟨a, c, rfl, _, hr⟩ := own_ints ho
  exact ⟨a, c, rfl, hr, hf⟩
set_option maxHeartbeats 8000000 in
set_option maxRecDepth 100000 in
theorem walk (a0 : Int) (w0 : (Lit.int .u16 a0).wf = true) (a1 : Int) (w1 : (Lit.int .u16 a1).wf = true) (x0 : Int) (wx0 : (Lit.int .u16 x0).wf = true) (x1 : Int) (wx1 : (Lit.int .u16 x1).wf = true) (w : World) :
    Calls Try.prog 7 #[.int .u16 a0, .int .u16 a1, .agg #[.int .u16 x0, .int .u16 x1]] w fun e w' => e = .returned (.bool true) ∧ Fr [] w w' := by
  have bd : ∀ {z : Int}, (Lit.int .u16 z).wf = true → 0 ≤ z ∧ z < 65536 := fun {z} h => by
    have h1 : IntKind.u16.min = 0 := rfl
    have h2 : IntKind.u16.max = 65535 := rfl
    simp [Lit.wf, h1, h2] at h
    omega
  have b0 := bd w0
  have b1 := bd w1
  have b2 := bd wx0
  have b3 := bd wx1
  obtain ⟨r, rfl⟩ := Int.eq_ofNat_of_zero_le b0.1
  obtain ⟨z, rfl⟩ := Int.eq_ofNat_of_zero_le b1.1
  obtain ⟨p, rfl⟩ := Int.eq_ofNat_of_zero_le b2.1
  obtain ⟨q, rfl⟩ := Int.eq_ofNat_of_zero_le b3.1
  clear bd w0 w1 wx0 wx1
  obtain ⟨zm, hzm⟩ : ∃ zm, z % 2047 = zm := ⟨_, rfl⟩
  have hzl : zm < 2047 := by omega
  have hzI : (z : Int) % 2047 = (zm : Int) := by omega
  obtain ⟨n, hn⟩ : ∃ n, 1 + zm = n := ⟨_, rfl⟩
  have hnI : (1 : Int) + (zm : Int) = (n : Int) := by omega
  obtain ⟨pm, hpm⟩ : ∃ m, p % n = m := ⟨_, rfl⟩
  have hpI : (p : Int) % (n : Int) = (pm : Int) := by rw [← hpm]; simp
  have hpl : pm < n := by rw [← hpm]; exact Nat.mod_lt _ (by omega)
  obtain ⟨f, hf⟩ : ∃ f, r + pm = f := ⟨_, rfl⟩
  have hfI : (r : Int) + (pm : Int) = (f : Int) := by omega
  obtain ⟨d, hd⟩ : ∃ d, r + n - f = d := ⟨_, rfl⟩
  have hdI : (r : Int) + (n : Int) - (f : Int) = (d : Int) := by omega
  obtain ⟨qm, hqm⟩ : ∃ m, q % d = m := ⟨_, rfl⟩
  have hqI : (q : Int) % (d : Int) = (qm : Int) := by rw [← hqm]; simp
  have hql : qm < d := by rw [← hqm]; exact Nat.mod_lt _ (by omega)
  obtain ⟨k, hk⟩ : ∃ k, 1 + qm = k := ⟨_, rfl⟩
  have hkI : (1 : Int) + (qm : Int) = (k : Int) := by omega
  have hI : Ins r n f k := ⟨by omega, by omega, by omega, by omega, by omega, by omega⟩
  have hn0 : ¬ n = 0 := by omega
  have hd0 : ¬ d = 0 := by omega
  have v1 := w32 r (by omega)
  have v2 := w32 zm (by omega)
  have v3 := w32 n (by omega)
  have v4 := w32 p (by omega)
  have v5 := w32 f (by omega)
  have v6 := w32 q (by omega)
  have v7 := w32 d (by omega)
  have v8 := w32 k (by omega)
  have v9 : IntKind.u32.wrap ((r : Int) + (n : Int)) = (r : Int) + (n : Int) := w32 (r + n) (by omega)
  have v10 : IntKind.u32.wrap ((n : Int) + 1) = (n : Int) + 1 := w32 (n + 1) (by omega)
  clear hzm hn hpm hf hd hqm hk
  have HI := Lib.hid hI
  clear hI
  go_enter Try.func7, Try.ntmps7
  go_wp2_with fail
  refine (works_any _).mono ?_
  rintro e w1 ⟨rfl, hf1⟩
  have F1 := Lib.hid (((Fr.refl [] w).alloc (.cells #[.int .u16 p, .int .u16 q] 49)).trans0 hf1)
  have X1 := Lib.hid ((At.new w 49 #[.int .u16 p, .int .u16 q]).fr hf1 (by simp))
  have hxl := X1.out.lt
  clear hf1
  go_wp2_with fail
  have Q7 := Lib.hid (At.new w1 27 #[.int .u32 r, .int .u32 n])
  have hfa := (Fr.refl [] w1).alloc (.cells #[.int .u32 r, .int .u32 n] 27)
  have X1 := Lib.hid (X1.out.fr hfa (by simp))
  have F1 := Lib.hid (F1.out.trans0 hfa)
  clear hfa
  have HIR := Lib.hid (show (Try.prog.info? 27).map (·.size) = some 2 by kernel_rfl)
  obtain ⟨q7, hq7⟩ : ∃ q, w1.heap.size = q := ⟨_, rfl⟩
  obtain ⟨w2, hw2⟩ : ∃ W, w1.alloc (.cells #[.int .u32 r, .int .u32 n] 27) = W := ⟨_, rfl⟩
  have Q7 := Q7.out
  have X1 := X1.out
  have F1 := F1.out
  rw [hw2] at Q7 X1 F1 ⊢
  rw [hq7] at Q7 ⊢
  have Q7 := Lib.hid Q7
  have X1 := Lib.hid X1
  have F1 := Lib.hid F1
  clear hw2 hq7 hxl
  refine wp_region_L (fun W => At W q7 27 #[.int .u32 r, .int .u32 n] ∧ At W w.heap.size 49 #[.int .u16 p, .int .u16 q] ∧ Fr [] w W) [] (by kernel_rfl) ⟨Q7.out.hp rfl, X1.out.hp rfl, F1.out.drew⟩ (fun hHeld => ?_)
  refine wpAnyL_take (i := 0) (v := ?_) rfl (by kernel_rfl) (fun _ _ _ h => h) (Or.inl ⟨by rfl, ?_⟩) (by assumption) ?_; rotate_left; (focus (intro w hSw; skip; go_simp; (try with_reducible rfl))); (try (refine wpAnyL_norm (by simp only [Act.put, List.setIfInBounds_toArray, List.set_cons_zero, List.set_cons_succ]; rfl) ?_))
  refine wpAnyL_take (i := 1) (v := ?_) rfl (by kernel_rfl) (fun _ _ _ h => h) (Or.inl ⟨by rfl, ?_⟩) (by assumption) ?_; rotate_left; (focus (intro w hSw; have c := hSw.1.cell 0; go_simp; (try with_reducible rfl))); (try (refine wpAnyL_norm (by simp only [Act.put, List.setIfInBounds_toArray, List.set_cons_zero, List.set_cons_succ]; rfl) ?_))
  refine wpAnyL_take (i := 2) (v := ?_) rfl (by kernel_rfl) (fun _ _ _ h => h) (Or.inl ⟨by rfl, ?_⟩) (by assumption) ?_; rotate_left; (focus (intro w hSw; skip; go_simp; (try with_reducible rfl))); (try (refine wpAnyL_norm (by simp only [Act.put, List.setIfInBounds_toArray, List.set_cons_zero, List.set_cons_succ]; rfl) ?_))
  refine wpAnyL_take (i := 3) (v := ?_) rfl (by kernel_rfl) (fun _ _ _ h => h) (Or.inl ⟨by rfl, ?_⟩) (by assumption) ?_; rotate_left; (focus (intro w hSw; have c := hSw.2.1.cell 0; go_simp; (try with_reducible rfl))); (try (refine wpAnyL_norm (by simp only [Act.put, List.setIfInBounds_toArray, List.set_cons_zero, List.set_cons_succ]; rfl) ?_))
  refine wpAnyL_take (i := 4) (v := ?_) rfl (by kernel_rfl) (fun _ _ _ h => h) (Or.inl ⟨by rfl, ?_⟩) (by assumption) ?_; rotate_left; (focus (intro w hSw; skip; go_simp; (try with_reducible rfl))); (try (refine wpAnyL_norm (by simp only [Act.put, List.setIfInBounds_toArray, List.set_cons_zero, List.set_cons_succ]; rfl) ?_))
  refine wpAnyL_take (i := 5) (v := ?_) rfl (by kernel_rfl) (fun _ _ _ h => h) (Or.inl ⟨by rfl, ?_⟩) (by assumption) ?_; rotate_left; (focus (intro w hSw; skip; go_simp; (try with_reducible rfl))); (try (refine wpAnyL_norm (by simp only [Act.put, List.setIfInBounds_toArray, List.set_cons_zero, List.set_cons_succ]; rfl) ?_))
  refine wpAnyL_take (i := 6) (v := ?_) rfl (by kernel_rfl) (fun _ _ _ h => h) (Or.inl ⟨by rfl, ?_⟩) (by assumption) ?_; rotate_left; (focus (intro w hSw; have c := hSw.1.cell 1; go_simp; (try with_reducible rfl))); (try (refine wpAnyL_norm (by simp only [Act.put, List.setIfInBounds_toArray, List.set_cons_zero, List.set_cons_succ]; rfl) ?_))
  refine wpAnyL_take (i := 7) (v := ?_) rfl (by kernel_rfl) (fun _ _ _ h => h) (Or.inl ⟨by rfl, ?_⟩) (by assumption) ?_; rotate_left; (focus (intro w hSw; skip; go_simp; (try with_reducible rfl))); (try (refine wpAnyL_norm (by simp only [Act.put, List.setIfInBounds_toArray, List.set_cons_zero, List.set_cons_succ]; rfl) ?_))
  refine wpAnyL_take (i := 8) (v := ?_) rfl (by kernel_rfl) (fun _ _ _ h => h) (Or.inl ⟨by rfl, ?_⟩) (by assumption) ?_; rotate_left; (focus (intro w hSw; skip; go_simp; (try with_reducible rfl))); (try (refine wpAnyL_norm (by simp only [Act.put, List.setIfInBounds_toArray, List.set_cons_zero, List.set_cons_succ]; rfl) ?_))
  refine wpAnyL_take (i := 9) (v := ?_) rfl (by kernel_rfl) (fun _ _ _ h => h) (Or.inl ⟨by rfl, ?_⟩) (by assumption) ?_; rotate_left; (focus (intro w hSw; skip; go_simp; (try with_reducible rfl))); (try (refine wpAnyL_norm (by simp only [Act.put, List.setIfInBounds_toArray, List.set_cons_zero, List.set_cons_succ]; rfl) ?_))
  refine wpAnyL_done (by kernel_rfl) ?_ _
  have e1 : w2.cell? ⟨q7, 0, none⟩ = some (.int .u32 r) := Q7.out.cell 0
  have e2 : w2.cell? ⟨q7, 1, none⟩ = some (.int .u32 n) := Q7.out.cell 1
  have e3 : w2.cell? ⟨w.heap.size, 1, none⟩ = some (.int .u16 q) := X1.out.cell 1
  have Q9 := Lib.hid (At.new w2 27 #[.int .u32 f, .int .u32 k])
  have hfa := (Fr.refl [] w2).alloc (.cells #[.int .u32 f, .int .u32 k] 27)
  have Q7 := Lib.hid (Q7.out.fr hfa (by simp))
  have F1 := Lib.hid (F1.out.trans0 hfa)
  clear hfa hHeld
  have M1 := Lib.hid fun W => makeY W f k 1 (by omega) (by have := HI.out.k2; have := HI.out.n2; have := HI.out.f1; omega) (by have := HI.out.k2; have := HI.out.n2; have := HI.out.r1; omega)
  have M2 := Lib.hid fun W => makeY W r n 3 (by omega) (by have := HI.out.n2; omega) (by have := HI.out.r1; omega)
  have M3 := Lib.hid fun W => makeY W r (n + 1) 1 (by omega) (by have := HI.out.n2; omega) (by have := HI.out.r1; omega)
  have M4 := Lib.hid fun W => makeY W f k 4 (by omega) (by have := HI.out.k2; have := HI.out.n2; have := HI.out.f1; omega) (by have := HI.out.k2; have := HI.out.n2; have := HI.out.r1; omega)
  obtain ⟨Y1, hY1⟩ : ∃ X, mkC f k 1 = X := ⟨_, rfl⟩
  obtain ⟨Y2, hY2⟩ : ∃ X, mkC r n 3 = X := ⟨_, rfl⟩
  obtain ⟨Y3, hY3⟩ : ∃ X, mkC r (n + 1) 1 = X := ⟨_, rfl⟩
  obtain ⟨Y4, hY4⟩ : ∃ X, mkC f k 4 = X := ⟨_, rfl⟩
  rw [hY1] at M1
  rw [hY2] at M2
  rw [hY3] at M3
  rw [hY4] at M4
  have HY1 := Lib.hid hY1
  have HY2 := Lib.hid hY2
  have HY3 := Lib.hid hY3
  have HY4 := Lib.hid hY4
  clear hY1 hY2 hY3 hY4
  unfold Cp.cells at M1 M2 M3 M4
  go_wp2_with fail
  refine (M1.out _).mono ?_
  rintro e w3 ⟨rfl, hf⟩
  have Q9 := Q9.out
  have Q9 := Lib.hid Q9
  have B1 := Lib.hid (At.new w3 51 Y1.cells)
  have hfa := hf.alloc (.cells Y1.cells 51)
  have Q7 := Lib.hid (Q7.out.frh hfa rfl (by simp))
  have Q9 := Lib.hid (Q9.out.frh hfa rfl (by simp))
  have F1 := Lib.hid (F1.out.drew.trans0 hfa)
  clear hf hfa
  unfold Cp.cells at Q7 Q9 F1 B1
  clear e1 e2 e3
  go_wp2_with (refine wpList_load_at rfl 27 (.tmp 7) rfl ⟨q7, 0, none⟩ rfl [.int .u32 r, .int .u32 n] _ (Q7.out.two 0 _ _ rfl rfl) Try.underlying27 rfl HIR.out ?_)
  refine (M2.out _).mono ?_
  rintro e w4 ⟨rfl, hf⟩
  have B2 := Lib.hid (At.new w4 51 Y2.cells)
  have hfa := hf.alloc (.cells Y2.cells 51)
  have Q7 := Lib.hid (Q7.out.fr hfa (by simp))
  have Q9 := Lib.hid (Q9.out.fr hfa (by simp))
  have B1 := Lib.hid (B1.out.fr hfa (by simp))
  have F1 := Lib.hid (F1.out.trans0 hfa)
  clear hf hfa
  have g1 : (w4.alloc (.cells Y2.cells 51)).cell? ⟨q7, 0, none⟩ = some (.int .u32 r) := Q7.out.cell 0
  have g2 : (w4.alloc (.cells Y2.cells 51)).cell? ⟨q7, 1, none⟩ = some (.int .u32 n) := Q7.out.cell 1
  unfold Cp.cells at Q7 Q9 F1 B1 B2 g1 g2
  go_wp2_with fail
  refine (M3.out _).mono ?_
  rintro e w5 ⟨rfl, hf⟩
  have B3 := Lib.hid (At.new w5 51 Y3.cells)
  have hfa := hf.alloc (.cells Y3.cells 51)
  have Q7 := Lib.hid (Q7.out.fr hfa (by simp))
  have Q9 := Lib.hid (Q9.out.fr hfa (by simp))
  have B1 := Lib.hid (B1.out.fr hfa (by simp))
  have B2 := Lib.hid (B2.out.fr hfa (by simp))
  have F1 := Lib.hid (F1.out.trans0 hfa)
  clear hf hfa
  unfold Cp.cells at Q7 Q9 F1 B1 B2 B3
  clear g1 g2
  go_wp2_with (refine wpList_load_at rfl 27 (.tmp 9) rfl ⟨w2.heap.size, 0, none⟩ rfl [.int .u32 f, .int .u32 k] _ (Q9.out.two 0 _ _ rfl rfl) Try.underlying27 rfl HIR.out ?_)
  refine (M4.out _).mono ?_
  rintro e w6 ⟨rfl, hf⟩
  have B4 := Lib.hid (At.new w6 51 Y4.cells)
  have hfa := hf.alloc (.cells Y4.cells 51)
  have Q7 := Lib.hid (Q7.out.fr hfa (by simp))
  have Q9 := Lib.hid (Q9.out.fr hfa (by simp))
  have B1 := Lib.hid (B1.out.fr hfa (by simp))
  have B2 := Lib.hid (B2.out.fr hfa (by simp))
  have B3 := Lib.hid (B3.out.fr hfa (by simp))
  have F1 := Lib.hid (F1.out.trans0 hfa)
  clear hf hfa
  unfold Cp.cells at Q7 Q9 F1 B1 B2 B3 B4
  go_wp2_with fail
  have CN := Lib.hid fun W => numk_any W r
  unfold numK Cp.cells at CN
  refine wp_region_L (fun W => At W w3.heap.size 51 Y1.cells ∧ At W w4.heap.size 51 Y2.cells ∧ At W w5.heap.size 51 Y3.cells ∧ At W w6.heap.size 51 Y4.cells ∧ At W q7 27 #[.int .u32 r, .int .u32 n] ∧ At W w2.heap.size 27 #[.int .u32 f, .int .u32 k] ∧ Fr [] w W) [] (by kernel_rfl) ⟨B1.out.hp rfl, B2.out.hp rfl, B3.out.hp rfl, B4.out.hp rfl, Q7.out.hp rfl, Q9.out.hp rfl, F1.out.drew⟩ (fun hHeld => ?_)
  refine wpAnyL_take (i := 0) rfl (by kernel_rfl) (fun _ _ _ h => h) (yields_load_at 51 (.tmp 10) rfl ⟨w3.heap.size, 0, none⟩ rfl [.int .u32 Y1.cur, .int .u8 Y1.e, .int .u16 Y1.b, .int .u16 Y1.t, .int .u16 Y1.pm, .int .u16 Y1.ty, .int .u32 Y1.rs, .bool Y1.v] _ (fun W hW => hW.1.all _ rfl) Try.underlying51 rfl (infoC8 Y1) rfl) (by assumption) ?_; (try (refine wpAnyL_norm (by simp only [Act.put, List.setIfInBounds_toArray, List.set_cons_zero, List.set_cons_succ]; rfl) ?_))
  refine wpAnyL_take (i := 1) (v := ?_) rfl (by kernel_rfl) (fun _ _ _ h => h) (Or.inl ⟨by rfl, ?_⟩) (by assumption) ?_; rotate_left; (focus (intro w hSw; skip; go_simp; (try with_reducible rfl))); (try (refine wpAnyL_norm (by simp only [Act.put, List.setIfInBounds_toArray, List.set_cons_zero, List.set_cons_succ]; rfl) ?_))
  refine wpAnyL_take (i := 2) rfl (by kernel_rfl) (fun _ _ _ h => h) (yields_load_at 51 (.tmp 12) rfl ⟨w4.heap.size, 0, none⟩ rfl [.int .u32 Y2.cur, .int .u8 Y2.e, .int .u16 Y2.b, .int .u16 Y2.t, .int .u16 Y2.pm, .int .u16 Y2.ty, .int .u32 Y2.rs, .bool Y2.v] _ (fun W hW => hW.2.1.all _ rfl) Try.underlying51 rfl (infoC8 Y2) rfl) (by assumption) ?_; (try (refine wpAnyL_norm (by simp only [Act.put, List.setIfInBounds_toArray, List.set_cons_zero, List.set_cons_succ]; rfl) ?_))
  refine wpAnyL_take (i := 3) (v := ?_) rfl (by kernel_rfl) (fun _ _ _ h => h) (Or.inl ⟨by rfl, ?_⟩) (by assumption) ?_; rotate_left; (focus (intro w hSw; skip; go_simp; (try with_reducible rfl))); (try (refine wpAnyL_norm (by simp only [Act.put, List.setIfInBounds_toArray, List.set_cons_zero, List.set_cons_succ]; rfl) ?_))
  refine wpAnyL_take (i := 4) rfl (by kernel_rfl) (fun _ _ _ h => h) (yields_load_at 51 (.tmp 14) rfl ⟨w5.heap.size, 0, none⟩ rfl [.int .u32 Y3.cur, .int .u8 Y3.e, .int .u16 Y3.b, .int .u16 Y3.t, .int .u16 Y3.pm, .int .u16 Y3.ty, .int .u32 Y3.rs, .bool Y3.v] _ (fun W hW => hW.2.2.1.all _ rfl) Try.underlying51 rfl (infoC8 Y3) rfl) (by assumption) ?_; (try (refine wpAnyL_norm (by simp only [Act.put, List.setIfInBounds_toArray, List.set_cons_zero, List.set_cons_succ]; rfl) ?_))
  refine wpAnyL_take (i := 5) (v := ?_) rfl (by kernel_rfl) (fun _ _ _ h => h) (Or.inl ⟨by rfl, ?_⟩) (by assumption) ?_; rotate_left; (focus (intro w hSw; skip; go_simp; (try with_reducible rfl))); (try (refine wpAnyL_norm (by simp only [Act.put, List.setIfInBounds_toArray, List.set_cons_zero, List.set_cons_succ]; rfl) ?_))
  refine wpAnyL_take (i := 6) rfl (by kernel_rfl) (fun _ _ _ h => h) (yields_load_at 51 (.tmp 16) rfl ⟨w6.heap.size, 0, none⟩ rfl [.int .u32 Y4.cur, .int .u8 Y4.e, .int .u16 Y4.b, .int .u16 Y4.t, .int .u16 Y4.pm, .int .u16 Y4.ty, .int .u32 Y4.rs, .bool Y4.v] _ (fun W hW => hW.2.2.2.1.all _ rfl) Try.underlying51 rfl (infoC8 Y4) rfl) (by assumption) ?_; (try (refine wpAnyL_norm (by simp only [Act.put, List.setIfInBounds_toArray, List.set_cons_zero, List.set_cons_succ]; rfl) ?_))
  refine wpAnyL_take (i := 7) (v := ?_) rfl (by kernel_rfl) (fun _ _ _ h => h) (Or.inl ⟨by rfl, ?_⟩) (by assumption) ?_; rotate_left; (focus (intro w hSw; skip; go_simp; (try with_reducible rfl))); (try (refine wpAnyL_norm (by simp only [Act.put, List.setIfInBounds_toArray, List.set_cons_zero, List.set_cons_succ]; rfl) ?_))
  refine wpAnyL_take (i := 8) (v := ?_) rfl (by kernel_rfl) (fun _ _ _ h => h) (Or.inl ⟨by rfl, ?_⟩) (by assumption) ?_; rotate_left; (focus (intro w hSw; skip; go_simp; (try with_reducible rfl))); (try (refine wpAnyL_norm (by simp only [Act.put, List.setIfInBounds_toArray, List.set_cons_zero, List.set_cons_succ]; rfl) ?_))
  refine wpAnyL_take (i := 9) (v := ?_) rfl (by kernel_rfl) (fun _ _ _ h => h) (Or.inl ⟨by rfl, ?_⟩) (by assumption) ?_; rotate_left; (focus (intro w hSw; have c := hSw.2.2.2.2.1.cell 0; go_simp; (try with_reducible rfl))); (try (refine wpAnyL_norm (by simp only [Act.put, List.setIfInBounds_toArray, List.set_cons_zero, List.set_cons_succ]; rfl) ?_))
  refine wpAnyL_ready (rs := [10]) (by kernel_rfl) (by simp) ?_; refine AllReadyL.cons rfl (fun K hK => ?_) AllReadyL.nil
  go_simp
  refine (CN.out _).mono ?_
  rintro e w7 ⟨rfl, hf⟩
  refine hK.out _ _ (fun _ => ⟨hHeld.1.fr hf (by simp), hHeld.2.1.fr hf (by simp), hHeld.2.2.1.fr hf (by simp), hHeld.2.2.2.1.fr hf (by simp), hHeld.2.2.2.2.1.fr hf (by simp), hHeld.2.2.2.2.2.1.fr hf (by simp), hHeld.2.2.2.2.2.2.trans0 hf⟩) (fun hHeld' => ?_); have hHeld := hHeld' (by decide); clear hHeld' hK K; (try (refine wpAnyL_norm (by simp only [Act.put, List.setIfInBounds_toArray, List.set_cons_zero, List.set_cons_succ]; rfl) ?_))
  refine wpAnyL_take (i := 11) (v := ?_) rfl (by kernel_rfl) (fun _ _ _ h => h) (Or.inl ⟨by rfl, ?_⟩) (by assumption) ?_; rotate_left; (focus (intro w hSw; skip; go_simp; (try with_reducible rfl))); (try (refine wpAnyL_norm (by simp only [Act.put, List.setIfInBounds_toArray, List.set_cons_zero, List.set_cons_succ]; rfl) ?_))
  refine wpAnyL_ready (rs := [12]) (by kernel_rfl) (by simp) ?_; refine AllReadyL.cons rfl (fun K hK => ?_) AllReadyL.nil
  refine wp_buildSlice 22 5 _ _ _ _ (builtI _ r Y1 Y2 Y3 Y4) rfl (by simp [go_sem]; exact ⟨rfl, rfl, rfl, rfl, rfl⟩) ?_
  have hA := At.new w7 55 ((fiv r Y1 Y2 Y3 Y4).flatMap Hd.l).toArray
  have hfb := (Fr.refl [] w7).alloc (.cells ((fiv r Y1 Y2 Y3 Y4).flatMap Hd.l).toArray 55)
  refine hK.out _ _ (fun _ => ⟨hHeld.1.fr hfb (by simp), hHeld.2.1.fr hfb (by simp), hHeld.2.2.1.fr hfb (by simp), hHeld.2.2.2.1.fr hfb (by simp), hHeld.2.2.2.2.1.fr hfb (by simp), hHeld.2.2.2.2.2.1.fr hfb (by simp), hHeld.2.2.2.2.2.2.trans0 hfb⟩) (fun hHeld' => ?_); have hHeld := hHeld' (by decide); clear hHeld' hK K; (try (refine wpAnyL_norm (by simp only [Act.put, List.setIfInBounds_toArray, List.set_cons_zero, List.set_cons_succ]; rfl) ?_))
  refine wpAnyL_take (i := 13) (v := ?_) rfl (by kernel_rfl) (fun _ _ _ h => h) (Or.inl ⟨by rfl, ?_⟩) (by assumption) ?_; rotate_left; (focus (intro w hSw; skip; go_simp; (try with_reducible rfl))); (try (refine wpAnyL_norm (by simp only [Act.put, List.setIfInBounds_toArray, List.set_cons_zero, List.set_cons_succ]; rfl) ?_))
  refine wpAnyL_done (by kernel_rfl) ?_ _
  obtain ⟨w8, hw8⟩ : ∃ W, w7.alloc (.cells ((fiv r Y1 Y2 Y3 Y4).flatMap Hd.l).toArray 55) = W := ⟨_, rfl⟩
  obtain ⟨H, hH⟩ : ∃ q, w7.heap.size = q := ⟨_, rfl⟩
  rw [hw8] at hA hHeld ⊢
  rw [hH] at hA ⊢
  have AH := Lib.hid hA
  have C2 := Lib.hid hHeld.2.1
  have C3 := Lib.hid hHeld.2.2.1
  have C4 := Lib.hid hHeld.2.2.2.1
  have P7 := Lib.hid hHeld.2.2.2.2.1
  have P9 := Lib.hid hHeld.2.2.2.2.2.1
  have FW := Lib.hid hHeld.2.2.2.2.2.2
  have hcur : ∀ h ∈ fiv r Y1 Y2 Y3 Y4, h.c.cur < 4294967296 := fun h hh => by
    obtain ⟨i1, i2, i3, i4, i5, i6⟩ := HI.out
    simp only [fiv, List.mem_cons, List.not_mem_nil, or_false] at hh
    rcases hh with rfl | rfl | rfl | rfl | rfl
    · rw [← HY1.out]; show f < _; omega
    · rw [← HY2.out]; show r < _; omega
    · rw [← HY3.out]; show r < _; omega
    · rw [← HY4.out]; show f < _; omega
    · show r < _; omega
  have HC := Lib.hid hcur
  have hfive : fiv r Y1 Y2 Y3 Y4 = five r n f k := by rw [← HY1.out, ← HY2.out, ← HY3.out, ← HY4.out]; rfl
  have HFV := Lib.hid hfive
  have FL := Lib.hid (Fr.refl [] w8)
  clear hA hHeld hfb hw8 hH hf hcur hfive B1 B2 B3 B4 Q7 Q9 F1 CN M1 M2 M3 M4
  have HB := At.new w8 27 #[.int .u32 r, .int .u32 n]
  have hfa := (Fr.refl [] w8).alloc (.cells #[.int .u32 r, .int .u32 n] 27)
  have C := Lib.hid (outI _ H _ rfl (AH.out.fr (FL.out.trans0 hfa) (by simp)) HC.out none 0 [] (.inl rfl) (fun _ => rfl) (by simp) (by simp) (some ⟨w8.heap.size, 0, none⟩) 1 [(r, n)] (.inr ⟨w8.heap.size, 0, rfl, HB.lt, fun i c hi j v hv => by match i, hi with | 0, hi => simp at hi; subst hi; exact HB.two 0 _ _ rfl rfl j v hv⟩) (by have := HI.out.n2; have := HI.out.r1; simp; omega) (by simp) [2, 3] (by rw [HFV.out]; exact in1 HI.out))
  go_wp2_with (refine wpList_load_at rfl 27 (.tmp 7) rfl ⟨q7, 0, none⟩ rfl [.int .u32 r, .int .u32 n] _ ((P7.out.fr FL.out (by simp)).two 0 _ _ rfl rfl) Try.underlying27 rfl HIR.out ?_)
  refine (C.out).mono ?_
  rintro e wB ⟨va, vc, rfl, rr, hfB⟩
  have FL := Lib.hid (FL.out.trans0 (hfa.trans0 hfB))
  clear hfa hfB C
  have HA := At.new wB 3 (nts [2, 3]).toArray
  have hfa := (Fr.refl [] wB).alloc (.cells (nts [2, 3]).toArray 3)
  have C := Lib.hid (intsL _ va vc wB.heap.size [2, 3] (rr.fr0 hfa) HA (by decide))
  clear HA rr
  go_wp2_with fail
  refine (C.out).mono ?_
  rintro e wC ⟨rfl, hfC⟩
  have FL := Lib.hid (FL.out.trans0 (hfa.trans0 hfC))
  clear hfa hfC C
  obtain ⟨wA, rfl⟩ : ∃ W : World, W = wC := ⟨_, rfl⟩
  have HB := At.new wA 51 (catC [Y2]).toArray
  have hfa := (Fr.refl [] wA).alloc (.cells (catC [Y2]).toArray 51)
  have C := Lib.hid (outI _ H _ rfl (AH.out.fr (FL.out.trans0 hfa) (by simp)) HC.out (some ⟨wA.heap.size, 0, none⟩) 1 [Y2] (cap_rows HB) (by simp) (by simp; rw [← HY2.out]; show r < _; have := HI.out.r1; omega) (by simp) none 0 [] (.inl rfl) (by simp) (by simp) [2, 3] (by rw [HFV.out, ← HY2.out]; exact in2 HI.out))
  go_wp2_with (refine wpList_load_at rfl 51 (.tmp 12) rfl ⟨w4.heap.size, 0, none⟩ rfl [.int .u32 Y2.cur, .int .u8 Y2.e, .int .u16 Y2.b, .int .u16 Y2.t, .int .u16 Y2.pm, .int .u16 Y2.ty, .int .u32 Y2.rs, .bool Y2.v] _ ((C2.out.fr FL.out (by simp)).all _ rfl) Try.underlying51 rfl (infoC8 Y2) ?_)
  refine (C.out).mono ?_
  rintro e wB ⟨va, vc, rfl, rr, hfB⟩
  have FL := Lib.hid (FL.out.trans0 (hfa.trans0 hfB))
  clear hfa hfB C
  have HA := At.new wB 3 (nts [2, 3]).toArray
  have hfa := (Fr.refl [] wB).alloc (.cells (nts [2, 3]).toArray 3)
  have C := Lib.hid (intsL _ va vc wB.heap.size [2, 3] (rr.fr0 hfa) HA (by decide))
  clear HA rr
  go_wp2_with fail
  refine (C.out).mono ?_
  rintro e wC ⟨rfl, hfC⟩
  have FL := Lib.hid (FL.out.trans0 (hfa.trans0 hfC))
  clear hfa hfC C
  obtain ⟨wA, rfl⟩ : ∃ W : World, W = wC := ⟨_, rfl⟩
  have HB := At.new wA 51 (catC [Y3, Y4]).toArray
  have hfa := (Fr.refl [] wA).alloc (.cells (catC [Y3, Y4]).toArray 51)
  have C := Lib.hid (outI _ H _ rfl (AH.out.fr (FL.out.trans0 hfa) (by simp)) HC.out (some ⟨wA.heap.size, 0, none⟩) 2 [Y3, Y4] (cap_rows HB) (by simp) (by simp; rw [← HY3.out, ← HY4.out]; exact ⟨by show r < _; have := HI.out.r1; omega, by show f < _; have := HI.out.r1; have := HI.out.k2; have := HI.out.n2; omega⟩) (by simp) none 0 [] (.inl rfl) (by simp) (by simp) [1] (by rw [HFV.out, ← HY3.out, ← HY4.out]; exact in3 HI.out))
  go_wp2_with (first | (refine wpList_load_at rfl 51 (.tmp 14) rfl ⟨w5.heap.size, 0, none⟩ rfl [.int .u32 Y3.cur, .int .u8 Y3.e, .int .u16 Y3.b, .int .u16 Y3.t, .int .u16 Y3.pm, .int .u16 Y3.ty, .int .u32 Y3.rs, .bool Y3.v] _ ((C3.out.fr FL.out (by simp)).all _ rfl) Try.underlying51 rfl (infoC8 Y3) ?_) | (refine wpList_load_at rfl 51 (.tmp 16) rfl ⟨w6.heap.size, 0, none⟩ rfl [.int .u32 Y4.cur, .int .u8 Y4.e, .int .u16 Y4.b, .int .u16 Y4.t, .int .u16 Y4.pm, .int .u16 Y4.ty, .int .u32 Y4.rs, .bool Y4.v] _ ((C4.out.fr FL.out (by simp)).all _ rfl) Try.underlying51 rfl (infoC8 Y4) ?_))
  refine (C.out).mono ?_
  rintro e wB ⟨va, vc, rfl, rr, hfB⟩
  have FL := Lib.hid (FL.out.trans0 (hfa.trans0 hfB))
  clear hfa hfB C
  have HA := At.new wB 3 (nts [1]).toArray
  have hfa := (Fr.refl [] wB).alloc (.cells (nts [1]).toArray 3)
  have C := Lib.hid (intsL _ va vc wB.heap.size [1] (rr.fr0 hfa) HA (by decide))
  clear HA rr
  go_wp2_with fail
  refine (C.out).mono ?_
  rintro e wC ⟨rfl, hfC⟩
  have FL := Lib.hid (FL.out.trans0 (hfa.trans0 hfC))
  clear hfa hfC C
  obtain ⟨wA, rfl⟩ : ∃ W : World, W = wC := ⟨_, rfl⟩
  have C := Lib.hid (meeting_any wA (some ⟨H, 0, none⟩) 5 (fiv r Y1 Y2 Y3 Y4) f k (hd_rows (AH.out.fr FL.out (by simp))) HC.out (by show 5 ≤ 1000; omega) (by have := HI.out.r1; have := HI.out.k2; have := HI.out.n2; omega) (by have := HI.out.r1; have := HI.out.k2; have := HI.out.n2; omega))
  go_wp2_with (refine wpList_load_at rfl 27 (.tmp 9) rfl ⟨w2.heap.size, 0, none⟩ rfl [.int .u32 f, .int .u32 k] _ ((P9.out.fr FL.out (by simp)).two 0 _ _ rfl rfl) Try.underlying27 rfl HIR.out ?_)
  refine (C.out).mono ?_
  rintro e wB ⟨v, rfl, ho, hfB⟩
  rw [HFV.out, in4 HI.out] at ho
  obtain ⟨va, vc, rfl, _, rr⟩ := own_ints ho
  have FL := Lib.hid (FL.out.trans0 hfB)
  clear hfB C ho
  have HA := At.new wB 3 (nts [0, 1, 2, 3]).toArray
  have hfa := (Fr.refl [] wB).alloc (.cells (nts [0, 1, 2, 3]).toArray 3)
  have C := Lib.hid (intsL _ va vc wB.heap.size [0, 1, 2, 3] (RowsAt.fr0 rr hfa) HA (by decide))
  clear HA rr
  go_wp2_with fail
  refine (C.out).mono ?_
  rintro e wC ⟨rfl, hfC⟩
  have FL := Lib.hid (FL.out.trans0 (hfa.trans0 hfC))
  clear hfa hfC C
  go_wp2_with fail
  go_ret
  exact ⟨rfl, FW.out.trans0 FL.out⟩
theorem laidOut : laidOutB Try.prog = true := by kernel_rfl
set_option maxRecDepth 100000 in
theorem lifted (os : Os) (started : os.Started) (H : Type) (enc : TypeId × Value → H) :
    ReturnsInHanded {} Try.checked os 7 .any (Rows.auditInsideSpec.pre6 enc Try.prog Try.f7 Rows.auditInsideRow.domain false) (Rows.auditInsideSpec.post enc Try.prog Try.f7 false true false false) := by
  refine returnsInHanded_of_change (C := Try.checked) own started (by kernel_rfl) Try.func7
    (ChangeSpec.witness6 (enc := enc) (C := Try.checked) false ⟨#[], #[.int .u16 0, .int .u16 0, .agg #[.int .u16 0, .int .u16 0]], []⟩ 8 (by kernel_rfl) (by kernel_rfl) (by kernel_rfl) (by kernel_rfl)) ?_
  intro W base args ds gs before hval0 hW hcnd _
  have hval : ∀ (j : Nat) t v, Try.f7.params[j]? = some t → args[j]? = some v → Value.okWide Try.prog W .any base t v := hval0
  have hW' := hW
  obtain ⟨p, q, hA0, hV, rfl, hfz, hnd⟩ := hW
  have hA : DataW.TrodAll enc Try.prog W 0 (fun _ => true) true Try.f7.params.toList args.toList ds p := hA0
  rw [Try.params7] at hA hval
  obtain ⟨v0, vs0, d0, ds0, p0, q0, hargs, rfl, rfl, h0, r0⟩ := trodAll_cons hA
  obtain ⟨v1, vs1, d1, ds1, p1, q1, rfl, rfl, rfl, h1, r1⟩ := trodAll_cons r0
  obtain ⟨v2, vs2, d2, ds2, p2, q2, rfl, rfl, rfl, h2, r2⟩ := trodAll_cons r1
  obtain ⟨rfl, rfl, rfl⟩ := trodAll_nil r2
  obtain rfl : args = #[v0, v1, v2] := by cases args; simp_all
  obtain ⟨rfl, rfl⟩ := trodVars_none hV
  obtain ⟨a0, rfl, rfl, rfl, w0⟩ := open_int Try.underlying48 (hval 0 48 v0 rfl rfl) h0
  obtain ⟨a1, rfl, rfl, rfl, w1⟩ := open_int Try.underlying48 (hval 1 48 v1 rfl rfl) h1
  have k2 := h2
  have lt2 : ∀ x ∈ p2, x.block < W.heap.size := by obtain ⟨m, hm⟩ := k2; exact DataW.trod_lt m _ _ _ hm
  obtain ⟨x2, y2, rfl, wx2, wy2⟩ := open_arr2 Try.underlying49 Try.underlying48 (by kernel_rfl) (by kernel_rfl) (hval 2 49 v2 rfl rfl) h2
  clear hA0 hval0
  refine (walk a0 w0 a1 w1 x2 wx2 y2 wy2 W ).mono fun e W' ⟨he, hg⟩ => ?_
  subst he
  have bel := hg.below
  exact ⟨_, rfl, _, _, _, [], _, [], hW', trodAll_mk1 (shut_bool Try.underlying4 _), (trodAll_cons_mk (shut_int Try.underlying48 w0) (trodAll_cons_mk (shut_int Try.underlying48 w1) (trodAll_cons_mk (Below.trod laidOut (by kernel_rfl) (of_decide_eq_true (by kernel_rfl)) k2 bel lt2) trodAll_mk0))), rfl, bel.frame _, fun h => by cases h⟩
theorem over : Rows.auditInsideRow.holds Try.pinned (OpenSpec.ofChange Rows.auditInsideSpec) :=
  OpenClaim.holds_of_wide 7 Try.f7 rfl rfl rfl rfl rfl rfl rfl ⟨rfl, rfl, rfl, rfl, rfl⟩ rfl rfl rfl rfl rfl (by kernel_rfl) Try.func7 (by kernel_rfl)
    (of_decide_eq_true (by kernel_rfl)) (by unfold Func.isWrapper; first | (rw [if_pos (by decide +kernel)]; kernel_rfl) | (rw [if_neg (by decide +kernel)]; exact ⟨rfl, rfl⟩))
    (fun os started H enc _ => lifted os started H enc)
/-- The statement, proved. -/
theorem proved : Rows.AuditInsideSaid :=
  over
end auditInside
end Go.Proofs.Ytkbdoiefgmbikaa
