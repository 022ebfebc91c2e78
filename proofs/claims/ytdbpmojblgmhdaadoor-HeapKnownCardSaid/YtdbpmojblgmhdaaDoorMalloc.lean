/-
  Malloc: a small region, or a run of pages, or none. Condition: numbers in their types' ranges.
-/



import Derived.Test.YtdbpmojblgmhdaaDoorRelease
set_option linter.unusedVariables false
namespace Go.Proofs.YtdbpmojblgmhdaaDoor
open Go.ChangeShapes Go.WideShapes Go.ChangeAt Go.RowKit
theorem res_row_tmp {P : Program} {fn : Func} {p x : Tmp} {ty : TypeId} (h : fn.results = #[.cell p ty, .tmp x]) (tmps : Array Value) (w : World) (g : Nat) (t : TypeId) (cs : Array Value) (d : TypeDesc)
    (hp : tmps.getD p undef = .pointer (some ⟨g, 0, none⟩)) (hg : At w g t cs)
    (hu : P.underlying ty = some d) (hd : (match d with | .struct _ | .array _ _ => true | _ => false) = true) (hi : (P.info? ty).map (·.size) = some cs.size) :
    (results fn tmps).run P w = .ok (.tuple #[.agg cs, tmps.getD x undef]) w := by
  have hp' : tmps[p]?.getD undef = .pointer (some ⟨g, 0, none⟩) := by simpa using hp
  simp [results, h, hp', asAddr, run_loadVar_row w g t ty cs (0, 0) d hg hu hd hi]
section
variable {w : World} {I : HId} {own : Rg} {L R A : List Rg}
theorem hmalloc_err (h : Hb w I own A) {size : Nat} (hs : size < 4294967296) (hv : padV (size : Int) own.2 = (0, 0, 6)) :
    Calls Tryd.prog 14 #[.pointer (some ⟨I.hp, 0, none⟩), .int .u32 size] w fun e w' => e = .returned (.tuple #[.agg #[.int .u32 0, .int .u32 0], .int .i64 6]) ∧ Fr [] w w' := by
  have hbox : Fr [] w (w.alloc (.cells #[.int .u32 0, .int .u32 0] 31)) := (by repeat (first | exact Fr.refl _ _ | assumption | refine Fr.trans0 ?_ (by assumption) | refine Fr.drewN ?_ _ | refine Fr.alloc ?_ _ | refine Fr.drew ?_))
  have B0 := At.new w 31 #[.int .u32 0, .int .u32 0]
  have HB := Lib.hid (h.fr0 hbox)
  have CN := Lib.hid (hnone_any HB.out)
  have CP := Lib.hid (padded_any (size : Int) (own.2 : Int) (w.alloc (.cells #[.int .u32 0, .int .u32 0] 31)) (by omega) (by omega))
  unfold Pd at CP
  rw [hv] at CP
  obtain ⟨c0, c1, c2, c8, c9⟩ := HB.out.cs
  have HB0 := Lib.hid B0
  have HF0 := Lib.hid hbox
  clear h hbox B0 hv
  go_enter Tryd.func14, Tryd.ntmps14
  go_wp2_with fail
  refine (CN.out).mono ?_
  rintro e w' ⟨rfl, rfl⟩
  go_wp2_with fail
  refine (CP.out).mono ?_
  rintro e w2 ⟨rfl, hf2⟩
  have A2 := Lib.hid (HB0.out.fr hf2 (by simp))
  have HF2 := Lib.hid (HF0.out.trans0 hf2)
  have d0 := A2.out.cell 0
  have d1 := A2.out.cell 1
  have f0 := A2.out.froz 0
  have f1 := A2.out.froz 1
  simp only [List.getElem?_toArray, List.getElem?_cons_zero, List.getElem?_cons_succ] at d0 d1
  clear hf2
  go_wp2_with fail
  exact bodyPost_ret (res_row_tmp rfl _ _ w.heap.size 31 #[.int .u32 0, .int .u32 0] _ rfl ((A2.out.set 0 _).set 1 _) Tryd.underlying31 rfl infoRgS) rfl ⟨rfl, (HF2.out.set (.inr (Nat.le_refl _)) _).set (.inr (Nat.le_refl _)) _⟩
/-- What is behind a Malloc. -/
def Mo (w : World) (I : HId) (P : World → Prop) (Q : World → Prop) (w' : World) : Prop := ∃ w4 S2, P w4 ∧ Q w' ∧ Fr S2 w4 w' ∧ ∀ k ∈ S2, k = I.lb ∨ w.heap.size ≤ k
theorem hmalloc_small_no (h : Hb w I own A) {size pd al c : Nat} (hs : size < 4294967296) (hv : padV (size : Int) own.2 = ((pd : Int), (al : Int), 0)) (hpd : pd ≤ 256) (hcls : clsV pd = c) (hclb : clsB pd = true)
    (CS : ∀ W, Fr [] w W → Calls Tryd.prog 30 #[.pointer (some ⟨I.hp, 0, none⟩), .int .i64 c] W fun e w' => e = .returned (.tuple #[.int .u32 0, .bool false]) ∧ w' = W) :
    Calls Tryd.prog 14 #[.pointer (some ⟨I.hp, 0, none⟩), .int .u32 size] w fun e w' => e = .returned (.tuple #[.agg #[.int .u32 0, .int .u32 0], .int .i64 7]) ∧ Fr [] w w' := by
  have hbox : Fr [] w (w.alloc (.cells #[.int .u32 0, .int .u32 0] 31)) := (by repeat (first | exact Fr.refl _ _ | assumption | refine Fr.trans0 ?_ (by assumption) | refine Fr.drewN ?_ _ | refine Fr.alloc ?_ _ | refine Fr.drew ?_))
  have B0 := At.new w 31 #[.int .u32 0, .int .u32 0]
  have HB := Lib.hid (h.fr0 hbox)
  have CN := Lib.hid (hnone_any HB.out)
  have CP := Lib.hid (padded_any (size : Int) (own.2 : Int) (w.alloc (.cells #[.int .u32 0, .int .u32 0] 31)) (by omega) (by omega))
  unfold Pd at CP
  rw [hv] at CP
  obtain ⟨c0, c1, c2, c8, c9⟩ := HB.out.cs
  have HB0 := Lib.hid B0
  have HF0 := Lib.hid hbox
  have CC := Lib.hid fun W => class_any (pd : Int) W (by omega) (by omega)
  rw [hcls, hclb] at CC
  clear h hbox B0 hv hcls hclb
  go_enter Tryd.func14, Tryd.ntmps14
  go_wp2_with fail
  refine (CN.out).mono ?_
  rintro e w' ⟨rfl, rfl⟩
  go_wp2_with fail
  refine (CP.out).mono ?_
  rintro e w2 ⟨rfl, hf2⟩
  have A2 := Lib.hid (HB0.out.fr hf2 (by simp))
  have HF2 := Lib.hid (HF0.out.trans0 hf2)
  have hsz2 := HF2.out.size
  have hne1 : ¬ w.heap.size = w2.heap.size := by have := A2.out.lt; omega
  have hne2 : ¬ w2.heap.size = w.heap.size := by have := A2.out.lt; omega
  clear hf2
  go_wp2_with fail
  refine (CC.out _).mono ?_
  rintro e w3 ⟨rfl, hf3⟩
  have hfa : Fr [] w2 (w2.alloc (.cells #[.int .u32 0, .int .u32 pd] 31)) := (by repeat (first | exact Fr.refl _ _ | assumption | refine Fr.trans0 ?_ (by assumption) | refine Fr.drewN ?_ _ | refine Fr.alloc ?_ _ | refine Fr.drew ?_))
  have A3 := Lib.hid ((A2.out.fr hfa (by simp)).fr hf3 (by simp))
  have R3 := Lib.hid ((At.new w2 31 #[.int .u32 0, .int .u32 pd]).fr hf3 (by simp))
  have HF3 := Lib.hid ((HF2.out.trans0 hfa).trans0 hf3)
  clear hf3 hfa
  have C3 := Lib.hid (CS _ HF3.out)
  have d0 := A3.out.cell 0
  have d1 := A3.out.cell 1
  have f0 := A3.out.froz 0
  have f1 := A3.out.froz 1
  have e0 := R3.out.cell 0
  have e1 := R3.out.cell 1
  have g0 := R3.out.froz 0
  have g1 := R3.out.froz 1
  simp only [List.getElem?_toArray, List.getElem?_cons_zero, List.getElem?_cons_succ] at d0 d1 e0 e1
  clear CS
  go_wp2_with fail
  refine (C3.out).mono ?_
  rintro e w4 ⟨rfl, rfl⟩
  go_wp2_with fail
  have A4 := (A3.out.fr ((Fr.refl [w2.heap.size] w4).set (a := ⟨w2.heap.size, 0, none⟩) (.inl (by simp)) (.int .u32 0)) (by simp; exact hne1))
  exact bodyPost_ret (res_row_tmp rfl _ _ w.heap.size 31 #[.int .u32 0, .int .u32 0] _ rfl ((A4.set 0 _).set 1 _) Tryd.underlying31 rfl infoRgS) rfl ⟨rfl, ((HF3.out.set (.inr hsz2) _).set (.inr (Nat.le_refl _)) _).set (.inr (Nat.le_refl _)) _⟩
set_option maxHeartbeats 600000 in
set_option maxRecDepth 100000 in
theorem hmalloc_small (h : Hb w I own A) (hl : Ms w I.lb L) {size pd al c at_ : Nat} (hs : size < 4294967296) (hv : padV (size : Int) own.2 = ((pd : Int), (al : Int), 0)) (hpd : pd ≤ 256) (hcls : clsV pd = c) (hclb : clsB pd = true)
    (hok : Ok32 (at_, pd)) (hno : (at_, pd) ∉ L) (hlen : L.length < maxLen) {S : List Nat} (hS : ∀ k ∈ S, k < w.heap.size ∧ k ≠ I.hp ∧ k ≠ I.lb) {P : World → Prop}
    (CS : ∀ W, Fr [] w W → Calls Tryd.prog 30 #[.pointer (some ⟨I.hp, 0, none⟩), .int .i64 c] W fun e w' => e = .returned (.tuple #[.int .u32 at_, .bool true]) ∧ P w' ∧ Fr S W w') :
    Calls Tryd.prog 14 #[.pointer (some ⟨I.hp, 0, none⟩), .int .u32 size] w fun e w' => e = .returned (.tuple #[.agg #[.int .u32 at_, .int .u32 pd], .int .i64 0]) ∧ Mo w I P (fun W => Ms W I.lb ((at_, pd) :: L)) w' := by
  have HHP := Lib.hid h.c
  have hbox : Fr [] w (w.alloc (.cells #[.int .u32 0, .int .u32 0] 31)) := (by repeat (first | exact Fr.refl _ _ | assumption | refine Fr.trans0 ?_ (by assumption) | refine Fr.drewN ?_ _ | refine Fr.alloc ?_ _ | refine Fr.drew ?_))
  have B0 := At.new w 31 #[.int .u32 0, .int .u32 0]
  have HB := Lib.hid (h.fr0 hbox)
  have CN := Lib.hid (hnone_any HB.out)
  have CP := Lib.hid (padded_any (size : Int) (own.2 : Int) (w.alloc (.cells #[.int .u32 0, .int .u32 0] 31)) (by omega) (by omega))
  unfold Pd at CP
  rw [hv] at CP
  obtain ⟨c0, c1, c2, c8, c9⟩ := HB.out.cs
  have HB0 := Lib.hid B0
  have HF0 := Lib.hid hbox
  have CC := Lib.hid fun W => class_any (pd : Int) W (by omega) (by omega)
  rw [hcls, hclb] at CC
  clear h hbox B0 hv hcls hclb
  go_enter Tryd.func14, Tryd.ntmps14
  go_wp2_with fail
  refine (CN.out).mono ?_
  rintro e w' ⟨rfl, rfl⟩
  go_wp2_with fail
  refine (CP.out).mono ?_
  rintro e w2 ⟨rfl, hf2⟩
  have A2 := Lib.hid (HB0.out.fr hf2 (by simp))
  have HF2 := Lib.hid (HF0.out.trans0 hf2)
  have hsz2 := HF2.out.size
  have hne1 : ¬ w.heap.size = w2.heap.size := by have := A2.out.lt; omega
  have hne2 : ¬ w2.heap.size = w.heap.size := by have := A2.out.lt; omega
  clear hf2
  go_wp2_with fail
  refine (CC.out _).mono ?_
  rintro e w3 ⟨rfl, hf3⟩
  have hfa : Fr [] w2 (w2.alloc (.cells #[.int .u32 0, .int .u32 pd] 31)) := (by repeat (first | exact Fr.refl _ _ | assumption | refine Fr.trans0 ?_ (by assumption) | refine Fr.drewN ?_ _ | refine Fr.alloc ?_ _ | refine Fr.drew ?_))
  have A3 := Lib.hid ((A2.out.fr hfa (by simp)).fr hf3 (by simp))
  have R3 := Lib.hid ((At.new w2 31 #[.int .u32 0, .int .u32 pd]).fr hf3 (by simp))
  have HF3 := Lib.hid ((HF2.out.trans0 hfa).trans0 hf3)
  clear hf3 hfa
  have C3 := Lib.hid (CS _ HF3.out)
  clear CS
  go_wp2_with fail
  refine (C3.out).mono ?_
  rintro e w4 ⟨rfl, hp4, hf4⟩
  have HP4 := Lib.hid hp4
  have A4 := Lib.hid (A3.out.fr hf4 (fun hk => by have := (hS _ hk).1; omega))
  have R4 := Lib.hid (R3.out.fr hf4 (fun hk => by have := (hS _ hk).1; omega))
  have ML4 := Lib.hid ((hl.fr0 HF3.out).fr hf4 (fun hk => (hS _ hk).2.2 rfl))
  have H4 := Lib.hid ((HHP.out.fr HF3.out (by simp)).fr hf4 (fun hk => (hS _ hk).2.1 rfl))
  have d0 := A4.out.cell 0
  have d1 := A4.out.cell 1
  have f0 := A4.out.froz 0
  have f1 := A4.out.froz 1
  have e0 := R4.out.cell 0
  have e1 := R4.out.cell 1
  have g0 := R4.out.froz 0
  have g1 := R4.out.froz 1
  simp only [List.getElem?_toArray, List.getElem?_cons_zero, List.getElem?_cons_succ] at d0 d1 e0 e1
  clear hp4 hf4
  go_wp2_with fail
  have hlb1 : I.lb ≠ w.heap.size ∧ I.lb ≠ w2.heap.size := by have := hl.lt; omega
  have hhp1 : I.hp ≠ w.heap.size ∧ I.hp ≠ w2.heap.size := by have := HHP.out.lt; omega
  have R5 := Lib.hid (R4.out.set 0 (.int .u32 at_))
  have A5 := Lib.hid (A4.out.fr ((Fr.refl [w2.heap.size] w4).set (a := ⟨w2.heap.size, 0, none⟩) (.inl (by simp)) (.int .u32 at_)) (by simp; exact hne1))
  have L5 := Lib.hid (ML4.out.fr ((Fr.refl [w2.heap.size] w4).set (a := ⟨w2.heap.size, 0, none⟩) (.inl (by simp)) (.int .u32 at_)) (by simp; exact hlb1.2))
  have H5 := Lib.hid (H4.out.fr ((Fr.refl [w2.heap.size] w4).set (a := ⟨w2.heap.size, 0, none⟩) (.inl (by simp)) (.int .u32 at_)) (by simp; exact hhp1.2))
  have F5 := Lib.hid ((Fr.refl [w2.heap.size] w4).set (a := ⟨w2.heap.size, 0, none⟩) (.inl (by simp)) (.int .u32 at_))
  obtain ⟨w5, hw5⟩ : ∃ W, w4.setCell ⟨w2.heap.size, 0, none⟩ (.int .u32 at_) = W := ⟨_, rfl⟩
  rw [hw5] at R5 A5 L5 H5 F5 ⊢
  clear hw5 d0 d1 f0 f1 e0 e1 g0 g1
  refine wp_region_L (fun W => At W I.hp 55 (hcells own I) ∧ At W w2.heap.size 31 #[.int .u32 at_, .int .u32 pd] ∧ At W w.heap.size 31 #[.int .u32 0, .int .u32 0] ∧ Ms W I.lb L ∧ Fr [w2.heap.size] w4 W) [6] (by kernel_rfl) ⟨H5.out.hp rfl, R5.out.hp rfl, A5.out.hp rfl, L5.out.hp rfl, F5.out.drew⟩ fun hHeld => ?_
  refine wpAnyL_take (i := 0) (v := ?_) rfl (by kernel_rfl) (fun _ _ _ h => h) (Or.inl ⟨by rfl, ?_⟩) (by assumption) ?_; rotate_left; (focus (intro w hSw; skip; go_simp; (try with_reducible rfl))); (try (refine wpAnyL_norm (by simp only [Act.put, List.setIfInBounds_toArray, List.set_cons_zero, List.set_cons_succ]; rfl) ?_))
  refine wpAnyL_take (i := 1) (v := ?_) rfl (by kernel_rfl) (fun _ _ _ h => h) (Or.inl ⟨by rfl, ?_⟩) (by assumption) ?_; rotate_left; (focus (intro w hSw; skip; go_simp; (try with_reducible rfl))); (try (refine wpAnyL_norm (by simp only [Act.put, List.setIfInBounds_toArray, List.set_cons_zero, List.set_cons_succ]; rfl) ?_))
  refine wpAnyL_take (i := 2) (v := ?_) rfl (by kernel_rfl) (fun _ _ _ h => h) (Or.inl ⟨by rfl, ?_⟩) (by assumption) ?_; rotate_left; (focus (intro w hSw; skip; go_simp; (try with_reducible rfl))); (try (refine wpAnyL_norm (by simp only [Act.put, List.setIfInBounds_toArray, List.set_cons_zero, List.set_cons_succ]; rfl) ?_))
  refine wpAnyL_take (i := 3) (v := ?_) rfl (by kernel_rfl) (fun _ _ _ h => h) (Or.inl ⟨by rfl, ?_⟩) (by assumption) ?_; rotate_left; (focus (intro w hSw; have c : _ = some (Value.map (some I.lb)) := hSw.1.cell 8; go_simp; (try with_reducible rfl))); (try (refine wpAnyL_norm (by simp only [Act.put, List.setIfInBounds_toArray, List.set_cons_zero, List.set_cons_succ]; rfl) ?_))
  refine wpAnyL_take (i := 4) rfl (by kernel_rfl) (fun _ _ _ h => h) (yields_load_at 31 (.tmp 9) rfl ⟨w2.heap.size, 0, none⟩ rfl [.int .u32 at_, .int .u32 pd] _ (fun W h => two_cells h.2.1) Tryd.underlying31 rfl infoRgS rfl) (by assumption) ?_; (try (refine wpAnyL_norm (by simp only [Act.put, List.setIfInBounds_toArray, List.set_cons_zero, List.set_cons_succ]; rfl) ?_))
  refine wpAnyL_take (i := 5) (v := ?_) rfl (by kernel_rfl) (fun _ _ _ h => h) (Or.inl ⟨by rfl, ?_⟩) (by assumption) ?_; rotate_left; (focus (intro w hSw; skip; go_simp; (try with_reducible rfl))); (try (refine wpAnyL_norm (by simp only [Act.put, List.setIfInBounds_toArray, List.set_cons_zero, List.set_cons_succ]; rfl) ?_))
  refine wpAnyL_ready (rs := [6]) (by kernel_rfl) (by simp) ?_; refine AllReadyL.cons rfl (fun K hK => ?_) AllReadyL.nil
  refine wp_rstore (.tmp 70) (.tmp 71) (.tmp 72) 53 rfl hHeld.2.2.2.1 70 Tryd.underlying53 hlen (at_, pd) rfl rfl hok hno rfl ?_
  intro w6 hm6 hf6 hs6
  have R6 := Lib.hid (hHeld.2.1.fr hf6 (by simp; exact fun e => hlb1.2 e.symm))
  have A6 := Lib.hid (hHeld.2.2.1.fr hf6 (by simp; exact fun e => hlb1.1 e.symm))
  have M6 := Lib.hid hm6
  have F6 := Lib.hid ((hHeld.2.2.2.2.more (T := [I.lb, w.heap.size, w2.heap.size]) (by simp)).trans hf6 (fun k hk => .inl (by simp at hk; simp [hk])))
  refine hK.out _ _ (fun h => (h (by decide)).elim) (fun _ => ?_); clear hK K; (try (refine wpAnyL_norm (by simp only [Act.put, List.setIfInBounds_toArray, List.set_cons_zero, List.set_cons_succ]; rfl) ?_))
  refine wpAnyL_done (by kernel_rfl) ?_ _
  clear hm6 hf6 hs6 hHeld
  have d0 := A6.out.cell 0
  have d1 := A6.out.cell 1
  have f0 := A6.out.froz 0
  have f1 := A6.out.froz 1
  have e0 := R6.out.cell 0
  have e1 := R6.out.cell 1
  simp only [List.getElem?_toArray, List.getElem?_cons_zero, List.getElem?_cons_succ] at d0 d1 e0 e1
  go_wp2_with fail
  refine bodyPost_ret (res_row_tmp rfl _ _ w.heap.size 31 #[.int .u32 at_, .int .u32 pd] _ rfl ((A6.out.set 0 _).set 1 _) Tryd.underlying31 rfl infoRgS) rfl ⟨rfl, w4, [I.lb, w.heap.size, w2.heap.size], HP4.out, ?_, (F6.out.set (.inl (by simp)) _).set (.inl (by simp)) _, ?_⟩
  · exact M6.out.fr (((Fr.refl [w.heap.size] _).set (a := ⟨w.heap.size, 0, none⟩) (.inl (by simp)) _).set (a := ⟨w.heap.size, 1, none⟩) (.inl (by simp)) _) (by simp; exact hlb1.1)
  · intro k hk
    simp at hk
    rcases hk with rfl | rfl | rfl
    · exact .inl rfl
    · exact .inr (Nat.le_refl _)
    · exact .inr hsz2
set_option maxHeartbeats 600000 in
set_option maxRecDepth 100000 in
theorem hmalloc_large_no (h : Hb w I own A) {size pd al k b : Nat} (hs : size < 4294967296) (hv : padV (size : Int) own.2 = ((pd : Int), (al : Int), 0)) (hpd : 256 < pd) (hpb : pd < 4294967296) (hk : pd = 256 * k) (hal : al = 256 * b) (hab : al < 4294967296)
    (hf : findI (frP own A) 1024 k b = -1) :
    Calls Tryd.prog 14 #[.pointer (some ⟨I.hp, 0, none⟩), .int .u32 size] w fun e w' => e = .returned (.tuple #[.agg #[.int .u32 0, .int .u32 0], .int .i64 7]) ∧ Fr [] w w' := by
  have HHP := Lib.hid h.c
  have hbox : Fr [] w (w.alloc (.cells #[.int .u32 0, .int .u32 0] 31)) := (by repeat (first | exact Fr.refl _ _ | assumption | refine Fr.trans0 ?_ (by assumption) | refine Fr.drewN ?_ _ | refine Fr.alloc ?_ _ | refine Fr.drew ?_))
  have B0 := At.new w 31 #[.int .u32 0, .int .u32 0]
  have HB := Lib.hid (h.fr0 hbox)
  have CN := Lib.hid (hnone_any HB.out)
  have CP := Lib.hid (padded_any (size : Int) (own.2 : Int) (w.alloc (.cells #[.int .u32 0, .int .u32 0] 31)) (by omega) (by omega))
  unfold Pd at CP
  rw [hv] at CP
  obtain ⟨c0, c1, c2, c8, c9⟩ := HB.out.cs
  have HB0 := Lib.hid B0
  have HF0 := Lib.hid hbox
  have hbb : b < 16777216 := by omega
  have hpl := Lib.hid h.p
  have CG := Lib.hid fun W => pages_any (pd : Int) W (by omega) (by omega)
  rw [show ((pd : Int) + 256 - 1) / 256 = k by omega] at CG
  have hal3 : IntKind.i64.wrap ((IntKind.i64.wrap (al : Int)).tdiv 256) = (b : Int) := by
    have e1 : IntKind.i64.wrap (al : Int) = al := by simp [IntKind.wrap, IntKind.signed, IntKind.bits]; omega
    have e2 : IntKind.i64.wrap (b : Int) = b := by simp [IntKind.wrap, IntKind.signed, IntKind.bits]; omega
    rw [e1, Int.tdiv_eq_ediv_of_nonneg (by omega), show (al : Int) / 256 = b by omega, e2]
  have CC := Lib.hid fun W => class_any (pd : Int) W (by omega) (by omega)
  rw [(cls_not (pd : Int) (by omega)).1, (cls_not (pd : Int) (by omega)).2] at CC
  clear h hbox B0 hv hal hk
  go_enter Tryd.func14, Tryd.ntmps14
  go_wp2_with fail
  refine (CN.out).mono ?_
  rintro e w' ⟨rfl, rfl⟩
  go_wp2_with fail
  refine (CP.out).mono ?_
  rintro e w2 ⟨rfl, hf2⟩
  have A2 := Lib.hid (HB0.out.fr hf2 (by simp))
  have HF2 := Lib.hid (HF0.out.trans0 hf2)
  have hsz2 := HF2.out.size
  have hne1 : ¬ w.heap.size = w2.heap.size := by have := A2.out.lt; omega
  have hne2 : ¬ w2.heap.size = w.heap.size := by have := A2.out.lt; omega
  clear hf2
  go_wp2_with fail
  have CC2 := CC.out (w2.alloc (.cells #[.int .u32 0, .int .u32 pd] 31))
  refine CC2.mono ?_
  rintro e w3 ⟨rfl, hf3⟩
  have hfa : Fr [] w2 (w2.alloc (.cells #[.int .u32 0, .int .u32 pd] 31)) := (by repeat (first | exact Fr.refl _ _ | assumption | refine Fr.trans0 ?_ (by assumption) | refine Fr.drewN ?_ _ | refine Fr.alloc ?_ _ | refine Fr.drew ?_))
  have A3 := Lib.hid ((A2.out.fr hfa (by simp)).fr hf3 (by simp))
  have R3 := Lib.hid ((At.new w2 31 #[.int .u32 0, .int .u32 pd]).fr hf3 (by simp))
  have HF3 := Lib.hid ((HF2.out.trans0 hfa).trans0 hf3)
  have H3 := Lib.hid (HHP.out.fr HF3.out (by simp))
  have P3 := Lib.hid (hpl.out.fr HF3.out (by simp) (by simp) (by simp))
  clear hf3 hfa
  go_wp2_with fail
  refine wp_region_L (fun W => At W I.hp 55 (hcells own I)) [] (by kernel_rfl) (H3.out.hp rfl) fun hHeld => ?_
  refine wpAnyL_take (i := 0) (v := ?_) rfl (by kernel_rfl) (fun _ _ _ h => h) (Or.inl ⟨by rfl, ?_⟩) (by assumption) ?_; rotate_left; (focus (intro w hSw; skip; go_simp; (try with_reducible rfl))); (try (refine wpAnyL_norm (by simp only [Act.put, List.setIfInBounds_toArray, List.set_cons_zero, List.set_cons_succ]; rfl) ?_))
  refine wpAnyL_take (i := 1) (v := ?_) rfl (by kernel_rfl) (fun _ _ _ h => h) (Or.inl ⟨by rfl, ?_⟩) (by assumption) ?_; rotate_left; (focus (intro w hSw; skip; go_simp; (try with_reducible rfl))); (try (refine wpAnyL_norm (by simp only [Act.put, List.setIfInBounds_toArray, List.set_cons_zero, List.set_cons_succ]; rfl) ?_))
  refine wpAnyL_take (i := 2) (v := ?_) rfl (by kernel_rfl) (fun _ _ _ h => h) (Or.inl ⟨by rfl, ?_⟩) (by assumption) ?_; rotate_left; (focus (intro w hSw; skip; go_simp; (try with_reducible rfl))); (try (refine wpAnyL_norm (by simp only [Act.put, List.setIfInBounds_toArray, List.set_cons_zero, List.set_cons_succ]; rfl) ?_))
  refine wpAnyL_take (i := 3) (v := ?_) rfl (by kernel_rfl) (fun _ _ _ h => h) (Or.inl ⟨by rfl, ?_⟩) (by assumption) ?_; rotate_left; (focus (intro w hSw; have c : _ = some (Value.pointer (some ⟨I.pp, 0, none⟩)) := hSw.cell 2; go_simp; (try with_reducible rfl))); (try (refine wpAnyL_norm (by simp only [Act.put, List.setIfInBounds_toArray, List.set_cons_zero, List.set_cons_succ]; rfl) ?_))
  refine wpAnyL_take (i := 4) (v := ?_) rfl (by kernel_rfl) (fun _ _ _ h => h) (Or.inl ⟨by rfl, ?_⟩) (by assumption) ?_; rotate_left; (focus (intro w hSw; skip; go_simp; (try with_reducible rfl))); (try (refine wpAnyL_norm (by simp only [Act.put, List.setIfInBounds_toArray, List.set_cons_zero, List.set_cons_succ]; rfl) ?_))
  refine wpAnyL_take (i := 6) (v := ?_) rfl (by kernel_rfl) (fun _ _ _ h => h) (Or.inl ⟨by rfl, ?_⟩) (by assumption) ?_; rotate_left; (focus (intro w hSw; skip; go_simp; (try with_reducible rfl))); (try (refine wpAnyL_norm (by simp only [Act.put, List.setIfInBounds_toArray, List.set_cons_zero, List.set_cons_succ]; rfl) ?_))
  refine wpAnyL_take (i := 7) (v := ?_) rfl (by kernel_rfl) (fun _ _ _ h => h) (Or.inl ⟨by rfl, ?_⟩) (by assumption) ?_; rotate_left; (focus (intro w hSw; skip; go_simp; (try with_reducible rfl))); (try (refine wpAnyL_norm (by simp only [Act.put, List.setIfInBounds_toArray, List.set_cons_zero, List.set_cons_succ]; rfl) ?_))
  refine wpAnyL_take (i := 8) (v := ?_) rfl (by kernel_rfl) (fun _ _ _ h => h) (Or.inl ⟨by rfl, ?_⟩) (by assumption) ?_; rotate_left; (focus (intro w hSw; skip; go_simp; (try with_reducible rfl))); (try (refine wpAnyL_norm (by simp only [Act.put, List.setIfInBounds_toArray, List.set_cons_zero, List.set_cons_succ]; rfl) ?_))
  refine wpAnyL_ready (rs := [5]) (by kernel_rfl) (by simp) ?_; refine AllReadyL.cons rfl (fun K hK => ?_) AllReadyL.nil
  go_simp
  have CG2 := CG.out w3.drew
  refine CG2.mono ?_
  rintro e w8 ⟨rfl, rfl⟩
  refine hK.out _ _ (fun _ => hHeld) (fun hHeld' => ?_); have hHeld := hHeld' (by decide); clear hHeld' hK K; (try (refine wpAnyL_norm (by simp only [Act.put, List.setIfInBounds_toArray, List.set_cons_zero, List.set_cons_succ]; rfl) ?_))
  refine wpAnyL_ready (rs := [9]) (by kernel_rfl) (by simp) ?_; refine AllReadyL.cons rfl (fun K hK => ?_) AllReadyL.nil
  go_simp
  have CT := take_no w3.drew I.pp I.pt I.pg 1024 _ (P3.out.heap rfl) k b (by omega) hf
  refine CT.mono ?_
  rintro e w9 ⟨rfl, rfl⟩
  refine hK.out _ _ (fun _ => hHeld) (fun hHeld' => ?_); have hHeld := hHeld' (by decide); clear hHeld' hK K; (try (refine wpAnyL_norm (by simp only [Act.put, List.setIfInBounds_toArray, List.set_cons_zero, List.set_cons_succ]; rfl) ?_))
  refine wpAnyL_take (i := 10) (v := ?_) rfl (by kernel_rfl) (fun _ _ _ h => h) (Or.inl ⟨by rfl, ?_⟩) (by assumption) ?_; rotate_left; (focus (intro w hSw; skip; go_simp; (try with_reducible rfl))); (try (refine wpAnyL_norm (by simp only [Act.put, List.setIfInBounds_toArray, List.set_cons_zero, List.set_cons_succ]; rfl) ?_))
  refine wpAnyL_take (i := 11) (v := ?_) rfl (by kernel_rfl) (fun _ _ _ h => h) (Or.inl ⟨by rfl, ?_⟩) (by assumption) ?_; rotate_left; (focus (intro w hSw; skip; go_simp; (try with_reducible rfl))); (try (refine wpAnyL_norm (by simp only [Act.put, List.setIfInBounds_toArray, List.set_cons_zero, List.set_cons_succ]; rfl) ?_))
  refine wpAnyL_take (i := 12) (v := ?_) rfl (by kernel_rfl) (fun _ _ _ h => h) (Or.inl ⟨by rfl, ?_⟩) (by assumption) ?_; rotate_left; (focus (intro w hSw; skip; go_simp; (try with_reducible rfl))); (try (refine wpAnyL_norm (by simp only [Act.put, List.setIfInBounds_toArray, List.set_cons_zero, List.set_cons_succ]; rfl) ?_))
  refine wpAnyL_take (i := 13) (v := ?_) rfl (by kernel_rfl) (fun _ _ _ h => h) (Or.inl ⟨by rfl, ?_⟩) (by assumption) ?_; rotate_left; (focus (intro w hSw; skip; go_simp; (try with_reducible rfl))); (try (refine wpAnyL_norm (by simp only [Act.put, List.setIfInBounds_toArray, List.set_cons_zero, List.set_cons_succ]; rfl) ?_))
  refine wpAnyL_take (i := 14) (v := ?_) rfl (by kernel_rfl) (fun _ _ _ h => h) (Or.inl ⟨by rfl, ?_⟩) (by assumption) ?_; rotate_left; (focus (intro w hSw; skip; go_simp; (try with_reducible rfl))); (try (refine wpAnyL_norm (by simp only [Act.put, List.setIfInBounds_toArray, List.set_cons_zero, List.set_cons_succ]; rfl) ?_))
  refine wpAnyL_done (by kernel_rfl) ?_ _
  obtain ⟨w4, hw4⟩ : ∃ W, w3.drew = W := ⟨_, rfl⟩
  have A4 : At w4 w.heap.size 31 #[.int .u32 0, .int .u32 0] := by rw [← hw4]; exact A3.out.hp rfl
  have R4 : At w4 w2.heap.size 31 #[.int .u32 0, .int .u32 pd] := by rw [← hw4]; exact R3.out.hp rfl
  have F4 : Fr [] w w4 := by rw [← hw4]; exact HF3.out.drew
  rw [hw4]
  have d0 := A4.cell 0
  have d1 := A4.cell 1
  have f0 := A4.froz 0
  have f1 := A4.froz 1
  have e0 := R4.cell 0
  have e1 := R4.cell 1
  have g0 := R4.froz 0
  have g1 := R4.froz 1
  simp only [List.getElem?_toArray, List.getElem?_cons_zero, List.getElem?_cons_succ] at d0 d1 e0 e1
  have A4 := Lib.hid A4
  have F4 := Lib.hid F4
  clear hHeld R4 hw4
  go_wp2_with fail
  have A5 := (A4.out.fr ((Fr.refl [w2.heap.size] w4).set (a := ⟨w2.heap.size, 0, none⟩) (.inl (by simp)) (.int .u32 0)) (by simp; exact hne1))
  exact bodyPost_ret (res_row_tmp rfl _ _ w.heap.size 31 #[.int .u32 0, .int .u32 0] _ rfl ((A5.set 0 _).set 1 _) Tryd.underlying31 rfl infoRgS) rfl ⟨rfl, ((F4.out.set (.inr hsz2) _).set (.inr (Nat.le_refl _)) _).set (.inr (Nat.le_refl _)) _⟩
set_option maxHeartbeats 600000 in
set_option maxRecDepth 100000 in
theorem hmalloc_large (h : Hb w I own A) (hl : Ms w I.lb L) {size pd al k b a at_ : Nat} (hs : size < 4294967296) (hv : padV (size : Int) own.2 = ((pd : Int), (al : Int), 0)) (hpd : 256 < pd) (hpb : pd < 4294967296) (hk : pd = 256 * k) (hal : al = 256 * b) (hab : al < 4294967296)
    (hf : findI (frP own A) 1024 k b = a) (hak : a + k ≤ 1024) (hat : at_ = 256 * a) (hok : Ok32 (at_, pd)) (hno : (at_, pd) ∉ L) (hlen : L.length < maxLen) :
    Calls Tryd.prog 14 #[.pointer (some ⟨I.hp, 0, none⟩), .int .u32 size] w fun e w' => e = .returned (.tuple #[.agg #[.int .u32 at_, .int .u32 pd], .int .i64 0]) ∧
      Mo w I (fun W => Pl W I.pp I.pt I.pg 1024 (clr (frP own A) a (a + k)) ∧ Fr [I.pg] w W) (fun W => Ms W I.lb ((at_, pd) :: L)) w' := by
  have HHP := Lib.hid h.c
  have hpg : I.pg < w.heap.size := h.p.2.1.lt.2
  have hsp : I.hp ≠ I.pg ∧ I.lb ≠ I.pg := by
    have nd := h.nd
    simp [HId.foot] at nd
    constructor <;> intro e <;> simp_all
  have hat2 : (a : Int) * 256 = at_ := by omega
  have hab2 : (a : Int) < 1024 ∧ (at_ : Int) < 262144 := by omega
  clear hat
  have hbox : Fr [] w (w.alloc (.cells #[.int .u32 0, .int .u32 0] 31)) := (by repeat (first | exact Fr.refl _ _ | assumption | refine Fr.trans0 ?_ (by assumption) | refine Fr.drewN ?_ _ | refine Fr.alloc ?_ _ | refine Fr.drew ?_))
  have B0 := At.new w 31 #[.int .u32 0, .int .u32 0]
  have HB := Lib.hid (h.fr0 hbox)
  have CN := Lib.hid (hnone_any HB.out)
  have CP := Lib.hid (padded_any (size : Int) (own.2 : Int) (w.alloc (.cells #[.int .u32 0, .int .u32 0] 31)) (by omega) (by omega))
  unfold Pd at CP
  rw [hv] at CP
  obtain ⟨c0, c1, c2, c8, c9⟩ := HB.out.cs
  have HB0 := Lib.hid B0
  have HF0 := Lib.hid hbox
  have hbb : b < 16777216 := by omega
  have hpl := Lib.hid h.p
  have CG := Lib.hid fun W => pages_any (pd : Int) W (by omega) (by omega)
  rw [show ((pd : Int) + 256 - 1) / 256 = k by omega] at CG
  have hal3 : IntKind.i64.wrap ((IntKind.i64.wrap (al : Int)).tdiv 256) = (b : Int) := by
    have e1 : IntKind.i64.wrap (al : Int) = al := by simp [IntKind.wrap, IntKind.signed, IntKind.bits]; omega
    have e2 : IntKind.i64.wrap (b : Int) = b := by simp [IntKind.wrap, IntKind.signed, IntKind.bits]; omega
    rw [e1, Int.tdiv_eq_ediv_of_nonneg (by omega), show (al : Int) / 256 = b by omega, e2]
  have CC := Lib.hid fun W => class_any (pd : Int) W (by omega) (by omega)
  rw [(cls_not (pd : Int) (by omega)).1, (cls_not (pd : Int) (by omega)).2] at CC
  clear h hbox B0 hv hal hk
  go_enter Tryd.func14, Tryd.ntmps14
  go_wp2_with fail
  refine (CN.out).mono ?_
  rintro e w' ⟨rfl, rfl⟩
  go_wp2_with fail
  refine (CP.out).mono ?_
  rintro e w2 ⟨rfl, hf2⟩
  have A2 := Lib.hid (HB0.out.fr hf2 (by simp))
  have HF2 := Lib.hid (HF0.out.trans0 hf2)
  have hsz2 := HF2.out.size
  have hne1 : ¬ w.heap.size = w2.heap.size := by have := A2.out.lt; omega
  have hne2 : ¬ w2.heap.size = w.heap.size := by have := A2.out.lt; omega
  clear hf2
  go_wp2_with fail
  have CC2 := CC.out (w2.alloc (.cells #[.int .u32 0, .int .u32 pd] 31))
  refine CC2.mono ?_
  rintro e w3 ⟨rfl, hf3⟩
  have hfa : Fr [] w2 (w2.alloc (.cells #[.int .u32 0, .int .u32 pd] 31)) := (by repeat (first | exact Fr.refl _ _ | assumption | refine Fr.trans0 ?_ (by assumption) | refine Fr.drewN ?_ _ | refine Fr.alloc ?_ _ | refine Fr.drew ?_))
  have A3 := Lib.hid ((A2.out.fr hfa (by simp)).fr hf3 (by simp))
  have R3 := Lib.hid ((At.new w2 31 #[.int .u32 0, .int .u32 pd]).fr hf3 (by simp))
  have HF3 := Lib.hid ((HF2.out.trans0 hfa).trans0 hf3)
  have H3 := Lib.hid (HHP.out.fr HF3.out (by simp))
  have P3 := Lib.hid (hpl.out.fr HF3.out (by simp) (by simp) (by simp))
  clear hf3 hfa
  go_wp2_with fail
  refine wp_region_L (fun W => At W I.hp 55 (hcells own I)) [] (by kernel_rfl) (H3.out.hp rfl) fun hHeld => ?_
  refine wpAnyL_take (i := 0) (v := ?_) rfl (by kernel_rfl) (fun _ _ _ h => h) (Or.inl ⟨by rfl, ?_⟩) (by assumption) ?_; rotate_left; (focus (intro w hSw; skip; go_simp; (try with_reducible rfl))); (try (refine wpAnyL_norm (by simp only [Act.put, List.setIfInBounds_toArray, List.set_cons_zero, List.set_cons_succ]; rfl) ?_))
  refine wpAnyL_take (i := 1) (v := ?_) rfl (by kernel_rfl) (fun _ _ _ h => h) (Or.inl ⟨by rfl, ?_⟩) (by assumption) ?_; rotate_left; (focus (intro w hSw; skip; go_simp; (try with_reducible rfl))); (try (refine wpAnyL_norm (by simp only [Act.put, List.setIfInBounds_toArray, List.set_cons_zero, List.set_cons_succ]; rfl) ?_))
  refine wpAnyL_take (i := 2) (v := ?_) rfl (by kernel_rfl) (fun _ _ _ h => h) (Or.inl ⟨by rfl, ?_⟩) (by assumption) ?_; rotate_left; (focus (intro w hSw; skip; go_simp; (try with_reducible rfl))); (try (refine wpAnyL_norm (by simp only [Act.put, List.setIfInBounds_toArray, List.set_cons_zero, List.set_cons_succ]; rfl) ?_))
  refine wpAnyL_take (i := 3) (v := ?_) rfl (by kernel_rfl) (fun _ _ _ h => h) (Or.inl ⟨by rfl, ?_⟩) (by assumption) ?_; rotate_left; (focus (intro w hSw; have c : _ = some (Value.pointer (some ⟨I.pp, 0, none⟩)) := hSw.cell 2; go_simp; (try with_reducible rfl))); (try (refine wpAnyL_norm (by simp only [Act.put, List.setIfInBounds_toArray, List.set_cons_zero, List.set_cons_succ]; rfl) ?_))
  refine wpAnyL_take (i := 4) (v := ?_) rfl (by kernel_rfl) (fun _ _ _ h => h) (Or.inl ⟨by rfl, ?_⟩) (by assumption) ?_; rotate_left; (focus (intro w hSw; skip; go_simp; (try with_reducible rfl))); (try (refine wpAnyL_norm (by simp only [Act.put, List.setIfInBounds_toArray, List.set_cons_zero, List.set_cons_succ]; rfl) ?_))
  refine wpAnyL_take (i := 6) (v := ?_) rfl (by kernel_rfl) (fun _ _ _ h => h) (Or.inl ⟨by rfl, ?_⟩) (by assumption) ?_; rotate_left; (focus (intro w hSw; skip; go_simp; (try with_reducible rfl))); (try (refine wpAnyL_norm (by simp only [Act.put, List.setIfInBounds_toArray, List.set_cons_zero, List.set_cons_succ]; rfl) ?_))
  refine wpAnyL_take (i := 7) (v := ?_) rfl (by kernel_rfl) (fun _ _ _ h => h) (Or.inl ⟨by rfl, ?_⟩) (by assumption) ?_; rotate_left; (focus (intro w hSw; skip; go_simp; (try with_reducible rfl))); (try (refine wpAnyL_norm (by simp only [Act.put, List.setIfInBounds_toArray, List.set_cons_zero, List.set_cons_succ]; rfl) ?_))
  refine wpAnyL_take (i := 8) (v := ?_) rfl (by kernel_rfl) (fun _ _ _ h => h) (Or.inl ⟨by rfl, ?_⟩) (by assumption) ?_; rotate_left; (focus (intro w hSw; skip; go_simp; (try with_reducible rfl))); (try (refine wpAnyL_norm (by simp only [Act.put, List.setIfInBounds_toArray, List.set_cons_zero, List.set_cons_succ]; rfl) ?_))
  refine wpAnyL_ready (rs := [5]) (by kernel_rfl) (by simp) ?_; refine AllReadyL.cons rfl (fun K hK => ?_) AllReadyL.nil
  go_simp
  have CG2 := CG.out w3.drew
  refine CG2.mono ?_
  rintro e w8 ⟨rfl, rfl⟩
  refine hK.out _ _ (fun _ => hHeld) (fun hHeld' => ?_); have hHeld := hHeld' (by decide); clear hHeld' hK K; (try (refine wpAnyL_norm (by simp only [Act.put, List.setIfInBounds_toArray, List.set_cons_zero, List.set_cons_succ]; rfl) ?_))
  refine wpAnyL_ready (rs := [9]) (by kernel_rfl) (by simp) ?_; refine AllReadyL.cons rfl (fun K hK => ?_) AllReadyL.nil
  go_simp
  have CT := take_yes w3.drew I.pp I.pt I.pg 1024 _ (P3.out.heap rfl) k a b (by omega) hf hak
  refine CT.mono ?_
  rintro e w4 ⟨rfl, hp4, hf4⟩
  have hf34 : Fr [I.pg] w3 w4 := ((Fr.refl _ w3).drew).trans hf4 (fun k hk => .inl hk)
  have HP4 := Lib.hid (And.intro hp4 ((HF3.out.more (T := [I.pg]) (by simp)).trans hf34 (fun k hk => .inl hk)))
  have A4 := Lib.hid (A3.out.fr hf34 (by simp; omega))
  have R4 := Lib.hid (R3.out.fr hf34 (by simp; omega))
  have ML4 := Lib.hid ((hl.fr0 HF3.out).fr hf34 (by simp; exact hsp.2))
  have H4 := Lib.hid (H3.out.fr hf34 (by simp; exact hsp.1))
  refine hK.out _ _ (fun _ => H4.out) (fun hHeld' => ?_); have hHeld := hHeld' (by decide); clear hHeld' hK K; (try (refine wpAnyL_norm (by simp only [Act.put, List.setIfInBounds_toArray, List.set_cons_zero, List.set_cons_succ]; rfl) ?_))
  refine wpAnyL_take (i := 10) (v := ?_) rfl (by kernel_rfl) (fun _ _ _ h => h) (Or.inl ⟨by rfl, ?_⟩) (by assumption) ?_; rotate_left; (focus (intro w hSw; skip; go_simp; (try with_reducible rfl))); (try (refine wpAnyL_norm (by simp only [Act.put, List.setIfInBounds_toArray, List.set_cons_zero, List.set_cons_succ]; rfl) ?_))
  refine wpAnyL_take (i := 11) (v := ?_) rfl (by kernel_rfl) (fun _ _ _ h => h) (Or.inl ⟨by rfl, ?_⟩) (by assumption) ?_; rotate_left; (focus (intro w hSw; skip; go_simp; (try with_reducible rfl))); (try (refine wpAnyL_norm (by simp only [Act.put, List.setIfInBounds_toArray, List.set_cons_zero, List.set_cons_succ]; rfl) ?_))
  refine wpAnyL_take (i := 12) (v := ?_) rfl (by kernel_rfl) (fun _ _ _ h => h) (Or.inl ⟨by rfl, ?_⟩) (by assumption) ?_; rotate_left; (focus (intro w hSw; skip; go_simp; (try with_reducible rfl))); (try (refine wpAnyL_norm (by simp only [Act.put, List.setIfInBounds_toArray, List.set_cons_zero, List.set_cons_succ]; rfl) ?_))
  refine wpAnyL_take (i := 13) (v := ?_) rfl (by kernel_rfl) (fun _ _ _ h => h) (Or.inl ⟨by rfl, ?_⟩) (by assumption) ?_; rotate_left; (focus (intro w hSw; skip; go_simp; (try with_reducible rfl))); (try (refine wpAnyL_norm (by simp only [Act.put, List.setIfInBounds_toArray, List.set_cons_zero, List.set_cons_succ]; rfl) ?_))
  refine wpAnyL_take (i := 14) (v := ?_) rfl (by kernel_rfl) (fun _ _ _ h => h) (Or.inl ⟨by rfl, ?_⟩) (by assumption) ?_; rotate_left; (focus (intro w hSw; skip; go_simp; (try with_reducible rfl))); (try (refine wpAnyL_norm (by simp only [Act.put, List.setIfInBounds_toArray, List.set_cons_zero, List.set_cons_succ]; rfl) ?_))
  refine wpAnyL_done (by kernel_rfl) ?_ _
  have d0 := A4.out.cell 0
  have d1 := A4.out.cell 1
  have f0 := A4.out.froz 0
  have f1 := A4.out.froz 1
  have e0 := R4.out.cell 0
  have e1 := R4.out.cell 1
  have g0 := R4.out.froz 0
  have g1 := R4.out.froz 1
  simp only [List.getElem?_toArray, List.getElem?_cons_zero, List.getElem?_cons_succ] at d0 d1 e0 e1
  clear hp4 hf4 hf34 hHeld
  go_wp2_with fail
  have hlb1 : I.lb ≠ w.heap.size ∧ I.lb ≠ w2.heap.size := by have := hl.lt; omega
  have hhp1 : I.hp ≠ w.heap.size ∧ I.hp ≠ w2.heap.size := by have := HHP.out.lt; omega
  have R5 := Lib.hid (R4.out.set 0 (.int .u32 at_))
  have A5 := Lib.hid (A4.out.fr ((Fr.refl [w2.heap.size] w4).set (a := ⟨w2.heap.size, 0, none⟩) (.inl (by simp)) (.int .u32 at_)) (by simp; exact hne1))
  have L5 := Lib.hid (ML4.out.fr ((Fr.refl [w2.heap.size] w4).set (a := ⟨w2.heap.size, 0, none⟩) (.inl (by simp)) (.int .u32 at_)) (by simp; exact hlb1.2))
  have H5 := Lib.hid (H4.out.fr ((Fr.refl [w2.heap.size] w4).set (a := ⟨w2.heap.size, 0, none⟩) (.inl (by simp)) (.int .u32 at_)) (by simp; exact hhp1.2))
  have F5 := Lib.hid ((Fr.refl [w2.heap.size] w4).set (a := ⟨w2.heap.size, 0, none⟩) (.inl (by simp)) (.int .u32 at_))
  obtain ⟨w5, hw5⟩ : ∃ W, w4.setCell ⟨w2.heap.size, 0, none⟩ (.int .u32 at_) = W := ⟨_, rfl⟩
  rw [hw5] at R5 A5 L5 H5 F5 ⊢
  clear hw5 d0 d1 f0 f1 e0 e1 g0 g1
  refine wp_region_L (fun W => At W I.hp 55 (hcells own I) ∧ At W w2.heap.size 31 #[.int .u32 at_, .int .u32 pd] ∧ At W w.heap.size 31 #[.int .u32 0, .int .u32 0] ∧ Ms W I.lb L ∧ Fr [w2.heap.size] w4 W) [6] (by kernel_rfl) ⟨H5.out.hp rfl, R5.out.hp rfl, A5.out.hp rfl, L5.out.hp rfl, F5.out.drew⟩ fun hHeld => ?_
  refine wpAnyL_take (i := 0) (v := ?_) rfl (by kernel_rfl) (fun _ _ _ h => h) (Or.inl ⟨by rfl, ?_⟩) (by assumption) ?_; rotate_left; (focus (intro w hSw; skip; go_simp; (try with_reducible rfl))); (try (refine wpAnyL_norm (by simp only [Act.put, List.setIfInBounds_toArray, List.set_cons_zero, List.set_cons_succ]; rfl) ?_))
  refine wpAnyL_take (i := 1) (v := ?_) rfl (by kernel_rfl) (fun _ _ _ h => h) (Or.inl ⟨by rfl, ?_⟩) (by assumption) ?_; rotate_left; (focus (intro w hSw; skip; go_simp; (try with_reducible rfl))); (try (refine wpAnyL_norm (by simp only [Act.put, List.setIfInBounds_toArray, List.set_cons_zero, List.set_cons_succ]; rfl) ?_))
  refine wpAnyL_take (i := 2) (v := ?_) rfl (by kernel_rfl) (fun _ _ _ h => h) (Or.inl ⟨by rfl, ?_⟩) (by assumption) ?_; rotate_left; (focus (intro w hSw; skip; go_simp; (try with_reducible rfl))); (try (refine wpAnyL_norm (by simp only [Act.put, List.setIfInBounds_toArray, List.set_cons_zero, List.set_cons_succ]; rfl) ?_))
  refine wpAnyL_take (i := 3) (v := ?_) rfl (by kernel_rfl) (fun _ _ _ h => h) (Or.inl ⟨by rfl, ?_⟩) (by assumption) ?_; rotate_left; (focus (intro w hSw; have c : _ = some (Value.map (some I.lb)) := hSw.1.cell 8; go_simp; (try with_reducible rfl))); (try (refine wpAnyL_norm (by simp only [Act.put, List.setIfInBounds_toArray, List.set_cons_zero, List.set_cons_succ]; rfl) ?_))
  refine wpAnyL_take (i := 4) rfl (by kernel_rfl) (fun _ _ _ h => h) (yields_load_at 31 (.tmp 9) rfl ⟨w2.heap.size, 0, none⟩ rfl [.int .u32 at_, .int .u32 pd] _ (fun W h => two_cells h.2.1) Tryd.underlying31 rfl infoRgS rfl) (by assumption) ?_; (try (refine wpAnyL_norm (by simp only [Act.put, List.setIfInBounds_toArray, List.set_cons_zero, List.set_cons_succ]; rfl) ?_))
  refine wpAnyL_take (i := 5) (v := ?_) rfl (by kernel_rfl) (fun _ _ _ h => h) (Or.inl ⟨by rfl, ?_⟩) (by assumption) ?_; rotate_left; (focus (intro w hSw; skip; go_simp; (try with_reducible rfl))); (try (refine wpAnyL_norm (by simp only [Act.put, List.setIfInBounds_toArray, List.set_cons_zero, List.set_cons_succ]; rfl) ?_))
  refine wpAnyL_ready (rs := [6]) (by kernel_rfl) (by simp) ?_; refine AllReadyL.cons rfl (fun K hK => ?_) AllReadyL.nil
  refine wp_rstore (.tmp 70) (.tmp 71) (.tmp 72) 53 rfl hHeld.2.2.2.1 70 Tryd.underlying53 hlen (at_, pd) rfl rfl hok hno rfl ?_
  intro w6 hm6 hf6 hs6
  have R6 := Lib.hid (hHeld.2.1.fr hf6 (by simp; exact fun e => hlb1.2 e.symm))
  have A6 := Lib.hid (hHeld.2.2.1.fr hf6 (by simp; exact fun e => hlb1.1 e.symm))
  have M6 := Lib.hid hm6
  have F6 := Lib.hid ((hHeld.2.2.2.2.more (T := [I.lb, w.heap.size, w2.heap.size]) (by simp)).trans hf6 (fun k hk => .inl (by simp at hk; simp [hk])))
  refine hK.out _ _ (fun h => (h (by decide)).elim) (fun _ => ?_); clear hK K; (try (refine wpAnyL_norm (by simp only [Act.put, List.setIfInBounds_toArray, List.set_cons_zero, List.set_cons_succ]; rfl) ?_))
  refine wpAnyL_done (by kernel_rfl) ?_ _
  clear hm6 hf6 hs6 hHeld
  have d0 := A6.out.cell 0
  have d1 := A6.out.cell 1
  have f0 := A6.out.froz 0
  have f1 := A6.out.froz 1
  have e0 := R6.out.cell 0
  have e1 := R6.out.cell 1
  simp only [List.getElem?_toArray, List.getElem?_cons_zero, List.getElem?_cons_succ] at d0 d1 e0 e1
  go_wp2_with fail
  refine bodyPost_ret (res_row_tmp rfl _ _ w.heap.size 31 #[.int .u32 at_, .int .u32 pd] _ rfl ((A6.out.set 0 _).set 1 _) Tryd.underlying31 rfl infoRgS) rfl ⟨rfl, w4, [I.lb, w.heap.size, w2.heap.size], HP4.out, ?_, (F6.out.set (.inl (by simp)) _).set (.inl (by simp)) _, ?_⟩
  · exact M6.out.fr (((Fr.refl [w.heap.size] _).set (a := ⟨w.heap.size, 0, none⟩) (.inl (by simp)) _).set (a := ⟨w.heap.size, 1, none⟩) (.inl (by simp)) _) (by simp; exact hlb1.1)
  · intro k hk
    simp at hk
    rcases hk with rfl | rfl | rfl
    · exact .inl rfl
    · exact .inr (Nat.le_refl _)
    · exact .inr hsz2
end
end Go.Proofs.YtdbpmojblgmhdaaDoor
