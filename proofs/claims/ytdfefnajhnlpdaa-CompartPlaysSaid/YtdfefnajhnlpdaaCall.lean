/-
  What a call of a sealed pair does that may be called. Condition: numbers in their types' ranges.
-/



import Derived.Test.YtdfefnajhnlpdaaStack
import Derived.Deep.AppendLies
set_option linter.unusedVariables false
namespace Go.Proofs.Ytdfefnajhnlpdaa
open Go.ChangeShapes Go.WideShapes Go.ChangeAt Go.RowKit
theorem infoCap8 : (Try.prog.info? 25).map (fun i => (i.zero, i.size, i.bytes)) = some (some (.agg noC.cells), 8, 24) := by kernel_rfl
theorem built3 (w : World) (a b c : Cp) : (Instr.buildSlice 45 3 #[(0, .agg a.cells), (1, .agg b.cells), (2, .agg c.cells)]).run Try.prog w = .ok (.slice (some ⟨w.heap.size, 0, none⟩) 3 3) (w.alloc (.cells (cat [a, b, c]).toArray 25)) := by kernel_rfl
set_option maxHeartbeats 4000000 in
set_option maxRecDepth 100000 in
theorem scall_ok (w : World) (sp : Nat) (v : Value) (l : List Cp) (hs : St w sp v l) (hl : l.length < 48) (fr : List Cp) (hfr : fr.length = 17) (pc x14 x15 : Cp) (hpc : fr[16]? = some pc) (h14 : fr[14]? = some x14) (h15 : fr[15]? = some x15) (hcur : pc.cur < 4294967296)
    (a b : Cp) (ht : trapI a b = 0) :
    Calls Try.prog 10 #[.pointer (some ⟨sp, 0, none⟩), .agg (cat fr).toArray, .agg a.cells, .agg b.cells] w fun r w' => ∃ v', r = .returned (.tuple #[.agg (cat (((passF fr).set 16 a.opened).set 15 b.opened)).toArray, .int .i64 0]) ∧ St w' sp v' (l ++ [pc.addr ((pc.cur + 4) % 4294967296), x14, x15]) ∧ Fr (sp :: v.ownBlock.toList) w w' ∧ ∀ g, v'.ownBlock = some g → v.ownBlock = some g ∨ w.heap.size ≤ g := by
  obtain ⟨i0, hii, hz0, hz1, hz2⟩ := info_parts infoCap8
  have hz := fun w => zeroFrame w
  have hb := fun w => builtFrame w
  have ZI := Lib.hid (frInfo zf_len)
  have ZA := Lib.hid (cat_all zf)
  obtain ⟨Z, hZ⟩ : ∃ Z, (cat zf).toArray = Z := ⟨_, rfl⟩
  rw [hZ] at hz hb ZI ZA
  have HZ := Lib.hid hZ
  clear hZ
  have CT := Lib.hid fun W => ctrap_any W a b
  obtain ⟨A, hA⟩ : ∃ A, (cat fr).toArray = A := ⟨_, rfl⟩
  have HA := Lib.hid hA
  rw [hA]
  clear hA
  obtain ⟨X, hX⟩ : ∃ X, (((w.alloc (.cells A 31)).alloc (.cells a.cells 25)).alloc (.cells b.cells 25)).alloc (.cells Z 31) = X := ⟨_, rfl⟩
  have B0 : At X w.heap.size 31 A := by rw [← hX]; repeat (first | exact At.newq (by first | rfl | simp only [World.size_alloc]) | refine At.old ?_ _)
  have B1 : At X (w.heap.size + 1) 25 a.cells := by rw [← hX]; exact ((At.newq (by first | rfl | simp only [World.size_alloc])).old _).old _
  have B2 : At X (w.heap.size + 1 + 1) 25 b.cells := by rw [← hX]; exact (At.newq (by first | rfl | simp only [World.size_alloc])).old _
  have B3 : At X (w.heap.size + 1 + 1 + 1) 31 Z := by rw [← hX]; exact At.newq (by first | rfl | simp only [World.size_alloc])
  have FX : Fr [] w X := by rw [← hX]; exact (by repeat (first | exact Fr.refl _ _ | assumption | refine Fr.trans0 ?_ (by assumption) | refine Fr.drewN ?_ _ | refine Fr.alloc ?_ _ | refine Fr.drew ?_))
  have HB0 := Lib.hid B0
  have HB1 := Lib.hid B1
  have HB2 := Lib.hid B2
  have HB3 := Lib.hid B3
  have HFX := Lib.hid FX
  have HX := Lib.hid hX
  unfold Cp.cells at HX HB1 HB2 CT ⊢
  clear B0 B1 B2 B3 FX hX
  rw [ht] at CT
  obtain ⟨va, vc, rfl, hvc⟩ := own_slice hs.2
  obtain ⟨L, hL⟩ : ∃ L, l.length = L := ⟨_, rfl⟩
  have hS := Lib.hid hs
  have hd : ¬ (((L / 3 : Nat) : Int) ≥ 16) := by omega
  have HD := Lib.hid fun W (hW : Fr [] w W) => sdepth_any (hS.out.fr0 hW)
  have HL := Lib.hid hL
  rw [hL] at HD hS hl hvc ⊢
  obtain ⟨d, hdd⟩ : ∃ d, L / 3 = d := ⟨_, rfl⟩
  rw [hdd] at HD hd
  have HPC := Lib.hid hpc
  have H14 := Lib.hid h14
  have H15 := Lib.hid h15
  have HFR := Lib.hid hfr
  have hsl := hs.1.lt
  have hwr : IntKind.u32.wrap ((pc.cur : Int) + 4) = (((pc.cur + 4) % 4294967296 : Nat) : Int) := by simp [IntKind.wrap, IntKind.signed, IntKind.bits]
  have hwl : (pc.cur + 4) % 4294967296 < 4294967296 := Nat.mod_lt _ (by omega)
  have CA := Lib.hid fun W => daddr_any W pc ((pc.cur + 4) % 4294967296) hcur hwl
  obtain ⟨nx, hnx⟩ : ∃ n, (pc.cur + 4) % 4294967296 = n := ⟨_, rfl⟩
  rw [hnx] at CA hwr
  clear ht hdd hs hL hpc h14 h15 hfr hwl hcur
  go_enter Try.func10, Try.ntmps10
  go_wp2_with fail
  rw [HX.out]
  refine (CT.out _).mono ?_
  rintro e w2 ⟨rfl, hf2⟩
  have C0 := Lib.hid (HB0.out.fr hf2 (by simp))
  have C1 := Lib.hid (HB1.out.fr hf2 (by simp))
  have C2 := Lib.hid (HB2.out.fr hf2 (by simp))
  have C3 := Lib.hid (HB3.out.fr hf2 (by simp))
  have CF := Lib.hid (HFX.out.trans0 hf2)
  clear hf2 HB0 HB1 HB2 HB3 HFX HX CT
  rw [← HA.out] at C0
  go_wp2_with fail
  refine (HD.out _ CF.out).mono ?_
  rintro e w' ⟨rfl, rfl⟩
  go_wp2_with fail
  have HO := Lib.hid (show w2.ownsRow 0 25 8 (.slice va L vc) L (cat l) from by have h := own_fr0 hS.out.2 CF.out; rw [HL.out] at h; exact h)
  have HSP := Lib.hid (hS.out.1.fr CF.out (by simp))
  have hw2 := CF.out.size
  have hl3 := C3.out.lt
  refine wp_region_L (fun W => At W w.heap.size 31 (cat fr).toArray ∧ At W sp 69 #[.slice va L vc]) [22] (by kernel_rfl) ⟨C0.out, HSP.out⟩ (fun hHeld => ?_)
  refine wpAnyL_take (i := 0) (v := ?_) rfl (by kernel_rfl) (fun _ _ _ h => h) (Or.inl ⟨by rfl, ?_⟩) (by assumption) ?_; rotate_left; (focus (intro w hSw; skip; go_simp; (try with_reducible rfl))); (try (refine wpAnyL_norm (by simp only [Act.put, List.setIfInBounds_toArray, List.set_cons_zero, List.set_cons_succ]; rfl) ?_))
  refine wpAnyL_take (i := 1) (v := ?_) rfl (by kernel_rfl) (fun _ _ _ h => h) (Or.inl ⟨by rfl, ?_⟩) (by assumption) ?_; rotate_left; (focus (intro w hSw; skip; go_simp; (try with_reducible rfl))); (try (refine wpAnyL_norm (by simp only [Act.put, List.setIfInBounds_toArray, List.set_cons_zero, List.set_cons_succ]; rfl) ?_))
  refine wpAnyL_take (i := 2) (v := ?_) rfl (by kernel_rfl) (fun _ _ _ h => h) (Or.inl ⟨by rfl, ?_⟩) (by assumption) ?_; rotate_left; (focus (intro w hSw; skip; go_simp; (try with_reducible rfl))); (try (refine wpAnyL_norm (by simp only [Act.put, List.setIfInBounds_toArray, List.set_cons_zero, List.set_cons_succ]; rfl) ?_))
  refine wpAnyL_take (i := 3) (v := ?_) rfl (by kernel_rfl) (fun _ _ _ h => h) (Or.inl ⟨by rfl, ?_⟩) (by assumption) ?_; rotate_left; (focus (intro w hSw; skip; go_simp; (try with_reducible rfl))); (try (refine wpAnyL_norm (by simp only [Act.put, List.setIfInBounds_toArray, List.set_cons_zero, List.set_cons_succ]; rfl) ?_))
  refine wpAnyL_take (i := 4) (v := ?_) rfl (by kernel_rfl) (fun _ _ _ h => h) (Or.inl ⟨by rfl, ?_⟩) (by assumption) ?_; rotate_left; (focus (intro w hSw; (have hcl := hSw.2.cell 0; simp only [List.getElem?_toArray, List.getElem?_cons_zero] at hcl); go_simp; (try with_reducible rfl))); (try (refine wpAnyL_norm (by simp only [Act.put, List.setIfInBounds_toArray, List.set_cons_zero, List.set_cons_succ]; rfl) ?_))
  refine wpAnyL_take (i := 5) (v := ?_) rfl (by kernel_rfl) (fun _ _ _ h => h) (Or.inl ⟨by rfl, ?_⟩) (by assumption) ?_; rotate_left; (focus (intro w hSw; skip; go_simp; (try with_reducible rfl))); (try (refine wpAnyL_norm (by simp only [Act.put, List.setIfInBounds_toArray, List.set_cons_zero, List.set_cons_succ]; rfl) ?_))
  refine wpAnyL_take (i := 6) rfl (by kernel_rfl) (fun _ _ _ h => h) (yields_load_cap (.tmp 31) rfl w.heap.size 128 rfl 31 fr (fun W h => h.1) 16 rfl pc HPC.out rfl) (by assumption) ?_; (try (refine wpAnyL_norm (by simp only [Act.put, List.setIfInBounds_toArray, List.set_cons_zero, List.set_cons_succ]; rfl) ?_))
  refine wpAnyL_take (i := 7) (v := ?_) rfl (by kernel_rfl) (fun _ _ _ h => h) (Or.inl ⟨by rfl, ?_⟩) (by assumption) ?_; rotate_left; (focus (intro w hSw; skip; go_simp; (try with_reducible rfl))); (try (refine wpAnyL_norm (by simp only [Act.put, List.setIfInBounds_toArray, List.set_cons_zero, List.set_cons_succ]; rfl) ?_))
  refine wpAnyL_take (i := 8) (v := ?_) rfl (by kernel_rfl) (fun _ _ _ h => h) (Or.inl ⟨by rfl, ?_⟩) (by assumption) ?_; rotate_left; (focus (intro w hSw; skip; go_simp; (try with_reducible rfl))); (try (refine wpAnyL_norm (by simp only [Act.put, List.setIfInBounds_toArray, List.set_cons_zero, List.set_cons_succ]; rfl) ?_))
  refine wpAnyL_take (i := 9) (v := ?_) rfl (by kernel_rfl) (fun _ _ _ h => h) (Or.inl ⟨by rfl, ?_⟩) (by assumption) ?_; rotate_left; (focus (intro w hSw; (have hcl := (cat_cell hSw.1 16 pc HPC.out).1; simp only [Nat.reduceMul] at hcl); go_simp; (try with_reducible rfl))); (try (refine wpAnyL_norm (by simp only [Act.put, List.setIfInBounds_toArray, List.set_cons_zero, List.set_cons_succ]; rfl) ?_))
  refine wpAnyL_take (i := 10) (v := ?_) rfl (by kernel_rfl) (fun _ _ _ h => h) (Or.inl ⟨by rfl, ?_⟩) (by assumption) ?_; rotate_left; (focus (intro w hSw; skip; go_simp; (try with_reducible rfl))); (try (refine wpAnyL_norm (by simp only [Act.put, List.setIfInBounds_toArray, List.set_cons_zero, List.set_cons_succ]; rfl) ?_))
  refine wpAnyL_take (i := 12) (v := ?_) rfl (by kernel_rfl) (fun _ _ _ h => h) (Or.inl ⟨by rfl, ?_⟩) (by assumption) ?_; rotate_left; (focus (intro w hSw; skip; go_simp; (try with_reducible rfl))); (try (refine wpAnyL_norm (by simp only [Act.put, List.setIfInBounds_toArray, List.set_cons_zero, List.set_cons_succ]; rfl) ?_))
  refine wpAnyL_take (i := 13) (v := ?_) rfl (by kernel_rfl) (fun _ _ _ h => h) (Or.inl ⟨by rfl, ?_⟩) (by assumption) ?_; rotate_left; (focus (intro w hSw; skip; go_simp; (try with_reducible rfl))); (try (refine wpAnyL_norm (by simp only [Act.put, List.setIfInBounds_toArray, List.set_cons_zero, List.set_cons_succ]; rfl) ?_))
  refine wpAnyL_take (i := 14) rfl (by kernel_rfl) (fun _ _ _ h => h) (yields_load_cap (.tmp 39) rfl w.heap.size 112 rfl 31 fr (fun W h => h.1) 14 rfl x14 H14.out rfl) (by assumption) ?_; (try (refine wpAnyL_norm (by simp only [Act.put, List.setIfInBounds_toArray, List.set_cons_zero, List.set_cons_succ]; rfl) ?_))
  refine wpAnyL_take (i := 15) (v := ?_) rfl (by kernel_rfl) (fun _ _ _ h => h) (Or.inl ⟨by rfl, ?_⟩) (by assumption) ?_; rotate_left; (focus (intro w hSw; skip; go_simp; (try with_reducible rfl))); (try (refine wpAnyL_norm (by simp only [Act.put, List.setIfInBounds_toArray, List.set_cons_zero, List.set_cons_succ]; rfl) ?_))
  refine wpAnyL_take (i := 16) (v := ?_) rfl (by kernel_rfl) (fun _ _ _ h => h) (Or.inl ⟨by rfl, ?_⟩) (by assumption) ?_; rotate_left; (focus (intro w hSw; skip; go_simp; (try with_reducible rfl))); (try (refine wpAnyL_norm (by simp only [Act.put, List.setIfInBounds_toArray, List.set_cons_zero, List.set_cons_succ]; rfl) ?_))
  refine wpAnyL_take (i := 17) rfl (by kernel_rfl) (fun _ _ _ h => h) (yields_load_cap (.tmp 42) rfl w.heap.size 120 rfl 31 fr (fun W h => h.1) 15 rfl x15 H15.out rfl) (by assumption) ?_; (try (refine wpAnyL_norm (by simp only [Act.put, List.setIfInBounds_toArray, List.set_cons_zero, List.set_cons_succ]; rfl) ?_))
  refine wpAnyL_ready (rs := [11]) (by kernel_rfl) (by simp) ?_; refine AllReadyL.cons rfl (fun K hK => ?_) AllReadyL.nil
  go_simp
  refine (CA.out _).mono ?_
  rintro e w3 ⟨rfl, hf3⟩
  have HF3 := Lib.hid (show Fr [] w2 w3 from hf3.hd rfl rfl rfl rfl)
  refine hK.out _ _ (fun _ => ⟨hHeld.1.fr hf3 (by simp), hHeld.2.fr hf3 (by simp)⟩) (fun hHeld' => ?_); have hHeld := hHeld' (by decide); clear hHeld' hK K; (try (refine wpAnyL_norm (by simp only [Act.put, List.setIfInBounds_toArray, List.set_cons_zero, List.set_cons_succ]; rfl) ?_))
  clear hf3
  refine wpAnyL_ready (rs := [18]) (by kernel_rfl) (by simp) ?_; refine AllReadyL.cons rfl (fun K hK => ?_) AllReadyL.nil
  rw [if_pos (by rfl)]
  refine wp_buildSl 45 3 _ _ _ _ (built3 _ (pc.addr nx) x14 x15) rfl (by kernel_rfl) ?_
  have hf4 : Fr [] w3 (w3.alloc (.cells (cat [pc.addr nx, x14, x15]).toArray 25)) := (by repeat (first | exact Fr.refl _ _ | assumption | refine Fr.trans0 ?_ (by assumption) | refine Fr.drewN ?_ _ | refine Fr.alloc ?_ _ | refine Fr.drew ?_))
  refine hK.out _ _ (fun _ => ⟨hHeld.1.fr hf4 (by simp), hHeld.2.fr hf4 (by simp)⟩) (fun hHeld' => ?_); have hHeld := hHeld' (by decide); clear hHeld' hK K; (try (refine wpAnyL_norm (by simp only [Act.put, List.setIfInBounds_toArray, List.set_cons_zero, List.set_cons_succ]; rfl) ?_))
  have N4 := Lib.hid (At.new w3 25 (cat [pc.addr nx, x14, x15]).toArray)
  have HF4 := Lib.hid (HF3.out.trans0 hf4)
  obtain ⟨w4, hw4⟩ : ∃ W, w3.alloc (.cells (cat [pc.addr nx, x14, x15]).toArray 25) = W := ⟨_, rfl⟩
  obtain ⟨q4, hq4⟩ : ∃ q, w3.heap.size = q := ⟨_, rfl⟩
  rw [hw4] at N4 HF4 hHeld
  rw [hq4] at N4
  rw [hw4, hq4]
  have hq4w : w.heap.size ≤ q4 := by have := CF.out.size; have := HF3.out.size; omega
  have hq4l := N4.out.lt
  clear hf4 hw4 hq4
  refine wpAnyL_ready (rs := [19]) (by kernel_rfl) (by simp) ?_; refine AllReadyL.cons rfl (fun K hK => ?_) AllReadyL.nil
  have HO4 := Lib.hid (own_fr0 HO.out HF4.out)
  refine step_append_lies _ rfl (.tmp 30) (.tmp 44) 45 rfl 0 25 i0 (.agg noC.cells) 8 24 Try.underlying45 hii hz0 hz1 hz2 rfl (by omega) (.slice va L vc) L (cat l) rfl HO4.out ⟨q4, 0, none⟩ 3 3 (cat [pc.addr nx, x14, x15]) rfl (by rw [cat_len]; rfl) (fun j u hu => by rw [Go.WideShapes.add_plain, Nat.zero_add, N4.out.cell, List.getElem?_toArray]; exact hu) (cat_one' _) (by omega) (by unfold maxLen; omega) (by omega) (Nat.zero_le _) _ rfl ?_
  intro gg cap w5 hown5 hg5 hat5 hlt5
  have G5 := Lib.hid (Fr.grown hg5)
  have nf5 := Lib.hid (own_toList HO4.out hHeld.1 (by decide))
  have ns5 := Lib.hid (own_toList HO4.out hHeld.2 (by decide))
  have HF5 := Lib.hid ((HF4.out.more (T := (Value.slice va L vc).ownBlock.toList) (by simp)).trans G5.out (fun k hk => .inl hk))
  have HO5 := Lib.hid hown5
  have HAT := Lib.hid hat5
  refine hK.out _ _ (fun _ => ⟨hHeld.1.fr G5.out nf5.out, hHeld.2.fr G5.out ns5.out⟩) (fun hHeld' => ?_); have hHeld := hHeld' (by decide); clear hHeld' hK K; (try (refine wpAnyL_norm (by simp only [Act.put, List.setIfInBounds_toArray, List.set_cons_zero, List.set_cons_succ]; rfl) ?_))
  have s0 := hHeld.2.cell 0
  have s1 := hHeld.2.froz 0
  simp only [List.getElem?_toArray, List.getElem?_cons_zero] at s0
  have HH := Lib.hid hHeld
  clear hown5 hg5 hat5
  refine wpAnyL_take (i := 20) (v := ?_) rfl (by kernel_rfl) (fun _ _ _ h => h) (Or.inl ⟨by rfl, ?_⟩) (by assumption) ?_; rotate_left; (focus (intro w hSw; skip; go_simp; (try with_reducible rfl))); (try (refine wpAnyL_norm (by simp only [Act.put, List.setIfInBounds_toArray, List.set_cons_zero, List.set_cons_succ]; rfl) ?_))
  refine wpAnyL_take (i := 21) (v := ?_) rfl (by kernel_rfl) (fun _ _ _ h => h) (Or.inl ⟨by rfl, ?_⟩) (by assumption) ?_; rotate_left; (focus (intro w hSw; skip; go_simp; (try with_reducible rfl))); (try (refine wpAnyL_norm (by simp only [Act.put, List.setIfInBounds_toArray, List.set_cons_zero, List.set_cons_succ]; rfl) ?_))
  refine wpAnyL_ready (rs := [22]) (by kernel_rfl) (by simp) ?_; refine AllReadyL.cons rfl (fun K hK => ?_) AllReadyL.nil
  go_simp
  refine hK.out _ _ (fun h => (h (by decide)).elim) (fun _ => ?_); clear hK K; (try (refine wpAnyL_norm (by simp only [Act.put, List.setIfInBounds_toArray, List.set_cons_zero, List.set_cons_succ]; rfl) ?_))
  refine wpAnyL_done (by kernel_rfl) ?_ _
  have hown : ∀ g, (Value.slice va L vc).ownBlock = some g → g < w.heap.size := fun g hg => (hS.out.2.lt g hg).2
  have HFS : Fr (sp :: (Value.slice va L vc).ownBlock.toList) w2 (w5.setCell ⟨sp, 0, none⟩ (.slice (some ⟨gg, 0, none⟩) (L + 3) cap)) := (HF5.out.more (T := sp :: (Value.slice va L vc).ownBlock.toList) (fun k hk => .inl (by simp; exact .inr (by simpa using hk)))).set (.inl (by simp)) _
  have far : ∀ k, w.heap.size ≤ k → k ∉ sp :: (Value.slice va L vc).ownBlock.toList := fun k hk h => by
    simp at h
    rcases h with h | h
    · omega
    · have := hown k (by simpa using h); omega
  have D0 := Lib.hid (C0.out.fr HFS (far _ (Nat.le_refl _)))
  have D1 := Lib.hid (C1.out.fr HFS (far _ (by omega)))
  have D2 := Lib.hid (C2.out.fr HFS (far _ (by omega)))
  have D3 := Lib.hid (C3.out.fr HFS (far _ (by omega)))
  have hne : gg ≠ sp := own_ne HO5.out HH.out.2 (by decide) gg rfl
  have DS := Lib.hid (show St (w5.setCell ⟨sp, 0, none⟩ (.slice (some ⟨gg, 0, none⟩) (L + 3) cap)) sp (.slice (some ⟨gg, 0, none⟩) (L + 3) cap) (l ++ [pc.addr nx, x14, x15]) from
    ⟨HH.out.2.set 0 _, by rw [List.length_append, cat_append, HL.out]; exact own_fr (S := [sp]) HO5.out ((Fr.refl _ _).set (.inl (by simp)) _) (fun g hg => by simp [Value.ownBlock] at hg; subst hg; simpa using hne)⟩)
  have DF := Lib.hid ((CF.out.more (T := sp :: (Value.slice va L vc).ownBlock.toList) (by simp)).trans HFS (fun k hk => .inl hk))
  obtain ⟨w6, hw6⟩ : ∃ W, w5.setCell ⟨sp, 0, none⟩ (.slice (some ⟨gg, 0, none⟩) (L + 3) cap) = W := ⟨_, rfl⟩
  rw [hw6] at D0 D1 D2 D3 DS DF ⊢
  clear hw6 HFS far C0 C1 C2 C3 HF5 HO5 HH HO4 HO HSP HF4 HF3 N4 nf5 ns5 G5 hHeld s0 s1 hne hown CF HD CA
  have HI := Lib.hid (frInfo HFR.out)
  go_wp2_with (refine wpList_load_all rfl 31 (.tmp 5) rfl w.heap.size rfl 31 (cat fr).toArray _ D0.out Try.underlying31 rfl HI.out ?_)
  have N6 := At.new w6 3 #[.int .i64 10, .int .i64 11]
  have F6 : Fr [] w6 (w6.alloc (.cells #[.int .i64 10, .int .i64 11] 3)) := (by repeat (first | exact Fr.refl _ _ | assumption | refine Fr.trans0 ?_ (by assumption) | refine Fr.drewN ?_ _ | refine Fr.alloc ?_ _ | refine Fr.drew ?_))
  refine (cpass_any _ fr HFR.out _ 2 N6).mono ?_
  rintro e w7 ⟨rfl, hf7⟩
  have F7 : Fr [] w6 w7 := F6.trans0 hf7
  have HPL : (passF fr).length = 17 := by unfold passF; rw [List.length_set, List.length_set, zf_len]
  have HPI := Lib.hid (frInfo HPL)
  have E1 := Lib.hid (D1.out.fr F7 (by simp))
  have E2 := Lib.hid (D2.out.fr F7 (by simp))
  have E3 := Lib.hid (D3.out.fr F7 (by simp))
  have ES := Lib.hid (DS.out.fr0 F7)
  have EF := Lib.hid (DF.out.trans0 F7)
  have hs7 : w.heap.size + 1 + 1 + 1 < w7.heap.size := E3.out.lt
  have ZP := Lib.hid (show Z.size = (cat (passF fr)).toArray.size by rw [← HZ.out, cat_size HPL, cat_size zf_len])
  have HPA := Lib.hid (cat_all (passF fr))
  obtain ⟨G, hG⟩ : ∃ G, passF fr = G := ⟨_, rfl⟩
  rw [hG] at HPL HPI ZP HPA ⊢
  have HG := Lib.hid hG
  have HGL := Lib.hid HPL
  clear N6 F6 hf7 F7 D0 D1 D2 D3 DS DF hG HPL
  go_wp2_with (refine wpList_store_all rfl 31 (.tmp 11) (.tmp 50) rfl _ (cat G).toArray rfl rfl 31 Z (At.newq rfl) HPI.out ZP.out HPA.out ?_; intro w8 hA8 hF8)
  have I1 := Lib.hid (E1.out.old (.cells Z 31) |>.fr hF8 (by simp <;> omega))
  have I2 := Lib.hid (E2.out.old (.cells Z 31) |>.fr hF8 (by simp <;> omega))
  have I3 := Lib.hid (E3.out.old (.cells Z 31) |>.fr hF8 (by simp <;> omega))
  have IS := Lib.hid ((ES.out.fr0 (show Fr [] w7 (w7.alloc (.cells Z 31)) from (by repeat (first | exact Fr.refl _ _ | assumption | refine Fr.trans0 ?_ (by assumption) | refine Fr.drewN ?_ _ | refine Fr.alloc ?_ _ | refine Fr.drew ?_)))).fr hF8 (by have := ES.out.1.lt; simp <;> omega) (fun g hg => by have := (ES.out.2.lt g hg).2; simp <;> omega))
  have IF := Lib.hid ((EF.out.alloc (.cells Z 31)).trans hF8 (by have := EF.out.size; simp <;> omega))
  have hgg := (ES.out.2.lt gg rfl).2
  obtain ⟨B, hB⟩ : ∃ B, w7.heap.size = B := ⟨_, rfl⟩
  rw [hB] at hA8 hF8 hs7 hgg ⊢
  have HA8 := Lib.hid hA8
  have CO := Lib.hid fun W c => copen_any W c
  clear hA8 hF8 hB E1 E2 E3 ES EF
  refine wp_region_L (fun W => At W (w.heap.size + 1) 25 a.cells ∧ At W (w.heap.size + 1 + 1) 25 b.cells) [] (by kernel_rfl) ⟨I1.out, I2.out⟩ (fun hHeld => ?_)
  refine wpAnyL_take (i := 0) rfl (by kernel_rfl) (fun _ _ _ h => h) (yields_load_cp (.tmp 6) rfl (w.heap.size + 1) rfl 25 a (fun W h => h.1) rfl) (by assumption) ?_; (try (refine wpAnyL_norm (by simp only [Act.put, List.setIfInBounds_toArray, List.set_cons_zero, List.set_cons_succ]; rfl) ?_))
  refine wpAnyL_take (i := 2) rfl (by kernel_rfl) (fun _ _ _ h => h) (yields_load_cp (.tmp 7) rfl (w.heap.size + 1 + 1) rfl 25 b (fun W h => h.2) rfl) (by assumption) ?_; (try (refine wpAnyL_norm (by simp only [Act.put, List.setIfInBounds_toArray, List.set_cons_zero, List.set_cons_succ]; rfl) ?_))
  refine wpAnyL_take (i := 6) (v := ?_) rfl (by kernel_rfl) (fun _ _ _ h => h) (Or.inl ⟨by rfl, ?_⟩) (by assumption) ?_; rotate_left; (focus (intro w hSw; skip; go_simp; (try with_reducible rfl))); (try (refine wpAnyL_norm (by simp only [Act.put, List.setIfInBounds_toArray, List.set_cons_zero, List.set_cons_succ]; rfl) ?_))
  refine wpAnyL_ready (rs := [1]) (by kernel_rfl) (by simp) ?_; refine AllReadyL.cons rfl (fun K hK => ?_) AllReadyL.nil
  go_simp
  refine (CO.out _ a).mono ?_
  rintro e w9 ⟨rfl, hf9⟩
  refine hK.out _ _ (fun _ => ⟨hHeld.1.fr hf9 (by simp), hHeld.2.fr hf9 (by simp)⟩) (fun hHeld' => ?_); have hHeld := hHeld' (by decide); clear hHeld' hK K; (try (refine wpAnyL_norm (by simp only [Act.put, List.setIfInBounds_toArray, List.set_cons_zero, List.set_cons_succ]; rfl) ?_))
  refine wpAnyL_take (i := 4) (v := ?_) rfl (by kernel_rfl) (fun _ _ _ h => h) (Or.inl ⟨by rfl, ?_⟩) (by assumption) ?_; rotate_left; (focus (intro w hSw; skip; go_simp; (try with_reducible rfl))); (try (refine wpAnyL_norm (by simp only [Act.put, List.setIfInBounds_toArray, List.set_cons_zero, List.set_cons_succ]; rfl) ?_))
  refine wpAnyL_ready (rs := [3]) (by kernel_rfl) (by simp) ?_; refine AllReadyL.cons rfl (fun K hK => ?_) AllReadyL.nil
  go_simp
  refine (CO.out _ b).mono ?_
  rintro e w10 ⟨rfl, hf10⟩
  refine hK.out _ _ (fun _ => ⟨hHeld.1.fr hf10 (by simp), hHeld.2.fr hf10 (by simp)⟩) (fun hHeld' => ?_); have hHeld := hHeld' (by decide); clear hHeld' hK K; (try (refine wpAnyL_norm (by simp only [Act.put, List.setIfInBounds_toArray, List.set_cons_zero, List.set_cons_succ]; rfl) ?_))
  have hf11 : Fr [] w8 w10 := (hf9.trans0 hf10).hd rfl rfl rfl rfl
  have J8 := Lib.hid (HA8.out.fr hf11 (by simp))
  have J1 := Lib.hid (I1.out.fr hf11 (by simp))
  have J3 := Lib.hid (I3.out.fr hf11 (by simp))
  have JS := Lib.hid (IS.out.fr0 hf11)
  have JF := Lib.hid (IF.out.trans0 hf11)
  clear hf9 hf10 hf11 I1 I2 I3 IS IF HA8 J1
  refine wpAnyL_ready (rs := [5]) (by kernel_rfl) (by simp) ?_; refine AllReadyL.cons rfl (fun K hK => ?_) AllReadyL.nil
  rw [if_pos (by rfl)]
  refine wp_store_cap (.tmp 55) (.tmp 52) rfl B 128 a.opened rfl rfl 31 G J8.out 16 rfl (by rw [HGL.out]; omega) ?_
  intro w12 hA12 hF12
  refine hK.out _ _ (fun _ => ⟨hHeld.1.fr hF12 (by simp <;> omega), hHeld.2.fr hF12 (by simp <;> omega)⟩) (fun hHeld' => ?_); have hHeld := hHeld' (by decide); clear hHeld' hK K; (try (refine wpAnyL_norm (by simp only [Act.put, List.setIfInBounds_toArray, List.set_cons_zero, List.set_cons_succ]; rfl) ?_))
  refine wpAnyL_take (i := 7) (v := ?_) rfl (by kernel_rfl) (fun _ _ _ h => h) (Or.inl ⟨by rfl, ?_⟩) (by assumption) ?_; rotate_left; (focus (intro w hSw; skip; go_simp; (try with_reducible rfl))); (try (refine wpAnyL_norm (by simp only [Act.put, List.setIfInBounds_toArray, List.set_cons_zero, List.set_cons_succ]; rfl) ?_))
  refine wpAnyL_ready (rs := [8]) (by kernel_rfl) (by simp) ?_; refine AllReadyL.cons rfl (fun K hK => ?_) AllReadyL.nil
  rw [if_pos (by rfl)]
  refine wp_store_cap (.tmp 57) (.tmp 54) rfl B 120 b.opened rfl rfl 31 _ hA12 15 rfl (by rw [List.length_set, HGL.out]; omega) ?_
  intro w13 hA13 hF13
  refine hK.out _ _ (fun _ => ⟨hHeld.1.fr hF13 (by simp <;> omega), hHeld.2.fr hF13 (by simp <;> omega)⟩) (fun hHeld' => ?_); have hHeld := hHeld' (by decide); clear hHeld' hK K; (try (refine wpAnyL_norm (by simp only [Act.put, List.setIfInBounds_toArray, List.set_cons_zero, List.set_cons_succ]; rfl) ?_))
  refine wpAnyL_done (by kernel_rfl) ?_ _
  have K8 := Lib.hid hA13
  have K3 := Lib.hid ((J3.out.fr hF12 (by simp <;> omega)).fr hF13 (by simp <;> omega))
  have hB1 : sp ∉ [B] := by simp; omega
  have hB2 : ∀ g, (Value.slice (some ⟨gg, 0, none⟩) (L + 3) cap).ownBlock = some g → g ∉ [B] := fun g hg => by simp [Value.ownBlock] at hg; subst hg; simp; omega
  have hB3 : ∀ k ∈ [B], k ∈ sp :: (Value.slice va L vc).ownBlock.toList ∨ w.heap.size ≤ k := fun k hk => by simp at hk; subst hk; exact .inr (by omega)
  have KS := Lib.hid ((JS.out.fr hF12 hB1 hB2).fr hF13 hB1 hB2)
  have KF := Lib.hid ((JF.out.trans hF12 hB3).trans hF13 hB3)
  have HQI := Lib.hid (frInfo (show ((G.set 16 a.opened).set 15 b.opened).length = 17 by rw [List.length_set, List.length_set, HGL.out]))
  have ZQ := Lib.hid (show Z.size = (cat ((G.set 16 a.opened).set 15 b.opened)).toArray.size by rw [← HZ.out, cat_size zf_len, cat_size (show ((G.set 16 a.opened).set 15 b.opened).length = 17 by rw [List.length_set, List.length_set, HGL.out])])
  go_wp2_with (first | (refine wpList_load_all rfl 31 (.tmp 11) rfl B rfl 31 _ _ K8.out Try.underlying31 rfl HQI.out ?_) | (refine wpList_store_all rfl 31 (.tmp 8) (.tmp 58) rfl _ _ rfl rfl 31 Z K3.out HQI.out ZQ.out (cat_all _) ?_; intro w14 hA14 hF14))
  refine bodyPost_ret (res_row_tmp rfl _ _ _ 31 _ _ rfl hA14 Try.underlying31 rfl HQI.out) rfl ⟨.slice (some ⟨gg, 0, none⟩) (L + 3) cap, by rw [HG.out]; rfl, ?_, KF.out.trans hF14 (fun k hk => by simp at hk; subst hk; exact .inr (by omega)), fun g hg => ?_⟩
  · rw [hnx]
    exact KS.out.fr hF14 (by simp; omega) (fun g hg => by simpa using own_ne KS.out.2 K3.out (by decide) g hg)
  · simp [Value.ownBlock] at hg
    subst hg
    rcases HAT.out with h | h
    · exact .inl h
    · exact .inr (by omega)
end Go.Proofs.Ytdfefnajhnlpdaa
