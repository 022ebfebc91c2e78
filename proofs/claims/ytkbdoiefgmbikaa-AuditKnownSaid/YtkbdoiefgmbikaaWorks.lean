/-
  The first check of the statements of layer 32. No condition.
-/



import Derived.Test.YtkbdoiefgmbikaaCmp
import Derived.Deep.CutBlock
import Derived.Deep.DeepCutAuto
import Derived.BigRegion
set_option linter.unusedVariables false
namespace Go.Proofs.Ytkbdoiefgmbikaa
open Go.ChangeShapes Go.WideShapes Go.ChangeAt Go.RowKit
theorem evOk {k : Int} {n a s : Nat} (hk : 0 ≤ k ∧ k < 100 := by decide) (hn : n < 1000 := by decide) (ha : a < 100000 := by decide) (hs : s < 100000 := by decide) : Ev.Ok ⟨k, 0, 0, n, a, s⟩ := by
  have h1 : IntKind.i64.min = -9223372036854775808 := rfl
  have h2 : IntKind.i64.max = 9223372036854775807 := rfl
  refine ⟨by show a < _; omega, by show s < _; omega, by show n < _; omega, by show 0 < _; omega, ?_, ?_⟩
  · show (Lit.int .i64 k).wf = true
    simp [Lit.wf, h1, h2]; omega
  · show (Lit.int .i64 0).wf = true
    decide
theorem goodOk : ∀ e ∈ goodL, e.Ok := by
  intro e he
  simp only [goodL, List.mem_cons, List.not_mem_nil, or_false] at he
  rcases he with rfl | rfl | rfl | rfl | rfl <;> exact evOk
/-- A literal list of events, and its faults. -/
theorem hist_lit (w : World) (g : Nat) (L : List Ev) (F : List (Nat × Nat)) (hg : At w g 41 (evc L).toArray) (hok : ∀ e ∈ L, e.Ok) (hn : L.length ≤ 1000) (hF : histF 1024 1024 L 0 sx0 = F) :
    Calls Try.prog 16 #[.agg #[.int .u32 1024, .int .u32 1024], .slice (some ⟨g, 0, none⟩) L.length L.length] w fun r w' => ∃ va vc, r = .returned (.slice va F.length vc) ∧ RowsAt w' va 2 (fRow F) ∧ Fr [] w w' := by
  refine (hist_any w 1024 1024 (by omega) (by omega) (some ⟨g, 0, none⟩) L.length L (evc_in hg) hok hn).mono ?_
  rintro e w' ⟨v, rfl, ho, hf⟩
  rw [hF] at ho
  obtain ⟨a, c, rfl, hr⟩ := own_faults ho
  exact ⟨a, c, rfl, hr, hf⟩
theorem at_event {W : World} {g : Nat} {L : List Ev} (h : At W g 41 (evc L).toArray) (k : Nat) (e : Ev) (hk : L[k]? = some e) (n : Nat) (hn : n = k * 6) : ∀ j v, (evl e)[j]? = some v → W.cell? ((⟨g, n, none⟩ : Addr).add j) = some v := fun j v hv => by
  have hj : j < 6 := (List.getElem?_eq_some_iff.1 hv).1
  rw [Go.WideShapes.add_plain, h.cell, hn, List.getElem?_toArray, evc_get L k e j hk hj, hv]
theorem h1F : histF 1024 1024 [evG, evF, evR] 0 sx0 = [(8, 2)] := by decide
theorem h2F : histF 1024 1024 [evF] 0 sx0 = [(5, 0)] := by decide
theorem h3F : histF 1024 1024 goodL 0 sx0 = [] := by decide
def cM : Cp := ⟨1024, 0, 1024, 1088, 1, 0, 0, true⟩
theorem mkM : mkB 1024 64 1 = true ∧ mkC 1024 64 1 = cM := ⟨by decide +kernel, by kernel_rfl⟩
def hdM : Hd := ⟨-1, 0, 0, cM⟩
def hdN : Hd := ⟨0, 0, 0, numK 1030⟩
theorem makeM (w : World) : Calls Try.prog 18 #[.agg #[.int .u32 1024, .int .u32 64], .int .u16 1] w fun r w' => r = .returned (.tuple #[.agg cM.cells, .bool true]) ∧ Fr [] w w' := by
  have := make_any w 1024 64 1 (by omega) (by omega)
  rw [mkM.1, if_pos rfl, mkM.2] at this
  exact this
theorem builtH (w : World) : (Instr.buildSlice 22 2 #[(0, .agg hdM.l.toArray), (1, .agg hdN.l.toArray)]).run Try.prog w = .ok (.slice (some ⟨w.heap.size, 0, none⟩) 2 2) (w.alloc (.cells (hdM.l ++ hdN.l).toArray 55)) := by kernel_rfl
theorem plc1 : plc (fun c => meetsB c 1080 9) [hdM, hdN] 0 = [0] := by decide +kernel
theorem plc2 : plc (fun c => !(([] ++ gcs [(1024, 64)]).any (withinB c))) [hdM, hdN] 0 = [] := by decide +kernel
theorem plc3 : plc (fun c => !(([] ++ gcs []).any (withinB c))) [hdM, hdN] 0 = [0] := by decide +kernel
theorem heldAt {W : World} {g : Nat} (h : At W g 55 (hdM.l ++ hdN.l).toArray) : RowsAt W (some ⟨g, 0, none⟩) 11 ([hdM, hdN].map Hd.l) :=
  .inr ⟨g, 0, rfl, h.lt, fun k c hk j v hv => by
    rw [Go.WideShapes.add_plain, h.cell, List.getElem?_toArray]
    match k, hk with
    | 0, hk =>
      simp at hk
      subst hk
      have hj : j < 11 := (List.getElem?_eq_some_iff.1 hv).1
      rw [Nat.zero_mul, Nat.zero_add, List.getElem?_append_left (by show j < 11; exact hj)]
      exact hv
    | 1, hk =>
      simp at hk
      subst hk
      rw [List.getElem?_append_right (by show 11 ≤ _; omega), show 0 + 1 * 11 + j - hdM.l.length = j by show 0 + 1 * 11 + j - 11 = j; omega]
      exact hv⟩
theorem held_cur : ∀ h ∈ [hdM, hdN], h.c.cur < 4294967296 := by decide
theorem meetingM (w : World) (g : Nat) (h : At w g 55 (hdM.l ++ hdN.l).toArray) :
    Calls Try.prog 13 #[.slice (some ⟨g, 0, none⟩) 2 2, .agg #[.int .u32 1080, .int .u32 9]] w fun r w' => ∃ va vc, r = .returned (.slice va 1 vc) ∧ RowsAt w' va 1 (iRow [0]) ∧ Fr [] w w' := by
  refine (meeting_any w (some ⟨g, 0, none⟩) 2 [hdM, hdN] 1080 9 (heldAt h) held_cur (by decide) (by omega) (by omega)).mono ?_
  rintro e w' ⟨v, rfl, ho, hf⟩
  rw [plc1] at ho
  obtain ⟨a, c, rfl, _, hr⟩ := own_ints ho
  exact ⟨a, c, rfl, hr, hf⟩
theorem outsideM (w : World) (g q : Nat) (h : At w g 55 (hdM.l ++ hdN.l).toArray) (hq : At w q 27 #[.int .u32 1024, .int .u32 64]) :
    Calls Try.prog 11 #[.slice (some ⟨g, 0, none⟩) 2 2, .slice none 0 0, .slice (some ⟨q, 0, none⟩) 1 1] w fun r w' => ∃ va vc, r = .returned (.slice va 0 vc) ∧ Fr [] w w' := by
  refine (outside_any w (some ⟨g, 0, none⟩) 2 [hdM, hdN] none 0 [] (some ⟨q, 0, none⟩) 1 [(1024, 64)] (heldAt h) held_cur (by decide) (.inl rfl) (fun _ => rfl) (by simp) (by simp)
    (.inr ⟨q, 0, rfl, hq.lt, fun k c hk j v hv => by
      match k, hk with
      | 0, hk =>
        simp at hk
        subst hk
        exact hq.two 0 _ _ rfl rfl j v hv⟩) (by simp) (by simp)).mono ?_
  rintro e w' ⟨v, rfl, ho, hf⟩
  rw [plc2] at ho
  obtain ⟨a, c, rfl, _, hr⟩ := own_ints ho
  exact ⟨a, c, rfl, hf⟩
theorem outsideN (w : World) (g : Nat) (h : At w g 55 (hdM.l ++ hdN.l).toArray) :
    Calls Try.prog 11 #[.slice (some ⟨g, 0, none⟩) 2 2, .slice none 0 0, .slice none 0 0] w fun r w' => ∃ va vc, r = .returned (.slice va 1 vc) ∧ RowsAt w' va 1 (iRow [0]) ∧ Fr [] w w' := by
  refine (outside_any w (some ⟨g, 0, none⟩) 2 [hdM, hdN] none 0 [] none 0 [] (heldAt h) held_cur (by decide) (.inl rfl) (fun _ => rfl) (by simp) (by simp) (.inl rfl) (by simp) (by simp)).mono ?_
  rintro e w' ⟨v, rfl, ho, hf⟩
  rw [plc3] at ho
  obtain ⟨a, c, rfl, _, hr⟩ := own_ints ho
  exact ⟨a, c, rfl, hr, hf⟩
theorem zeroRow {W : World} {g : Nat} (h : At W g 3 #[.int .i64 0]) : RowsAt W (some ⟨g, 0, none⟩) 1 (iRow [0]) :=
  .inr ⟨g, 0, rfl, h.lt, fun k c hk j v hv => by
    match k, hk with
    | 0, hk =>
      simp [iRow] at hk
      subst hk
      obtain rfl : j = 0 := by have := (List.getElem?_eq_some_iff.1 hv).1; simp at this; exact this
      rw [Go.WideShapes.add_plain, h.cell]
      exact hv⟩
theorem intsZ (w : World) (a : Option Addr) (c : Nat) (q : Nat) (h1 : RowsAt w a 1 (iRow [0])) (hq : At w q 3 #[.int .i64 0]) :
    Calls Try.prog 10 #[.slice a 1 c, .slice (some ⟨q, 0, none⟩) 1 1] w fun r w' => r = .returned (.bool true) ∧ Fr [] w w' :=
  ints_any w a (some ⟨q, 0, none⟩) c 1 [0] [0] h1 (zeroRow hq) (by decide) (by decide)
theorem built3e (w : World) : (Instr.buildSlice 36 3 #[(0, .agg (evl evG).toArray), (1, .agg (evl evF).toArray), (2, .agg (evl evR).toArray)]).run Try.prog w = .ok (.slice (some ⟨w.heap.size, 0, none⟩) 3 3) (w.alloc (.cells (evc [evG, evF, evR]).toArray 41)) := by kernel_rfl
theorem built1e (w : World) : (Instr.buildSlice 36 1 #[(0, .agg (evl evF).toArray)]).run Try.prog w = .ok (.slice (some ⟨w.heap.size, 0, none⟩) 1 1) (w.alloc (.cells (evc [evF]).toArray 41)) := by kernel_rfl
theorem h1ok : ∀ e ∈ [evG, evF, evR], e.Ok := by
  intro e he
  simp only [List.mem_cons, List.not_mem_nil, or_false] at he
  rcases he with rfl | rfl | rfl <;> exact evOk
theorem h2ok : ∀ e ∈ [evF], e.Ok := by
  intro e he
  simp only [List.mem_cons, List.not_mem_nil, or_false] at he
  rcases he with rfl <;> exact evOk
set_option maxHeartbeats 4000000 in
set_option maxRecDepth 100000 in
theorem works_any (w : World) : Calls Try.prog 15 #[] w fun r w' => r = .returned (.bool true) ∧ Fr [] w w' := by
  have CH := Lib.hid heap_any
  go_enter Try.func15, Try.ntmps15
  go_wp2_with fail
  refine (good_any w).mono ?_
  rintro e w1 ⟨g, rfl, hg, hgw, hf1⟩
  have G1 := Lib.hid hg
  have F1 := Lib.hid hf1
  have hlt := hg.lt
  clear hg hf1
  go_upto_region 2 with (fail)
  go_cut [2] (fun s2 wx => ∃ va vc, s2 = .slice va 1 vc ∧ RowsAt wx va 2 (fRow [(8, 2)]) ∧ Fr [] w1 wx)
  case first =>
    refine wp_region_L (fun W => At W g 41 (evc goodL).toArray ∧ Fr [] w1 W) [] (by kernel_rfl) ⟨G1.out.hp rfl, (Fr.refl _ _).drew⟩ (fun hHeld => ?_)
    refine wpAnyL_take (i := 1) (v := ?_) rfl (by kernel_rfl) (fun _ _ _ h => h) (Or.inl ⟨by rfl, ?_⟩) (by assumption) ?_; rotate_left; (focus (intro w hSw; skip; go_simp; (try with_reducible rfl))); (try (refine wpAnyL_norm (by simp only [Act.put, List.setIfInBounds_toArray, List.set_cons_zero, List.set_cons_succ]; rfl) ?_))
    refine wpAnyL_take (i := 2) (v := ?_) rfl (by kernel_rfl) (fun _ _ _ h => h) (Or.inl ⟨by rfl, ?_⟩) (by assumption) ?_; rotate_left; (focus (intro w hSw; skip; go_simp; (try with_reducible rfl))); (try (refine wpAnyL_norm (by simp only [Act.put, List.setIfInBounds_toArray, List.set_cons_zero, List.set_cons_succ]; rfl) ?_))
    refine wpAnyL_take (i := 3) rfl (by kernel_rfl) (fun _ _ _ h => h) (yields_load_at 41 (.tmp 10) rfl ⟨g, 0, none⟩ rfl (evl evG) _ (fun W hW => at_event hW.1 0 evG rfl 0 rfl) Try.underlying41 rfl infoEv rfl) (by assumption) ?_; (try (refine wpAnyL_norm (by simp only [Act.put, List.setIfInBounds_toArray, List.set_cons_zero, List.set_cons_succ]; rfl) ?_))
    refine wpAnyL_take (i := 4) (v := ?_) rfl (by kernel_rfl) (fun _ _ _ h => h) (Or.inl ⟨by rfl, ?_⟩) (by assumption) ?_; rotate_left; (focus (intro w hSw; skip; go_simp; (try with_reducible rfl))); (try (refine wpAnyL_norm (by simp only [Act.put, List.setIfInBounds_toArray, List.set_cons_zero, List.set_cons_succ]; rfl) ?_))
    refine wpAnyL_take (i := 5) (v := ?_) rfl (by kernel_rfl) (fun _ _ _ h => h) (Or.inl ⟨by rfl, ?_⟩) (by assumption) ?_; rotate_left; (focus (intro w hSw; skip; go_simp; (try with_reducible rfl))); (try (refine wpAnyL_norm (by simp only [Act.put, List.setIfInBounds_toArray, List.set_cons_zero, List.set_cons_succ]; rfl) ?_))
    refine wpAnyL_take (i := 6) rfl (by kernel_rfl) (fun _ _ _ h => h) (yields_load_at 41 (.tmp 13) rfl ⟨g, 6, none⟩ rfl (evl evF) _ (fun W hW => at_event hW.1 1 evF rfl 6 rfl) Try.underlying41 rfl infoEv rfl) (by assumption) ?_; (try (refine wpAnyL_norm (by simp only [Act.put, List.setIfInBounds_toArray, List.set_cons_zero, List.set_cons_succ]; rfl) ?_))
    refine wpAnyL_take (i := 7) (v := ?_) rfl (by kernel_rfl) (fun _ _ _ h => h) (Or.inl ⟨by rfl, ?_⟩) (by assumption) ?_; rotate_left; (focus (intro w hSw; skip; go_simp; (try with_reducible rfl))); (try (refine wpAnyL_norm (by simp only [Act.put, List.setIfInBounds_toArray, List.set_cons_zero, List.set_cons_succ]; rfl) ?_))
    refine wpAnyL_take (i := 8) (v := ?_) rfl (by kernel_rfl) (fun _ _ _ h => h) (Or.inl ⟨by rfl, ?_⟩) (by assumption) ?_; rotate_left; (focus (intro w hSw; skip; go_simp; (try with_reducible rfl))); (try (refine wpAnyL_norm (by simp only [Act.put, List.setIfInBounds_toArray, List.set_cons_zero, List.set_cons_succ]; rfl) ?_))
    refine wpAnyL_take (i := 9) rfl (by kernel_rfl) (fun _ _ _ h => h) (yields_load_at 41 (.tmp 16) rfl ⟨g, 18, none⟩ rfl (evl evR) _ (fun W hW => at_event hW.1 3 evR rfl 18 rfl) Try.underlying41 rfl infoEv rfl) (by assumption) ?_; (try (refine wpAnyL_norm (by simp only [Act.put, List.setIfInBounds_toArray, List.set_cons_zero, List.set_cons_succ]; rfl) ?_))
    refine wpAnyL_ready (rs := [0, 10]) (by kernel_rfl) (by simp) ?_
    refine AllReadyL.cons rfl (fun K hK => ?_) (AllReadyL.cons rfl (fun K hK => ?_) AllReadyL.nil)
    · go_simp
      refine (CH.out _).mono ?_
      rintro e w2 ⟨rfl, hf2⟩
      refine hK.out _ _ (fun _ => ⟨hHeld.1.fr hf2 (by simp), hHeld.2.trans0 hf2⟩) (fun hHeld' => ?_); have hHeld := hHeld' (by decide); clear hHeld' hK K; (try (refine wpAnyL_norm (by simp only [Act.put, List.setIfInBounds_toArray, List.set_cons_zero, List.set_cons_succ]; rfl) ?_))
      refine wpAnyL_ready (rs := [10]) (by kernel_rfl) (by simp) ?_; refine AllReadyL.cons rfl (fun K hK => ?_) AllReadyL.nil
      refine wp_buildSlice 36 3 _ _ _ _ (built3e _) rfl (by simp [go_sem]) ?_
      have HA := At.new w2 41 (evc [evG, evF, evR]).toArray
      have hG2 := hHeld.1.old (.cells (evc [evG, evF, evR]).toArray 41)
      have hF2 := hHeld.2.alloc (.cells (evc [evG, evF, evR]).toArray 41)
      refine hK.out _ _ (fun _ => ⟨hG2, hF2⟩) (fun hHeld' => ?_); have hHeld := hHeld' (by decide); clear hHeld' hK K; (try (refine wpAnyL_norm (by simp only [Act.put, List.setIfInBounds_toArray, List.set_cons_zero, List.set_cons_succ]; rfl) ?_))
      refine wpAnyL_ready (rs := [11]) (by kernel_rfl) (by simp) ?_; refine AllReadyL.cons rfl (fun K hK => ?_) AllReadyL.nil
      go_simp
      refine (hist_lit _ w2.heap.size [evG, evF, evR] [(8, 2)] HA h1ok (by decide) h1F).mono ?_
      rintro e w3 ⟨va, vc, rfl, hr, hf3⟩
      refine hK.out _ _ (fun _ => ⟨hG2.fr hf3 (by simp), hF2.trans0 hf3⟩) (fun hHeld' => ?_); have hHeld := hHeld' (by decide); clear hHeld' hK K; (try (refine wpAnyL_norm (by simp only [Act.put, List.setIfInBounds_toArray, List.set_cons_zero, List.set_cons_succ]; rfl) ?_))
      refine wpAnyL_take (i := 12) (v := ?_) rfl (by kernel_rfl) (fun _ _ _ h => h) (Or.inl ⟨by rfl, ?_⟩) (by assumption) ?_; rotate_left; (focus (intro w hSw; skip; go_simp; (try with_reducible rfl))); (try (refine wpAnyL_norm (by simp only [Act.put, List.setIfInBounds_toArray, List.set_cons_zero, List.set_cons_succ]; rfl) ?_))
      refine wpAnyL_done (by kernel_rfl) ?_ _
      go_wp2_with fail
      go_meet
      exact ⟨va, vc, rfl, hr, hF2.trans0 hf3⟩
    · refine wp_buildSlice 36 3 _ _ _ _ (built3e _) rfl (by simp [go_sem]) ?_
      have HA := At.new w1.drew 41 (evc [evG, evF, evR]).toArray
      have hG2 := hHeld.1.old (.cells (evc [evG, evF, evR]).toArray 41)
      have hF2 := hHeld.2.alloc (.cells (evc [evG, evF, evR]).toArray 41)
      refine hK.out _ _ (fun _ => ⟨hG2, hF2⟩) (fun hHeld' => ?_); have hHeld := hHeld' (by decide); clear hHeld' hK K; (try (refine wpAnyL_norm (by simp only [Act.put, List.setIfInBounds_toArray, List.set_cons_zero, List.set_cons_succ]; rfl) ?_))
      refine wpAnyL_ready (rs := [0]) (by kernel_rfl) (by simp) ?_; refine AllReadyL.cons rfl (fun K hK => ?_) AllReadyL.nil
      go_simp
      refine (CH.out _).mono ?_
      rintro e w2 ⟨rfl, hf2⟩
      refine hK.out _ _ (fun _ => ⟨hG2.fr hf2 (by simp), hF2.trans0 hf2⟩) (fun hHeld' => ?_); have hHeld := hHeld' (by decide); clear hHeld' hK K; (try (refine wpAnyL_norm (by simp only [Act.put, List.setIfInBounds_toArray, List.set_cons_zero, List.set_cons_succ]; rfl) ?_))
      refine wpAnyL_ready (rs := [11]) (by kernel_rfl) (by simp) ?_; refine AllReadyL.cons rfl (fun K hK => ?_) AllReadyL.nil
      go_simp
      refine (hist_lit _ w1.heap.size [evG, evF, evR] [(8, 2)] (HA.fr hf2 (by simp)) h1ok (by decide) h1F).mono ?_
      rintro e w3 ⟨va, vc, rfl, hr, hf3⟩
      refine hK.out _ _ (fun _ => ⟨(hG2.fr hf2 (by simp)).fr hf3 (by simp), (hF2.trans0 hf2).trans0 hf3⟩) (fun hHeld' => ?_); have hHeld := hHeld' (by decide); clear hHeld' hK K; (try (refine wpAnyL_norm (by simp only [Act.put, List.setIfInBounds_toArray, List.set_cons_zero, List.set_cons_succ]; rfl) ?_))
      refine wpAnyL_take (i := 12) (v := ?_) rfl (by kernel_rfl) (fun _ _ _ h => h) (Or.inl ⟨by rfl, ?_⟩) (by assumption) ?_; rotate_left; (focus (intro w hSw; skip; go_simp; (try with_reducible rfl))); (try (refine wpAnyL_norm (by simp only [Act.put, List.setIfInBounds_toArray, List.set_cons_zero, List.set_cons_succ]; rfl) ?_))
      refine wpAnyL_done (by kernel_rfl) ?_ _
      go_wp2_with fail
      go_meet
      exact ⟨va, vc, rfl, hr, (hF2.trans0 hf2).trans0 hf3⟩
  obtain ⟨va, vc, rfl, hr2, hf2⟩ := hcut
  obtain ⟨w2, rfl⟩ : ∃ W : World, W = wc := ⟨_, rfl⟩
  have R2 := Lib.hid hr2
  have G2 := Lib.hid (G1.out.fr hf2 (by simp))
  have F2 := Lib.hid (F1.out.trans0 hf2)
  clear hr2 hf2 G1 F1
  go_upto_region 3 with (fail)
  go_cut [3] (fun s3 wx => ∃ vb vd, s3 = .slice vb 1 vd ∧ RowsAt wx vb 2 (fRow [(5, 0)]) ∧ Fr [] w2 wx)
  case first =>
    refine wp_region_L (fun W => At W g 41 (evc goodL).toArray ∧ Fr [] w2 W) [] (by kernel_rfl) ⟨G2.out.hp rfl, (Fr.refl _ _).drew⟩ (fun hHeld => ?_)
    refine wpAnyL_take (i := 1) (v := ?_) rfl (by kernel_rfl) (fun _ _ _ h => h) (Or.inl ⟨by rfl, ?_⟩) (by assumption) ?_; rotate_left; (focus (intro w hSw; skip; go_simp; (try with_reducible rfl))); (try (refine wpAnyL_norm (by simp only [Act.put, List.setIfInBounds_toArray, List.set_cons_zero, List.set_cons_succ]; rfl) ?_))
    refine wpAnyL_take (i := 2) (v := ?_) rfl (by kernel_rfl) (fun _ _ _ h => h) (Or.inl ⟨by rfl, ?_⟩) (by assumption) ?_; rotate_left; (focus (intro w hSw; skip; go_simp; (try with_reducible rfl))); (try (refine wpAnyL_norm (by simp only [Act.put, List.setIfInBounds_toArray, List.set_cons_zero, List.set_cons_succ]; rfl) ?_))
    refine wpAnyL_take (i := 3) rfl (by kernel_rfl) (fun _ _ _ h => h) (yields_load_at 41 (.tmp 22) rfl ⟨g, 6, none⟩ rfl (evl evF) _ (fun W hW => at_event hW.1 1 evF rfl 6 rfl) Try.underlying41 rfl infoEv rfl) (by assumption) ?_; (try (refine wpAnyL_norm (by simp only [Act.put, List.setIfInBounds_toArray, List.set_cons_zero, List.set_cons_succ]; rfl) ?_))
    refine wpAnyL_ready (rs := [0, 4]) (by kernel_rfl) (by simp) ?_
    refine AllReadyL.cons rfl (fun K hK => ?_) (AllReadyL.cons rfl (fun K hK => ?_) AllReadyL.nil)
    · go_simp
      refine (CH.out _).mono ?_
      rintro e w3 ⟨rfl, hf2⟩
      refine hK.out _ _ (fun _ => ⟨hHeld.1.fr hf2 (by simp), hHeld.2.trans0 hf2⟩) (fun hHeld' => ?_); have hHeld := hHeld' (by decide); clear hHeld' hK K; (try (refine wpAnyL_norm (by simp only [Act.put, List.setIfInBounds_toArray, List.set_cons_zero, List.set_cons_succ]; rfl) ?_))
      refine wpAnyL_ready (rs := [4]) (by kernel_rfl) (by simp) ?_; refine AllReadyL.cons rfl (fun K hK => ?_) AllReadyL.nil
      refine wp_buildSlice 36 1 _ _ _ _ (built1e _) rfl (by simp [go_sem]) ?_
      have HA := At.new w3 41 (evc [evF]).toArray
      have hG2 := hHeld.1.old (.cells (evc [evF]).toArray 41)
      have hF2 := hHeld.2.alloc (.cells (evc [evF]).toArray 41)
      refine hK.out _ _ (fun _ => ⟨hG2, hF2⟩) (fun hHeld' => ?_); have hHeld := hHeld' (by decide); clear hHeld' hK K; (try (refine wpAnyL_norm (by simp only [Act.put, List.setIfInBounds_toArray, List.set_cons_zero, List.set_cons_succ]; rfl) ?_))
      refine wpAnyL_ready (rs := [5]) (by kernel_rfl) (by simp) ?_; refine AllReadyL.cons rfl (fun K hK => ?_) AllReadyL.nil
      go_simp
      refine (hist_lit _ w3.heap.size [evF] [(5, 0)] HA h2ok (by decide) h2F).mono ?_
      rintro e w4 ⟨vb, vd, rfl, hr, hf3⟩
      refine hK.out _ _ (fun _ => ⟨hG2.fr hf3 (by simp), hF2.trans0 hf3⟩) (fun hHeld' => ?_); have hHeld := hHeld' (by decide); clear hHeld' hK K; (try (refine wpAnyL_norm (by simp only [Act.put, List.setIfInBounds_toArray, List.set_cons_zero, List.set_cons_succ]; rfl) ?_))
      refine wpAnyL_take (i := 6) (v := ?_) rfl (by kernel_rfl) (fun _ _ _ h => h) (Or.inl ⟨by rfl, ?_⟩) (by assumption) ?_; rotate_left; (focus (intro w hSw; skip; go_simp; (try with_reducible rfl))); (try (refine wpAnyL_norm (by simp only [Act.put, List.setIfInBounds_toArray, List.set_cons_zero, List.set_cons_succ]; rfl) ?_))
      refine wpAnyL_done (by kernel_rfl) ?_ _
      go_wp2_with fail
      go_meet
      exact ⟨vb, vd, rfl, hr, hF2.trans0 hf3⟩
    · refine wp_buildSlice 36 1 _ _ _ _ (built1e _) rfl (by simp [go_sem]) ?_
      have HA := At.new w2.drew 41 (evc [evF]).toArray
      have hG2 := hHeld.1.old (.cells (evc [evF]).toArray 41)
      have hF2 := hHeld.2.alloc (.cells (evc [evF]).toArray 41)
      refine hK.out _ _ (fun _ => ⟨hG2, hF2⟩) (fun hHeld' => ?_); have hHeld := hHeld' (by decide); clear hHeld' hK K; (try (refine wpAnyL_norm (by simp only [Act.put, List.setIfInBounds_toArray, List.set_cons_zero, List.set_cons_succ]; rfl) ?_))
      refine wpAnyL_ready (rs := [0]) (by kernel_rfl) (by simp) ?_; refine AllReadyL.cons rfl (fun K hK => ?_) AllReadyL.nil
      go_simp
      refine (CH.out _).mono ?_
      rintro e w3 ⟨rfl, hf2⟩
      refine hK.out _ _ (fun _ => ⟨hG2.fr hf2 (by simp), hF2.trans0 hf2⟩) (fun hHeld' => ?_); have hHeld := hHeld' (by decide); clear hHeld' hK K; (try (refine wpAnyL_norm (by simp only [Act.put, List.setIfInBounds_toArray, List.set_cons_zero, List.set_cons_succ]; rfl) ?_))
      refine wpAnyL_ready (rs := [5]) (by kernel_rfl) (by simp) ?_; refine AllReadyL.cons rfl (fun K hK => ?_) AllReadyL.nil
      go_simp
      refine (hist_lit _ w2.heap.size [evF] [(5, 0)] (HA.fr hf2 (by simp)) h2ok (by decide) h2F).mono ?_
      rintro e w4 ⟨vb, vd, rfl, hr, hf3⟩
      refine hK.out _ _ (fun _ => ⟨(hG2.fr hf2 (by simp)).fr hf3 (by simp), (hF2.trans0 hf2).trans0 hf3⟩) (fun hHeld' => ?_); have hHeld := hHeld' (by decide); clear hHeld' hK K; (try (refine wpAnyL_norm (by simp only [Act.put, List.setIfInBounds_toArray, List.set_cons_zero, List.set_cons_succ]; rfl) ?_))
      refine wpAnyL_take (i := 6) (v := ?_) rfl (by kernel_rfl) (fun _ _ _ h => h) (Or.inl ⟨by rfl, ?_⟩) (by assumption) ?_; rotate_left; (focus (intro w hSw; skip; go_simp; (try with_reducible rfl))); (try (refine wpAnyL_norm (by simp only [Act.put, List.setIfInBounds_toArray, List.set_cons_zero, List.set_cons_succ]; rfl) ?_))
      refine wpAnyL_done (by kernel_rfl) ?_ _
      go_wp2_with fail
      go_meet
      exact ⟨vb, vd, rfl, hr, (hF2.trans0 hf2).trans0 hf3⟩
  obtain ⟨vb, vd, rfl, hr3, hf3⟩ := hcut
  obtain ⟨w3, rfl⟩ : ∃ W : World, W = wc := ⟨_, rfl⟩
  have R2 := Lib.hid (R2.out.fr0 hf3)
  have R3 := Lib.hid hr3
  have G3 := Lib.hid (G2.out.fr hf3 (by simp))
  have F3 := Lib.hid (F2.out.trans0 hf3)
  clear hr3 hf3 G2 F2
  have CMk := Lib.hid makeM
  unfold cM Cp.cells at CMk
  go_wp2_with fail
  refine (CMk.out _).mono ?_
  rintro e w4 ⟨rfl, hf4⟩
  have A4 := Lib.hid (At.new w4 51 cM.cells)
  have F4 := Lib.hid ((F3.out.trans0 hf4).alloc (.cells cM.cells 51))
  have R4 := Lib.hid ((R2.out.fr0 hf4).fr0 ((Fr.refl [] w4).alloc (.cells cM.cells 51)))
  have R5 := Lib.hid ((R3.out.fr0 hf4).fr0 ((Fr.refl [] w4).alloc (.cells cM.cells 51)))
  have G4 := Lib.hid ((G3.out.fr hf4 (by simp)).old (.cells cM.cells 51))
  clear hf4 R2 R3 G3 F3
  have CN := Lib.hid fun W => numk_any W 1030
  unfold numK Cp.cells at CN
  go_wp2_with fail
  unfold cM Cp.cells at A4 F4 R4 R5 G4
  refine wp_region_L (fun W => At W w4.heap.size 51 cM.cells ∧ RowsAt W va 2 (fRow [(8, 2)]) ∧ RowsAt W vb 2 (fRow [(5, 0)]) ∧ At W g 41 (evc goodL).toArray ∧ Fr [] w W) [] (by kernel_rfl) ⟨A4.out.hp rfl, R4.out.fr0 (Fr.refl _ _).drew, R5.out.fr0 (Fr.refl _ _).drew, G4.out.hp rfl, F4.out.drew⟩ (fun hHeld => ?_)
  refine wpAnyL_take (i := 0) rfl (by kernel_rfl) (fun _ _ _ h => h) (yields_load_at 51 (.tmp 4) rfl ⟨w4.heap.size, 0, none⟩ rfl [.int .u32 1024, .int .u8 0, .int .u16 1024, .int .u16 1088, .int .u16 1, .int .u16 0, .int .u32 0, .bool true] _ (fun W hW => hW.1.all _ rfl) Try.underlying51 rfl (infoC8 cM) rfl) (by assumption) ?_; (try (refine wpAnyL_norm (by simp only [Act.put, List.setIfInBounds_toArray, List.set_cons_zero, List.set_cons_succ]; rfl) ?_))
  refine wpAnyL_take (i := 1) (v := ?_) rfl (by kernel_rfl) (fun _ _ _ h => h) (Or.inl ⟨by rfl, ?_⟩) (by assumption) ?_; rotate_left; (focus (intro w hSw; skip; go_simp; (try with_reducible rfl))); (try (refine wpAnyL_norm (by simp only [Act.put, List.setIfInBounds_toArray, List.set_cons_zero, List.set_cons_succ]; rfl) ?_))
  refine wpAnyL_ready (rs := [2]) (by kernel_rfl) (by simp) ?_; refine AllReadyL.cons rfl (fun K hK => ?_) AllReadyL.nil
  go_simp
  refine (CN.out _).mono ?_
  rintro e w5 ⟨rfl, hf5⟩
  refine hK.out _ _ (fun _ => ⟨hHeld.1.fr hf5 (by simp), hHeld.2.1.fr0 hf5, hHeld.2.2.1.fr0 hf5, hHeld.2.2.2.1.fr hf5 (by simp), hHeld.2.2.2.2.trans0 hf5⟩) (fun hHeld' => ?_); have hHeld := hHeld' (by decide); clear hHeld' hK K; (try (refine wpAnyL_norm (by simp only [Act.put, List.setIfInBounds_toArray, List.set_cons_zero, List.set_cons_succ]; rfl) ?_))
  refine wpAnyL_take (i := 3) (v := ?_) rfl (by kernel_rfl) (fun _ _ _ h => h) (Or.inl ⟨by rfl, ?_⟩) (by assumption) ?_; rotate_left; (focus (intro w hSw; skip; go_simp; (try with_reducible rfl))); (try (refine wpAnyL_norm (by simp only [Act.put, List.setIfInBounds_toArray, List.set_cons_zero, List.set_cons_succ]; rfl) ?_))
  refine wpAnyL_ready (rs := [4]) (by kernel_rfl) (by simp) ?_; refine AllReadyL.cons rfl (fun K hK => ?_) AllReadyL.nil
  refine wp_buildSlice 22 2 _ _ _ _ (builtH _) rfl (by simp [go_sem]; exact ⟨rfl, rfl⟩) ?_
  have hA := At.new w5 55 (hdM.l ++ hdN.l).toArray
  have hFa := (Fr.refl [] w5).alloc (.cells (hdM.l ++ hdN.l).toArray 55)
  refine hK.out _ _ (fun _ => ⟨hHeld.1.fr hFa (by simp), hHeld.2.1.fr0 hFa, hHeld.2.2.1.fr0 hFa, hHeld.2.2.2.1.fr hFa (by simp), hHeld.2.2.2.2.trans0 hFa⟩) (fun hHeld' => ?_); have hHeld := hHeld' (by decide); clear hHeld' hK K; (try (refine wpAnyL_norm (by simp only [Act.put, List.setIfInBounds_toArray, List.set_cons_zero, List.set_cons_succ]; rfl) ?_))
  refine wpAnyL_take (i := 5) (v := ?_) rfl (by kernel_rfl) (fun _ _ _ h => h) (Or.inl ⟨by rfl, ?_⟩) (by assumption) ?_; rotate_left; (focus (intro w hSw; skip; go_simp; (try with_reducible rfl))); (try (refine wpAnyL_norm (by simp only [Act.put, List.setIfInBounds_toArray, List.set_cons_zero, List.set_cons_succ]; rfl) ?_))
  refine wpAnyL_done (by kernel_rfl) ?_ _
  obtain ⟨b2, o2, rfl, hb2, hc2⟩ := hHeld.2.1.resolve_left (by simp [fRow])
  obtain ⟨b3, o3, rfl, hb3, hc3⟩ := hHeld.2.2.1.resolve_left (by simp [fRow])
  have x2 := hc2 0 _ rfl
  have x3 := hc3 0 _ rfl
  have G6 := hHeld.2.2.2.1
  have F6 := hHeld.2.2.2.2
  obtain ⟨w6, hw6⟩ : ∃ W, w5.alloc (.cells (hdM.l ++ hdN.l).toArray 55) = W := ⟨_, rfl⟩
  obtain ⟨q6, hq6⟩ : ∃ q, w5.heap.size = q := ⟨_, rfl⟩
  rw [hw6] at hA x2 x3 G6 F6 hb2 hb3 ⊢
  rw [hq6] at hA ⊢
  have X2 := Lib.hid x2
  have X3 := Lib.hid x3
  have G6 := Lib.hid G6
  have F6 := Lib.hid F6
  have A6 := Lib.hid hA
  have hql := hA.lt
  clear hHeld hA hFa hw6 hq6 x2 x3 hc2 hc3 hf5 A4 F4 R4 R5 G4 CMk CN
  go_wp2_with fail
  refine (CH.out _).mono ?_
  rintro e w7 ⟨rfl, f7⟩
  have Hh := hist_lit w7 g goodL [] (G6.out.fr f7 (by simp)) goodOk (by decide) h3F
  have F7 := Lib.hid f7
  clear f7
  go_wp2_with fail
  refine Hh.mono ?_
  rintro e w8 ⟨va, vc, rfl, _, f8⟩
  have F8 := Lib.hid (F7.out.trans0 f8)
  clear f8 Hh F7
  have y2 : w8.cell? ⟨b2, o2, none⟩ = some (.int .i64 8) := by
    have := X2.out 0 _ rfl
    rw [Go.WideShapes.add_plain] at this
    exact (F8.out.cell (a := ⟨b2, o2, none⟩) hb2 (by simp)).trans this
  have y2' : w8.cell? ⟨b2, o2 + 1, none⟩ = some (.int .i64 2) := by
    have := X2.out 1 _ rfl
    rw [Go.WideShapes.add_plain] at this
    exact (F8.out.cell (a := ⟨b2, o2 + 1, none⟩) hb2 (by simp)).trans this
  have y3 : w8.cell? ⟨b3, o3, none⟩ = some (.int .i64 5) := by
    have := X3.out 0 _ rfl
    rw [Go.WideShapes.add_plain] at this
    exact (F8.out.cell (a := ⟨b3, o3, none⟩) hb3 (by simp)).trans this
  have y3' : w8.cell? ⟨b3, o3 + 1, none⟩ = some (.int .i64 0) := by
    have := X3.out 1 _ rfl
    rw [Go.WideShapes.add_plain] at this
    exact (F8.out.cell (a := ⟨b3, o3 + 1, none⟩) hb3 (by simp)).trans this
  go_wp2_with fail
  refine (meetingM _ q6 (A6.out.fr F8.out (by simp))).mono ?_
  rintro e w9 ⟨v1, c1, rfl, r9, f9⟩
  have F9 := Lib.hid (F8.out.trans0 f9)
  have A9 := At.new w9 3 #[.int .i64 0]
  have FA9 := (Fr.refl [] w9).alloc (.cells #[.int .i64 0] 3)
  have C9 := Lib.hid (intsZ _ v1 c1 w9.heap.size (r9.fr0 FA9) A9)
  have F9a := Lib.hid (F9.out.trans0 FA9)
  clear f9 A9 r9 FA9 y2 y2' y3 y3' F8
  go_wp2_with fail
  refine (C9.out).mono ?_
  rintro e w10 ⟨rfl, f10⟩
  have F10 := Lib.hid (F9a.out.trans0 f10)
  have A10 := At.new w10 27 #[.int .u32 1024, .int .u32 64]
  have FA10 := (Fr.refl [] w10).alloc (.cells #[.int .u32 1024, .int .u32 64] 27)
  have F10a := Lib.hid (F10.out.trans0 FA10)
  have C10 := Lib.hid (outsideM _ q6 w10.heap.size (A6.out.fr F10a.out (by simp)) A10)
  clear f10 A10 FA10 C9 F9a F9
  go_wp2_with fail
  refine (C10.out).mono ?_
  rintro e w11 ⟨v2, c2, rfl, f11⟩
  have F11 := Lib.hid (F10a.out.trans0 f11)
  have C11 := Lib.hid (outsideN w11 q6 (A6.out.fr F11.out (by simp)))
  clear f11 C10 F10a F10
  go_wp2_with fail
  refine (C11.out).mono ?_
  rintro e w12 ⟨v3, c3, rfl, r12, f12⟩
  have F12 := Lib.hid (F11.out.trans0 f12)
  have A12 := At.new w12 3 #[.int .i64 0]
  have FA12 := (Fr.refl [] w12).alloc (.cells #[.int .i64 0] 3)
  have C12 := Lib.hid (intsZ _ v3 c3 w12.heap.size (r12.fr0 FA12) A12)
  have F12a := Lib.hid (F12.out.trans0 FA12)
  clear f12 A12 r12 FA12 C11 F11 F12
  go_wp2_with fail
  refine (C12.out).mono ?_
  rintro e w13 ⟨rfl, f13⟩
  have F13 := Lib.hid (F12a.out.trans0 f13)
  clear f13 C12 F12a
  go_wp2_with fail
  go_ret
  exact ⟨rfl, F6.out.trans0 F13.out⟩
end Go.Proofs.Ytkbdoiefgmbikaa
