/-
  AuditKnown: the chapter's examples (a closed statement). No condition. Printed by gen32known.py.
-/



import Derived.Test.YtkbdoiefgmbikaaOuts
import Derived.Deep.CutBlock
import Derived.Deep.DeepCutAuto
import Derived.BigRegion
set_option linter.unusedVariables false
namespace Go.Proofs.Ytkbdoiefgmbikaa
open Go.ChangeShapes Go.WideShapes Go.ChangeAt Go.RowKit
namespace auditKnown
def evG2 : Ev := ⟨2, 0, 0, 2, 1056, 64⟩
def evX : Ev := ⟨2, 0, 0, 1, 1000, 64⟩
def evY : Ev := ⟨2, 0, 0, 1, 2047, 2⟩
def evE2 : Ev := ⟨7, 0, 0, 2, 0, 0⟩
def evB2 : Ev := ⟨6, 0, 0, 2, 0, 0⟩
def evB3 : Ev := ⟨6, 0, 0, 3, 0, 0⟩
def evE3 : Ev := ⟨7, 0, 0, 3, 0, 0⟩
def evA : Ev := ⟨11, 1, 0, 0, 0, 0⟩
def evD : Ev := ⟨10, 1, 0, 0, 0, 0⟩
def evZ : Ev := ⟨2, 0, 0, 2, 1024, 64⟩
def evO1 : Ev := ⟨1, 1, 7, 0, 0, 0⟩
def evO2 : Ev := ⟨1, 0, 8, 0, 0, 0⟩
def evO3 : Ev := ⟨8, 1, 9, 0, 0, 0⟩
theorem evOk2 {k h : Int} {n a s : Nat} (hk : 0 ≤ k ∧ k < 100 := by decide) (hh : 0 ≤ h ∧ h < 100 := by decide) (hn : n < 1000 := by decide) (ha : a < 100000 := by decide) (hs : s < 100000 := by decide) : Ev.Ok ⟨k, h, 0, n, a, s⟩ := by
  have h1 : IntKind.i64.min = -9223372036854775808 := rfl
  have h2 : IntKind.i64.max = 9223372036854775807 := rfl
  refine ⟨by show a < _; omega, by show s < _; omega, by show n < _; omega, by show 0 < _; omega, ?_, ?_⟩
  · show (Lit.int .i64 k).wf = true
    simp [Lit.wf, h1, h2]; omega
  · show (Lit.int .i64 h).wf = true
    simp [Lit.wf, h1, h2]; omega
theorem c_evG2 (W : World) : Calls Try.prog 26 #[.int .i64 2, .int .u64 2, .int .u32 1056, .int .u32 64] W fun r w' => r = .returned (.agg (evl evG2).toArray) ∧ Fr [] W w' := event_any W 2 2 1056 64
theorem c_evX (W : World) : Calls Try.prog 26 #[.int .i64 2, .int .u64 1, .int .u32 1000, .int .u32 64] W fun r w' => r = .returned (.agg (evl evX).toArray) ∧ Fr [] W w' := event_any W 2 1 1000 64
theorem c_evY (W : World) : Calls Try.prog 26 #[.int .i64 2, .int .u64 1, .int .u32 2047, .int .u32 2] W fun r w' => r = .returned (.agg (evl evY).toArray) ∧ Fr [] W w' := event_any W 2 1 2047 2
theorem c_evZ (W : World) : Calls Try.prog 26 #[.int .i64 2, .int .u64 2, .int .u32 1024, .int .u32 64] W fun r w' => r = .returned (.agg (evl evZ).toArray) ∧ Fr [] W w' := event_any W 2 2 1024 64
theorem c_evE (W : World) : Calls Try.prog 25 #[.int .i64 7, .int .u64 1] W fun r w' => r = .returned (.agg (evl evE).toArray) ∧ Fr [] W w' := sweep_any W 7 1
theorem c_evE2 (W : World) : Calls Try.prog 25 #[.int .i64 7, .int .u64 2] W fun r w' => r = .returned (.agg (evl evE2).toArray) ∧ Fr [] W w' := sweep_any W 7 2
theorem c_evB2 (W : World) : Calls Try.prog 25 #[.int .i64 6, .int .u64 2] W fun r w' => r = .returned (.agg (evl evB2).toArray) ∧ Fr [] W w' := sweep_any W 6 2
theorem c_evB3 (W : World) : Calls Try.prog 25 #[.int .i64 6, .int .u64 3] W fun r w' => r = .returned (.agg (evl evB3).toArray) ∧ Fr [] W w' := sweep_any W 6 3
theorem c_evE3 (W : World) : Calls Try.prog 25 #[.int .i64 7, .int .u64 3] W fun r w' => r = .returned (.agg (evl evE3).toArray) ∧ Fr [] W w' := sweep_any W 7 3
theorem bs2 (w : World) : (Instr.buildSlice 36 2 #[(0, .agg (evl evG).toArray), (1, .agg (evl evG).toArray)]).run Try.prog w = .ok (.slice (some ⟨w.heap.size, 0, none⟩) 2 2) (w.alloc (.cells (evc [evG, evG]).toArray 41)) := by kernel_rfl
theorem his2 : histF 1024 1024 [evG, evG] 0 sx0 = [(2, 1)] := by decide
theorem ho2 : ∀ e ∈ [evG, evG], e.Ok := by
  intro e he
  simp only [List.mem_cons, List.not_mem_nil, or_false] at he
  rcases he with rfl | rfl <;> exact evOk2
theorem bs3 (w : World) : (Instr.buildSlice 36 4 #[(0, .agg (evl evG).toArray), (1, .agg (evl evB).toArray), (2, .agg (evl evF).toArray), (3, .agg (evl evE).toArray)]).run Try.prog w = .ok (.slice (some ⟨w.heap.size, 0, none⟩) 4 4) (w.alloc (.cells (evc [evG, evB, evF, evE]).toArray 41)) := by kernel_rfl
theorem his3 : histF 1024 1024 [evG, evB, evF, evE] 0 sx0 = [] := by decide
theorem ho3 : ∀ e ∈ [evG, evB, evF, evE], e.Ok := by
  intro e he
  simp only [List.mem_cons, List.not_mem_nil, or_false] at he
  rcases he with rfl | rfl | rfl | rfl <;> exact evOk2
theorem bs4 (w : World) : (Instr.buildSlice 36 4 #[(0, .agg (evl evG).toArray), (1, .agg (evl evF).toArray), (2, .agg (evl evB).toArray), (3, .agg (evl evE).toArray)]).run Try.prog w = .ok (.slice (some ⟨w.heap.size, 0, none⟩) 4 4) (w.alloc (.cells (evc [evG, evF, evB, evE]).toArray 41)) := by kernel_rfl
theorem his4 : histF 1024 1024 [evG, evF, evB, evE] 0 sx0 = [(5, 3)] := by decide
theorem ho4 : ∀ e ∈ [evG, evF, evB, evE], e.Ok := by
  intro e he
  simp only [List.mem_cons, List.not_mem_nil, or_false] at he
  rcases he with rfl | rfl | rfl | rfl <;> exact evOk2
theorem bs5 (w : World) : (Instr.buildSlice 36 2 #[(0, .agg (evl evG).toArray), (1, .agg (evl evG2).toArray)]).run Try.prog w = .ok (.slice (some ⟨w.heap.size, 0, none⟩) 2 2) (w.alloc (.cells (evc [evG, evG2]).toArray 41)) := by kernel_rfl
theorem his5 : histF 1024 1024 [evG, evG2] 0 sx0 = [(11, 1)] := by decide
theorem ho5 : ∀ e ∈ [evG, evG2], e.Ok := by
  intro e he
  simp only [List.mem_cons, List.not_mem_nil, or_false] at he
  rcases he with rfl | rfl <;> exact evOk2
theorem bs6 (w : World) : (Instr.buildSlice 36 1 #[(0, .agg (evl evX).toArray)]).run Try.prog w = .ok (.slice (some ⟨w.heap.size, 0, none⟩) 1 1) (w.alloc (.cells (evc [evX]).toArray 41)) := by kernel_rfl
theorem his6 : histF 1024 1024 [evX] 0 sx0 = [(6, 0)] := by decide
theorem ho6 : ∀ e ∈ [evX], e.Ok := by
  intro e he
  simp only [List.mem_cons, List.not_mem_nil, or_false] at he
  rcases he with rfl <;> exact evOk2
theorem bs7 (w : World) : (Instr.buildSlice 36 1 #[(0, .agg (evl evY).toArray)]).run Try.prog w = .ok (.slice (some ⟨w.heap.size, 0, none⟩) 1 1) (w.alloc (.cells (evc [evY]).toArray 41)) := by kernel_rfl
theorem his7 : histF 1024 1024 [evY] 0 sx0 = [(6, 0)] := by decide
theorem ho7 : ∀ e ∈ [evY], e.Ok := by
  intro e he
  simp only [List.mem_cons, List.not_mem_nil, or_false] at he
  rcases he with rfl <;> exact evOk2
theorem bs8 (w : World) : (Instr.buildSlice 36 3 #[(0, .agg (evl evB).toArray), (1, .agg (evl evB).toArray), (2, .agg (evl evE2).toArray)]).run Try.prog w = .ok (.slice (some ⟨w.heap.size, 0, none⟩) 3 3) (w.alloc (.cells (evc [evB, evB, evE2]).toArray 41)) := by kernel_rfl
theorem his8 : histF 1024 1024 [evB, evB, evE2] 0 sx0 = [(4, 1), (4, 2)] := by decide
theorem ho8 : ∀ e ∈ [evB, evB, evE2], e.Ok := by
  intro e he
  simp only [List.mem_cons, List.not_mem_nil, or_false] at he
  rcases he with rfl | rfl | rfl <;> exact evOk2
theorem bs10 (w : World) : (Instr.buildSlice 36 5 #[(0, .agg (evl evG).toArray), (1, .agg (evl evF).toArray), (2, .agg (evl evA).toArray), (3, .agg (evl evD).toArray), (4, .agg (evl evA).toArray)]).run Try.prog w = .ok (.slice (some ⟨w.heap.size, 0, none⟩) 5 5) (w.alloc (.cells (evc [evG, evF, evA, evD, evA]).toArray 41)) := by kernel_rfl
theorem his10 : histF 1024 1024 [evG, evF, evA, evD, evA] 0 sx0 = [(8, 3), (11, 4)] := by decide
theorem ho10 : ∀ e ∈ [evG, evF, evA, evD, evA], e.Ok := by
  intro e he
  simp only [List.mem_cons, List.not_mem_nil, or_false] at he
  rcases he with rfl | rfl | rfl | rfl | rfl <;> exact evOk2
theorem bs11 (w : World) : (Instr.buildSlice 36 7 #[(0, .agg (evl evA).toArray), (1, .agg (evl evB).toArray), (2, .agg (evl evE).toArray), (3, .agg (evl evB2).toArray), (4, .agg (evl evE2).toArray), (5, .agg (evl evB3).toArray), (6, .agg (evl evE3).toArray)]).run Try.prog w = .ok (.slice (some ⟨w.heap.size, 0, none⟩) 7 7) (w.alloc (.cells (evc [evA, evB, evE, evB2, evE2, evB3, evE3]).toArray 41)) := by kernel_rfl
theorem his11 : histF 1024 1024 [evA, evB, evE, evB2, evE2, evB3, evE3] 0 sx0 = [(3, 6)] := by decide
theorem ho11 : ∀ e ∈ [evA, evB, evE, evB2, evE2, evB3, evE3], e.Ok := by
  intro e he
  simp only [List.mem_cons, List.not_mem_nil, or_false] at he
  rcases he with rfl | rfl | rfl | rfl | rfl | rfl | rfl <;> exact evOk2
theorem bs12 (w : World) : (Instr.buildSlice 36 1 #[(0, .agg (evl evD).toArray)]).run Try.prog w = .ok (.slice (some ⟨w.heap.size, 0, none⟩) 1 1) (w.alloc (.cells (evc [evD]).toArray 41)) := by kernel_rfl
theorem his12 : histF 1024 1024 [evD] 0 sx0 = [(5, 0)] := by decide
theorem ho12 : ∀ e ∈ [evD], e.Ok := by
  intro e he
  simp only [List.mem_cons, List.not_mem_nil, or_false] at he
  rcases he with rfl <;> exact evOk2
theorem bs13 (w : World) : (Instr.buildSlice 36 4 #[(0, .agg (evl evG).toArray), (1, .agg (evl evB).toArray), (2, .agg (evl evF).toArray), (3, .agg (evl evR).toArray)]).run Try.prog w = .ok (.slice (some ⟨w.heap.size, 0, none⟩) 4 4) (w.alloc (.cells (evc [evG, evB, evF, evR]).toArray 41)) := by kernel_rfl
theorem his13 : histF 1024 1024 [evG, evB, evF, evR] 0 sx0 = [(8, 3)] := by decide
theorem ho13 : ∀ e ∈ [evG, evB, evF, evR], e.Ok := by
  intro e he
  simp only [List.mem_cons, List.not_mem_nil, or_false] at he
  rcases he with rfl | rfl | rfl | rfl <;> exact evOk2
theorem bs14 (w : World) : (Instr.buildSlice 36 2 #[(0, .agg (evl evZ).toArray), (1, .agg (evl evG).toArray)]).run Try.prog w = .ok (.slice (some ⟨w.heap.size, 0, none⟩) 2 2) (w.alloc (.cells (evc [evZ, evG]).toArray 41)) := by kernel_rfl
theorem his14 : histF 1024 1024 [evZ, evG] 0 sx0 = [(2, 0)] := by decide
theorem ho14 : ∀ e ∈ [evZ, evG], e.Ok := by
  intro e he
  simp only [List.mem_cons, List.not_mem_nil, or_false] at he
  rcases he with rfl | rfl <;> exact evOk2
theorem faultsL (W : World) (a : Option Addr) (c : Nat) (F : List (Nat × Nat)) (q : Nat) (h : RowsAt W a 2 (fRow F)) (hq : At W q 46 (flt F).toArray) (hF : F.length ≤ 1000) :
    Calls Try.prog 17 #[.slice a F.length c, .slice (some ⟨q, 0, none⟩) F.length F.length] W fun r w' => r = .returned (.bool true) ∧ Fr [] W w' := by
  have := faults_any W a (some ⟨q, 0, none⟩) c F.length F F h (.inr ⟨q, 0, rfl, hq.lt, fun k r hk j v hv => by
    unfold fRow at hk
    rw [List.getElem?_map, Option.map_eq_some_iff] at hk
    obtain ⟨p, hk, rfl⟩ := hk
    obtain ⟨e1, e2⟩ := flt_get F k p hk
    have hj : j < 2 := (List.getElem?_eq_some_iff.1 hv).1
    rw [Go.WideShapes.add_plain, hq.cell, Nat.zero_add, List.getElem?_toArray]
    match j, hj, hv with
    | 0, _, hv => rw [Nat.add_zero, e1]; exact hv
    | 1, _, hv => rw [e2]; exact hv⟩) (by omega) (by omega)
  rw [decide_eq_true rfl] at this
  exact this
def hdK : Hd := ⟨0, 0, 0, cM⟩
theorem plcK : plc (fun c => !(([] ++ gcs [(1024, 32)]).any (withinB c))) [hdK] 0 = [0] := by decide +kernel
theorem outsideK (w : World) (g q : Nat) (h : At w g 55 hdK.l.toArray) (hq : At w q 27 #[.int .u32 1024, .int .u32 32]) :
    Calls Try.prog 11 #[.slice (some ⟨g, 0, none⟩) 1 1, .slice none 0 0, .slice (some ⟨q, 0, none⟩) 1 1] w fun r w' => ∃ va vc, r = .returned (.slice va 1 vc) ∧ RowsAt w' va 1 (iRow [0]) ∧ Fr [] w w' := by
  refine (outside_any w (some ⟨g, 0, none⟩) 1 [hdK] none 0 [] (some ⟨q, 0, none⟩) 1 [(1024, 32)] (.inr ⟨g, 0, rfl, h.lt, fun k c hk j v hv => by
      match k, hk with
      | 0, hk =>
        simp at hk
        subst hk
        rw [Go.WideShapes.add_plain, h.cell, List.getElem?_toArray]; simp only [Nat.zero_mul, Nat.zero_add]
        exact hv⟩) (by decide) (by decide) (.inl rfl) (fun _ => rfl) (by simp) (by simp)
    (.inr ⟨q, 0, rfl, hq.lt, fun k c hk j v hv => by
      match k, hk with
      | 0, hk =>
        simp at hk
        subst hk
        exact hq.two 0 _ _ rfl rfl j v hv⟩) (by simp) (by simp)).mono ?_
  rintro e w' ⟨v, rfl, ho, hf⟩
  rw [plcK] at ho
  obtain ⟨a, c, rfl, _, hr⟩ := own_ints ho
  exact ⟨a, c, rfl, hr, hf⟩
def Out0 (w wx : World) (s2 : Value) (F : List (Nat × Nat)) : Prop := ∃ v c, s2 = .slice v F.length c ∧ RowsAt wx v 2 (fRow F) ∧ Fr [] w wx
set_option maxHeartbeats 400000000 in
set_option maxRecDepth 100000 in
theorem walk (w : World) : Calls Try.prog 9 #[] w fun e w' => e = .returned (.bool true) ∧ Fr [] w w' := by
  have CH := Lib.hid heap_any
  go_enter Try.func9, Try.ntmps9
  go_wp2_with fail
  refine (good_any w).mono ?_
  rintro e w1 ⟨g, rfl, hg, hgw, hf1⟩
  have G := Lib.hid hg
  have FW := Lib.hid hf1
  clear hg hf1
  go_upto_region 2 with (fail)
  go_cut [2] from 2 to 2 (fun s wx => Out0 w1 wx s [(2, 1)])
  case first =>
    as_aux_lemma =>
      refine wp_region_L (fun W => At W g 41 (evc goodL).toArray ∧ Fr [] w1 W) [] (by kernel_rfl) ⟨G.out.hp rfl, (Fr.refl _ _).drew⟩ (fun hHeld => ?_)
      refine wpAnyL_take (i := 1) (v := ?_) rfl (by kernel_rfl) (fun _ _ _ h => h) (Or.inl ⟨by rfl, ?_⟩) (by assumption) ?_; rotate_left; (focus (intro w hSw; skip; go_simp; (try with_reducible rfl))); (try (refine wpAnyL_norm (by simp only [Act.put, List.setIfInBounds_toArray, List.set_cons_zero, List.set_cons_succ]; rfl) ?_))
      refine wpAnyL_take (i := 2) (v := ?_) rfl (by kernel_rfl) (fun _ _ _ h => h) (Or.inl ⟨by rfl, ?_⟩) (by assumption) ?_; rotate_left; (focus (intro w hSw; skip; go_simp; (try with_reducible rfl))); (try (refine wpAnyL_norm (by simp only [Act.put, List.setIfInBounds_toArray, List.set_cons_zero, List.set_cons_succ]; rfl) ?_))
      refine wpAnyL_take (i := 4) (v := ?_) rfl (by kernel_rfl) (fun _ _ _ h => h) (Or.inl ⟨by rfl, ?_⟩) (by assumption) ?_; rotate_left; (focus (intro w hSw; skip; go_simp; (try with_reducible rfl))); (try (refine wpAnyL_norm (by simp only [Act.put, List.setIfInBounds_toArray, List.set_cons_zero, List.set_cons_succ]; rfl) ?_))
      refine wpAnyL_take (i := 5) (v := ?_) rfl (by kernel_rfl) (fun _ _ _ h => h) (Or.inl ⟨by rfl, ?_⟩) (by assumption) ?_; rotate_left; (focus (intro w hSw; skip; go_simp; (try with_reducible rfl))); (try (refine wpAnyL_norm (by simp only [Act.put, List.setIfInBounds_toArray, List.set_cons_zero, List.set_cons_succ]; rfl) ?_))
      refine wpAnyL_take (i := 3) rfl (by kernel_rfl) (fun _ _ _ h => h) (yields_load_at 41 (.tmp 22) rfl ⟨g, 0, none⟩ rfl (evl evG) _ (fun W hW => at_event hW.1 0 evG rfl 0 rfl) Try.underlying41 rfl infoEv rfl) (by assumption) ?_; (try (refine wpAnyL_norm (by simp only [Act.put, List.setIfInBounds_toArray, List.set_cons_zero, List.set_cons_succ]; rfl) ?_))
      refine wpAnyL_take (i := 6) rfl (by kernel_rfl) (fun _ _ _ h => h) (yields_load_at 41 (.tmp 25) rfl ⟨g, 0, none⟩ rfl (evl evG) _ (fun W hW => at_event hW.1 0 evG rfl 0 rfl) Try.underlying41 rfl infoEv rfl) (by assumption) ?_; (try (refine wpAnyL_norm (by simp only [Act.put, List.setIfInBounds_toArray, List.set_cons_zero, List.set_cons_succ]; rfl) ?_))
      refine wpAnyL_ready (rs := [0, 7]) (by kernel_rfl) (by simp) ?_
      refine AllReadyL.cons rfl (fun K hK => ?_) (AllReadyL.cons rfl (fun K hK => ?_) AllReadyL.nil)
      · go_simp
        refine (CH.out _).mono ?_
        rintro e w2 ⟨rfl, hf2⟩
        refine hK.out _ _ (fun _ => ⟨hHeld.1.fr hf2 (by simp), hHeld.2.trans0 hf2⟩) (fun hHeld' => ?_); have hHeld := hHeld' (by decide); clear hHeld' hK K; (try (refine wpAnyL_norm (by simp only [Act.put, List.setIfInBounds_toArray, List.set_cons_zero, List.set_cons_succ]; rfl) ?_))
        refine wpAnyL_ready (rs := [7]) (by kernel_rfl) (by simp) ?_; refine AllReadyL.cons rfl (fun K hK => ?_) AllReadyL.nil
        go_simp
        have HA := At.new w2 41 (evc [evG, evG]).toArray
        have hfb := (Fr.refl [] w2).alloc (.cells (evc [evG, evG]).toArray 41)
        refine hK.out _ _ (fun _ => ⟨hHeld.1.fr hfb (by simp), hHeld.2.trans0 hfb⟩) (fun hHeld' => ?_); have hHeld := hHeld' (by decide); clear hHeld' hK K; (try (refine wpAnyL_norm (by simp only [Act.put, List.setIfInBounds_toArray, List.set_cons_zero, List.set_cons_succ]; rfl) ?_))
        refine wpAnyL_ready (rs := [8]) (by kernel_rfl) (by simp) ?_; refine AllReadyL.cons rfl (fun K hK => ?_) AllReadyL.nil
        go_simp
        refine (hist_lit _ _ [evG, evG] [(2, 1)] HA ho2 (by decide) his2).mono ?_
        rintro e w5 ⟨va, vc, rfl, hr, hf3⟩
        refine hK.out _ _ (fun _ => ⟨hHeld.1.fr hf3 (by simp), hHeld.2.trans0 hf3⟩) (fun hHeld' => ?_); have hHeld := hHeld' (by decide); clear hHeld' hK K; (try (refine wpAnyL_norm (by simp only [Act.put, List.setIfInBounds_toArray, List.set_cons_zero, List.set_cons_succ]; rfl) ?_))
        refine wpAnyL_take (i := 9) (v := ?_) rfl (by kernel_rfl) (fun _ _ _ h => h) (Or.inl ⟨by rfl, ?_⟩) (by assumption) ?_; rotate_left; (focus (intro w hSw; skip; go_simp; (try with_reducible rfl))); (try (refine wpAnyL_norm (by simp only [Act.put, List.setIfInBounds_toArray, List.set_cons_zero, List.set_cons_succ]; rfl) ?_))
        refine wpAnyL_done (by kernel_rfl) ?_ _
        go_wp2_with fail
        go_meet
        exact ⟨va, vc, rfl, hr, hHeld.2⟩
      · go_simp
        have HA := At.new w1.drew 41 (evc [evG, evG]).toArray
        have hfb := (Fr.refl [] w1.drew).alloc (.cells (evc [evG, evG]).toArray 41)
        refine hK.out _ _ (fun _ => ⟨hHeld.1.fr hfb (by simp), hHeld.2.trans0 hfb⟩) (fun hHeld' => ?_); have hHeld := hHeld' (by decide); clear hHeld' hK K; (try (refine wpAnyL_norm (by simp only [Act.put, List.setIfInBounds_toArray, List.set_cons_zero, List.set_cons_succ]; rfl) ?_))
        refine wpAnyL_ready (rs := [0]) (by kernel_rfl) (by simp) ?_; refine AllReadyL.cons rfl (fun K hK => ?_) AllReadyL.nil
        go_simp
        refine (CH.out _).mono ?_
        rintro e w2 ⟨rfl, hf2⟩
        refine hK.out _ _ (fun _ => ⟨hHeld.1.fr hf2 (by simp), hHeld.2.trans0 hf2⟩) (fun hHeld' => ?_); have hHeld := hHeld' (by decide); clear hHeld' hK K; (try (refine wpAnyL_norm (by simp only [Act.put, List.setIfInBounds_toArray, List.set_cons_zero, List.set_cons_succ]; rfl) ?_))
        have HA := HA.fr hf2 (by simp)
        refine wpAnyL_ready (rs := [8]) (by kernel_rfl) (by simp) ?_; refine AllReadyL.cons rfl (fun K hK => ?_) AllReadyL.nil
        go_simp
        refine (hist_lit _ _ [evG, evG] [(2, 1)] HA ho2 (by decide) his2).mono ?_
        rintro e w5 ⟨va, vc, rfl, hr, hf3⟩
        refine hK.out _ _ (fun _ => ⟨hHeld.1.fr hf3 (by simp), hHeld.2.trans0 hf3⟩) (fun hHeld' => ?_); have hHeld := hHeld' (by decide); clear hHeld' hK K; (try (refine wpAnyL_norm (by simp only [Act.put, List.setIfInBounds_toArray, List.set_cons_zero, List.set_cons_succ]; rfl) ?_))
        refine wpAnyL_take (i := 9) (v := ?_) rfl (by kernel_rfl) (fun _ _ _ h => h) (Or.inl ⟨by rfl, ?_⟩) (by assumption) ?_; rotate_left; (focus (intro w hSw; skip; go_simp; (try with_reducible rfl))); (try (refine wpAnyL_norm (by simp only [Act.put, List.setIfInBounds_toArray, List.set_cons_zero, List.set_cons_succ]; rfl) ?_))
        refine wpAnyL_done (by kernel_rfl) ?_ _
        go_wp2_with fail
        go_meet
        exact ⟨va, vc, rfl, hr, hHeld.2⟩
  obtain ⟨v2, c2, rfl, hr, hf2⟩ := hcut
  obtain ⟨w2, rfl⟩ : ∃ W : World, W = wc := ⟨_, rfl⟩
  have G := Lib.hid (G.out.fr hf2 (by simp))
  have FW := Lib.hid (FW.out.trans0 hf2)
  have R2 := Lib.hid hr
  clear hr hf2
  obtain ⟨w1, rfl⟩ : ∃ W : World, W = w2 := ⟨_, rfl⟩
  go_upto_region 3 with (fail)
  go_cut [3] from 3 to 3 (fun s wx => Out0 w1 wx s [])
  case first =>
    as_aux_lemma =>
      refine wp_region_L (fun W => At W g 41 (evc goodL).toArray ∧ Fr [] w1 W) [] (by kernel_rfl) ⟨G.out.hp rfl, (Fr.refl _ _).drew⟩ (fun hHeld => ?_)
      refine wpAnyL_take (i := 1) (v := ?_) rfl (by kernel_rfl) (fun _ _ _ h => h) (Or.inl ⟨by rfl, ?_⟩) (by assumption) ?_; rotate_left; (focus (intro w hSw; skip; go_simp; (try with_reducible rfl))); (try (refine wpAnyL_norm (by simp only [Act.put, List.setIfInBounds_toArray, List.set_cons_zero, List.set_cons_succ]; rfl) ?_))
      refine wpAnyL_take (i := 2) (v := ?_) rfl (by kernel_rfl) (fun _ _ _ h => h) (Or.inl ⟨by rfl, ?_⟩) (by assumption) ?_; rotate_left; (focus (intro w hSw; skip; go_simp; (try with_reducible rfl))); (try (refine wpAnyL_norm (by simp only [Act.put, List.setIfInBounds_toArray, List.set_cons_zero, List.set_cons_succ]; rfl) ?_))
      refine wpAnyL_take (i := 4) (v := ?_) rfl (by kernel_rfl) (fun _ _ _ h => h) (Or.inl ⟨by rfl, ?_⟩) (by assumption) ?_; rotate_left; (focus (intro w hSw; skip; go_simp; (try with_reducible rfl))); (try (refine wpAnyL_norm (by simp only [Act.put, List.setIfInBounds_toArray, List.set_cons_zero, List.set_cons_succ]; rfl) ?_))
      refine wpAnyL_take (i := 5) (v := ?_) rfl (by kernel_rfl) (fun _ _ _ h => h) (Or.inl ⟨by rfl, ?_⟩) (by assumption) ?_; rotate_left; (focus (intro w hSw; skip; go_simp; (try with_reducible rfl))); (try (refine wpAnyL_norm (by simp only [Act.put, List.setIfInBounds_toArray, List.set_cons_zero, List.set_cons_succ]; rfl) ?_))
      refine wpAnyL_take (i := 7) (v := ?_) rfl (by kernel_rfl) (fun _ _ _ h => h) (Or.inl ⟨by rfl, ?_⟩) (by assumption) ?_; rotate_left; (focus (intro w hSw; skip; go_simp; (try with_reducible rfl))); (try (refine wpAnyL_norm (by simp only [Act.put, List.setIfInBounds_toArray, List.set_cons_zero, List.set_cons_succ]; rfl) ?_))
      refine wpAnyL_take (i := 8) (v := ?_) rfl (by kernel_rfl) (fun _ _ _ h => h) (Or.inl ⟨by rfl, ?_⟩) (by assumption) ?_; rotate_left; (focus (intro w hSw; skip; go_simp; (try with_reducible rfl))); (try (refine wpAnyL_norm (by simp only [Act.put, List.setIfInBounds_toArray, List.set_cons_zero, List.set_cons_succ]; rfl) ?_))
      refine wpAnyL_take (i := 3) rfl (by kernel_rfl) (fun _ _ _ h => h) (yields_load_at 41 (.tmp 31) rfl ⟨g, 0, none⟩ rfl (evl evG) _ (fun W hW => at_event hW.1 0 evG rfl 0 rfl) Try.underlying41 rfl infoEv rfl) (by assumption) ?_; (try (refine wpAnyL_norm (by simp only [Act.put, List.setIfInBounds_toArray, List.set_cons_zero, List.set_cons_succ]; rfl) ?_))
      refine wpAnyL_take (i := 6) rfl (by kernel_rfl) (fun _ _ _ h => h) (yields_load_at 41 (.tmp 34) rfl ⟨g, 12, none⟩ rfl (evl evB) _ (fun W hW => at_event hW.1 2 evB rfl 12 rfl) Try.underlying41 rfl infoEv rfl) (by assumption) ?_; (try (refine wpAnyL_norm (by simp only [Act.put, List.setIfInBounds_toArray, List.set_cons_zero, List.set_cons_succ]; rfl) ?_))
      refine wpAnyL_take (i := 9) rfl (by kernel_rfl) (fun _ _ _ h => h) (yields_load_at 41 (.tmp 37) rfl ⟨g, 6, none⟩ rfl (evl evF) _ (fun W hW => at_event hW.1 1 evF rfl 6 rfl) Try.underlying41 rfl infoEv rfl) (by assumption) ?_; (try (refine wpAnyL_norm (by simp only [Act.put, List.setIfInBounds_toArray, List.set_cons_zero, List.set_cons_succ]; rfl) ?_))
      refine wpAnyL_ready (rs := [0]) (by kernel_rfl) (by simp) ?_; refine AllReadyL.cons rfl (fun K hK => ?_) AllReadyL.nil
      go_simp
      refine (CH.out _).mono ?_
      rintro e w2 ⟨rfl, hf2⟩
      refine hK.out _ _ (fun _ => ⟨hHeld.1.fr hf2 (by simp), hHeld.2.trans0 hf2⟩) (fun hHeld' => ?_); have hHeld := hHeld' (by decide); clear hHeld' hK K; (try (refine wpAnyL_norm (by simp only [Act.put, List.setIfInBounds_toArray, List.set_cons_zero, List.set_cons_succ]; rfl) ?_))
      refine wpAnyL_ready (rs := [10]) (by kernel_rfl) (by simp) ?_; refine AllReadyL.cons rfl (fun K hK => ?_) AllReadyL.nil
      go_simp
      refine (c_evE _).mono ?_
      rintro e w2 ⟨rfl, hf2⟩
      refine hK.out _ _ (fun _ => ⟨hHeld.1.fr hf2 (by simp), hHeld.2.trans0 hf2⟩) (fun hHeld' => ?_); have hHeld := hHeld' (by decide); clear hHeld' hK K; (try (refine wpAnyL_norm (by simp only [Act.put, List.setIfInBounds_toArray, List.set_cons_zero, List.set_cons_succ]; rfl) ?_))
      refine wpAnyL_ready (rs := [11]) (by kernel_rfl) (by simp) ?_; refine AllReadyL.cons rfl (fun K hK => ?_) AllReadyL.nil
      go_simp
      have HA := At.new w2 41 (evc [evG, evB, evF, evE]).toArray
      have hfb := (Fr.refl [] w2).alloc (.cells (evc [evG, evB, evF, evE]).toArray 41)
      refine hK.out _ _ (fun _ => ⟨hHeld.1.fr hfb (by simp), hHeld.2.trans0 hfb⟩) (fun hHeld' => ?_); have hHeld := hHeld' (by decide); clear hHeld' hK K; (try (refine wpAnyL_norm (by simp only [Act.put, List.setIfInBounds_toArray, List.set_cons_zero, List.set_cons_succ]; rfl) ?_))
      refine wpAnyL_ready (rs := [12]) (by kernel_rfl) (by simp) ?_; refine AllReadyL.cons rfl (fun K hK => ?_) AllReadyL.nil
      go_simp
      refine (hist_lit _ _ [evG, evB, evF, evE] [] HA ho3 (by decide) his3).mono ?_
      rintro e w5 ⟨va, vc, rfl, hr, hf3⟩
      refine hK.out _ _ (fun _ => ⟨hHeld.1.fr hf3 (by simp), hHeld.2.trans0 hf3⟩) (fun hHeld' => ?_); have hHeld := hHeld' (by decide); clear hHeld' hK K; (try (refine wpAnyL_norm (by simp only [Act.put, List.setIfInBounds_toArray, List.set_cons_zero, List.set_cons_succ]; rfl) ?_))
      refine wpAnyL_take (i := 13) (v := ?_) rfl (by kernel_rfl) (fun _ _ _ h => h) (Or.inl ⟨by rfl, ?_⟩) (by assumption) ?_; rotate_left; (focus (intro w hSw; skip; go_simp; (try with_reducible rfl))); (try (refine wpAnyL_norm (by simp only [Act.put, List.setIfInBounds_toArray, List.set_cons_zero, List.set_cons_succ]; rfl) ?_))
      refine wpAnyL_done (by kernel_rfl) ?_ _
      go_wp2_with fail
      go_meet
      exact ⟨va, vc, rfl, hr, hHeld.2⟩
  obtain ⟨v3, c3, rfl, hr, hf2⟩ := hcut
  obtain ⟨w2, rfl⟩ : ∃ W : World, W = wc := ⟨_, rfl⟩
  have G := Lib.hid (G.out.fr hf2 (by simp))
  have FW := Lib.hid (FW.out.trans0 hf2)
  have R2 := Lib.hid (R2.out.fr0 hf2)
  have R3 := Lib.hid hr
  clear hr hf2
  obtain ⟨w1, rfl⟩ : ∃ W : World, W = w2 := ⟨_, rfl⟩
  go_upto_region 4 with (fail)
  go_cut [4] from 4 to 4 (fun s wx => Out0 w1 wx s [(5, 3)])
  case first =>
    as_aux_lemma =>
      refine wp_region_L (fun W => At W g 41 (evc goodL).toArray ∧ Fr [] w1 W) [] (by kernel_rfl) ⟨G.out.hp rfl, (Fr.refl _ _).drew⟩ (fun hHeld => ?_)
      refine wpAnyL_take (i := 1) (v := ?_) rfl (by kernel_rfl) (fun _ _ _ h => h) (Or.inl ⟨by rfl, ?_⟩) (by assumption) ?_; rotate_left; (focus (intro w hSw; skip; go_simp; (try with_reducible rfl))); (try (refine wpAnyL_norm (by simp only [Act.put, List.setIfInBounds_toArray, List.set_cons_zero, List.set_cons_succ]; rfl) ?_))
      refine wpAnyL_take (i := 2) (v := ?_) rfl (by kernel_rfl) (fun _ _ _ h => h) (Or.inl ⟨by rfl, ?_⟩) (by assumption) ?_; rotate_left; (focus (intro w hSw; skip; go_simp; (try with_reducible rfl))); (try (refine wpAnyL_norm (by simp only [Act.put, List.setIfInBounds_toArray, List.set_cons_zero, List.set_cons_succ]; rfl) ?_))
      refine wpAnyL_take (i := 4) (v := ?_) rfl (by kernel_rfl) (fun _ _ _ h => h) (Or.inl ⟨by rfl, ?_⟩) (by assumption) ?_; rotate_left; (focus (intro w hSw; skip; go_simp; (try with_reducible rfl))); (try (refine wpAnyL_norm (by simp only [Act.put, List.setIfInBounds_toArray, List.set_cons_zero, List.set_cons_succ]; rfl) ?_))
      refine wpAnyL_take (i := 5) (v := ?_) rfl (by kernel_rfl) (fun _ _ _ h => h) (Or.inl ⟨by rfl, ?_⟩) (by assumption) ?_; rotate_left; (focus (intro w hSw; skip; go_simp; (try with_reducible rfl))); (try (refine wpAnyL_norm (by simp only [Act.put, List.setIfInBounds_toArray, List.set_cons_zero, List.set_cons_succ]; rfl) ?_))
      refine wpAnyL_take (i := 7) (v := ?_) rfl (by kernel_rfl) (fun _ _ _ h => h) (Or.inl ⟨by rfl, ?_⟩) (by assumption) ?_; rotate_left; (focus (intro w hSw; skip; go_simp; (try with_reducible rfl))); (try (refine wpAnyL_norm (by simp only [Act.put, List.setIfInBounds_toArray, List.set_cons_zero, List.set_cons_succ]; rfl) ?_))
      refine wpAnyL_take (i := 8) (v := ?_) rfl (by kernel_rfl) (fun _ _ _ h => h) (Or.inl ⟨by rfl, ?_⟩) (by assumption) ?_; rotate_left; (focus (intro w hSw; skip; go_simp; (try with_reducible rfl))); (try (refine wpAnyL_norm (by simp only [Act.put, List.setIfInBounds_toArray, List.set_cons_zero, List.set_cons_succ]; rfl) ?_))
      refine wpAnyL_take (i := 3) rfl (by kernel_rfl) (fun _ _ _ h => h) (yields_load_at 41 (.tmp 44) rfl ⟨g, 0, none⟩ rfl (evl evG) _ (fun W hW => at_event hW.1 0 evG rfl 0 rfl) Try.underlying41 rfl infoEv rfl) (by assumption) ?_; (try (refine wpAnyL_norm (by simp only [Act.put, List.setIfInBounds_toArray, List.set_cons_zero, List.set_cons_succ]; rfl) ?_))
      refine wpAnyL_take (i := 6) rfl (by kernel_rfl) (fun _ _ _ h => h) (yields_load_at 41 (.tmp 47) rfl ⟨g, 6, none⟩ rfl (evl evF) _ (fun W hW => at_event hW.1 1 evF rfl 6 rfl) Try.underlying41 rfl infoEv rfl) (by assumption) ?_; (try (refine wpAnyL_norm (by simp only [Act.put, List.setIfInBounds_toArray, List.set_cons_zero, List.set_cons_succ]; rfl) ?_))
      refine wpAnyL_take (i := 9) rfl (by kernel_rfl) (fun _ _ _ h => h) (yields_load_at 41 (.tmp 50) rfl ⟨g, 12, none⟩ rfl (evl evB) _ (fun W hW => at_event hW.1 2 evB rfl 12 rfl) Try.underlying41 rfl infoEv rfl) (by assumption) ?_; (try (refine wpAnyL_norm (by simp only [Act.put, List.setIfInBounds_toArray, List.set_cons_zero, List.set_cons_succ]; rfl) ?_))
      refine wpAnyL_ready (rs := [0]) (by kernel_rfl) (by simp) ?_; refine AllReadyL.cons rfl (fun K hK => ?_) AllReadyL.nil
      go_simp
      refine (CH.out _).mono ?_
      rintro e w2 ⟨rfl, hf2⟩
      refine hK.out _ _ (fun _ => ⟨hHeld.1.fr hf2 (by simp), hHeld.2.trans0 hf2⟩) (fun hHeld' => ?_); have hHeld := hHeld' (by decide); clear hHeld' hK K; (try (refine wpAnyL_norm (by simp only [Act.put, List.setIfInBounds_toArray, List.set_cons_zero, List.set_cons_succ]; rfl) ?_))
      refine wpAnyL_ready (rs := [10]) (by kernel_rfl) (by simp) ?_; refine AllReadyL.cons rfl (fun K hK => ?_) AllReadyL.nil
      go_simp
      refine (c_evE _).mono ?_
      rintro e w2 ⟨rfl, hf2⟩
      refine hK.out _ _ (fun _ => ⟨hHeld.1.fr hf2 (by simp), hHeld.2.trans0 hf2⟩) (fun hHeld' => ?_); have hHeld := hHeld' (by decide); clear hHeld' hK K; (try (refine wpAnyL_norm (by simp only [Act.put, List.setIfInBounds_toArray, List.set_cons_zero, List.set_cons_succ]; rfl) ?_))
      refine wpAnyL_ready (rs := [11]) (by kernel_rfl) (by simp) ?_; refine AllReadyL.cons rfl (fun K hK => ?_) AllReadyL.nil
      go_simp
      have HA := At.new w2 41 (evc [evG, evF, evB, evE]).toArray
      have hfb := (Fr.refl [] w2).alloc (.cells (evc [evG, evF, evB, evE]).toArray 41)
      refine hK.out _ _ (fun _ => ⟨hHeld.1.fr hfb (by simp), hHeld.2.trans0 hfb⟩) (fun hHeld' => ?_); have hHeld := hHeld' (by decide); clear hHeld' hK K; (try (refine wpAnyL_norm (by simp only [Act.put, List.setIfInBounds_toArray, List.set_cons_zero, List.set_cons_succ]; rfl) ?_))
      refine wpAnyL_ready (rs := [12]) (by kernel_rfl) (by simp) ?_; refine AllReadyL.cons rfl (fun K hK => ?_) AllReadyL.nil
      go_simp
      refine (hist_lit _ _ [evG, evF, evB, evE] [(5, 3)] HA ho4 (by decide) his4).mono ?_
      rintro e w5 ⟨va, vc, rfl, hr, hf3⟩
      refine hK.out _ _ (fun _ => ⟨hHeld.1.fr hf3 (by simp), hHeld.2.trans0 hf3⟩) (fun hHeld' => ?_); have hHeld := hHeld' (by decide); clear hHeld' hK K; (try (refine wpAnyL_norm (by simp only [Act.put, List.setIfInBounds_toArray, List.set_cons_zero, List.set_cons_succ]; rfl) ?_))
      refine wpAnyL_take (i := 13) (v := ?_) rfl (by kernel_rfl) (fun _ _ _ h => h) (Or.inl ⟨by rfl, ?_⟩) (by assumption) ?_; rotate_left; (focus (intro w hSw; skip; go_simp; (try with_reducible rfl))); (try (refine wpAnyL_norm (by simp only [Act.put, List.setIfInBounds_toArray, List.set_cons_zero, List.set_cons_succ]; rfl) ?_))
      refine wpAnyL_done (by kernel_rfl) ?_ _
      go_wp2_with fail
      go_meet
      exact ⟨va, vc, rfl, hr, hHeld.2⟩
  obtain ⟨v4, c4, rfl, hr, hf2⟩ := hcut
  obtain ⟨w2, rfl⟩ : ∃ W : World, W = wc := ⟨_, rfl⟩
  have G := Lib.hid (G.out.fr hf2 (by simp))
  have FW := Lib.hid (FW.out.trans0 hf2)
  have R2 := Lib.hid (R2.out.fr0 hf2)
  have R3 := Lib.hid (R3.out.fr0 hf2)
  have R4 := Lib.hid hr
  clear hr hf2
  obtain ⟨w1, rfl⟩ : ∃ W : World, W = w2 := ⟨_, rfl⟩
  go_upto_region 5 with (fail)
  go_cut [5] from 5 to 5 (fun s wx => Out0 w1 wx s [(11, 1)])
  case first =>
    as_aux_lemma =>
      refine wp_region_L (fun W => At W g 41 (evc goodL).toArray ∧ Fr [] w1 W) [] (by kernel_rfl) ⟨G.out.hp rfl, (Fr.refl _ _).drew⟩ (fun hHeld => ?_)
      refine wpAnyL_take (i := 1) (v := ?_) rfl (by kernel_rfl) (fun _ _ _ h => h) (Or.inl ⟨by rfl, ?_⟩) (by assumption) ?_; rotate_left; (focus (intro w hSw; skip; go_simp; (try with_reducible rfl))); (try (refine wpAnyL_norm (by simp only [Act.put, List.setIfInBounds_toArray, List.set_cons_zero, List.set_cons_succ]; rfl) ?_))
      refine wpAnyL_take (i := 2) (v := ?_) rfl (by kernel_rfl) (fun _ _ _ h => h) (Or.inl ⟨by rfl, ?_⟩) (by assumption) ?_; rotate_left; (focus (intro w hSw; skip; go_simp; (try with_reducible rfl))); (try (refine wpAnyL_norm (by simp only [Act.put, List.setIfInBounds_toArray, List.set_cons_zero, List.set_cons_succ]; rfl) ?_))
      refine wpAnyL_take (i := 3) rfl (by kernel_rfl) (fun _ _ _ h => h) (yields_load_at 41 (.tmp 57) rfl ⟨g, 0, none⟩ rfl (evl evG) _ (fun W hW => at_event hW.1 0 evG rfl 0 rfl) Try.underlying41 rfl infoEv rfl) (by assumption) ?_; (try (refine wpAnyL_norm (by simp only [Act.put, List.setIfInBounds_toArray, List.set_cons_zero, List.set_cons_succ]; rfl) ?_))
      refine wpAnyL_ready (rs := [0]) (by kernel_rfl) (by simp) ?_; refine AllReadyL.cons rfl (fun K hK => ?_) AllReadyL.nil
      go_simp
      refine (CH.out _).mono ?_
      rintro e w2 ⟨rfl, hf2⟩
      refine hK.out _ _ (fun _ => ⟨hHeld.1.fr hf2 (by simp), hHeld.2.trans0 hf2⟩) (fun hHeld' => ?_); have hHeld := hHeld' (by decide); clear hHeld' hK K; (try (refine wpAnyL_norm (by simp only [Act.put, List.setIfInBounds_toArray, List.set_cons_zero, List.set_cons_succ]; rfl) ?_))
      refine wpAnyL_ready (rs := [4]) (by kernel_rfl) (by simp) ?_; refine AllReadyL.cons rfl (fun K hK => ?_) AllReadyL.nil
      go_simp
      refine (c_evG2 _).mono ?_
      rintro e w2 ⟨rfl, hf2⟩
      refine hK.out _ _ (fun _ => ⟨hHeld.1.fr hf2 (by simp), hHeld.2.trans0 hf2⟩) (fun hHeld' => ?_); have hHeld := hHeld' (by decide); clear hHeld' hK K; (try (refine wpAnyL_norm (by simp only [Act.put, List.setIfInBounds_toArray, List.set_cons_zero, List.set_cons_succ]; rfl) ?_))
      refine wpAnyL_ready (rs := [5]) (by kernel_rfl) (by simp) ?_; refine AllReadyL.cons rfl (fun K hK => ?_) AllReadyL.nil
      go_simp
      have HA := At.new w2 41 (evc [evG, evG2]).toArray
      have hfb := (Fr.refl [] w2).alloc (.cells (evc [evG, evG2]).toArray 41)
      refine hK.out _ _ (fun _ => ⟨hHeld.1.fr hfb (by simp), hHeld.2.trans0 hfb⟩) (fun hHeld' => ?_); have hHeld := hHeld' (by decide); clear hHeld' hK K; (try (refine wpAnyL_norm (by simp only [Act.put, List.setIfInBounds_toArray, List.set_cons_zero, List.set_cons_succ]; rfl) ?_))
      refine wpAnyL_ready (rs := [6]) (by kernel_rfl) (by simp) ?_; refine AllReadyL.cons rfl (fun K hK => ?_) AllReadyL.nil
      go_simp
      refine (hist_lit _ _ [evG, evG2] [(11, 1)] HA ho5 (by decide) his5).mono ?_
      rintro e w5 ⟨va, vc, rfl, hr, hf3⟩
      refine hK.out _ _ (fun _ => ⟨hHeld.1.fr hf3 (by simp), hHeld.2.trans0 hf3⟩) (fun hHeld' => ?_); have hHeld := hHeld' (by decide); clear hHeld' hK K; (try (refine wpAnyL_norm (by simp only [Act.put, List.setIfInBounds_toArray, List.set_cons_zero, List.set_cons_succ]; rfl) ?_))
      refine wpAnyL_take (i := 7) (v := ?_) rfl (by kernel_rfl) (fun _ _ _ h => h) (Or.inl ⟨by rfl, ?_⟩) (by assumption) ?_; rotate_left; (focus (intro w hSw; skip; go_simp; (try with_reducible rfl))); (try (refine wpAnyL_norm (by simp only [Act.put, List.setIfInBounds_toArray, List.set_cons_zero, List.set_cons_succ]; rfl) ?_))
      refine wpAnyL_done (by kernel_rfl) ?_ _
      go_wp2_with fail
      go_meet
      exact ⟨va, vc, rfl, hr, hHeld.2⟩
  obtain ⟨v5, c5, rfl, hr, hf2⟩ := hcut
  obtain ⟨w2, rfl⟩ : ∃ W : World, W = wc := ⟨_, rfl⟩
  have G := Lib.hid (G.out.fr hf2 (by simp))
  have FW := Lib.hid (FW.out.trans0 hf2)
  have R2 := Lib.hid (R2.out.fr0 hf2)
  have R3 := Lib.hid (R3.out.fr0 hf2)
  have R4 := Lib.hid (R4.out.fr0 hf2)
  have R5 := Lib.hid hr
  clear hr hf2
  obtain ⟨w1, rfl⟩ : ∃ W : World, W = w2 := ⟨_, rfl⟩
  go_upto_region 6 with (fail)
  go_cut [6] from 6 to 6 (fun s wx => Out0 w1 wx s [(6, 0)])
  case first =>
    as_aux_lemma =>
      go_wp2_with fail
      refine (CH.out _).mono ?_
      rintro e w2 ⟨rfl, hf2⟩
      go_wp2_with fail
      refine (c_evX _).mono ?_
      rintro e w3 ⟨rfl, hf3⟩
      have HA := At.new w3 41 (evc [evX]).toArray
      have hfb := ((hf2.trans0 hf3).alloc (.cells (evc [evX]).toArray 41))
      have C := Lib.hid (hist_lit _ _ [evX] [(6, 0)] HA ho6 (by decide) his6)
      clear HA
      go_wp2_with fail
      refine (C.out).mono ?_
      rintro e w5 ⟨va, vc, rfl, hr, hf5⟩
      go_wp2_with fail
      go_meet
      exact ⟨va, vc, rfl, hr, hfb.trans0 hf5⟩
  obtain ⟨v6, c6, rfl, hr, hf2⟩ := hcut
  obtain ⟨w2, rfl⟩ : ∃ W : World, W = wc := ⟨_, rfl⟩
  have G := Lib.hid (G.out.fr hf2 (by simp))
  have FW := Lib.hid (FW.out.trans0 hf2)
  have R2 := Lib.hid (R2.out.fr0 hf2)
  have R3 := Lib.hid (R3.out.fr0 hf2)
  have R4 := Lib.hid (R4.out.fr0 hf2)
  have R5 := Lib.hid (R5.out.fr0 hf2)
  have R6 := Lib.hid hr
  clear hr hf2
  obtain ⟨w1, rfl⟩ : ∃ W : World, W = w2 := ⟨_, rfl⟩
  go_upto_region 7 with (fail)
  go_cut [7] from 7 to 7 (fun s wx => Out0 w1 wx s [(6, 0)])
  case first =>
    as_aux_lemma =>
      go_wp2_with fail
      refine (CH.out _).mono ?_
      rintro e w2 ⟨rfl, hf2⟩
      go_wp2_with fail
      refine (c_evY _).mono ?_
      rintro e w3 ⟨rfl, hf3⟩
      have HA := At.new w3 41 (evc [evY]).toArray
      have hfb := ((hf2.trans0 hf3).alloc (.cells (evc [evY]).toArray 41))
      have C := Lib.hid (hist_lit _ _ [evY] [(6, 0)] HA ho7 (by decide) his7)
      clear HA
      go_wp2_with fail
      refine (C.out).mono ?_
      rintro e w5 ⟨va, vc, rfl, hr, hf5⟩
      go_wp2_with fail
      go_meet
      exact ⟨va, vc, rfl, hr, hfb.trans0 hf5⟩
  obtain ⟨v7, c7, rfl, hr, hf2⟩ := hcut
  obtain ⟨w2, rfl⟩ : ∃ W : World, W = wc := ⟨_, rfl⟩
  have G := Lib.hid (G.out.fr hf2 (by simp))
  have FW := Lib.hid (FW.out.trans0 hf2)
  have R2 := Lib.hid (R2.out.fr0 hf2)
  have R3 := Lib.hid (R3.out.fr0 hf2)
  have R4 := Lib.hid (R4.out.fr0 hf2)
  have R5 := Lib.hid (R5.out.fr0 hf2)
  have R6 := Lib.hid (R6.out.fr0 hf2)
  have R7 := Lib.hid hr
  clear hr hf2
  obtain ⟨w1, rfl⟩ : ∃ W : World, W = w2 := ⟨_, rfl⟩
  go_upto_region 8 with (fail)
  go_cut [8] from 8 to 8 (fun s wx => Out0 w1 wx s [(4, 1), (4, 2)])
  case first =>
    as_aux_lemma =>
      refine wp_region_L (fun W => At W g 41 (evc goodL).toArray ∧ Fr [] w1 W) [] (by kernel_rfl) ⟨G.out.hp rfl, (Fr.refl _ _).drew⟩ (fun hHeld => ?_)
      refine wpAnyL_take (i := 1) (v := ?_) rfl (by kernel_rfl) (fun _ _ _ h => h) (Or.inl ⟨by rfl, ?_⟩) (by assumption) ?_; rotate_left; (focus (intro w hSw; skip; go_simp; (try with_reducible rfl))); (try (refine wpAnyL_norm (by simp only [Act.put, List.setIfInBounds_toArray, List.set_cons_zero, List.set_cons_succ]; rfl) ?_))
      refine wpAnyL_take (i := 2) (v := ?_) rfl (by kernel_rfl) (fun _ _ _ h => h) (Or.inl ⟨by rfl, ?_⟩) (by assumption) ?_; rotate_left; (focus (intro w hSw; skip; go_simp; (try with_reducible rfl))); (try (refine wpAnyL_norm (by simp only [Act.put, List.setIfInBounds_toArray, List.set_cons_zero, List.set_cons_succ]; rfl) ?_))
      refine wpAnyL_take (i := 4) (v := ?_) rfl (by kernel_rfl) (fun _ _ _ h => h) (Or.inl ⟨by rfl, ?_⟩) (by assumption) ?_; rotate_left; (focus (intro w hSw; skip; go_simp; (try with_reducible rfl))); (try (refine wpAnyL_norm (by simp only [Act.put, List.setIfInBounds_toArray, List.set_cons_zero, List.set_cons_succ]; rfl) ?_))
      refine wpAnyL_take (i := 5) (v := ?_) rfl (by kernel_rfl) (fun _ _ _ h => h) (Or.inl ⟨by rfl, ?_⟩) (by assumption) ?_; rotate_left; (focus (intro w hSw; skip; go_simp; (try with_reducible rfl))); (try (refine wpAnyL_norm (by simp only [Act.put, List.setIfInBounds_toArray, List.set_cons_zero, List.set_cons_succ]; rfl) ?_))
      refine wpAnyL_take (i := 3) rfl (by kernel_rfl) (fun _ _ _ h => h) (yields_load_at 41 (.tmp 72) rfl ⟨g, 12, none⟩ rfl (evl evB) _ (fun W hW => at_event hW.1 2 evB rfl 12 rfl) Try.underlying41 rfl infoEv rfl) (by assumption) ?_; (try (refine wpAnyL_norm (by simp only [Act.put, List.setIfInBounds_toArray, List.set_cons_zero, List.set_cons_succ]; rfl) ?_))
      refine wpAnyL_take (i := 6) rfl (by kernel_rfl) (fun _ _ _ h => h) (yields_load_at 41 (.tmp 75) rfl ⟨g, 12, none⟩ rfl (evl evB) _ (fun W hW => at_event hW.1 2 evB rfl 12 rfl) Try.underlying41 rfl infoEv rfl) (by assumption) ?_; (try (refine wpAnyL_norm (by simp only [Act.put, List.setIfInBounds_toArray, List.set_cons_zero, List.set_cons_succ]; rfl) ?_))
      refine wpAnyL_ready (rs := [0]) (by kernel_rfl) (by simp) ?_; refine AllReadyL.cons rfl (fun K hK => ?_) AllReadyL.nil
      go_simp
      refine (CH.out _).mono ?_
      rintro e w2 ⟨rfl, hf2⟩
      refine hK.out _ _ (fun _ => ⟨hHeld.1.fr hf2 (by simp), hHeld.2.trans0 hf2⟩) (fun hHeld' => ?_); have hHeld := hHeld' (by decide); clear hHeld' hK K; (try (refine wpAnyL_norm (by simp only [Act.put, List.setIfInBounds_toArray, List.set_cons_zero, List.set_cons_succ]; rfl) ?_))
      refine wpAnyL_ready (rs := [7]) (by kernel_rfl) (by simp) ?_; refine AllReadyL.cons rfl (fun K hK => ?_) AllReadyL.nil
      go_simp
      refine (c_evE2 _).mono ?_
      rintro e w2 ⟨rfl, hf2⟩
      refine hK.out _ _ (fun _ => ⟨hHeld.1.fr hf2 (by simp), hHeld.2.trans0 hf2⟩) (fun hHeld' => ?_); have hHeld := hHeld' (by decide); clear hHeld' hK K; (try (refine wpAnyL_norm (by simp only [Act.put, List.setIfInBounds_toArray, List.set_cons_zero, List.set_cons_succ]; rfl) ?_))
      refine wpAnyL_ready (rs := [8]) (by kernel_rfl) (by simp) ?_; refine AllReadyL.cons rfl (fun K hK => ?_) AllReadyL.nil
      go_simp
      have HA := At.new w2 41 (evc [evB, evB, evE2]).toArray
      have hfb := (Fr.refl [] w2).alloc (.cells (evc [evB, evB, evE2]).toArray 41)
      refine hK.out _ _ (fun _ => ⟨hHeld.1.fr hfb (by simp), hHeld.2.trans0 hfb⟩) (fun hHeld' => ?_); have hHeld := hHeld' (by decide); clear hHeld' hK K; (try (refine wpAnyL_norm (by simp only [Act.put, List.setIfInBounds_toArray, List.set_cons_zero, List.set_cons_succ]; rfl) ?_))
      refine wpAnyL_ready (rs := [9]) (by kernel_rfl) (by simp) ?_; refine AllReadyL.cons rfl (fun K hK => ?_) AllReadyL.nil
      go_simp
      refine (hist_lit _ _ [evB, evB, evE2] [(4, 1), (4, 2)] HA ho8 (by decide) his8).mono ?_
      rintro e w5 ⟨va, vc, rfl, hr, hf3⟩
      refine hK.out _ _ (fun _ => ⟨hHeld.1.fr hf3 (by simp), hHeld.2.trans0 hf3⟩) (fun hHeld' => ?_); have hHeld := hHeld' (by decide); clear hHeld' hK K; (try (refine wpAnyL_norm (by simp only [Act.put, List.setIfInBounds_toArray, List.set_cons_zero, List.set_cons_succ]; rfl) ?_))
      refine wpAnyL_take (i := 10) (v := ?_) rfl (by kernel_rfl) (fun _ _ _ h => h) (Or.inl ⟨by rfl, ?_⟩) (by assumption) ?_; rotate_left; (focus (intro w hSw; skip; go_simp; (try with_reducible rfl))); (try (refine wpAnyL_norm (by simp only [Act.put, List.setIfInBounds_toArray, List.set_cons_zero, List.set_cons_succ]; rfl) ?_))
      refine wpAnyL_done (by kernel_rfl) ?_ _
      go_wp2_with fail
      go_meet
      exact ⟨va, vc, rfl, hr, hHeld.2⟩
  obtain ⟨v8, c8, rfl, hr, hf2⟩ := hcut
  obtain ⟨w2, rfl⟩ : ∃ W : World, W = wc := ⟨_, rfl⟩
  have G := Lib.hid (G.out.fr hf2 (by simp))
  have FW := Lib.hid (FW.out.trans0 hf2)
  have R2 := Lib.hid (R2.out.fr0 hf2)
  have R3 := Lib.hid (R3.out.fr0 hf2)
  have R4 := Lib.hid (R4.out.fr0 hf2)
  have R5 := Lib.hid (R5.out.fr0 hf2)
  have R6 := Lib.hid (R6.out.fr0 hf2)
  have R7 := Lib.hid (R7.out.fr0 hf2)
  have R8 := Lib.hid hr
  clear hr hf2
  obtain ⟨w1, rfl⟩ : ∃ W : World, W = w2 := ⟨_, rfl⟩
  have A9 := At.new w1 41 (evl evA).toArray
  have A9 := A9.old (.cells (evl evD).toArray 41)
  have A10 := At.new (w1.alloc (.cells (evl evA).toArray 41)) 41 (evl evD).toArray
  rw [World.size_alloc] at A10
  have hfa := ((Fr.refl [] w1).alloc (.cells (evl evA).toArray 41)).alloc (.cells (evl evD).toArray 41)
  have G := Lib.hid (G.out.fr hfa (by simp))
  have FW := Lib.hid (FW.out.trans0 hfa)
  have R2 := Lib.hid (R2.out.fr0 hfa)
  have R3 := Lib.hid (R3.out.fr0 hfa)
  have R4 := Lib.hid (R4.out.fr0 hfa)
  have R5 := Lib.hid (R5.out.fr0 hfa)
  have R6 := Lib.hid (R6.out.fr0 hfa)
  have R7 := Lib.hid (R7.out.fr0 hfa)
  have R8 := Lib.hid (R8.out.fr0 hfa)
  go_upto_region 10 with (fail)
  obtain ⟨q9, hq9⟩ : ∃ q, w1.heap.size = q := ⟨_, rfl⟩
  obtain ⟨wz, hwz⟩ : ∃ W, (w1.alloc (.cells (evl evA).toArray 41)).alloc (.cells (evl evD).toArray 41) = W := ⟨_, rfl⟩
  have Gx := G.out
  have FWx := FW.out
  have Rx2 := R2.out
  have Rx3 := R3.out
  have Rx4 := R4.out
  have Rx5 := R5.out
  have Rx6 := R6.out
  have Rx7 := R7.out
  have Rx8 := R8.out
  rw [hwz] at A9 A10 Gx FWx Rx2 Rx3 Rx4 Rx5 Rx6 Rx7 Rx8
  rw [hq9] at A9 A10 ⊢
  change Code.wp _ _ _ _ ((w1.alloc (.cells (evl evA).toArray 41)).alloc (.cells (evl evD).toArray 41))
  rw [hwz]
  have G := Lib.hid Gx
  have FW := Lib.hid FWx
  have A9 := Lib.hid A9
  have A10 := Lib.hid A10
  have R2 := Lib.hid Rx2
  have R3 := Lib.hid Rx3
  have R4 := Lib.hid Rx4
  have R5 := Lib.hid Rx5
  have R6 := Lib.hid Rx6
  have R7 := Lib.hid Rx7
  have R8 := Lib.hid Rx8
  clear hfa Gx FWx hwz hq9 Rx2 Rx3 Rx4 Rx5 Rx6 Rx7 Rx8
  obtain ⟨w1, rfl⟩ : ∃ W : World, W = wz := ⟨_, rfl⟩
  go_cut [11] from 11 to 11 (fun s wx => Out0 w1 wx s [(8, 3), (11, 4)])
  case first =>
    as_aux_lemma =>
      refine wp_region_L (fun W => At W g 41 (evc goodL).toArray ∧ Fr [] w1 W ∧ At W q9 41 (evl evA).toArray ∧ At W (q9 + 1) 41 (evl evD).toArray) [] (by kernel_rfl) ⟨G.out.hp rfl, (Fr.refl _ _).drew, A9.out.hp rfl, A10.out.hp rfl⟩ (fun hHeld => ?_)
      refine wpAnyL_take (i := 1) (v := ?_) rfl (by kernel_rfl) (fun _ _ _ h => h) (Or.inl ⟨by rfl, ?_⟩) (by assumption) ?_; rotate_left; (focus (intro w hSw; skip; go_simp; (try with_reducible rfl))); (try (refine wpAnyL_norm (by simp only [Act.put, List.setIfInBounds_toArray, List.set_cons_zero, List.set_cons_succ]; rfl) ?_))
      refine wpAnyL_take (i := 2) (v := ?_) rfl (by kernel_rfl) (fun _ _ _ h => h) (Or.inl ⟨by rfl, ?_⟩) (by assumption) ?_; rotate_left; (focus (intro w hSw; skip; go_simp; (try with_reducible rfl))); (try (refine wpAnyL_norm (by simp only [Act.put, List.setIfInBounds_toArray, List.set_cons_zero, List.set_cons_succ]; rfl) ?_))
      refine wpAnyL_take (i := 4) (v := ?_) rfl (by kernel_rfl) (fun _ _ _ h => h) (Or.inl ⟨by rfl, ?_⟩) (by assumption) ?_; rotate_left; (focus (intro w hSw; skip; go_simp; (try with_reducible rfl))); (try (refine wpAnyL_norm (by simp only [Act.put, List.setIfInBounds_toArray, List.set_cons_zero, List.set_cons_succ]; rfl) ?_))
      refine wpAnyL_take (i := 5) (v := ?_) rfl (by kernel_rfl) (fun _ _ _ h => h) (Or.inl ⟨by rfl, ?_⟩) (by assumption) ?_; rotate_left; (focus (intro w hSw; skip; go_simp; (try with_reducible rfl))); (try (refine wpAnyL_norm (by simp only [Act.put, List.setIfInBounds_toArray, List.set_cons_zero, List.set_cons_succ]; rfl) ?_))
      refine wpAnyL_take (i := 3) rfl (by kernel_rfl) (fun _ _ _ h => h) (yields_load_at 41 (.tmp 84) rfl ⟨g, 0, none⟩ rfl (evl evG) _ (fun W hW => at_event hW.1 0 evG rfl 0 rfl) Try.underlying41 rfl infoEv rfl) (by assumption) ?_; (try (refine wpAnyL_norm (by simp only [Act.put, List.setIfInBounds_toArray, List.set_cons_zero, List.set_cons_succ]; rfl) ?_))
      refine wpAnyL_take (i := 6) rfl (by kernel_rfl) (fun _ _ _ h => h) (yields_load_at 41 (.tmp 87) rfl ⟨g, 6, none⟩ rfl (evl evF) _ (fun W hW => at_event hW.1 1 evF rfl 6 rfl) Try.underlying41 rfl infoEv rfl) (by assumption) ?_; (try (refine wpAnyL_norm (by simp only [Act.put, List.setIfInBounds_toArray, List.set_cons_zero, List.set_cons_succ]; rfl) ?_))
      refine wpAnyL_take (i := 7) rfl (by kernel_rfl) (fun _ _ _ h => h) (yields_load_at 41 (.tmp 9) rfl ⟨q9, 0, none⟩ rfl (evl evA) _ (fun W hW => hW.2.2.1.all _ rfl) Try.underlying41 rfl infoEv rfl) (by assumption) ?_; (try (refine wpAnyL_norm (by simp only [Act.put, List.setIfInBounds_toArray, List.set_cons_zero, List.set_cons_succ]; rfl) ?_))
      refine wpAnyL_take (i := 8) rfl (by kernel_rfl) (fun _ _ _ h => h) (yields_load_at 41 (.tmp 10) rfl ⟨q9 + 1, 0, none⟩ rfl (evl evD) _ (fun W hW => hW.2.2.2.all _ rfl) Try.underlying41 rfl infoEv rfl) (by assumption) ?_; (try (refine wpAnyL_norm (by simp only [Act.put, List.setIfInBounds_toArray, List.set_cons_zero, List.set_cons_succ]; rfl) ?_))
      refine wpAnyL_take (i := 9) rfl (by kernel_rfl) (fun _ _ _ h => h) (yields_load_at 41 (.tmp 9) rfl ⟨q9, 0, none⟩ rfl (evl evA) _ (fun W hW => hW.2.2.1.all _ rfl) Try.underlying41 rfl infoEv rfl) (by assumption) ?_; (try (refine wpAnyL_norm (by simp only [Act.put, List.setIfInBounds_toArray, List.set_cons_zero, List.set_cons_succ]; rfl) ?_))
      refine wpAnyL_ready (rs := [0, 10]) (by kernel_rfl) (by simp) ?_
      refine AllReadyL.cons rfl (fun K hK => ?_) (AllReadyL.cons rfl (fun K hK => ?_) AllReadyL.nil)
      · go_simp
        refine (CH.out _).mono ?_
        rintro e w2 ⟨rfl, hf2⟩
        refine hK.out _ _ (fun _ => ⟨hHeld.1.fr hf2 (by simp), hHeld.2.1.trans0 hf2, hHeld.2.2.1.fr hf2 (by simp), hHeld.2.2.2.fr hf2 (by simp)⟩) (fun hHeld' => ?_); have hHeld := hHeld' (by decide); clear hHeld' hK K; (try (refine wpAnyL_norm (by simp only [Act.put, List.setIfInBounds_toArray, List.set_cons_zero, List.set_cons_succ]; rfl) ?_))
        refine wpAnyL_ready (rs := [10]) (by kernel_rfl) (by simp) ?_; refine AllReadyL.cons rfl (fun K hK => ?_) AllReadyL.nil
        go_simp
        have HA := At.new w2 41 (evc [evG, evF, evA, evD, evA]).toArray
        have hfb := (Fr.refl [] w2).alloc (.cells (evc [evG, evF, evA, evD, evA]).toArray 41)
        refine hK.out _ _ (fun _ => ⟨hHeld.1.fr hfb (by simp), hHeld.2.1.trans0 hfb, hHeld.2.2.1.fr hfb (by simp), hHeld.2.2.2.fr hfb (by simp)⟩) (fun hHeld' => ?_); have hHeld := hHeld' (by decide); clear hHeld' hK K; (try (refine wpAnyL_norm (by simp only [Act.put, List.setIfInBounds_toArray, List.set_cons_zero, List.set_cons_succ]; rfl) ?_))
        refine wpAnyL_ready (rs := [11]) (by kernel_rfl) (by simp) ?_; refine AllReadyL.cons rfl (fun K hK => ?_) AllReadyL.nil
        go_simp
        refine (hist_lit _ _ [evG, evF, evA, evD, evA] [(8, 3), (11, 4)] HA ho10 (by decide) his10).mono ?_
        rintro e w5 ⟨va, vc, rfl, hr, hf3⟩
        refine hK.out _ _ (fun _ => ⟨hHeld.1.fr hf3 (by simp), hHeld.2.1.trans0 hf3, hHeld.2.2.1.fr hf3 (by simp), hHeld.2.2.2.fr hf3 (by simp)⟩) (fun hHeld' => ?_); have hHeld := hHeld' (by decide); clear hHeld' hK K; (try (refine wpAnyL_norm (by simp only [Act.put, List.setIfInBounds_toArray, List.set_cons_zero, List.set_cons_succ]; rfl) ?_))
        refine wpAnyL_take (i := 12) (v := ?_) rfl (by kernel_rfl) (fun _ _ _ h => h) (Or.inl ⟨by rfl, ?_⟩) (by assumption) ?_; rotate_left; (focus (intro w hSw; skip; go_simp; (try with_reducible rfl))); (try (refine wpAnyL_norm (by simp only [Act.put, List.setIfInBounds_toArray, List.set_cons_zero, List.set_cons_succ]; rfl) ?_))
        refine wpAnyL_done (by kernel_rfl) ?_ _
        go_wp2_with fail
        go_meet
        exact ⟨va, vc, rfl, hr, hHeld.2.1⟩
      · go_simp
        have HA := At.new w1.drew 41 (evc [evG, evF, evA, evD, evA]).toArray
        have hfb := (Fr.refl [] w1.drew).alloc (.cells (evc [evG, evF, evA, evD, evA]).toArray 41)
        refine hK.out _ _ (fun _ => ⟨hHeld.1.fr hfb (by simp), hHeld.2.1.trans0 hfb, hHeld.2.2.1.fr hfb (by simp), hHeld.2.2.2.fr hfb (by simp)⟩) (fun hHeld' => ?_); have hHeld := hHeld' (by decide); clear hHeld' hK K; (try (refine wpAnyL_norm (by simp only [Act.put, List.setIfInBounds_toArray, List.set_cons_zero, List.set_cons_succ]; rfl) ?_))
        refine wpAnyL_ready (rs := [0]) (by kernel_rfl) (by simp) ?_; refine AllReadyL.cons rfl (fun K hK => ?_) AllReadyL.nil
        go_simp
        refine (CH.out _).mono ?_
        rintro e w2 ⟨rfl, hf2⟩
        refine hK.out _ _ (fun _ => ⟨hHeld.1.fr hf2 (by simp), hHeld.2.1.trans0 hf2, hHeld.2.2.1.fr hf2 (by simp), hHeld.2.2.2.fr hf2 (by simp)⟩) (fun hHeld' => ?_); have hHeld := hHeld' (by decide); clear hHeld' hK K; (try (refine wpAnyL_norm (by simp only [Act.put, List.setIfInBounds_toArray, List.set_cons_zero, List.set_cons_succ]; rfl) ?_))
        have HA := HA.fr hf2 (by simp)
        refine wpAnyL_ready (rs := [11]) (by kernel_rfl) (by simp) ?_; refine AllReadyL.cons rfl (fun K hK => ?_) AllReadyL.nil
        go_simp
        refine (hist_lit _ _ [evG, evF, evA, evD, evA] [(8, 3), (11, 4)] HA ho10 (by decide) his10).mono ?_
        rintro e w5 ⟨va, vc, rfl, hr, hf3⟩
        refine hK.out _ _ (fun _ => ⟨hHeld.1.fr hf3 (by simp), hHeld.2.1.trans0 hf3, hHeld.2.2.1.fr hf3 (by simp), hHeld.2.2.2.fr hf3 (by simp)⟩) (fun hHeld' => ?_); have hHeld := hHeld' (by decide); clear hHeld' hK K; (try (refine wpAnyL_norm (by simp only [Act.put, List.setIfInBounds_toArray, List.set_cons_zero, List.set_cons_succ]; rfl) ?_))
        refine wpAnyL_take (i := 12) (v := ?_) rfl (by kernel_rfl) (fun _ _ _ h => h) (Or.inl ⟨by rfl, ?_⟩) (by assumption) ?_; rotate_left; (focus (intro w hSw; skip; go_simp; (try with_reducible rfl))); (try (refine wpAnyL_norm (by simp only [Act.put, List.setIfInBounds_toArray, List.set_cons_zero, List.set_cons_succ]; rfl) ?_))
        refine wpAnyL_done (by kernel_rfl) ?_ _
        go_wp2_with fail
        go_meet
        exact ⟨va, vc, rfl, hr, hHeld.2.1⟩
  obtain ⟨v11, c11, rfl, hr, hf2⟩ := hcut
  obtain ⟨w2, rfl⟩ : ∃ W : World, W = wc := ⟨_, rfl⟩
  have G := Lib.hid (G.out.fr hf2 (by simp))
  have FW := Lib.hid (FW.out.trans0 hf2)
  have A9 := Lib.hid (A9.out.fr hf2 (by simp))
  have A10 := Lib.hid (A10.out.fr hf2 (by simp))
  have R2 := Lib.hid (R2.out.fr0 hf2)
  have R3 := Lib.hid (R3.out.fr0 hf2)
  have R4 := Lib.hid (R4.out.fr0 hf2)
  have R5 := Lib.hid (R5.out.fr0 hf2)
  have R6 := Lib.hid (R6.out.fr0 hf2)
  have R7 := Lib.hid (R7.out.fr0 hf2)
  have R8 := Lib.hid (R8.out.fr0 hf2)
  have R11 := Lib.hid hr
  clear hr hf2
  obtain ⟨w1, rfl⟩ : ∃ W : World, W = w2 := ⟨_, rfl⟩
  go_upto_region 11 with (fail)
  go_cut [12] from 12 to 12 (fun s wx => Out0 w1 wx s [(3, 6)])
  case first =>
    as_aux_lemma =>
      refine wp_region_L (fun W => At W g 41 (evc goodL).toArray ∧ Fr [] w1 W ∧ At W q9 41 (evl evA).toArray ∧ At W (q9 + 1) 41 (evl evD).toArray) [] (by kernel_rfl) ⟨G.out.hp rfl, (Fr.refl _ _).drew, A9.out.hp rfl, A10.out.hp rfl⟩ (fun hHeld => ?_)
      refine wpAnyL_take (i := 2) (v := ?_) rfl (by kernel_rfl) (fun _ _ _ h => h) (Or.inl ⟨by rfl, ?_⟩) (by assumption) ?_; rotate_left; (focus (intro w hSw; skip; go_simp; (try with_reducible rfl))); (try (refine wpAnyL_norm (by simp only [Act.put, List.setIfInBounds_toArray, List.set_cons_zero, List.set_cons_succ]; rfl) ?_))
      refine wpAnyL_take (i := 3) (v := ?_) rfl (by kernel_rfl) (fun _ _ _ h => h) (Or.inl ⟨by rfl, ?_⟩) (by assumption) ?_; rotate_left; (focus (intro w hSw; skip; go_simp; (try with_reducible rfl))); (try (refine wpAnyL_norm (by simp only [Act.put, List.setIfInBounds_toArray, List.set_cons_zero, List.set_cons_succ]; rfl) ?_))
      refine wpAnyL_take (i := 4) rfl (by kernel_rfl) (fun _ _ _ h => h) (yields_load_at 41 (.tmp 97) rfl ⟨g, 12, none⟩ rfl (evl evB) _ (fun W hW => at_event hW.1 2 evB rfl 12 rfl) Try.underlying41 rfl infoEv rfl) (by assumption) ?_; (try (refine wpAnyL_norm (by simp only [Act.put, List.setIfInBounds_toArray, List.set_cons_zero, List.set_cons_succ]; rfl) ?_))
      refine wpAnyL_take (i := 1) rfl (by kernel_rfl) (fun _ _ _ h => h) (yields_load_at 41 (.tmp 9) rfl ⟨q9, 0, none⟩ rfl (evl evA) _ (fun W hW => hW.2.2.1.all _ rfl) Try.underlying41 rfl infoEv rfl) (by assumption) ?_; (try (refine wpAnyL_norm (by simp only [Act.put, List.setIfInBounds_toArray, List.set_cons_zero, List.set_cons_succ]; rfl) ?_))
      refine wpAnyL_ready (rs := [0]) (by kernel_rfl) (by simp) ?_; refine AllReadyL.cons rfl (fun K hK => ?_) AllReadyL.nil
      go_simp
      refine (CH.out _).mono ?_
      rintro e w2 ⟨rfl, hf2⟩
      refine hK.out _ _ (fun _ => ⟨hHeld.1.fr hf2 (by simp), hHeld.2.1.trans0 hf2, hHeld.2.2.1.fr hf2 (by simp), hHeld.2.2.2.fr hf2 (by simp)⟩) (fun hHeld' => ?_); have hHeld := hHeld' (by decide); clear hHeld' hK K; (try (refine wpAnyL_norm (by simp only [Act.put, List.setIfInBounds_toArray, List.set_cons_zero, List.set_cons_succ]; rfl) ?_))
      refine wpAnyL_ready (rs := [5]) (by kernel_rfl) (by simp) ?_; refine AllReadyL.cons rfl (fun K hK => ?_) AllReadyL.nil
      go_simp
      refine (c_evE _).mono ?_
      rintro e w2 ⟨rfl, hf2⟩
      refine hK.out _ _ (fun _ => ⟨hHeld.1.fr hf2 (by simp), hHeld.2.1.trans0 hf2, hHeld.2.2.1.fr hf2 (by simp), hHeld.2.2.2.fr hf2 (by simp)⟩) (fun hHeld' => ?_); have hHeld := hHeld' (by decide); clear hHeld' hK K; (try (refine wpAnyL_norm (by simp only [Act.put, List.setIfInBounds_toArray, List.set_cons_zero, List.set_cons_succ]; rfl) ?_))
      refine wpAnyL_ready (rs := [6]) (by kernel_rfl) (by simp) ?_; refine AllReadyL.cons rfl (fun K hK => ?_) AllReadyL.nil
      go_simp
      refine (c_evB2 _).mono ?_
      rintro e w2 ⟨rfl, hf2⟩
      refine hK.out _ _ (fun _ => ⟨hHeld.1.fr hf2 (by simp), hHeld.2.1.trans0 hf2, hHeld.2.2.1.fr hf2 (by simp), hHeld.2.2.2.fr hf2 (by simp)⟩) (fun hHeld' => ?_); have hHeld := hHeld' (by decide); clear hHeld' hK K; (try (refine wpAnyL_norm (by simp only [Act.put, List.setIfInBounds_toArray, List.set_cons_zero, List.set_cons_succ]; rfl) ?_))
      refine wpAnyL_ready (rs := [7]) (by kernel_rfl) (by simp) ?_; refine AllReadyL.cons rfl (fun K hK => ?_) AllReadyL.nil
      go_simp
      refine (c_evE2 _).mono ?_
      rintro e w2 ⟨rfl, hf2⟩
      refine hK.out _ _ (fun _ => ⟨hHeld.1.fr hf2 (by simp), hHeld.2.1.trans0 hf2, hHeld.2.2.1.fr hf2 (by simp), hHeld.2.2.2.fr hf2 (by simp)⟩) (fun hHeld' => ?_); have hHeld := hHeld' (by decide); clear hHeld' hK K; (try (refine wpAnyL_norm (by simp only [Act.put, List.setIfInBounds_toArray, List.set_cons_zero, List.set_cons_succ]; rfl) ?_))
      refine wpAnyL_ready (rs := [8]) (by kernel_rfl) (by simp) ?_; refine AllReadyL.cons rfl (fun K hK => ?_) AllReadyL.nil
      go_simp
      refine (c_evB3 _).mono ?_
      rintro e w2 ⟨rfl, hf2⟩
      refine hK.out _ _ (fun _ => ⟨hHeld.1.fr hf2 (by simp), hHeld.2.1.trans0 hf2, hHeld.2.2.1.fr hf2 (by simp), hHeld.2.2.2.fr hf2 (by simp)⟩) (fun hHeld' => ?_); have hHeld := hHeld' (by decide); clear hHeld' hK K; (try (refine wpAnyL_norm (by simp only [Act.put, List.setIfInBounds_toArray, List.set_cons_zero, List.set_cons_succ]; rfl) ?_))
      refine wpAnyL_ready (rs := [9]) (by kernel_rfl) (by simp) ?_; refine AllReadyL.cons rfl (fun K hK => ?_) AllReadyL.nil
      go_simp
      refine (c_evE3 _).mono ?_
      rintro e w2 ⟨rfl, hf2⟩
      refine hK.out _ _ (fun _ => ⟨hHeld.1.fr hf2 (by simp), hHeld.2.1.trans0 hf2, hHeld.2.2.1.fr hf2 (by simp), hHeld.2.2.2.fr hf2 (by simp)⟩) (fun hHeld' => ?_); have hHeld := hHeld' (by decide); clear hHeld' hK K; (try (refine wpAnyL_norm (by simp only [Act.put, List.setIfInBounds_toArray, List.set_cons_zero, List.set_cons_succ]; rfl) ?_))
      refine wpAnyL_ready (rs := [10]) (by kernel_rfl) (by simp) ?_; refine AllReadyL.cons rfl (fun K hK => ?_) AllReadyL.nil
      go_simp
      have HA := At.new w2 41 (evc [evA, evB, evE, evB2, evE2, evB3, evE3]).toArray
      have hfb := (Fr.refl [] w2).alloc (.cells (evc [evA, evB, evE, evB2, evE2, evB3, evE3]).toArray 41)
      refine hK.out _ _ (fun _ => ⟨hHeld.1.fr hfb (by simp), hHeld.2.1.trans0 hfb, hHeld.2.2.1.fr hfb (by simp), hHeld.2.2.2.fr hfb (by simp)⟩) (fun hHeld' => ?_); have hHeld := hHeld' (by decide); clear hHeld' hK K; (try (refine wpAnyL_norm (by simp only [Act.put, List.setIfInBounds_toArray, List.set_cons_zero, List.set_cons_succ]; rfl) ?_))
      refine wpAnyL_ready (rs := [11]) (by kernel_rfl) (by simp) ?_; refine AllReadyL.cons rfl (fun K hK => ?_) AllReadyL.nil
      go_simp
      refine (hist_lit _ _ [evA, evB, evE, evB2, evE2, evB3, evE3] [(3, 6)] HA ho11 (by decide) his11).mono ?_
      rintro e w5 ⟨va, vc, rfl, hr, hf3⟩
      refine hK.out _ _ (fun _ => ⟨hHeld.1.fr hf3 (by simp), hHeld.2.1.trans0 hf3, hHeld.2.2.1.fr hf3 (by simp), hHeld.2.2.2.fr hf3 (by simp)⟩) (fun hHeld' => ?_); have hHeld := hHeld' (by decide); clear hHeld' hK K; (try (refine wpAnyL_norm (by simp only [Act.put, List.setIfInBounds_toArray, List.set_cons_zero, List.set_cons_succ]; rfl) ?_))
      refine wpAnyL_take (i := 12) (v := ?_) rfl (by kernel_rfl) (fun _ _ _ h => h) (Or.inl ⟨by rfl, ?_⟩) (by assumption) ?_; rotate_left; (focus (intro w hSw; skip; go_simp; (try with_reducible rfl))); (try (refine wpAnyL_norm (by simp only [Act.put, List.setIfInBounds_toArray, List.set_cons_zero, List.set_cons_succ]; rfl) ?_))
      refine wpAnyL_done (by kernel_rfl) ?_ _
      go_wp2_with fail
      go_meet
      exact ⟨va, vc, rfl, hr, hHeld.2.1⟩
  obtain ⟨v12, c12, rfl, hr, hf2⟩ := hcut
  obtain ⟨w2, rfl⟩ : ∃ W : World, W = wc := ⟨_, rfl⟩
  have G := Lib.hid (G.out.fr hf2 (by simp))
  have FW := Lib.hid (FW.out.trans0 hf2)
  have A9 := Lib.hid (A9.out.fr hf2 (by simp))
  have A10 := Lib.hid (A10.out.fr hf2 (by simp))
  have R2 := Lib.hid (R2.out.fr0 hf2)
  have R3 := Lib.hid (R3.out.fr0 hf2)
  have R4 := Lib.hid (R4.out.fr0 hf2)
  have R5 := Lib.hid (R5.out.fr0 hf2)
  have R6 := Lib.hid (R6.out.fr0 hf2)
  have R7 := Lib.hid (R7.out.fr0 hf2)
  have R8 := Lib.hid (R8.out.fr0 hf2)
  have R11 := Lib.hid (R11.out.fr0 hf2)
  have R12 := Lib.hid hr
  clear hr hf2
  obtain ⟨w1, rfl⟩ : ∃ W : World, W = w2 := ⟨_, rfl⟩
  go_upto_region 12 with (fail)
  go_cut [13] from 13 to 13 (fun s wx => Out0 w1 wx s [(5, 0)])
  case first =>
    as_aux_lemma =>
      refine wp_region_L (fun W => At W g 41 (evc goodL).toArray ∧ Fr [] w1 W ∧ At W q9 41 (evl evA).toArray ∧ At W (q9 + 1) 41 (evl evD).toArray) [] (by kernel_rfl) ⟨G.out.hp rfl, (Fr.refl _ _).drew, A9.out.hp rfl, A10.out.hp rfl⟩ (fun hHeld => ?_)
      refine wpAnyL_take (i := 1) rfl (by kernel_rfl) (fun _ _ _ h => h) (yields_load_at 41 (.tmp 10) rfl ⟨q9 + 1, 0, none⟩ rfl (evl evD) _ (fun W hW => hW.2.2.2.all _ rfl) Try.underlying41 rfl infoEv rfl) (by assumption) ?_; (try (refine wpAnyL_norm (by simp only [Act.put, List.setIfInBounds_toArray, List.set_cons_zero, List.set_cons_succ]; rfl) ?_))
      refine wpAnyL_ready (rs := [0, 2]) (by kernel_rfl) (by simp) ?_
      refine AllReadyL.cons rfl (fun K hK => ?_) (AllReadyL.cons rfl (fun K hK => ?_) AllReadyL.nil)
      · go_simp
        refine (CH.out _).mono ?_
        rintro e w2 ⟨rfl, hf2⟩
        refine hK.out _ _ (fun _ => ⟨hHeld.1.fr hf2 (by simp), hHeld.2.1.trans0 hf2, hHeld.2.2.1.fr hf2 (by simp), hHeld.2.2.2.fr hf2 (by simp)⟩) (fun hHeld' => ?_); have hHeld := hHeld' (by decide); clear hHeld' hK K; (try (refine wpAnyL_norm (by simp only [Act.put, List.setIfInBounds_toArray, List.set_cons_zero, List.set_cons_succ]; rfl) ?_))
        refine wpAnyL_ready (rs := [2]) (by kernel_rfl) (by simp) ?_; refine AllReadyL.cons rfl (fun K hK => ?_) AllReadyL.nil
        go_simp
        have HA := At.new w2 41 (evc [evD]).toArray
        have hfb := (Fr.refl [] w2).alloc (.cells (evc [evD]).toArray 41)
        refine hK.out _ _ (fun _ => ⟨hHeld.1.fr hfb (by simp), hHeld.2.1.trans0 hfb, hHeld.2.2.1.fr hfb (by simp), hHeld.2.2.2.fr hfb (by simp)⟩) (fun hHeld' => ?_); have hHeld := hHeld' (by decide); clear hHeld' hK K; (try (refine wpAnyL_norm (by simp only [Act.put, List.setIfInBounds_toArray, List.set_cons_zero, List.set_cons_succ]; rfl) ?_))
        refine wpAnyL_ready (rs := [3]) (by kernel_rfl) (by simp) ?_; refine AllReadyL.cons rfl (fun K hK => ?_) AllReadyL.nil
        go_simp
        refine (hist_lit _ _ [evD] [(5, 0)] HA ho12 (by decide) his12).mono ?_
        rintro e w5 ⟨va, vc, rfl, hr, hf3⟩
        refine hK.out _ _ (fun _ => ⟨hHeld.1.fr hf3 (by simp), hHeld.2.1.trans0 hf3, hHeld.2.2.1.fr hf3 (by simp), hHeld.2.2.2.fr hf3 (by simp)⟩) (fun hHeld' => ?_); have hHeld := hHeld' (by decide); clear hHeld' hK K; (try (refine wpAnyL_norm (by simp only [Act.put, List.setIfInBounds_toArray, List.set_cons_zero, List.set_cons_succ]; rfl) ?_))
        refine wpAnyL_take (i := 4) (v := ?_) rfl (by kernel_rfl) (fun _ _ _ h => h) (Or.inl ⟨by rfl, ?_⟩) (by assumption) ?_; rotate_left; (focus (intro w hSw; skip; go_simp; (try with_reducible rfl))); (try (refine wpAnyL_norm (by simp only [Act.put, List.setIfInBounds_toArray, List.set_cons_zero, List.set_cons_succ]; rfl) ?_))
        refine wpAnyL_done (by kernel_rfl) ?_ _
        go_wp2_with fail
        go_meet
        exact ⟨va, vc, rfl, hr, hHeld.2.1⟩
      · go_simp
        have HA := At.new w1.drew 41 (evc [evD]).toArray
        have hfb := (Fr.refl [] w1.drew).alloc (.cells (evc [evD]).toArray 41)
        refine hK.out _ _ (fun _ => ⟨hHeld.1.fr hfb (by simp), hHeld.2.1.trans0 hfb, hHeld.2.2.1.fr hfb (by simp), hHeld.2.2.2.fr hfb (by simp)⟩) (fun hHeld' => ?_); have hHeld := hHeld' (by decide); clear hHeld' hK K; (try (refine wpAnyL_norm (by simp only [Act.put, List.setIfInBounds_toArray, List.set_cons_zero, List.set_cons_succ]; rfl) ?_))
        refine wpAnyL_ready (rs := [0]) (by kernel_rfl) (by simp) ?_; refine AllReadyL.cons rfl (fun K hK => ?_) AllReadyL.nil
        go_simp
        refine (CH.out _).mono ?_
        rintro e w2 ⟨rfl, hf2⟩
        refine hK.out _ _ (fun _ => ⟨hHeld.1.fr hf2 (by simp), hHeld.2.1.trans0 hf2, hHeld.2.2.1.fr hf2 (by simp), hHeld.2.2.2.fr hf2 (by simp)⟩) (fun hHeld' => ?_); have hHeld := hHeld' (by decide); clear hHeld' hK K; (try (refine wpAnyL_norm (by simp only [Act.put, List.setIfInBounds_toArray, List.set_cons_zero, List.set_cons_succ]; rfl) ?_))
        have HA := HA.fr hf2 (by simp)
        refine wpAnyL_ready (rs := [3]) (by kernel_rfl) (by simp) ?_; refine AllReadyL.cons rfl (fun K hK => ?_) AllReadyL.nil
        go_simp
        refine (hist_lit _ _ [evD] [(5, 0)] HA ho12 (by decide) his12).mono ?_
        rintro e w5 ⟨va, vc, rfl, hr, hf3⟩
        refine hK.out _ _ (fun _ => ⟨hHeld.1.fr hf3 (by simp), hHeld.2.1.trans0 hf3, hHeld.2.2.1.fr hf3 (by simp), hHeld.2.2.2.fr hf3 (by simp)⟩) (fun hHeld' => ?_); have hHeld := hHeld' (by decide); clear hHeld' hK K; (try (refine wpAnyL_norm (by simp only [Act.put, List.setIfInBounds_toArray, List.set_cons_zero, List.set_cons_succ]; rfl) ?_))
        refine wpAnyL_take (i := 4) (v := ?_) rfl (by kernel_rfl) (fun _ _ _ h => h) (Or.inl ⟨by rfl, ?_⟩) (by assumption) ?_; rotate_left; (focus (intro w hSw; skip; go_simp; (try with_reducible rfl))); (try (refine wpAnyL_norm (by simp only [Act.put, List.setIfInBounds_toArray, List.set_cons_zero, List.set_cons_succ]; rfl) ?_))
        refine wpAnyL_done (by kernel_rfl) ?_ _
        go_wp2_with fail
        go_meet
        exact ⟨va, vc, rfl, hr, hHeld.2.1⟩
  obtain ⟨v13, c13, rfl, hr, hf2⟩ := hcut
  obtain ⟨w2, rfl⟩ : ∃ W : World, W = wc := ⟨_, rfl⟩
  have G := Lib.hid (G.out.fr hf2 (by simp))
  have FW := Lib.hid (FW.out.trans0 hf2)
  have A9 := Lib.hid (A9.out.fr hf2 (by simp))
  have A10 := Lib.hid (A10.out.fr hf2 (by simp))
  have R2 := Lib.hid (R2.out.fr0 hf2)
  have R3 := Lib.hid (R3.out.fr0 hf2)
  have R4 := Lib.hid (R4.out.fr0 hf2)
  have R5 := Lib.hid (R5.out.fr0 hf2)
  have R6 := Lib.hid (R6.out.fr0 hf2)
  have R7 := Lib.hid (R7.out.fr0 hf2)
  have R8 := Lib.hid (R8.out.fr0 hf2)
  have R11 := Lib.hid (R11.out.fr0 hf2)
  have R12 := Lib.hid (R12.out.fr0 hf2)
  have R13 := Lib.hid hr
  clear hr hf2
  obtain ⟨w1, rfl⟩ : ∃ W : World, W = w2 := ⟨_, rfl⟩
  go_upto_region 13 with (fail)
  go_cut [14] from 14 to 14 (fun s wx => Out0 w1 wx s [(8, 3)])
  case first =>
    as_aux_lemma =>
      refine wp_region_L (fun W => At W g 41 (evc goodL).toArray ∧ Fr [] w1 W ∧ At W q9 41 (evl evA).toArray ∧ At W (q9 + 1) 41 (evl evD).toArray) [] (by kernel_rfl) ⟨G.out.hp rfl, (Fr.refl _ _).drew, A9.out.hp rfl, A10.out.hp rfl⟩ (fun hHeld => ?_)
      refine wpAnyL_take (i := 1) (v := ?_) rfl (by kernel_rfl) (fun _ _ _ h => h) (Or.inl ⟨by rfl, ?_⟩) (by assumption) ?_; rotate_left; (focus (intro w hSw; skip; go_simp; (try with_reducible rfl))); (try (refine wpAnyL_norm (by simp only [Act.put, List.setIfInBounds_toArray, List.set_cons_zero, List.set_cons_succ]; rfl) ?_))
      refine wpAnyL_take (i := 2) (v := ?_) rfl (by kernel_rfl) (fun _ _ _ h => h) (Or.inl ⟨by rfl, ?_⟩) (by assumption) ?_; rotate_left; (focus (intro w hSw; skip; go_simp; (try with_reducible rfl))); (try (refine wpAnyL_norm (by simp only [Act.put, List.setIfInBounds_toArray, List.set_cons_zero, List.set_cons_succ]; rfl) ?_))
      refine wpAnyL_take (i := 4) (v := ?_) rfl (by kernel_rfl) (fun _ _ _ h => h) (Or.inl ⟨by rfl, ?_⟩) (by assumption) ?_; rotate_left; (focus (intro w hSw; skip; go_simp; (try with_reducible rfl))); (try (refine wpAnyL_norm (by simp only [Act.put, List.setIfInBounds_toArray, List.set_cons_zero, List.set_cons_succ]; rfl) ?_))
      refine wpAnyL_take (i := 5) (v := ?_) rfl (by kernel_rfl) (fun _ _ _ h => h) (Or.inl ⟨by rfl, ?_⟩) (by assumption) ?_; rotate_left; (focus (intro w hSw; skip; go_simp; (try with_reducible rfl))); (try (refine wpAnyL_norm (by simp only [Act.put, List.setIfInBounds_toArray, List.set_cons_zero, List.set_cons_succ]; rfl) ?_))
      refine wpAnyL_take (i := 7) (v := ?_) rfl (by kernel_rfl) (fun _ _ _ h => h) (Or.inl ⟨by rfl, ?_⟩) (by assumption) ?_; rotate_left; (focus (intro w hSw; skip; go_simp; (try with_reducible rfl))); (try (refine wpAnyL_norm (by simp only [Act.put, List.setIfInBounds_toArray, List.set_cons_zero, List.set_cons_succ]; rfl) ?_))
      refine wpAnyL_take (i := 8) (v := ?_) rfl (by kernel_rfl) (fun _ _ _ h => h) (Or.inl ⟨by rfl, ?_⟩) (by assumption) ?_; rotate_left; (focus (intro w hSw; skip; go_simp; (try with_reducible rfl))); (try (refine wpAnyL_norm (by simp only [Act.put, List.setIfInBounds_toArray, List.set_cons_zero, List.set_cons_succ]; rfl) ?_))
      refine wpAnyL_take (i := 10) (v := ?_) rfl (by kernel_rfl) (fun _ _ _ h => h) (Or.inl ⟨by rfl, ?_⟩) (by assumption) ?_; rotate_left; (focus (intro w hSw; skip; go_simp; (try with_reducible rfl))); (try (refine wpAnyL_norm (by simp only [Act.put, List.setIfInBounds_toArray, List.set_cons_zero, List.set_cons_succ]; rfl) ?_))
      refine wpAnyL_take (i := 11) (v := ?_) rfl (by kernel_rfl) (fun _ _ _ h => h) (Or.inl ⟨by rfl, ?_⟩) (by assumption) ?_; rotate_left; (focus (intro w hSw; skip; go_simp; (try with_reducible rfl))); (try (refine wpAnyL_norm (by simp only [Act.put, List.setIfInBounds_toArray, List.set_cons_zero, List.set_cons_succ]; rfl) ?_))
      refine wpAnyL_take (i := 3) rfl (by kernel_rfl) (fun _ _ _ h => h) (yields_load_at 41 (.tmp 112) rfl ⟨g, 0, none⟩ rfl (evl evG) _ (fun W hW => at_event hW.1 0 evG rfl 0 rfl) Try.underlying41 rfl infoEv rfl) (by assumption) ?_; (try (refine wpAnyL_norm (by simp only [Act.put, List.setIfInBounds_toArray, List.set_cons_zero, List.set_cons_succ]; rfl) ?_))
      refine wpAnyL_take (i := 6) rfl (by kernel_rfl) (fun _ _ _ h => h) (yields_load_at 41 (.tmp 115) rfl ⟨g, 12, none⟩ rfl (evl evB) _ (fun W hW => at_event hW.1 2 evB rfl 12 rfl) Try.underlying41 rfl infoEv rfl) (by assumption) ?_; (try (refine wpAnyL_norm (by simp only [Act.put, List.setIfInBounds_toArray, List.set_cons_zero, List.set_cons_succ]; rfl) ?_))
      refine wpAnyL_take (i := 9) rfl (by kernel_rfl) (fun _ _ _ h => h) (yields_load_at 41 (.tmp 118) rfl ⟨g, 6, none⟩ rfl (evl evF) _ (fun W hW => at_event hW.1 1 evF rfl 6 rfl) Try.underlying41 rfl infoEv rfl) (by assumption) ?_; (try (refine wpAnyL_norm (by simp only [Act.put, List.setIfInBounds_toArray, List.set_cons_zero, List.set_cons_succ]; rfl) ?_))
      refine wpAnyL_take (i := 12) rfl (by kernel_rfl) (fun _ _ _ h => h) (yields_load_at 41 (.tmp 121) rfl ⟨g, 18, none⟩ rfl (evl evR) _ (fun W hW => at_event hW.1 3 evR rfl 18 rfl) Try.underlying41 rfl infoEv rfl) (by assumption) ?_; (try (refine wpAnyL_norm (by simp only [Act.put, List.setIfInBounds_toArray, List.set_cons_zero, List.set_cons_succ]; rfl) ?_))
      refine wpAnyL_ready (rs := [0, 13]) (by kernel_rfl) (by simp) ?_
      refine AllReadyL.cons rfl (fun K hK => ?_) (AllReadyL.cons rfl (fun K hK => ?_) AllReadyL.nil)
      · go_simp
        refine (CH.out _).mono ?_
        rintro e w2 ⟨rfl, hf2⟩
        refine hK.out _ _ (fun _ => ⟨hHeld.1.fr hf2 (by simp), hHeld.2.1.trans0 hf2, hHeld.2.2.1.fr hf2 (by simp), hHeld.2.2.2.fr hf2 (by simp)⟩) (fun hHeld' => ?_); have hHeld := hHeld' (by decide); clear hHeld' hK K; (try (refine wpAnyL_norm (by simp only [Act.put, List.setIfInBounds_toArray, List.set_cons_zero, List.set_cons_succ]; rfl) ?_))
        refine wpAnyL_ready (rs := [13]) (by kernel_rfl) (by simp) ?_; refine AllReadyL.cons rfl (fun K hK => ?_) AllReadyL.nil
        go_simp
        have HA := At.new w2 41 (evc [evG, evB, evF, evR]).toArray
        have hfb := (Fr.refl [] w2).alloc (.cells (evc [evG, evB, evF, evR]).toArray 41)
        refine hK.out _ _ (fun _ => ⟨hHeld.1.fr hfb (by simp), hHeld.2.1.trans0 hfb, hHeld.2.2.1.fr hfb (by simp), hHeld.2.2.2.fr hfb (by simp)⟩) (fun hHeld' => ?_); have hHeld := hHeld' (by decide); clear hHeld' hK K; (try (refine wpAnyL_norm (by simp only [Act.put, List.setIfInBounds_toArray, List.set_cons_zero, List.set_cons_succ]; rfl) ?_))
        refine wpAnyL_ready (rs := [14]) (by kernel_rfl) (by simp) ?_; refine AllReadyL.cons rfl (fun K hK => ?_) AllReadyL.nil
        go_simp
        refine (hist_lit _ _ [evG, evB, evF, evR] [(8, 3)] HA ho13 (by decide) his13).mono ?_
        rintro e w5 ⟨va, vc, rfl, hr, hf3⟩
        refine hK.out _ _ (fun _ => ⟨hHeld.1.fr hf3 (by simp), hHeld.2.1.trans0 hf3, hHeld.2.2.1.fr hf3 (by simp), hHeld.2.2.2.fr hf3 (by simp)⟩) (fun hHeld' => ?_); have hHeld := hHeld' (by decide); clear hHeld' hK K; (try (refine wpAnyL_norm (by simp only [Act.put, List.setIfInBounds_toArray, List.set_cons_zero, List.set_cons_succ]; rfl) ?_))
        refine wpAnyL_take (i := 15) (v := ?_) rfl (by kernel_rfl) (fun _ _ _ h => h) (Or.inl ⟨by rfl, ?_⟩) (by assumption) ?_; rotate_left; (focus (intro w hSw; skip; go_simp; (try with_reducible rfl))); (try (refine wpAnyL_norm (by simp only [Act.put, List.setIfInBounds_toArray, List.set_cons_zero, List.set_cons_succ]; rfl) ?_))
        refine wpAnyL_done (by kernel_rfl) ?_ _
        go_wp2_with fail
        go_meet
        exact ⟨va, vc, rfl, hr, hHeld.2.1⟩
      · go_simp
        have HA := At.new w1.drew 41 (evc [evG, evB, evF, evR]).toArray
        have hfb := (Fr.refl [] w1.drew).alloc (.cells (evc [evG, evB, evF, evR]).toArray 41)
        refine hK.out _ _ (fun _ => ⟨hHeld.1.fr hfb (by simp), hHeld.2.1.trans0 hfb, hHeld.2.2.1.fr hfb (by simp), hHeld.2.2.2.fr hfb (by simp)⟩) (fun hHeld' => ?_); have hHeld := hHeld' (by decide); clear hHeld' hK K; (try (refine wpAnyL_norm (by simp only [Act.put, List.setIfInBounds_toArray, List.set_cons_zero, List.set_cons_succ]; rfl) ?_))
        refine wpAnyL_ready (rs := [0]) (by kernel_rfl) (by simp) ?_; refine AllReadyL.cons rfl (fun K hK => ?_) AllReadyL.nil
        go_simp
        refine (CH.out _).mono ?_
        rintro e w2 ⟨rfl, hf2⟩
        refine hK.out _ _ (fun _ => ⟨hHeld.1.fr hf2 (by simp), hHeld.2.1.trans0 hf2, hHeld.2.2.1.fr hf2 (by simp), hHeld.2.2.2.fr hf2 (by simp)⟩) (fun hHeld' => ?_); have hHeld := hHeld' (by decide); clear hHeld' hK K; (try (refine wpAnyL_norm (by simp only [Act.put, List.setIfInBounds_toArray, List.set_cons_zero, List.set_cons_succ]; rfl) ?_))
        have HA := HA.fr hf2 (by simp)
        refine wpAnyL_ready (rs := [14]) (by kernel_rfl) (by simp) ?_; refine AllReadyL.cons rfl (fun K hK => ?_) AllReadyL.nil
        go_simp
        refine (hist_lit _ _ [evG, evB, evF, evR] [(8, 3)] HA ho13 (by decide) his13).mono ?_
        rintro e w5 ⟨va, vc, rfl, hr, hf3⟩
        refine hK.out _ _ (fun _ => ⟨hHeld.1.fr hf3 (by simp), hHeld.2.1.trans0 hf3, hHeld.2.2.1.fr hf3 (by simp), hHeld.2.2.2.fr hf3 (by simp)⟩) (fun hHeld' => ?_); have hHeld := hHeld' (by decide); clear hHeld' hK K; (try (refine wpAnyL_norm (by simp only [Act.put, List.setIfInBounds_toArray, List.set_cons_zero, List.set_cons_succ]; rfl) ?_))
        refine wpAnyL_take (i := 15) (v := ?_) rfl (by kernel_rfl) (fun _ _ _ h => h) (Or.inl ⟨by rfl, ?_⟩) (by assumption) ?_; rotate_left; (focus (intro w hSw; skip; go_simp; (try with_reducible rfl))); (try (refine wpAnyL_norm (by simp only [Act.put, List.setIfInBounds_toArray, List.set_cons_zero, List.set_cons_succ]; rfl) ?_))
        refine wpAnyL_done (by kernel_rfl) ?_ _
        go_wp2_with fail
        go_meet
        exact ⟨va, vc, rfl, hr, hHeld.2.1⟩
  obtain ⟨v14, c14, rfl, hr, hf2⟩ := hcut
  obtain ⟨w2, rfl⟩ : ∃ W : World, W = wc := ⟨_, rfl⟩
  have G := Lib.hid (G.out.fr hf2 (by simp))
  have FW := Lib.hid (FW.out.trans0 hf2)
  have A9 := Lib.hid (A9.out.fr hf2 (by simp))
  have A10 := Lib.hid (A10.out.fr hf2 (by simp))
  have R2 := Lib.hid (R2.out.fr0 hf2)
  have R3 := Lib.hid (R3.out.fr0 hf2)
  have R4 := Lib.hid (R4.out.fr0 hf2)
  have R5 := Lib.hid (R5.out.fr0 hf2)
  have R6 := Lib.hid (R6.out.fr0 hf2)
  have R7 := Lib.hid (R7.out.fr0 hf2)
  have R8 := Lib.hid (R8.out.fr0 hf2)
  have R11 := Lib.hid (R11.out.fr0 hf2)
  have R12 := Lib.hid (R12.out.fr0 hf2)
  have R13 := Lib.hid (R13.out.fr0 hf2)
  have R14 := Lib.hid hr
  clear hr hf2
  obtain ⟨w1, rfl⟩ : ∃ W : World, W = w2 := ⟨_, rfl⟩
  go_upto_region 14 with (fail)
  go_cut [15] from 15 to 15 (fun s wx => Out0 w1 wx s [(2, 0)])
  case first =>
    as_aux_lemma =>
      refine wp_region_L (fun W => At W g 41 (evc goodL).toArray ∧ Fr [] w1 W ∧ At W q9 41 (evl evA).toArray ∧ At W (q9 + 1) 41 (evl evD).toArray) [] (by kernel_rfl) ⟨G.out.hp rfl, (Fr.refl _ _).drew, A9.out.hp rfl, A10.out.hp rfl⟩ (fun hHeld => ?_)
      refine wpAnyL_take (i := 2) (v := ?_) rfl (by kernel_rfl) (fun _ _ _ h => h) (Or.inl ⟨by rfl, ?_⟩) (by assumption) ?_; rotate_left; (focus (intro w hSw; skip; go_simp; (try with_reducible rfl))); (try (refine wpAnyL_norm (by simp only [Act.put, List.setIfInBounds_toArray, List.set_cons_zero, List.set_cons_succ]; rfl) ?_))
      refine wpAnyL_take (i := 3) (v := ?_) rfl (by kernel_rfl) (fun _ _ _ h => h) (Or.inl ⟨by rfl, ?_⟩) (by assumption) ?_; rotate_left; (focus (intro w hSw; skip; go_simp; (try with_reducible rfl))); (try (refine wpAnyL_norm (by simp only [Act.put, List.setIfInBounds_toArray, List.set_cons_zero, List.set_cons_succ]; rfl) ?_))
      refine wpAnyL_take (i := 4) rfl (by kernel_rfl) (fun _ _ _ h => h) (yields_load_at 41 (.tmp 128) rfl ⟨g, 0, none⟩ rfl (evl evG) _ (fun W hW => at_event hW.1 0 evG rfl 0 rfl) Try.underlying41 rfl infoEv rfl) (by assumption) ?_; (try (refine wpAnyL_norm (by simp only [Act.put, List.setIfInBounds_toArray, List.set_cons_zero, List.set_cons_succ]; rfl) ?_))
      refine wpAnyL_ready (rs := [0]) (by kernel_rfl) (by simp) ?_; refine AllReadyL.cons rfl (fun K hK => ?_) AllReadyL.nil
      go_simp
      refine (CH.out _).mono ?_
      rintro e w2 ⟨rfl, hf2⟩
      refine hK.out _ _ (fun _ => ⟨hHeld.1.fr hf2 (by simp), hHeld.2.1.trans0 hf2, hHeld.2.2.1.fr hf2 (by simp), hHeld.2.2.2.fr hf2 (by simp)⟩) (fun hHeld' => ?_); have hHeld := hHeld' (by decide); clear hHeld' hK K; (try (refine wpAnyL_norm (by simp only [Act.put, List.setIfInBounds_toArray, List.set_cons_zero, List.set_cons_succ]; rfl) ?_))
      refine wpAnyL_ready (rs := [1]) (by kernel_rfl) (by simp) ?_; refine AllReadyL.cons rfl (fun K hK => ?_) AllReadyL.nil
      go_simp
      refine (c_evZ _).mono ?_
      rintro e w2 ⟨rfl, hf2⟩
      refine hK.out _ _ (fun _ => ⟨hHeld.1.fr hf2 (by simp), hHeld.2.1.trans0 hf2, hHeld.2.2.1.fr hf2 (by simp), hHeld.2.2.2.fr hf2 (by simp)⟩) (fun hHeld' => ?_); have hHeld := hHeld' (by decide); clear hHeld' hK K; (try (refine wpAnyL_norm (by simp only [Act.put, List.setIfInBounds_toArray, List.set_cons_zero, List.set_cons_succ]; rfl) ?_))
      refine wpAnyL_ready (rs := [5]) (by kernel_rfl) (by simp) ?_; refine AllReadyL.cons rfl (fun K hK => ?_) AllReadyL.nil
      go_simp
      have HA := At.new w2 41 (evc [evZ, evG]).toArray
      have hfb := (Fr.refl [] w2).alloc (.cells (evc [evZ, evG]).toArray 41)
      refine hK.out _ _ (fun _ => ⟨hHeld.1.fr hfb (by simp), hHeld.2.1.trans0 hfb, hHeld.2.2.1.fr hfb (by simp), hHeld.2.2.2.fr hfb (by simp)⟩) (fun hHeld' => ?_); have hHeld := hHeld' (by decide); clear hHeld' hK K; (try (refine wpAnyL_norm (by simp only [Act.put, List.setIfInBounds_toArray, List.set_cons_zero, List.set_cons_succ]; rfl) ?_))
      refine wpAnyL_ready (rs := [6]) (by kernel_rfl) (by simp) ?_; refine AllReadyL.cons rfl (fun K hK => ?_) AllReadyL.nil
      go_simp
      refine (hist_lit _ _ [evZ, evG] [(2, 0)] HA ho14 (by decide) his14).mono ?_
      rintro e w5 ⟨va, vc, rfl, hr, hf3⟩
      refine hK.out _ _ (fun _ => ⟨hHeld.1.fr hf3 (by simp), hHeld.2.1.trans0 hf3, hHeld.2.2.1.fr hf3 (by simp), hHeld.2.2.2.fr hf3 (by simp)⟩) (fun hHeld' => ?_); have hHeld := hHeld' (by decide); clear hHeld' hK K; (try (refine wpAnyL_norm (by simp only [Act.put, List.setIfInBounds_toArray, List.set_cons_zero, List.set_cons_succ]; rfl) ?_))
      refine wpAnyL_take (i := 7) (v := ?_) rfl (by kernel_rfl) (fun _ _ _ h => h) (Or.inl ⟨by rfl, ?_⟩) (by assumption) ?_; rotate_left; (focus (intro w hSw; skip; go_simp; (try with_reducible rfl))); (try (refine wpAnyL_norm (by simp only [Act.put, List.setIfInBounds_toArray, List.set_cons_zero, List.set_cons_succ]; rfl) ?_))
      refine wpAnyL_done (by kernel_rfl) ?_ _
      go_wp2_with fail
      go_meet
      exact ⟨va, vc, rfl, hr, hHeld.2.1⟩
  obtain ⟨v15, c15, rfl, hr, hf2⟩ := hcut
  obtain ⟨w2, rfl⟩ : ∃ W : World, W = wc := ⟨_, rfl⟩
  have G := Lib.hid (G.out.fr hf2 (by simp))
  have FW := Lib.hid (FW.out.trans0 hf2)
  have A9 := Lib.hid (A9.out.fr hf2 (by simp))
  have A10 := Lib.hid (A10.out.fr hf2 (by simp))
  have R2 := Lib.hid (R2.out.fr0 hf2)
  have R3 := Lib.hid (R3.out.fr0 hf2)
  have R4 := Lib.hid (R4.out.fr0 hf2)
  have R5 := Lib.hid (R5.out.fr0 hf2)
  have R6 := Lib.hid (R6.out.fr0 hf2)
  have R7 := Lib.hid (R7.out.fr0 hf2)
  have R8 := Lib.hid (R8.out.fr0 hf2)
  have R11 := Lib.hid (R11.out.fr0 hf2)
  have R12 := Lib.hid (R12.out.fr0 hf2)
  have R13 := Lib.hid (R13.out.fr0 hf2)
  have R14 := Lib.hid (R14.out.fr0 hf2)
  have R15 := Lib.hid hr
  clear hr hf2
  obtain ⟨w1, rfl⟩ : ∃ W : World, W = w2 := ⟨_, rfl⟩
  have HO := At.new w1 41 (evc [evO1, evO2, evO3]).toArray
  have hfo := (Fr.refl [] w1).alloc (.cells (evc [evO1, evO2, evO3]).toArray 41)
  have C := Lib.hid (outs_any (w1.alloc (.cells (evc [evO1, evO2, evO3]).toArray 41)) (some ⟨w1.heap.size, 0, none⟩) 3 1 [evO1, evO2, evO3] (evc_in HO) (by decide))
  clear HO
  rw [show (evc [evO1, evO2, evO3]).toArray = #[.int .i64 1, .int .i64 1, .int .u32 7, .int .u64 0, .int .u32 0, .int .u32 0, .int .i64 1, .int .i64 0, .int .u32 8, .int .u64 0, .int .u32 0, .int .u32 0, .int .i64 8, .int .i64 1, .int .u32 9, .int .u64 0, .int .u32 0, .int .u32 0] from rfl] at C
  go_wp2_with fail
  refine (C.out).mono ?_
  rintro e w2 ⟨v, rfl, ho, hf2⟩
  rw [show ots 1 [evO1, evO2, evO3] = [7] by decide] at ho
  obtain ⟨gk, ck, rfl, _, _, hgk, hck, _⟩ := own_open ho (by decide)
  have k0 : w2.cell? ⟨gk, 0, none⟩ = some (.int .u32 7) := hck 0 (by decide)
  have K0 := Lib.hid k0
  have F1 := Lib.hid (hfo.trans0 hf2)
  clear ho hck C hfo hf2 k0
  have CMk := Lib.hid makeM
  unfold cM Cp.cells at CMk
  go_wp2_with fail
  refine (CMk.out _).mono ?_
  rintro e w3 ⟨rfl, hf3⟩
  have A17 := Lib.hid (At.new w3 51 cM.cells)
  have FC := Lib.hid (hf3.alloc (.cells cM.cells 51))
  unfold cM Cp.cells at A17 FC
  go_wp2_with fail
  refine (works_any _).mono ?_
  rintro e w4 ⟨rfl, hf4⟩
  have FK := Lib.hid (FC.out.trans0 hf4)
  have F1 := Lib.hid (F1.out.trans0 FK.out)
  have A17 := Lib.hid (A17.out.fr hf4 (by simp))
  clear hf4 hf3 FC CMk
  obtain ⟨wA, rfl⟩ : ∃ W : World, W = w4 := ⟨_, rfl⟩
  have FL := Lib.hid (Fr.refl [] wA)
  have HA := At.new wA 46 (flt [(2, 1)]).toArray
  have hfa := (Fr.refl [] wA).alloc (.cells (flt [(2, 1)]).toArray 46)
  have C := Lib.hid (faultsL _ v2 c2 [(2, 1)] wA.heap.size (R2.out.fr0 ((F1.out.trans0 FL.out).trans0 hfa)) HA (by decide))
  clear HA
  rw [show (flt [(2, 1)]).toArray = #[.int .i64 2, .int .i64 1] from rfl] at C
  go_wp2_with fail
  refine (C.out).mono ?_
  rintro e wB ⟨rfl, hfB⟩
  have FL := Lib.hid (FL.out.trans0 (hfa.trans0 hfB))
  clear hfa hfB C
  obtain ⟨wA, rfl⟩ : ∃ W : World, W = wB := ⟨_, rfl⟩
  have HA := At.new wA 46 (flt [(5, 3)]).toArray
  have hfa := (Fr.refl [] wA).alloc (.cells (flt [(5, 3)]).toArray 46)
  have C := Lib.hid (faultsL _ v4 c4 [(5, 3)] wA.heap.size (R4.out.fr0 ((F1.out.trans0 FL.out).trans0 hfa)) HA (by decide))
  clear HA
  rw [show (flt [(5, 3)]).toArray = #[.int .i64 5, .int .i64 3] from rfl] at C
  go_wp2_with fail
  refine (C.out).mono ?_
  rintro e wB ⟨rfl, hfB⟩
  have FL := Lib.hid (FL.out.trans0 (hfa.trans0 hfB))
  clear hfa hfB C
  obtain ⟨wA, rfl⟩ : ∃ W : World, W = wB := ⟨_, rfl⟩
  have HA := At.new wA 46 (flt [(11, 1)]).toArray
  have hfa := (Fr.refl [] wA).alloc (.cells (flt [(11, 1)]).toArray 46)
  have C := Lib.hid (faultsL _ v5 c5 [(11, 1)] wA.heap.size (R5.out.fr0 ((F1.out.trans0 FL.out).trans0 hfa)) HA (by decide))
  clear HA
  rw [show (flt [(11, 1)]).toArray = #[.int .i64 11, .int .i64 1] from rfl] at C
  go_wp2_with fail
  refine (C.out).mono ?_
  rintro e wB ⟨rfl, hfB⟩
  have FL := Lib.hid (FL.out.trans0 (hfa.trans0 hfB))
  clear hfa hfB C
  obtain ⟨wA, rfl⟩ : ∃ W : World, W = wB := ⟨_, rfl⟩
  have HA := At.new wA 46 (flt [(6, 0)]).toArray
  have hfa := (Fr.refl [] wA).alloc (.cells (flt [(6, 0)]).toArray 46)
  have C := Lib.hid (faultsL _ v6 c6 [(6, 0)] wA.heap.size (R6.out.fr0 ((F1.out.trans0 FL.out).trans0 hfa)) HA (by decide))
  clear HA
  rw [show (flt [(6, 0)]).toArray = #[.int .i64 6, .int .i64 0] from rfl] at C
  go_wp2_with fail
  refine (C.out).mono ?_
  rintro e wB ⟨rfl, hfB⟩
  have FL := Lib.hid (FL.out.trans0 (hfa.trans0 hfB))
  clear hfa hfB C
  obtain ⟨wA, rfl⟩ : ∃ W : World, W = wB := ⟨_, rfl⟩
  have HA := At.new wA 46 (flt [(6, 0)]).toArray
  have hfa := (Fr.refl [] wA).alloc (.cells (flt [(6, 0)]).toArray 46)
  have C := Lib.hid (faultsL _ v7 c7 [(6, 0)] wA.heap.size (R7.out.fr0 ((F1.out.trans0 FL.out).trans0 hfa)) HA (by decide))
  clear HA
  rw [show (flt [(6, 0)]).toArray = #[.int .i64 6, .int .i64 0] from rfl] at C
  go_wp2_with fail
  refine (C.out).mono ?_
  rintro e wB ⟨rfl, hfB⟩
  have FL := Lib.hid (FL.out.trans0 (hfa.trans0 hfB))
  clear hfa hfB C
  obtain ⟨wA, rfl⟩ : ∃ W : World, W = wB := ⟨_, rfl⟩
  have HA := At.new wA 46 (flt [(4, 1), (4, 2)]).toArray
  have hfa := (Fr.refl [] wA).alloc (.cells (flt [(4, 1), (4, 2)]).toArray 46)
  have C := Lib.hid (faultsL _ v8 c8 [(4, 1), (4, 2)] wA.heap.size (R8.out.fr0 ((F1.out.trans0 FL.out).trans0 hfa)) HA (by decide))
  clear HA
  rw [show (flt [(4, 1), (4, 2)]).toArray = #[.int .i64 4, .int .i64 1, .int .i64 4, .int .i64 2] from rfl] at C
  go_wp2_with fail
  refine (C.out).mono ?_
  rintro e wB ⟨rfl, hfB⟩
  have FL := Lib.hid (FL.out.trans0 (hfa.trans0 hfB))
  clear hfa hfB C
  obtain ⟨wA, rfl⟩ : ∃ W : World, W = wB := ⟨_, rfl⟩
  have HA := At.new wA 46 (flt [(8, 3), (11, 4)]).toArray
  have hfa := (Fr.refl [] wA).alloc (.cells (flt [(8, 3), (11, 4)]).toArray 46)
  have C := Lib.hid (faultsL _ v11 c11 [(8, 3), (11, 4)] wA.heap.size (R11.out.fr0 ((F1.out.trans0 FL.out).trans0 hfa)) HA (by decide))
  clear HA
  rw [show (flt [(8, 3), (11, 4)]).toArray = #[.int .i64 8, .int .i64 3, .int .i64 11, .int .i64 4] from rfl] at C
  go_wp2_with fail
  refine (C.out).mono ?_
  rintro e wB ⟨rfl, hfB⟩
  have FL := Lib.hid (FL.out.trans0 (hfa.trans0 hfB))
  clear hfa hfB C
  obtain ⟨wA, rfl⟩ : ∃ W : World, W = wB := ⟨_, rfl⟩
  have HA := At.new wA 46 (flt [(3, 6)]).toArray
  have hfa := (Fr.refl [] wA).alloc (.cells (flt [(3, 6)]).toArray 46)
  have C := Lib.hid (faultsL _ v12 c12 [(3, 6)] wA.heap.size (R12.out.fr0 ((F1.out.trans0 FL.out).trans0 hfa)) HA (by decide))
  clear HA
  rw [show (flt [(3, 6)]).toArray = #[.int .i64 3, .int .i64 6] from rfl] at C
  go_wp2_with fail
  refine (C.out).mono ?_
  rintro e wB ⟨rfl, hfB⟩
  have FL := Lib.hid (FL.out.trans0 (hfa.trans0 hfB))
  clear hfa hfB C
  obtain ⟨wA, rfl⟩ : ∃ W : World, W = wB := ⟨_, rfl⟩
  have HA := At.new wA 46 (flt [(5, 0)]).toArray
  have hfa := (Fr.refl [] wA).alloc (.cells (flt [(5, 0)]).toArray 46)
  have C := Lib.hid (faultsL _ v13 c13 [(5, 0)] wA.heap.size (R13.out.fr0 ((F1.out.trans0 FL.out).trans0 hfa)) HA (by decide))
  clear HA
  rw [show (flt [(5, 0)]).toArray = #[.int .i64 5, .int .i64 0] from rfl] at C
  go_wp2_with fail
  refine (C.out).mono ?_
  rintro e wB ⟨rfl, hfB⟩
  have FL := Lib.hid (FL.out.trans0 (hfa.trans0 hfB))
  clear hfa hfB C
  obtain ⟨wA, rfl⟩ : ∃ W : World, W = wB := ⟨_, rfl⟩
  have HA := At.new wA 46 (flt [(8, 3)]).toArray
  have hfa := (Fr.refl [] wA).alloc (.cells (flt [(8, 3)]).toArray 46)
  have C := Lib.hid (faultsL _ v14 c14 [(8, 3)] wA.heap.size (R14.out.fr0 ((F1.out.trans0 FL.out).trans0 hfa)) HA (by decide))
  clear HA
  rw [show (flt [(8, 3)]).toArray = #[.int .i64 8, .int .i64 3] from rfl] at C
  go_wp2_with fail
  refine (C.out).mono ?_
  rintro e wB ⟨rfl, hfB⟩
  have FL := Lib.hid (FL.out.trans0 (hfa.trans0 hfB))
  clear hfa hfB C
  obtain ⟨wA, rfl⟩ : ∃ W : World, W = wB := ⟨_, rfl⟩
  have HA := At.new wA 46 (flt [(2, 0)]).toArray
  have hfa := (Fr.refl [] wA).alloc (.cells (flt [(2, 0)]).toArray 46)
  have C := Lib.hid (faultsL _ v15 c15 [(2, 0)] wA.heap.size (R15.out.fr0 ((F1.out.trans0 FL.out).trans0 hfa)) HA (by decide))
  clear HA
  rw [show (flt [(2, 0)]).toArray = #[.int .i64 2, .int .i64 0] from rfl] at C
  go_wp2_with fail
  refine (C.out).mono ?_
  rintro e wB ⟨rfl, hfB⟩
  have FL := Lib.hid (FL.out.trans0 (hfa.trans0 hfB))
  clear hfa hfB C
  obtain ⟨wA, rfl⟩ : ∃ W : World, W = wB := ⟨_, rfl⟩
  have k0 := ((FK.out.trans0 FL.out).cell (a := ⟨gk, 0, none⟩) hgk (by simp)).trans K0.out
  have A18 := A17.out.fr FL.out (by simp)
  have HA := At.new wA 55 hdK.l.toArray
  have HB := At.new (wA.alloc (.cells hdK.l.toArray 55)) 27 #[.int .u32 1024, .int .u32 32]
  rw [World.size_alloc] at HB
  have HA := HA.old (.cells #[.int .u32 1024, .int .u32 32] 27)
  have hfa := ((Fr.refl [] wA).alloc (.cells hdK.l.toArray 55)).alloc (.cells #[.int .u32 1024, .int .u32 32] 27)
  have C := Lib.hid (outsideK _ wA.heap.size (wA.heap.size + 1) HA HB)
  clear HA HB
  go_wp2_with (refine wpList_load_at rfl 51 (.tmp 17) rfl ⟨w3.heap.size, 0, none⟩ rfl [.int .u32 1024, .int .u8 0, .int .u16 1024, .int .u16 1088, .int .u16 1, .int .u16 0, .int .u32 0, .bool true] _ (A18.all _ rfl) Try.underlying51 rfl (infoC8 cM) ?_)
  refine (C.out).mono ?_
  rintro e wB ⟨v3, c3, rfl, r3, hfB⟩
  have FL := Lib.hid (FL.out.trans0 (hfa.trans0 hfB))
  clear hfa hfB C
  have HA := At.new wB 3 #[.int .i64 0]
  have hfa := (Fr.refl [] wB).alloc (.cells #[.int .i64 0] 3)
  have C := Lib.hid (intsZ _ v3 c3 wB.heap.size (r3.fr0 hfa) HA)
  clear HA r3
  go_wp2_with fail
  refine (C.out).mono ?_
  rintro e wC ⟨rfl, hfC⟩
  have FL := Lib.hid (FL.out.trans0 (hfa.trans0 hfC))
  clear hfa hfC C
  go_wp2_with fail
  go_ret
  exact ⟨rfl, (FW.out.trans0 F1.out).trans0 FL.out⟩
theorem laidOut : laidOutB Try.prog = true := by kernel_rfl
set_option maxRecDepth 100000 in
theorem lifted (os : Os) (started : os.Started) (H : Type) (enc : TypeId × Value → H) :
    ReturnsInHanded {} Try.checked os 9 .any (Rows.auditKnownSpec.pre6 enc Try.prog Try.f9 Rows.auditKnownRow.domain false) (Rows.auditKnownSpec.post enc Try.prog Try.f9 false true false false) := by
  refine returnsInHanded_of_change (C := Try.checked) own started (by kernel_rfl) Try.func9
    (ChangeSpec.witness6 (enc := enc) (C := Try.checked) false ⟨#[], #[], []⟩ 8 (by kernel_rfl) (by kernel_rfl) (by kernel_rfl) (by kernel_rfl)) ?_
  intro W base args ds gs before hval0 hW hcnd _
  have hval : ∀ (j : Nat) t v, Try.f9.params[j]? = some t → args[j]? = some v → Value.okWide Try.prog W .any base t v := hval0
  have hW' := hW
  obtain ⟨p, q, hA0, hV, rfl, hfz, hnd⟩ := hW
  have hA : DataW.TrodAll enc Try.prog W 0 (fun _ => true) true Try.f9.params.toList args.toList ds p := hA0
  rw [Try.params9] at hA hval
  obtain ⟨rfl, rfl, rfl⟩ := trodAll_none hA
  obtain ⟨rfl, rfl⟩ := trodVars_none hV
  clear hA0 hval0
  simp only [List.append_nil] at hW'
  refine (walk  W ).mono fun e W' ⟨he, hg⟩ => ?_
  subst he
  exact ⟨_, rfl, post_fr (pa := []) (pv := []) hW' (fun _ _ _ => (trodAll_cons_mk (shut_bool Try.underlying4 _) trodAll_mk0)) (fun sp _ => rfl) (fun _ _ => rfl) rfl
    hg (ok_one (by kernel_rfl) rfl (okWide_bool_mk Try.underlying4 _))⟩
theorem over : Rows.auditKnownRow.holds Try.pinned (OpenSpec.ofChange Rows.auditKnownSpec) :=
  OpenClaim.holds_of_wide 9 Try.f9 rfl rfl rfl rfl rfl rfl rfl ⟨rfl, rfl, rfl, rfl, rfl⟩ rfl rfl rfl rfl rfl (by kernel_rfl) Try.func9 (by kernel_rfl)
    (of_decide_eq_true (by kernel_rfl)) (by unfold Func.isWrapper; first | (rw [if_pos (by decide +kernel)]; kernel_rfl) | (rw [if_neg (by decide +kernel)]; exact ⟨rfl, rfl⟩))
    (fun os started H enc _ => lifted os started H enc)
/-- The statement, proved. -/
theorem proved : Rows.AuditKnownSaid :=
  over
end auditKnown
end Go.Proofs.Ytkbdoiefgmbikaa
