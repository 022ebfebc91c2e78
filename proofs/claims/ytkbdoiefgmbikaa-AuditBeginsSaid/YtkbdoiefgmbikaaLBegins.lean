/-
  AuditBegins: the faults of a beginning of a history are the beginning of its faults. No condition.
-/



import Derived.Test.YtkbdoiefgmbikaaIn
import Derived.Deep.CutBlock
import Derived.Deep.DeepCutAuto
import Derived.BigRegion
set_option linter.unusedVariables false
namespace Go.Proofs.Ytkbdoiefgmbikaa
open Go.ChangeShapes Go.WideShapes Go.ChangeAt Go.RowKit
namespace auditBegins
theorem prefix_faults (ha hs : Nat) (l : List Ev) (k : Nat) (hk : k ≤ l.length) : ∃ r, histF ha hs l 0 sx0 = histF ha hs (l.take k) 0 sx0 ++ r ∧ ∀ p ∈ r, k ≤ p.2 := by
  refine ⟨histF ha hs (l.drop k) (l.take k).length (histX ha hs (l.take k) 0 sx0), ?_, fun p hp => ?_⟩
  · conv => lhs; rw [← List.take_append_drop k l, histF_append]
    rw [Nat.zero_add]
  · have := (histF_at ha hs _ _ _ p hp).1
    rw [List.length_take] at this
    omega
set_option maxHeartbeats 4000000 in
set_option maxRecDepth 100000 in
theorem walk (cs : List Value) (x : Option Addr) (len cap : Nat) (z : Int) (wz : (Lit.int .u8 z).wf = true) (w : World) (wR : Fits [.i .u32, .i .u32] cs) (wE : Elems w x len [.i .i64, .i .i64, .i .u32, .i .u64, .i .u32, .i .u32] ∧ len ≤ cap ∧ cap ≤ maxLen ∧ (x = none → len = 0 ∧ cap = 0)) :
    Calls Try.prog 6 #[.agg cs.toArray, .slice x len cap, .int .u8 z] w fun e w' => e = .returned (.bool true) ∧ Fr [] w w' := by
  obtain ⟨ha, hs, rfl, b1, b2⟩ := fitsR wR
  obtain ⟨hE, hlc, hcm, hnn⟩ := wE
  obtain ⟨L0, hL0, hok0, hin0⟩ := open_evs hE
  have hz : 0 ≤ z ∧ z < 256 := by
    have h1 : IntKind.u8.min = 0 := rfl
    have h2 : IntKind.u8.max = 255 := rfl
    simp [Lit.wf, h1, h2] at wz
    omega
  obtain ⟨nz, rfl⟩ := Int.eq_ofNat_of_zero_le hz.1
  obtain ⟨m, hm⟩ : ∃ m, min len 60 = m := ⟨_, rfl⟩
  have hml : m ≤ len ∧ m ≤ 60 := by omega
  have hmc : m ≤ cap := by omega
  unfold maxLen at hcm
  go_enter Try.func6, Try.ntmps6
  go_wp2_with fail
  refine (works_any _).mono ?_
  rintro e w1 ⟨rfl, hf1⟩
  have F1 := Lib.hid ((Fr.refl [] w).alloc (.cells #[.int .u32 ha, .int .u32 hs] 27) |>.trans0 hf1)
  have A1 := Lib.hid ((At.new w 27 #[.int .u32 ha, .int .u32 hs]).fr hf1 (by simp))
  clear hf1
  go_upto_region 3 with (fail)
  go_cut [1] (fun s wx => s = .slice x m cap ∧ wx = w1)
  case first =>
    by_cases h60 : len ≤ 60
    · obtain rfl : m = len := by omega
      have h60I : ¬ (60 : Int) < (m : Int) := by omega
      go_wp2_with fail
      all_goals go_meet
      all_goals first | exact ⟨rfl, rfl⟩ | omega
    · obtain rfl : m = 60 := by omega
      have h60I : (60 : Int) < (len : Int) := by omega
      go_wp2_with fail
      all_goals go_meet
      all_goals first | exact ⟨rfl, rfl⟩ | omega
  obtain ⟨rfl, rfl⟩ := hcut
  obtain ⟨w2, rfl⟩ : ∃ W : World, W = wc := ⟨_, rfl⟩
  obtain ⟨L, hLL⟩ : ∃ L, L0.take m = L := ⟨_, rfl⟩
  have hlen : L.length = m := by rw [← hLL, List.length_take]; omega
  have hok : ∀ e ∈ L, e.Ok := fun e he => hok0 e (by rw [← hLL] at he; exact List.mem_of_mem_take he)
  have hin : EvIn w x L := by rw [← hLL]; exact hin0.take m
  obtain ⟨K, hK⟩ : ∃ K, nz % (m + 1) = K := ⟨_, rfl⟩
  have hKm : K ≤ m := by rw [← hK]; have := Nat.mod_lt nz (show 0 < m + 1 by omega); omega
  have hKI : (nz : Int) % ((m : Int) + 1) = (K : Int) := by rw [← hK]; simp
  have hKc : K ≤ cap := by omega
  obtain ⟨r, hr, hrK⟩ := prefix_faults ha hs L K (by omega)
  have hF1 := Lib.hid fun W (hW : Fr [] w W) => hist_any W ha hs b1 b2 x cap L (hin.fr0 hW) hok (by omega)
  have hF2 := Lib.hid fun W (hW : Fr [] w W) => hist_any W ha hs b1 b2 x cap (L.take K) ((hin.take K).fr0 hW) (fun e he => hok e (List.mem_of_mem_take he)) (by rw [List.length_take]; omega)
  rw [hlen] at hF1
  rw [List.length_take, hlen, Nat.min_eq_left hKm] at hF2
  obtain ⟨F, hFF⟩ : ∃ F, histF ha hs L 0 sx0 = F := ⟨_, rfl⟩
  obtain ⟨P, hPP⟩ : ∃ P, histF ha hs (L.take K) 0 sx0 = P := ⟨_, rfl⟩
  have hFl := histF_len ha hs L 0 sx0
  rw [hFF] at hr hF1 hFl
  rw [hPP] at hr hF2
  rw [hlen] at hFl
  have HRr := Lib.hid hr
  have HRK := Lib.hid hrK
  have hPl : P.length ≤ F.length := by rw [hr, List.length_append]; omega
  have HIR := Lib.hid (show (Try.prog.info? 27).map (·.size) = some 2 by kernel_rfl)
  clear hr hrK hLL hlen hok hin hK hFF hPP hE hok0 hin0 wR hL0 hm
  go_wp2_with fail
  refine wp_region_L (fun W => At W w.heap.size 27 #[.int .u32 ha, .int .u32 hs] ∧ Fr [] w W) [] (by kernel_rfl) ⟨A1.out.hp rfl, F1.out.drew⟩ (fun hHeld => ?_)
  refine wpAnyL_take (i := 0) rfl (by kernel_rfl) (fun _ _ _ h => h) (yields_load_at 27 (.tmp 3) rfl ⟨w.heap.size, 0, none⟩ rfl [.int .u32 ha, .int .u32 hs] _ (fun W hW => hW.1.two 0 _ _ rfl rfl) Try.underlying27 rfl HIR.out rfl) (by assumption) ?_; (try (refine wpAnyL_norm (by simp only [Act.put, List.setIfInBounds_toArray, List.set_cons_zero, List.set_cons_succ]; rfl) ?_))
  refine wpAnyL_take (i := 1) (v := ?_) rfl (by kernel_rfl) (fun _ _ _ h => h) (Or.inl ⟨by rfl, ?_⟩) (by assumption) ?_; rotate_left; (focus (intro w hSw; skip; go_simp; (try with_reducible rfl))); (try (refine wpAnyL_norm (by simp only [Act.put, List.setIfInBounds_toArray, List.set_cons_zero, List.set_cons_succ]; rfl) ?_))
  refine wpAnyL_take (i := 3) rfl (by kernel_rfl) (fun _ _ _ h => h) (yields_load_at 27 (.tmp 3) rfl ⟨w.heap.size, 0, none⟩ rfl [.int .u32 ha, .int .u32 hs] _ (fun W hW => hW.1.two 0 _ _ rfl rfl) Try.underlying27 rfl HIR.out rfl) (by assumption) ?_; (try (refine wpAnyL_norm (by simp only [Act.put, List.setIfInBounds_toArray, List.set_cons_zero, List.set_cons_succ]; rfl) ?_))
  refine wpAnyL_take (i := 4) (v := ?_) rfl (by kernel_rfl) (fun _ _ _ h => h) (Or.inl ⟨by rfl, ?_⟩) (by assumption) ?_; rotate_left; (focus (intro w hSw; skip; go_simp; (try with_reducible rfl))); (try (refine wpAnyL_norm (by simp only [Act.put, List.setIfInBounds_toArray, List.set_cons_zero, List.set_cons_succ]; rfl) ?_))
  refine wpAnyL_take (i := 5) (v := ?_) rfl (by kernel_rfl) (fun _ _ _ h => h) (Or.inl ⟨by rfl, ?_⟩) (by assumption) ?_; rotate_left; (focus (intro w hSw; skip; go_simp; (try with_reducible rfl))); (try (refine wpAnyL_norm (by simp only [Act.put, List.setIfInBounds_toArray, List.set_cons_zero, List.set_cons_succ]; rfl) ?_))
  refine wpAnyL_take (i := 6) (v := ?_) rfl (by kernel_rfl) (fun _ _ _ h => h) (Or.inl ⟨by rfl, ?_⟩) (by assumption) ?_; rotate_left; (focus (intro w hSw; skip; go_simp; (try with_reducible rfl))); (try (refine wpAnyL_norm (by simp only [Act.put, List.setIfInBounds_toArray, List.set_cons_zero, List.set_cons_succ]; rfl) ?_))
  refine wpAnyL_ready (rs := [2]) (by kernel_rfl) (by simp) ?_; refine AllReadyL.cons rfl (fun K hK => ?_) AllReadyL.nil
  go_simp
  refine (hF1.out _ hHeld.2).mono ?_
  rintro e w3 ⟨v1, rfl, ho1, hf3⟩
  obtain ⟨va, vc, rfl, hva⟩ := own_slice ho1
  refine hK.out _ _ (fun _ => ⟨hHeld.1.fr hf3 (by simp), hHeld.2.trans0 hf3⟩) (fun hHeld' => ?_); have hHeld := hHeld' (by decide); clear hHeld' hK K; (try (refine wpAnyL_norm (by simp only [Act.put, List.setIfInBounds_toArray, List.set_cons_zero, List.set_cons_succ]; rfl) ?_))
  refine wpAnyL_ready (rs := [7]) (by kernel_rfl) (by simp) ?_; refine AllReadyL.cons rfl (fun K hK => ?_) AllReadyL.nil
  go_simp
  refine (hF2.out _ hHeld.2).mono ?_
  rintro e w4 ⟨v2, rfl, ho2, hf4⟩
  obtain ⟨vb, vd, rfl, hvb⟩ := own_slice ho2
  refine hK.out _ _ (fun _ => ⟨hHeld.1.fr hf4 (by simp), hHeld.2.trans0 hf4⟩) (fun hHeld' => ?_); have hHeld := hHeld' (by decide); clear hHeld' hK K; (try (refine wpAnyL_norm (by simp only [Act.put, List.setIfInBounds_toArray, List.set_cons_zero, List.set_cons_succ]; rfl) ?_))
  refine wpAnyL_take (i := 8) (v := ?_) rfl (by kernel_rfl) (fun _ _ _ h => h) (Or.inl ⟨by rfl, ?_⟩) (by assumption) ?_; rotate_left; (focus (intro w hSw; skip; go_simp; (try with_reducible rfl))); (try (refine wpAnyL_norm (by simp only [Act.put, List.setIfInBounds_toArray, List.set_cons_zero, List.set_cons_succ]; rfl) ?_))
  refine wpAnyL_take (i := 9) (v := ?_) rfl (by kernel_rfl) (fun _ _ _ h => h) (Or.inl ⟨by rfl, ?_⟩) (by assumption) ?_; rotate_left; (focus (intro w hSw; skip; go_simp; (try with_reducible rfl))); (try (refine wpAnyL_norm (by simp only [Act.put, List.setIfInBounds_toArray, List.set_cons_zero, List.set_cons_succ]; rfl) ?_))
  refine wpAnyL_done (by kernel_rfl) ?_ _
  obtain ⟨a', c', e', R1⟩ := own_faults ho1
  injection e' with e1 _ e2
  subst e1 e2
  obtain ⟨a', c', e', R2⟩ := own_faults ho2
  injection e' with e1 _ e2
  subst e1 e2
  have R1 := Lib.hid (R1.fr0 hf4)
  have R2 := Lib.hid R2
  have F4 := Lib.hid hHeld.2
  have hPI : ¬ (F.length : Int) < (P.length : Int) := by omega
  have hvc2 : F.length ≤ vc := hva
  have hlo := own_len ho1
  clear ho1 ho2 hf3 hf4 hHeld hF1 hF2
  have hfr : fRow P = (fRow F).take P.length := by rw [HRr.out]; simp [fRow]
  have C := Lib.hid fun W (hW : Fr [] w4 W) => faults_any W vb va vd vc P P (R2.out.fr0 hW) (by rw [hfr]; exact (R1.out.take P.length).fr0 hW) (by unfold maxLen at hlo; omega) (by omega)
  rw [decide_eq_true rfl] at C
  go_wp2_with fail
  refine (C.out _ (Fr.refl _ _)).mono ?_
  rintro e w5 ⟨rfl, hf5⟩
  have F5 := Lib.hid (F4.out.trans0 hf5)
  cases r with
  | nil =>
    have hfp : F.length = P.length := by rw [HRr.out, List.append_nil]
    have hfpI : (P.length : Int) = (F.length : Int) := by omega
    clear hPI
    go_wp2_with fail
    go_ret
    exact ⟨by simp [hfp], F5.out⟩
  | cons q r =>
    have hlt : P.length < F.length := by rw [HRr.out, List.length_append, List.length_cons]; omega
    have hq : F[P.length]? = some q := by rw [HRr.out, List.getElem?_append_right (Nat.le_refl _), Nat.sub_self]; rfl
    have hqK := HRK.out q (by simp)
    obtain ⟨b2, o2, rfl, hb2, hc2⟩ := nowhere (R1.out.fr0 hf5) (by intro e; have := congrArg List.length e; simp [fRow] at this; subst this; simp at hlt)
    have y := hc2 P.length [.int .i64 q.1, .int .i64 q.2] (by rw [List.getElem?_map, hq]; rfl) 1 _ rfl
    rw [Go.WideShapes.add_plain] at y
    have hltI : ((P.length : Int) == (F.length : Int)) = false := by simp; omega
    have hltD : decide ((P.length : Int) = (F.length : Int)) = false := by simp; omega
    have hltI2 : (P.length : Int) < (F.length : Int) := by omega
    have hqI : (K : Int) ≤ (q.2 : Int) := by omega
    clear hc2 hq hf5 hPI
    go_wp2_with fail
    go_ret
    exact ⟨by simp, F5.out⟩
theorem laidOut : laidOutB Try.prog = true := by kernel_rfl
set_option maxRecDepth 100000 in
theorem lifted (os : Os) (started : os.Started) (H : Type) (enc : TypeId × Value → H) :
    ReturnsInHanded {} Try.checked os 6 .any (Rows.auditBeginsSpec.pre6 enc Try.prog Try.f6 Rows.auditBeginsRow.domain false) (Rows.auditBeginsSpec.post enc Try.prog Try.f6 false true false false) := by
  refine returnsInHanded_of_change (C := Try.checked) own started (by kernel_rfl) Try.func6
    (ChangeSpec.witness6 (enc := enc) (C := Try.checked) false ⟨#[], #[.agg #[.int .u32 0, .int .u32 0], .slice none 0 0, .int .u8 0], []⟩ 8 (by kernel_rfl) (by kernel_rfl) (by kernel_rfl) (by kernel_rfl)) ?_
  intro W base args ds gs before hval0 hW hcnd _
  have hval : ∀ (j : Nat) t v, Try.f6.params[j]? = some t → args[j]? = some v → Value.okWide Try.prog W .any base t v := hval0
  have hW' := hW
  obtain ⟨p, q, hA0, hV, rfl, hfz, hnd⟩ := hW
  have hA : DataW.TrodAll enc Try.prog W 0 (fun _ => true) true Try.f6.params.toList args.toList ds p := hA0
  rw [Try.params6] at hA hval
  obtain ⟨v0, vs0, d0, ds0, p0, q0, hargs, rfl, rfl, h0, r0⟩ := trodAll_cons hA
  obtain ⟨v1, vs1, d1, ds1, p1, q1, rfl, rfl, rfl, h1, r1⟩ := trodAll_cons r0
  obtain ⟨v2, vs2, d2, ds2, p2, q2, rfl, rfl, rfl, h2, r2⟩ := trodAll_cons r1
  obtain ⟨rfl, rfl, rfl⟩ := trodAll_nil r2
  obtain rfl : args = #[v0, v1, v2] := by cases args; simp_all
  obtain ⟨rfl, rfl⟩ := trodVars_none hV
  have k0 := h0
  have lt0 : ∀ x ∈ p0, x.block < W.heap.size := by obtain ⟨m, hm⟩ := k0; exact DataW.trod_lt m _ _ _ hm
  obtain ⟨cs0, rfl, w0⟩ := open_flat (n := 20) (by kernel_rfl : flat Try.prog 20 27 = some [.i .u32, .i .u32]) (by kernel_rfl) (hval 0 27 v0 rfl rfl) h0
  obtain ⟨a1, len1, cap1, rfl⟩ := okWide_slice Try.underlying36 (hval 1 36 v1 rfl rfl)
  have k1 := h1
  have lt1 : ∀ x ∈ p1, x.block < W.heap.size := by obtain ⟨m, hm⟩ := k1; exact DataW.trod_lt m _ _ _ hm
  have w1 : Elems W a1 len1 [.i .i64, .i .i64, .i .u32, .i .u64, .i .u32, .i .u32] ∧ len1 ≤ cap1 ∧ cap1 ≤ maxLen ∧ (a1 = none → len1 = 0 ∧ cap1 = 0) := by
    obtain ⟨fuel, hf⟩ := h1
    exact open_elemsc (n := 20) Try.underlying36 (by kernel_rfl : flat Try.prog 20 41 = some [.i .i64, .i .i64, .i .u32, .i .u64, .i .u32, .i .u32]) (by kernel_rfl) (by decide) hf
  obtain ⟨a2, rfl, rfl, rfl, w2⟩ := open_int Try.underlying5 (hval 2 5 v2 rfl rfl) h2
  clear hA0 hval0
  refine (walk cs0 a1 len1 cap1 a2 w2 W w0 w1).mono fun e W' ⟨he, hg⟩ => ?_
  subst he
  have bel := hg.below
  exact ⟨_, rfl, _, _, _, [], _, [], hW', trodAll_mk1 (shut_bool Try.underlying4 _), (trodAll_cons_mk (Below.trod laidOut (by kernel_rfl) (of_decide_eq_true (by kernel_rfl)) k0 bel lt0) (trodAll_cons_mk (Below.trod laidOut (by kernel_rfl) (of_decide_eq_true (by kernel_rfl)) k1 bel lt1) (trodAll_cons_mk (shut_int Try.underlying5 w2) trodAll_mk0))), rfl, bel.frame _, fun h => by cases h⟩
theorem over : Rows.auditBeginsRow.holds Try.pinned (OpenSpec.ofChange Rows.auditBeginsSpec) :=
  OpenClaim.holds_of_wide 6 Try.f6 rfl rfl rfl rfl rfl rfl rfl ⟨rfl, rfl, rfl, rfl, rfl⟩ rfl rfl rfl rfl rfl (by kernel_rfl) Try.func6 (by kernel_rfl)
    (of_decide_eq_true (by kernel_rfl)) (by unfold Func.isWrapper; first | (rw [if_pos (by decide +kernel)]; kernel_rfl) | (rw [if_neg (by decide +kernel)]; exact ⟨rfl, rfl⟩))
    (fun os started H enc _ => lifted os started H enc)
/-- The statement, proved. -/
theorem proved : Rows.AuditBeginsSaid :=
  over
end auditBegins
end Go.Proofs.Ytkbdoiefgmbikaa
