/-
  The reference's common and meets. Condition: numbers in their types' ranges.
-/



import Derived.Test.YtflhpgfnffmimaaRPlain
set_option linter.unusedVariables false
namespace Go.Proofs.Ytflhpgfnffmimaa
open Go.ChangeShapes Go.WideShapes Go.ChangeAt Go.RowKit
set_option maxRecDepth 100000 in
theorem rcommon_any (w : World) (a s b t : Nat) (ha : a < 4294967296) (hs : s < 4294967296) (hb : b < 4294967296) (ht : t < 4294967296) :
    Calls Try.prog 52 #[.agg #[.int .u32 a, .int .u32 s], .agg #[.int .u32 b, .int .u32 t]] w fun e w' => e = .returned (.bool (ref16.cmn (a, s) (b, t))) ∧ Fr [] w w' := by
  have A1 := (At.new w 30 #[.int .u32 (a : Int), .int .u32 s]).old (.cells #[.int .u32 (b : Int), .int .u32 t] 30)
  have A2 := At.new (w.alloc (.cells #[.int .u32 (a : Int), .int .u32 s] 30)) 30 #[.int .u32 (b : Int), .int .u32 t]
  have c0 := A1.cell 0
  have c1 := A1.cell 1
  have d0 := A2.cell 0
  have d1 := A2.cell 1
  simp only [List.getElem?_toArray, List.getElem?_cons_zero, List.getElem?_cons_succ, World.size_alloc] at c0 c1 d0 d1
  have v1 : IntKind.u64.wrap (a : Int) = a := by simp [IntKind.wrap, IntKind.signed, IntKind.bits]; omega
  have v2 : IntKind.u64.wrap (s : Int) = s := by simp [IntKind.wrap, IntKind.signed, IntKind.bits]; omega
  have v3 : IntKind.u64.wrap (b : Int) = b := by simp [IntKind.wrap, IntKind.signed, IntKind.bits]; omega
  have v4 : IntKind.u64.wrap (t : Int) = t := by simp [IntKind.wrap, IntKind.signed, IntKind.bits]; omega
  have v5 : IntKind.u64.wrap ((a : Int) + s) = (a : Int) + s := by simp [IntKind.wrap, IntKind.signed, IntKind.bits]; omega
  have v6 : IntKind.u64.wrap ((b : Int) + t) = (b : Int) + t := by simp [IntKind.wrap, IntKind.signed, IntKind.bits]; omega
  have F2 : Fr [] w ((w.alloc (.cells #[.int .u32 (a : Int), .int .u32 s] 30)).alloc (.cells #[.int .u32 (b : Int), .int .u32 t] 30)) := (by repeat (first | exact Fr.refl _ _ | assumption | refine Fr.trans0 ?_ (by assumption) | refine Fr.drewN ?_ _ | refine Fr.alloc ?_ _ | refine Fr.drew ?_))
  have HF := Lib.hid F2
  clear A1 A2 F2 ha hs hb ht
  go_enter Try.func52, Try.ntmps52
  go_wp2_with fail
  all_goals (go_ret; refine ⟨congrArg (fun b => Ending.returned (.bool b)) ?_, HF.out⟩; unfold ref16.cmn; rw [Bool.eq_iff_iff]; simp only [decide_eq_true_eq]; omega)
theorem any_pre (l : List (Nat × Nat)) (p : Nat × Nat → Bool) (k : Nat) (q : Nat × Nat) (h : l[k]? = some q) : (l.take (k + 1)).any p = ((l.take k).any p || p q) := by
  rw [List.take_add_one, List.any_append, h]; simp
set_option maxHeartbeats 1000000 in
set_option maxRecDepth 100000 in
theorem rmeets_any (w : World) (v : Value) (l : List (Nat × Nat)) (base : Nat) (hv : w.ownsRow base 30 2 v l.length (rgv l)) (hl : ∀ q ∈ l, q.1 < 4294967296 ∧ q.2 < 4294967296) (hn : l.length ≤ 1000000) (a s : Nat) (ha : a < 4294967296) (hs : s < 4294967296) :
    Calls Try.prog 39 #[v, .agg #[.int .u32 a, .int .u32 s]] w fun e w' => e = .returned (.bool (ref16.mts l (a, s))) ∧ Fr [] w w' := by
  have A0 := Lib.hid (At.new w 30 #[.int .u32 (a : Int), .int .u32 s])
  have F0 := Lib.hid (show Fr [] w (w.alloc (.cells #[.int .u32 (a : Int), .int .u32 s] 30)) from (by repeat (first | exact Fr.refl _ _ | assumption | refine Fr.trans0 ?_ (by assumption) | refine Fr.drewN ?_ _ | refine Fr.alloc ?_ _ | refine Fr.drew ?_)))
  have HV := Lib.hid hv
  have HLB := Lib.hid hl
  obtain ⟨va, vc, rfl, -⟩ := own_slice hv
  obtain ⟨n, hn'⟩ : ∃ n, l.length = n := ⟨_, rfl⟩
  rw [hn'] at hn HV ⊢
  have HN := Lib.hid hn'
  clear hv hl hn'
  go_enter Try.func39, Try.ntmps39
  go_wp2_with fail
  obtain ⟨w3, hw3⟩ : ∃ W, w.alloc (.cells #[.int .u32 (a : Int), .int .u32 s] 30) = W := ⟨_, rfl⟩
  rw [hw3] at A0 F0 ⊢
  obtain ⟨q, hq⟩ : ∃ q, w.heap.size = q := ⟨_, rfl⟩
  rw [hq] at A0 ⊢
  clear hw3 hq
  go_loopw [5] (fun i wr => ∃ k : Nat, k ≤ n ∧ i = .int .i64 k ∧ (l.take k).any (fun q => ref16.cmn q (a, s)) = false ∧ Fr [] w wr ∧ At wr q 30 #[.int .u32 (a : Int), .int .u32 s]) (fun i _ => n - (intOf i).toNat)
  case atStart => exact ⟨0, by omega, rfl, rfl, F0.out, A0.out⟩
  case round =>
    clear A0 F0
    obtain ⟨k, hk, rfl, hno, hf, hat⟩ := hrel
    have HNO := Lib.hid hno
    have HF := Lib.hid hf
    have HA := Lib.hid hat
    clear hno hf hat
    by_cases h1 : k < n
    · obtain ⟨r, hr⟩ : ∃ r, l[k]? = some r := ⟨_, List.getElem?_eq_getElem (by rw [HN.out]; exact h1)⟩
      obtain ⟨hb1, hb2⟩ := HLB.out r (List.mem_of_getElem? hr)
      rcases rows_open HV.out with ⟨_, h0⟩ | ⟨g, cap, cur, hv, -, hA, g1, g2, g3, g4⟩
      · omega
      · injection hv with e1 e2 e3
        subst e1 e3
        have q0 := rows_at (n := n) (cap := vc) hA g4 (k * 2) 0 (.int .u32 (r.1 : Nat)) (by rw [List.getElem?_drop]; exact (rgv_get _ k r hr).1)
        have q1 := rows_at (n := n) (cap := vc) hA g4 (k * 2) 1 (.int .u32 (r.2 : Nat)) (by rw [List.getElem?_drop]; exact (rgv_get _ k r hr).2)
        have Q0 := Lib.hid q0
        have Q1 := Lib.hid q1
        have HGL := Lib.hid hA.lt
        have HAP := Lib.hid (any_pre l (fun q => ref16.cmn q (a, s)) k r hr)
        have HMR := Lib.hid (List.mem_of_getElem? hr)
        obtain ⟨b, t⟩ := r
        dsimp only at Q0 Q1 hb1 hb2
        have CC := Lib.hid fun W => rcommon_any W b t a s hb1 hb2 ha hs
        obtain ⟨B, hB⟩ : ∃ B, ref16.cmn (b, t) (a, s) = B := ⟨_, rfl⟩
        have HBB := Lib.hid hB
        simp only [hB] at CC
        have hki : (k : Int) < n := by omega
        clear hB hr hA g1 g2 g3 g4 q0 q1
        go_wp2_with fail
        refine wp_region_L (fun W => Fr [] wr W ∧ At W q 30 #[.int .u32 (a : Int), .int .u32 s]) [] (by kernel_rfl) ⟨(Fr.refl _ _).drew, HA.out.hp rfl⟩ (fun hHeld => ?_)
        refine wpAnyL_take (i := 0) (v := ?_) rfl (by kernel_rfl) (fun _ _ _ h => h) (Or.inl ⟨by rfl, ?_⟩) (by assumption) ?_; rotate_left; (focus (intro w hSw; skip; go_simp; (try with_reducible rfl))); (try (refine wpAnyL_norm (by simp only [Act.put, List.setIfInBounds_toArray, List.set_cons_zero, List.set_cons_succ]; rfl) ?_))
        refine wpAnyL_take (i := 1) (v := ?_) rfl (by kernel_rfl) (fun _ _ _ h => h) (Or.inl ⟨by rfl, ?_⟩) (by assumption) ?_; rotate_left; (focus (intro w hSw; skip; go_simp; (try with_reducible rfl))); (try (refine wpAnyL_norm (by simp only [Act.put, List.setIfInBounds_toArray, List.set_cons_zero, List.set_cons_succ]; rfl) ?_))
        refine wpAnyL_take (i := 2) (v := ?_) rfl (by kernel_rfl) (fun _ _ _ h => h) (Or.inl ⟨by rfl, ?_⟩) (by assumption) ?_; rotate_left; (focus (intro w hSw; skip; go_simp; (try with_reducible rfl))); (try (refine wpAnyL_norm (by simp only [Act.put, List.setIfInBounds_toArray, List.set_cons_zero, List.set_cons_succ]; rfl) ?_))
        refine wpAnyL_take (i := 3) rfl (by kernel_rfl) (fun _ _ _ h => h) (yields_load_at 30 (.tmp 14) rfl ⟨g, k * 2, none⟩ rfl [.int .u32 b, .int .u32 t] _ (fun W h jj v hv => by
          rw [Go.WideShapes.add_plain]
          match jj, hv with
          | 0, hv => exact (((HF.out.trans0 h.1).cell (a := ⟨g, k * 2 + 0, none⟩) HGL.out (by simp)).trans Q0.out).trans hv
          | 1, hv => exact (((HF.out.trans0 h.1).cell (a := ⟨g, k * 2 + 1, none⟩) HGL.out (by simp)).trans Q1.out).trans hv) Try.underlying30 rfl infoRgS rfl) (by assumption) ?_; (try (refine wpAnyL_norm (by simp only [Act.put, List.setIfInBounds_toArray, List.set_cons_zero, List.set_cons_succ]; rfl) ?_))
        refine wpAnyL_take (i := 4) rfl (by kernel_rfl) (fun _ _ _ h => h) (yields_load_at 30 (.tmp 3) rfl ⟨q, 0, none⟩ rfl [.int .u32 a, .int .u32 s] _ (fun W h => two_at h.2 0 _ _ rfl rfl) Try.underlying30 rfl infoRgS rfl) (by assumption) ?_; (try (refine wpAnyL_norm (by simp only [Act.put, List.setIfInBounds_toArray, List.set_cons_zero, List.set_cons_succ]; rfl) ?_))
        refine wpAnyL_ready (rs := [5]) (by kernel_rfl) (by simp) ?_; refine AllReadyL.cons rfl (fun K hK => ?_) AllReadyL.nil
        go_simp
        refine (CC.out _).mono ?_
        rintro e w6 ⟨rfl, hf6⟩
        have hh6 := And.intro (hHeld.1.trans0 hf6) (hHeld.2.fr hf6 (by simp))
        refine hK.out _ _ (fun _ => hh6) (fun hHeld' => ?_); have hHeld := hHeld' (by decide); clear hHeld' hK K; (try (refine wpAnyL_norm (by simp only [Act.put, List.setIfInBounds_toArray, List.set_cons_zero, List.set_cons_succ]; rfl) ?_))
        refine wpAnyL_done (by kernel_rfl) ?_ _
        have F6 := Lib.hid (HF.out.trans0 hHeld.1)
        have A6 := Lib.hid hHeld.2
        cases B with
        | true =>
          have HR := Lib.hid (show ref16.mts l (a, s) = true from List.any_eq_true.2 ⟨_, HMR.out, HBB.out⟩)
          go_wp2_with fail
          go_ret
          exact ⟨by rw [HR.out]; rfl, F6.out⟩
        | false =>
          go_wp2_with fail
          go_roundw
          case rel => exact ⟨k + 1, by omega, by go_num, by rw [HAP.out, HNO.out, HBB.out]; rfl, F6.out, A6.out⟩
          case measure => simp [intOf]; omega
    · obtain rfl : k = n := by omega
      have HR := Lib.hid (show ref16.mts l (a, s) = false by have := HNO.out; rw [← HN.out, List.take_length] at this; exact this)
      go_wp2_with fail
      go_ret
      exact ⟨by rw [HR.out]; rfl, HF.out⟩
end Go.Proofs.Ytflhpgfnffmimaa
