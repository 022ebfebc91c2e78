/-
  The reference's Same, of two rows of one list. Condition: the sizes that the law names.
-/



import Derived.Test.YtflhpgfnffmimaaModel
set_option linter.unusedVariables false
namespace Go.Proofs.Ytflhpgfnffmimaa
open Go.ChangeShapes Go.WideShapes Go.ChangeAt Go.RowKit
set_option maxHeartbeats 1000000 in
set_option maxRecDepth 100000 in
theorem rsame_any (w : World) (v u : Value) (l : List (Nat × Nat)) (b b' : Nat) (hv : w.ownsRow b 30 2 v l.length (rgv l)) (hu : w.ownsRow b' 30 2 u l.length (rgv l)) (hn : l.length ≤ 1000000) :
    Calls Try.prog 24 #[v, u] w fun e w' => e = .returned (.bool true) ∧ Fr [] w w' := by
  have HV := Lib.hid hv
  have HU := Lib.hid hu
  obtain ⟨va, vc, rfl, -⟩ := own_slice hv
  obtain ⟨ua, uc, rfl, -⟩ := own_slice hu
  obtain ⟨n, hn'⟩ : ∃ n, l.length = n := ⟨_, rfl⟩
  rw [hn'] at hn HV HU ⊢
  have HN := Lib.hid hn'
  clear hv hu hn'
  go_enter Try.func24, Try.ntmps24
  go_wp2_with fail
  go_loopw [5] (fun i wr => ∃ k : Nat, k ≤ n ∧ i = .int .i64 k ∧ Fr [] w wr) (fun i _ => n - (intOf i).toNat)
  case atStart => exact ⟨0, by omega, rfl, by first | exact Fr.refl _ _ | exact (by repeat (first | exact Fr.refl _ _ | assumption | refine Fr.trans0 ?_ (by assumption) | refine Fr.drewN ?_ _ | refine Fr.alloc ?_ _ | refine Fr.drew ?_))⟩
  case round =>
    obtain ⟨k, hk, rfl, hf⟩ := hrel
    have HF := Lib.hid hf
    clear hf
    by_cases h1 : k < n
    · obtain ⟨r, hr⟩ : ∃ r, l[k]? = some r := ⟨_, List.getElem?_eq_getElem (by rw [HN.out]; exact h1)⟩
      rcases rows_open HV.out with ⟨_, h0⟩ | ⟨g, cap, cur, hv, -, hA, g1, g2, g3, g4⟩
      · omega
      · rcases rows_open HU.out with ⟨_, h0⟩ | ⟨g', cap', cur', hu, -, hA', g1', g2', g3', g4'⟩
        · omega
        · injection hv with e1 e2 e3
          subst e1 e3
          injection hu with e1 e2 e3
          subst e1 e3
          have q0 := rows_at (n := n) (cap := vc) hA g4 (k * 2) 0 (.int .u32 (r.1 : Nat)) (by rw [List.getElem?_drop]; exact (rgv_get _ k r hr).1)
          have q1 := rows_at (n := n) (cap := vc) hA g4 (k * 2) 1 (.int .u32 (r.2 : Nat)) (by rw [List.getElem?_drop]; exact (rgv_get _ k r hr).2)
          have p0 := rows_at (n := n) (cap := uc) hA' g4' (k * 2) 0 (.int .u32 (r.1 : Nat)) (by rw [List.getElem?_drop]; exact (rgv_get _ k r hr).1)
          have p1 := rows_at (n := n) (cap := uc) hA' g4' (k * 2) 1 (.int .u32 (r.2 : Nat)) (by rw [List.getElem?_drop]; exact (rgv_get _ k r hr).2)
          obtain ⟨a, s⟩ := r
          dsimp only at q0 q1 p0 p1
          have Q0 := Lib.hid q0
          have Q1 := Lib.hid q1
          have P0 := Lib.hid p0
          have P1 := Lib.hid p1
          have HGL := Lib.hid hA.lt
          have HGR := Lib.hid hA'.lt
          have EQ := fun w => rg_eq (a : Int) s a s w
          simp only [decide_true, Bool.and_true] at EQ
          have hki : (k : Int) < n := by omega
          clear hr hA g1 g2 g3 g4 hA' g1' g2' g3' g4' q0 q1 p0 p1
          go_wp2_with fail
          refine wp_region_L (fun W => Fr [] wr W) [] (by kernel_rfl) (Fr.refl _ _).drew (fun hHeld => ?_)
          refine wpAnyL_take (i := 0) (v := ?_) rfl (by kernel_rfl) (fun _ _ _ h => h) (Or.inl ⟨by rfl, ?_⟩) (by assumption) ?_; rotate_left; (focus (intro w hSw; skip; go_simp; (try with_reducible rfl))); (try (refine wpAnyL_norm (by simp only [Act.put, List.setIfInBounds_toArray, List.set_cons_zero, List.set_cons_succ]; rfl) ?_))
          refine wpAnyL_take (i := 1) (v := ?_) rfl (by kernel_rfl) (fun _ _ _ h => h) (Or.inl ⟨by rfl, ?_⟩) (by assumption) ?_; rotate_left; (focus (intro w hSw; skip; go_simp; (try with_reducible rfl))); (try (refine wpAnyL_norm (by simp only [Act.put, List.setIfInBounds_toArray, List.set_cons_zero, List.set_cons_succ]; rfl) ?_))
          refine wpAnyL_take (i := 2) (v := ?_) rfl (by kernel_rfl) (fun _ _ _ h => h) (Or.inl ⟨by rfl, ?_⟩) (by assumption) ?_; rotate_left; (focus (intro w hSw; skip; go_simp; (try with_reducible rfl))); (try (refine wpAnyL_norm (by simp only [Act.put, List.setIfInBounds_toArray, List.set_cons_zero, List.set_cons_succ]; rfl) ?_))
          refine wpAnyL_take (i := 3) rfl (by kernel_rfl) (fun _ _ _ h => h) (yields_load_at 30 (.tmp 19) rfl ⟨g, k * 2, none⟩ rfl [.int .u32 a, .int .u32 s] _ (fun W h jj v hv => by
            rw [Go.WideShapes.add_plain]
            match jj, hv with
            | 0, hv => exact (((HF.out.trans0 h).cell (a := ⟨g, k * 2 + 0, none⟩) HGL.out (by simp)).trans Q0.out).trans hv
            | 1, hv => exact (((HF.out.trans0 h).cell (a := ⟨g, k * 2 + 1, none⟩) HGL.out (by simp)).trans Q1.out).trans hv) Try.underlying30 rfl infoRgS rfl) (by assumption) ?_; (try (refine wpAnyL_norm (by simp only [Act.put, List.setIfInBounds_toArray, List.set_cons_zero, List.set_cons_succ]; rfl) ?_))
          refine wpAnyL_take (i := 4) (v := ?_) rfl (by kernel_rfl) (fun _ _ _ h => h) (Or.inl ⟨by rfl, ?_⟩) (by assumption) ?_; rotate_left; (focus (intro w hSw; skip; go_simp; (try with_reducible rfl))); (try (refine wpAnyL_norm (by simp only [Act.put, List.setIfInBounds_toArray, List.set_cons_zero, List.set_cons_succ]; rfl) ?_))
          refine wpAnyL_take (i := 5) (v := ?_) rfl (by kernel_rfl) (fun _ _ _ h => h) (Or.inl ⟨by rfl, ?_⟩) (by assumption) ?_; rotate_left; (focus (intro w hSw; skip; go_simp; (try with_reducible rfl))); (try (refine wpAnyL_norm (by simp only [Act.put, List.setIfInBounds_toArray, List.set_cons_zero, List.set_cons_succ]; rfl) ?_))
          refine wpAnyL_take (i := 6) (v := ?_) rfl (by kernel_rfl) (fun _ _ _ h => h) (Or.inl ⟨by rfl, ?_⟩) (by assumption) ?_; rotate_left; (focus (intro w hSw; skip; go_simp; (try with_reducible rfl))); (try (refine wpAnyL_norm (by simp only [Act.put, List.setIfInBounds_toArray, List.set_cons_zero, List.set_cons_succ]; rfl) ?_))
          refine wpAnyL_take (i := 7) rfl (by kernel_rfl) (fun _ _ _ h => h) (yields_load_at 30 (.tmp 23) rfl ⟨g', k * 2, none⟩ rfl [.int .u32 a, .int .u32 s] _ (fun W h jj v hv => by
            rw [Go.WideShapes.add_plain]
            match jj, hv with
            | 0, hv => exact (((HF.out.trans0 h).cell (a := ⟨g', k * 2 + 0, none⟩) HGR.out (by simp)).trans P0.out).trans hv
            | 1, hv => exact (((HF.out.trans0 h).cell (a := ⟨g', k * 2 + 1, none⟩) HGR.out (by simp)).trans P1.out).trans hv) Try.underlying30 rfl infoRgS rfl) (by assumption) ?_; (try (refine wpAnyL_norm (by simp only [Act.put, List.setIfInBounds_toArray, List.set_cons_zero, List.set_cons_succ]; rfl) ?_))
          refine wpAnyL_take (i := 8) (v := ?_) rfl (by kernel_rfl) (fun _ _ _ h => h) (Or.inl ⟨by rfl, ?_⟩) (by assumption) ?_; rotate_left; (focus (intro w hSw; skip; go_simp; (try with_reducible rfl))); (try (refine wpAnyL_norm (by simp only [Act.put, List.setIfInBounds_toArray, List.set_cons_zero, List.set_cons_succ]; rfl) ?_))
          refine wpAnyL_done (by kernel_rfl) ?_ _
          have F6 := Lib.hid (HF.out.trans0 hHeld)
          clear hHeld
          go_wp2_with fail
          go_roundw
          case rel => exact ⟨k + 1, by omega, by go_num, F6.out⟩
          case measure => simp [intOf]; omega
    · obtain rfl : k = n := by omega
      go_wp2_with fail
      go_ret
      exact ⟨rfl, HF.out⟩
end Go.Proofs.Ytflhpgfnffmimaa
