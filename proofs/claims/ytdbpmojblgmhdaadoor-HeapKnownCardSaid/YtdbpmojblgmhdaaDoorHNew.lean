/-
  New: the heap of a region. Condition: numbers in their types' ranges.
-/



import Derived.Test.YtdbpmojblgmhdaaDoorHRest
import Derived.Carry
set_option linter.unusedVariables false
namespace Go.Proofs.YtdbpmojblgmhdaaDoor
open Go.ChangeShapes Go.WideShapes Go.ChangeAt Go.RowKit
theorem hnew_bad (w : World) (r : Rg) (hr : Ok32 r) (hb : r.1 % 256 ≠ 0 ∨ r.2 % 256 ≠ 0 ∨ r.2 = 0) : Calls Tryd.prog 8 #[.agg #[.int .u32 r.1, .int .u32 r.2]] w fun e w' => e = .returned (.tuple #[.pointer none, .int .i64 2]) ∧ Fr [] w w' := by
  obtain ⟨r1, r2⟩ := r
  unfold Ok32 at hr
  dsimp only at hr hb ⊢
  by_cases h1 : r1 % 256 = 0
  · have q1 : (r1 : Int) % 256 = 0 := by omega
    by_cases h2 : r2 % 256 = 0
    · have q2 : (r2 : Int) = 0 := by omega
      clear hb h1 h2
      go_enter Tryd.func8, Tryd.ntmps8
      go_wp2
      all_goals (go_ret2; exact ⟨rfl, (by repeat (first | exact Fr.refl _ _ | assumption | refine Fr.trans0 ?_ (by assumption) | refine Fr.drewN ?_ _ | refine Fr.alloc ?_ _ | refine Fr.drew ?_))⟩)
    · have q2 : ((r2 : Int) % 256 == 0) = false := by simp; omega
      clear hb h1 h2
      go_enter Tryd.func8, Tryd.ntmps8
      go_wp2
      all_goals (go_ret2; exact ⟨rfl, (by repeat (first | exact Fr.refl _ _ | assumption | refine Fr.trans0 ?_ (by assumption) | refine Fr.drewN ?_ _ | refine Fr.alloc ?_ _ | refine Fr.drew ?_))⟩)
  · have q1 : ((r1 : Int) % 256 == 0) = false := by simp; omega
    clear hb h1
    go_enter Tryd.func8, Tryd.ntmps8
    go_wp2
    all_goals (go_ret2; exact ⟨rfl, (by repeat (first | exact Fr.refl _ _ | assumption | refine Fr.trans0 ?_ (by assumption) | refine Fr.drewN ?_ _ | refine Fr.alloc ?_ _ | refine Fr.drew ?_))⟩)
theorem hnew_long (w : World) (r : Rg) (hr : Ok32 r) (h1 : r.1 % 256 = 0) (h2 : r.2 % 256 = 0) (h3 : 0 < r.2) (h4 : 262144 < r.1 + r.2) : Calls Tryd.prog 8 #[.agg #[.int .u32 r.1, .int .u32 r.2]] w fun e w' => e = .returned (.tuple #[.pointer none, .int .i64 3]) ∧ Fr [] w w' := by
  obtain ⟨r1, r2⟩ := r
  unfold Ok32 at hr
  dsimp only at hr h1 h2 h3 h4 ⊢
  have q1 : (r1 : Int) % 256 = 0 := by omega
  have q2 : (r2 : Int) % 256 = 0 := by omega
  have q3 : ((r2 : Int) == 0) = false := by simp; omega
  have q4 : (262144 : Int) < (r1 : Int) + r2 := by omega
  clear h1 h2 h3 h4
  go_enter Tryd.func8, Tryd.ntmps8
  go_wp2
  go_ret2
  exact ⟨rfl, (by repeat (first | exact Fr.refl _ _ | assumption | refine Fr.trans0 ?_ (by assumption) | refine Fr.drewN ?_ _ | refine Fr.alloc ?_ _ | refine Fr.drew ?_))⟩
/-- What lies new after the first region. -/
def Nw (w : World) (r1 r2 : Nat) (pp pt pg m1 m2 hp : Nat) (W : World) : Prop :=
  Pl W pp pt pg 1024 (fun _ => false) ∧ Ms W m1 [] ∧ Ms W m2 [] ∧ At W hp 55 #[.int .u32 r1, .int .u32 r2, .pointer (some ⟨pp, 0, none⟩), .pointer none, .pointer none, .pointer none, .pointer none, .pointer none, .map (some m1), .map (some m2)] ∧
    At W w.heap.size 31 #[.int .u32 r1, .int .u32 r2] ∧ [hp, pp, pt, pg, m1, m2].Nodup ∧ (w.heap.size < hp ∧ w.heap.size < pp ∧ w.heap.size < pt ∧ w.heap.size < pg ∧ w.heap.size < m1 ∧ w.heap.size < m2) ∧ Fr [] w W
theorem ms_at {w0 W : World} {m : Nat} (h : m = w0.heap.size) (f : Fr [] (w0.alloc (.map #[] 0)) W) : Ms W m [] := by
  subst h; exact (Ms.made w0).fr0 f
theorem at_new {w0 : World} {k : Nat} {t : TypeId} {cs : Array Value} (h : k = w0.heap.size) : At (w0.alloc (.cells cs t)) k t cs := by
  subst h; exact At.new _ _ _
set_option maxHeartbeats 2000000 in
set_option maxRecDepth 100000 in
theorem hnew_any (w : World) (r : Rg) (h1 : r.1 % 256 = 0) (h2 : r.2 % 256 = 0) (h3 : 0 < r.2) (h4 : r.1 + r.2 ≤ 262144) : Calls Tryd.prog 8 #[.agg #[.int .u32 r.1, .int .u32 r.2]] w fun e w' => ∃ I, e = .returned (.tuple #[.pointer (some ⟨I.hp, 0, none⟩), .int .i64 0]) ∧ Hp w' I r [] [] ∧ (∀ k ∈ I.foot, w.heap.size ≤ k) ∧ Fr [] w w' := by
  obtain ⟨r1, r2⟩ := r
  dsimp only at h1 h2 h3 h4 ⊢
  have q1 : (r1 : Int) % 256 = 0 := by omega
  have q2 : (r2 : Int) % 256 = 0 := by omega
  have q3 : ((r2 : Int) == 0) = false := by simp; omega
  have q4 : (r1 : Int) + r2 ≤ 262144 := by omega
  have v1 : IntKind.u64.wrap (r1 : Int) = r1 := by simp [IntKind.wrap, IntKind.signed, IntKind.bits]; omega
  have v2 : IntKind.u64.wrap (r2 : Int) = r2 := by simp [IntKind.wrap, IntKind.signed, IntKind.bits]; omega
  have v3 : IntKind.u64.wrap ((r1 : Int) + r2) = (r1 : Int) + r2 := by simp [IntKind.wrap, IntKind.signed, IntKind.bits]; omega
  have hf0 : Fr [] w (w.alloc (.cells #[.int .u32 r1, .int .u32 r2] 31)) := (by repeat (first | exact Fr.refl _ _ | assumption | refine Fr.trans0 ?_ (by assumption) | refine Fr.drewN ?_ _ | refine Fr.alloc ?_ _ | refine Fr.drew ?_))
  have A0 := Lib.hid (At.new w 31 #[.int .u32 r1, .int .u32 r2])
  have HF0 := Lib.hid hf0
  have HH := Lib.hid (And.intro h1 (And.intro h2 (And.intro h3 h4)))
  clear hf0 h1 h2 h3 h4
  go_enter Tryd.func8, Tryd.ntmps8
  go_wp2_with fail
  have CPN := Lib.hid fun W => pnew_any 1024 W (by omega)
  have hmm := @run_makeMap Tryd.prog
  refine wp_mono (Q := fun e a' W => match e with | .normal => ∃ pp pt pg m1 m2 hp, a' = { tmps := #[Value.agg #[Value.int IntKind.u32 (r1 : Int), Value.int IntKind.u32 (r2 : Int)], Value.pointer (some ⟨w.heap.size, 0, none⟩), Value.pointer none, Value.int IntKind.i64 0, Value.pointer (some ⟨hp, 0, none⟩), undef, Value.bool false, Value.pointer (some ⟨w.heap.size, 0, none⟩), Value.int IntKind.u32 (r1 : Int), Value.int IntKind.u32 0, Value.bool false, Value.bool false, Value.pointer (some ⟨w.heap.size, 1, none⟩), Value.int IntKind.u32 (r2 : Int), Value.int IntKind.u32 0, Value.bool false, Value.bool false, Value.bool false, Value.pointer (some ⟨w.heap.size, 1, none⟩), Value.int IntKind.u32 (r2 : Int), Value.bool false, Value.bool false, Value.bool (decide (262144 < (r1 : Int) + (r2 : Int))), Value.pointer (some ⟨w.heap.size, 0, none⟩), Value.int IntKind.u32 (r1 : Int), Value.int IntKind.u64 (r1 : Int), Value.pointer (some ⟨w.heap.size, 1, none⟩), Value.int IntKind.u32 (r2 : Int), Value.int IntKind.u64 (r2 : Int), Value.int IntKind.u64 ((r1 : Int) + (r2 : Int)), Value.bool (decide (262144 < (r1 : Int) + (r2 : Int))), Value.agg #[Value.int IntKind.u32 (r1 : Int), Value.int IntKind.u32 (r2 : Int)], Value.pointer (some ⟨pp, 0, none⟩), Value.map (some m1), Value.map (some m2), Value.agg #[Value.int IntKind.u32 (r1 : Int), Value.int IntKind.u32 (r2 : Int), Value.pointer (some ⟨pp, 0, none⟩), Value.pointer none, Value.pointer none, Value.pointer none, Value.pointer none, Value.pointer none, Value.map (some m1), Value.map (some m2)], Value.pointer (some ⟨hp, 0, none⟩), undef, undef, undef, undef, undef, undef, undef, undef, undef, undef, undef, undef, undef, undef, undef, undef, undef, undef, undef, undef, undef, undef, undef, undef, undef, undef, undef, undef], defers := [] } ∧ Nw w r1 r2 pp pt pg m1 m2 hp W | _ => False) ?_ ?_
  · refine wp_region_L (fun W => At W w.heap.size 31 #[.int .u32 r1, .int .u32 r2]) [] (by kernel_rfl) (A0.out.hp rfl) fun hHeld => ?_
    refine wpAnyL_take (i := 0) rfl (by kernel_rfl) (fun _ _ _ h => h) (yields_load_at 31 (.tmp 1) rfl ⟨w.heap.size, 0, none⟩ rfl [.int .u32 r1, .int .u32 r2] _ (fun W h => two_cells h) Tryd.underlying31 rfl infoRgS rfl) (by assumption) ?_; (try (refine wpAnyL_norm (by simp only [Act.put, List.setIfInBounds_toArray, List.set_cons_zero, List.set_cons_succ]; rfl) ?_))
    refine wpAnyL_ready (rs := [1, 2, 3]) (by kernel_rfl) (by simp) ?_
    refine AllReadyL.cons rfl (fun K hK => ?_) (AllReadyL.cons rfl (fun K hK => ?_) (AllReadyL.cons rfl (fun K hK => ?_) AllReadyL.nil))
    · go_simp; refine (CPN.out _).mono ?_; rintro e W1 ⟨pp, pt, pg, rfl, hpl, g1, g2, g3, hf1⟩; refine hK.out _ _ (fun _ => hHeld.fr hf1 (by simp)) (fun hHeld' => ?_); have hHeld := hHeld' (by decide); clear hHeld' hK K; (try (refine wpAnyL_norm (by simp only [Act.put, List.setIfInBounds_toArray, List.set_cons_zero, List.set_cons_succ]; rfl) ?_))
      refine wpAnyL_ready (rs := [2, 3]) (by kernel_rfl) (by simp) ?_
      refine AllReadyL.cons rfl (fun K hK => ?_) (AllReadyL.cons rfl (fun K hK => ?_) AllReadyL.nil)
      · go_simp; refine hK.out _ _ (fun _ => hHeld.old _) (fun hHeld' => ?_); have hHeld := hHeld' (by decide); clear hHeld' hK K; (try (refine wpAnyL_norm (by simp only [Act.put, List.setIfInBounds_toArray, List.set_cons_zero, List.set_cons_succ]; rfl) ?_))
        refine wpAnyL_ready (rs := [3]) (by kernel_rfl) (by simp) ?_; refine AllReadyL.cons rfl (fun K hK => ?_) AllReadyL.nil
        go_simp; refine hK.out _ _ (fun _ => hHeld.old _) (fun hHeld' => ?_); have hHeld := hHeld' (by decide); clear hHeld' hK K; (try (refine wpAnyL_norm (by simp only [Act.put, List.setIfInBounds_toArray, List.set_cons_zero, List.set_cons_succ]; rfl) ?_))
        (refine wpAnyL_take (i := 4) (v := ?_) rfl (by kernel_rfl) (fun _ _ _ h => h) (Or.inl ⟨by rfl, ?_⟩) (by assumption) ?_; rotate_left; (focus (intro w hSw; skip; go_simp; (try with_reducible rfl))); (try (refine wpAnyL_norm (by simp only [Act.put, List.setIfInBounds_toArray, List.set_cons_zero, List.set_cons_succ]; rfl) ?_))); (refine wpAnyL_ready (rs := [5]) (by kernel_rfl) (by simp) ?_; refine AllReadyL.cons rfl (fun K hK => ?_) AllReadyL.nil); go_simp; (refine hK.out _ _ (fun _ => hHeld.old _) (fun hHeld' => ?_); have hHeld := hHeld' (by decide); clear hHeld' hK K; (try (refine wpAnyL_norm (by simp only [Act.put, List.setIfInBounds_toArray, List.set_cons_zero, List.set_cons_succ]; rfl) ?_))); (refine wpAnyL_take (i := 6) (v := ?_) rfl (by kernel_rfl) (fun _ _ _ h => h) (Or.inl ⟨by rfl, ?_⟩) (by assumption) ?_; rotate_left; (focus (intro w hSw; skip; go_simp; (try with_reducible rfl))); (try (refine wpAnyL_norm (by simp only [Act.put, List.setIfInBounds_toArray, List.set_cons_zero, List.set_cons_succ]; rfl) ?_))); (refine wpAnyL_done (by kernel_rfl) ?_ _)
        have l1 := hpl.1.lt; have l2 := hpl.2.1.lt; have l3 := hpl.2.1.1; have l4 := hf1.size; have l5 := hpl.2.2; (try simp only [World.size_alloc, World.size_drew] at l1 l2 l4 g1 g2 g3); refine ⟨pp, pt, pg, _, _, _, rfl, hpl.fr (S := []) (by repeat (first | exact Fr.refl _ _ | exact HF0.out | refine Fr.drew ?_ | refine Fr.alloc ?_ _ | refine Fr.trans0 ?_ hf1)) (by simp) (by simp) (by simp), ms_at (w0 := W1) (by first | rfl | simp) (by repeat (first | exact Fr.refl _ _ | exact HF0.out | refine Fr.drew ?_ | refine Fr.alloc ?_ _ | refine Fr.trans0 ?_ hf1)), ms_at (w0 := (W1.alloc (.map #[] 0))) (by first | rfl | simp) (by repeat (first | exact Fr.refl _ _ | exact HF0.out | refine Fr.drew ?_ | refine Fr.alloc ?_ _ | refine Fr.trans0 ?_ hf1)), at_new (by first | rfl | simp), hHeld, ?_, ?_, ?_⟩; ((try simp [World.size_alloc, World.size_drew]); omega); ((try simp [World.size_alloc, World.size_drew]); omega); (have HF := HF0.out; exact (by repeat (first | exact Fr.refl _ _ | exact HF0.out | refine Fr.drew ?_ | refine Fr.alloc ?_ _ | refine Fr.trans0 ?_ hf1)))
      · go_simp; refine hK.out _ _ (fun _ => hHeld.old _) (fun hHeld' => ?_); have hHeld := hHeld' (by decide); clear hHeld' hK K; (try (refine wpAnyL_norm (by simp only [Act.put, List.setIfInBounds_toArray, List.set_cons_zero, List.set_cons_succ]; rfl) ?_))
        refine wpAnyL_ready (rs := [2]) (by kernel_rfl) (by simp) ?_; refine AllReadyL.cons rfl (fun K hK => ?_) AllReadyL.nil
        go_simp; refine hK.out _ _ (fun _ => hHeld.old _) (fun hHeld' => ?_); have hHeld := hHeld' (by decide); clear hHeld' hK K; (try (refine wpAnyL_norm (by simp only [Act.put, List.setIfInBounds_toArray, List.set_cons_zero, List.set_cons_succ]; rfl) ?_))
        (refine wpAnyL_take (i := 4) (v := ?_) rfl (by kernel_rfl) (fun _ _ _ h => h) (Or.inl ⟨by rfl, ?_⟩) (by assumption) ?_; rotate_left; (focus (intro w hSw; skip; go_simp; (try with_reducible rfl))); (try (refine wpAnyL_norm (by simp only [Act.put, List.setIfInBounds_toArray, List.set_cons_zero, List.set_cons_succ]; rfl) ?_))); (refine wpAnyL_ready (rs := [5]) (by kernel_rfl) (by simp) ?_; refine AllReadyL.cons rfl (fun K hK => ?_) AllReadyL.nil); go_simp; (refine hK.out _ _ (fun _ => hHeld.old _) (fun hHeld' => ?_); have hHeld := hHeld' (by decide); clear hHeld' hK K; (try (refine wpAnyL_norm (by simp only [Act.put, List.setIfInBounds_toArray, List.set_cons_zero, List.set_cons_succ]; rfl) ?_))); (refine wpAnyL_take (i := 6) (v := ?_) rfl (by kernel_rfl) (fun _ _ _ h => h) (Or.inl ⟨by rfl, ?_⟩) (by assumption) ?_; rotate_left; (focus (intro w hSw; skip; go_simp; (try with_reducible rfl))); (try (refine wpAnyL_norm (by simp only [Act.put, List.setIfInBounds_toArray, List.set_cons_zero, List.set_cons_succ]; rfl) ?_))); (refine wpAnyL_done (by kernel_rfl) ?_ _)
        have l1 := hpl.1.lt; have l2 := hpl.2.1.lt; have l3 := hpl.2.1.1; have l4 := hf1.size; have l5 := hpl.2.2; (try simp only [World.size_alloc, World.size_drew] at l1 l2 l4 g1 g2 g3); refine ⟨pp, pt, pg, _, _, _, rfl, hpl.fr (S := []) (by repeat (first | exact Fr.refl _ _ | exact HF0.out | refine Fr.drew ?_ | refine Fr.alloc ?_ _ | refine Fr.trans0 ?_ hf1)) (by simp) (by simp) (by simp), ms_at (w0 := (W1.alloc (.map #[] 0))) (by first | rfl | simp) (by repeat (first | exact Fr.refl _ _ | exact HF0.out | refine Fr.drew ?_ | refine Fr.alloc ?_ _ | refine Fr.trans0 ?_ hf1)), ms_at (w0 := W1) (by first | rfl | simp) (by repeat (first | exact Fr.refl _ _ | exact HF0.out | refine Fr.drew ?_ | refine Fr.alloc ?_ _ | refine Fr.trans0 ?_ hf1)), at_new (by first | rfl | simp), hHeld, ?_, ?_, ?_⟩; ((try simp [World.size_alloc, World.size_drew]); omega); ((try simp [World.size_alloc, World.size_drew]); omega); (have HF := HF0.out; exact (by repeat (first | exact Fr.refl _ _ | exact HF0.out | refine Fr.drew ?_ | refine Fr.alloc ?_ _ | refine Fr.trans0 ?_ hf1)))
    · go_simp; refine hK.out _ _ (fun _ => hHeld.old _) (fun hHeld' => ?_); have hHeld := hHeld' (by decide); clear hHeld' hK K; (try (refine wpAnyL_norm (by simp only [Act.put, List.setIfInBounds_toArray, List.set_cons_zero, List.set_cons_succ]; rfl) ?_))
      refine wpAnyL_ready (rs := [1, 3]) (by kernel_rfl) (by simp) ?_
      refine AllReadyL.cons rfl (fun K hK => ?_) (AllReadyL.cons rfl (fun K hK => ?_) AllReadyL.nil)
      · go_simp; refine (CPN.out _).mono ?_; rintro e W1 ⟨pp, pt, pg, rfl, hpl, g1, g2, g3, hf1⟩; refine hK.out _ _ (fun _ => hHeld.fr hf1 (by simp)) (fun hHeld' => ?_); have hHeld := hHeld' (by decide); clear hHeld' hK K; (try (refine wpAnyL_norm (by simp only [Act.put, List.setIfInBounds_toArray, List.set_cons_zero, List.set_cons_succ]; rfl) ?_))
        refine wpAnyL_ready (rs := [3]) (by kernel_rfl) (by simp) ?_; refine AllReadyL.cons rfl (fun K hK => ?_) AllReadyL.nil
        go_simp; refine hK.out _ _ (fun _ => hHeld.old _) (fun hHeld' => ?_); have hHeld := hHeld' (by decide); clear hHeld' hK K; (try (refine wpAnyL_norm (by simp only [Act.put, List.setIfInBounds_toArray, List.set_cons_zero, List.set_cons_succ]; rfl) ?_))
        (refine wpAnyL_take (i := 4) (v := ?_) rfl (by kernel_rfl) (fun _ _ _ h => h) (Or.inl ⟨by rfl, ?_⟩) (by assumption) ?_; rotate_left; (focus (intro w hSw; skip; go_simp; (try with_reducible rfl))); (try (refine wpAnyL_norm (by simp only [Act.put, List.setIfInBounds_toArray, List.set_cons_zero, List.set_cons_succ]; rfl) ?_))); (refine wpAnyL_ready (rs := [5]) (by kernel_rfl) (by simp) ?_; refine AllReadyL.cons rfl (fun K hK => ?_) AllReadyL.nil); go_simp; (refine hK.out _ _ (fun _ => hHeld.old _) (fun hHeld' => ?_); have hHeld := hHeld' (by decide); clear hHeld' hK K; (try (refine wpAnyL_norm (by simp only [Act.put, List.setIfInBounds_toArray, List.set_cons_zero, List.set_cons_succ]; rfl) ?_))); (refine wpAnyL_take (i := 6) (v := ?_) rfl (by kernel_rfl) (fun _ _ _ h => h) (Or.inl ⟨by rfl, ?_⟩) (by assumption) ?_; rotate_left; (focus (intro w hSw; skip; go_simp; (try with_reducible rfl))); (try (refine wpAnyL_norm (by simp only [Act.put, List.setIfInBounds_toArray, List.set_cons_zero, List.set_cons_succ]; rfl) ?_))); (refine wpAnyL_done (by kernel_rfl) ?_ _)
        have l1 := hpl.1.lt; have l2 := hpl.2.1.lt; have l3 := hpl.2.1.1; have l4 := hf1.size; have l5 := hpl.2.2; (try simp only [World.size_alloc, World.size_drew] at l1 l2 l4 g1 g2 g3); refine ⟨pp, pt, pg, _, _, _, rfl, hpl.fr (S := []) (by repeat (first | exact Fr.refl _ _ | exact HF0.out | refine Fr.drew ?_ | refine Fr.alloc ?_ _ | refine Fr.trans0 ?_ hf1)) (by simp) (by simp) (by simp), ms_at (w0 := (w.alloc (.cells #[.int .u32 r1, .int .u32 r2] 31)).drew) (by first | rfl | simp) (by repeat (first | exact Fr.refl _ _ | exact HF0.out | refine Fr.drew ?_ | refine Fr.alloc ?_ _ | refine Fr.trans0 ?_ hf1)), ms_at (w0 := W1) (by first | rfl | simp) (by repeat (first | exact Fr.refl _ _ | exact HF0.out | refine Fr.drew ?_ | refine Fr.alloc ?_ _ | refine Fr.trans0 ?_ hf1)), at_new (by first | rfl | simp), hHeld, ?_, ?_, ?_⟩; ((try simp [World.size_alloc, World.size_drew]); omega); ((try simp [World.size_alloc, World.size_drew]); omega); (have HF := HF0.out; exact (by repeat (first | exact Fr.refl _ _ | exact HF0.out | refine Fr.drew ?_ | refine Fr.alloc ?_ _ | refine Fr.trans0 ?_ hf1)))
      · go_simp; refine hK.out _ _ (fun _ => hHeld.old _) (fun hHeld' => ?_); have hHeld := hHeld' (by decide); clear hHeld' hK K; (try (refine wpAnyL_norm (by simp only [Act.put, List.setIfInBounds_toArray, List.set_cons_zero, List.set_cons_succ]; rfl) ?_))
        refine wpAnyL_ready (rs := [1]) (by kernel_rfl) (by simp) ?_; refine AllReadyL.cons rfl (fun K hK => ?_) AllReadyL.nil
        go_simp; refine (CPN.out _).mono ?_; rintro e W1 ⟨pp, pt, pg, rfl, hpl, g1, g2, g3, hf1⟩; refine hK.out _ _ (fun _ => hHeld.fr hf1 (by simp)) (fun hHeld' => ?_); have hHeld := hHeld' (by decide); clear hHeld' hK K; (try (refine wpAnyL_norm (by simp only [Act.put, List.setIfInBounds_toArray, List.set_cons_zero, List.set_cons_succ]; rfl) ?_))
        (refine wpAnyL_take (i := 4) (v := ?_) rfl (by kernel_rfl) (fun _ _ _ h => h) (Or.inl ⟨by rfl, ?_⟩) (by assumption) ?_; rotate_left; (focus (intro w hSw; skip; go_simp; (try with_reducible rfl))); (try (refine wpAnyL_norm (by simp only [Act.put, List.setIfInBounds_toArray, List.set_cons_zero, List.set_cons_succ]; rfl) ?_))); (refine wpAnyL_ready (rs := [5]) (by kernel_rfl) (by simp) ?_; refine AllReadyL.cons rfl (fun K hK => ?_) AllReadyL.nil); go_simp; (refine hK.out _ _ (fun _ => hHeld.old _) (fun hHeld' => ?_); have hHeld := hHeld' (by decide); clear hHeld' hK K; (try (refine wpAnyL_norm (by simp only [Act.put, List.setIfInBounds_toArray, List.set_cons_zero, List.set_cons_succ]; rfl) ?_))); (refine wpAnyL_take (i := 6) (v := ?_) rfl (by kernel_rfl) (fun _ _ _ h => h) (Or.inl ⟨by rfl, ?_⟩) (by assumption) ?_; rotate_left; (focus (intro w hSw; skip; go_simp; (try with_reducible rfl))); (try (refine wpAnyL_norm (by simp only [Act.put, List.setIfInBounds_toArray, List.set_cons_zero, List.set_cons_succ]; rfl) ?_))); (refine wpAnyL_done (by kernel_rfl) ?_ _)
        have l1 := hpl.1.lt; have l2 := hpl.2.1.lt; have l3 := hpl.2.1.1; have l4 := hf1.size; have l5 := hpl.2.2; (try simp only [World.size_alloc, World.size_drew] at l1 l2 l4 g1 g2 g3); refine ⟨pp, pt, pg, _, _, _, rfl, hpl.fr (S := []) (by repeat (first | exact Fr.refl _ _ | exact HF0.out | refine Fr.drew ?_ | refine Fr.alloc ?_ _ | refine Fr.trans0 ?_ hf1)) (by simp) (by simp) (by simp), ms_at (w0 := (w.alloc (.cells #[.int .u32 r1, .int .u32 r2] 31))) (by first | rfl | simp) (by repeat (first | exact Fr.refl _ _ | exact HF0.out | refine Fr.drew ?_ | refine Fr.alloc ?_ _ | refine Fr.trans0 ?_ hf1)), ms_at (w0 := ((w.alloc (.cells #[.int .u32 r1, .int .u32 r2] 31)).alloc (.map #[] 0))) (by first | rfl | simp) (by repeat (first | exact Fr.refl _ _ | exact HF0.out | refine Fr.drew ?_ | refine Fr.alloc ?_ _ | refine Fr.trans0 ?_ hf1)), at_new (by first | rfl | simp), hHeld, ?_, ?_, ?_⟩; ((try simp [World.size_alloc, World.size_drew]); omega); ((try simp [World.size_alloc, World.size_drew]); omega); (have HF := HF0.out; exact (by repeat (first | exact Fr.refl _ _ | exact HF0.out | refine Fr.drew ?_ | refine Fr.alloc ?_ _ | refine Fr.trans0 ?_ hf1)))
    · go_simp; refine hK.out _ _ (fun _ => hHeld.old _) (fun hHeld' => ?_); have hHeld := hHeld' (by decide); clear hHeld' hK K; (try (refine wpAnyL_norm (by simp only [Act.put, List.setIfInBounds_toArray, List.set_cons_zero, List.set_cons_succ]; rfl) ?_))
      refine wpAnyL_ready (rs := [1, 2]) (by kernel_rfl) (by simp) ?_
      refine AllReadyL.cons rfl (fun K hK => ?_) (AllReadyL.cons rfl (fun K hK => ?_) AllReadyL.nil)
      · go_simp; refine (CPN.out _).mono ?_; rintro e W1 ⟨pp, pt, pg, rfl, hpl, g1, g2, g3, hf1⟩; refine hK.out _ _ (fun _ => hHeld.fr hf1 (by simp)) (fun hHeld' => ?_); have hHeld := hHeld' (by decide); clear hHeld' hK K; (try (refine wpAnyL_norm (by simp only [Act.put, List.setIfInBounds_toArray, List.set_cons_zero, List.set_cons_succ]; rfl) ?_))
        refine wpAnyL_ready (rs := [2]) (by kernel_rfl) (by simp) ?_; refine AllReadyL.cons rfl (fun K hK => ?_) AllReadyL.nil
        go_simp; refine hK.out _ _ (fun _ => hHeld.old _) (fun hHeld' => ?_); have hHeld := hHeld' (by decide); clear hHeld' hK K; (try (refine wpAnyL_norm (by simp only [Act.put, List.setIfInBounds_toArray, List.set_cons_zero, List.set_cons_succ]; rfl) ?_))
        (refine wpAnyL_take (i := 4) (v := ?_) rfl (by kernel_rfl) (fun _ _ _ h => h) (Or.inl ⟨by rfl, ?_⟩) (by assumption) ?_; rotate_left; (focus (intro w hSw; skip; go_simp; (try with_reducible rfl))); (try (refine wpAnyL_norm (by simp only [Act.put, List.setIfInBounds_toArray, List.set_cons_zero, List.set_cons_succ]; rfl) ?_))); (refine wpAnyL_ready (rs := [5]) (by kernel_rfl) (by simp) ?_; refine AllReadyL.cons rfl (fun K hK => ?_) AllReadyL.nil); go_simp; (refine hK.out _ _ (fun _ => hHeld.old _) (fun hHeld' => ?_); have hHeld := hHeld' (by decide); clear hHeld' hK K; (try (refine wpAnyL_norm (by simp only [Act.put, List.setIfInBounds_toArray, List.set_cons_zero, List.set_cons_succ]; rfl) ?_))); (refine wpAnyL_take (i := 6) (v := ?_) rfl (by kernel_rfl) (fun _ _ _ h => h) (Or.inl ⟨by rfl, ?_⟩) (by assumption) ?_; rotate_left; (focus (intro w hSw; skip; go_simp; (try with_reducible rfl))); (try (refine wpAnyL_norm (by simp only [Act.put, List.setIfInBounds_toArray, List.set_cons_zero, List.set_cons_succ]; rfl) ?_))); (refine wpAnyL_done (by kernel_rfl) ?_ _)
        have l1 := hpl.1.lt; have l2 := hpl.2.1.lt; have l3 := hpl.2.1.1; have l4 := hf1.size; have l5 := hpl.2.2; (try simp only [World.size_alloc, World.size_drew] at l1 l2 l4 g1 g2 g3); refine ⟨pp, pt, pg, _, _, _, rfl, hpl.fr (S := []) (by repeat (first | exact Fr.refl _ _ | exact HF0.out | refine Fr.drew ?_ | refine Fr.alloc ?_ _ | refine Fr.trans0 ?_ hf1)) (by simp) (by simp) (by simp), ms_at (w0 := W1) (by first | rfl | simp) (by repeat (first | exact Fr.refl _ _ | exact HF0.out | refine Fr.drew ?_ | refine Fr.alloc ?_ _ | refine Fr.trans0 ?_ hf1)), ms_at (w0 := (w.alloc (.cells #[.int .u32 r1, .int .u32 r2] 31)).drew) (by first | rfl | simp) (by repeat (first | exact Fr.refl _ _ | exact HF0.out | refine Fr.drew ?_ | refine Fr.alloc ?_ _ | refine Fr.trans0 ?_ hf1)), at_new (by first | rfl | simp), hHeld, ?_, ?_, ?_⟩; ((try simp [World.size_alloc, World.size_drew]); omega); ((try simp [World.size_alloc, World.size_drew]); omega); (have HF := HF0.out; exact (by repeat (first | exact Fr.refl _ _ | exact HF0.out | refine Fr.drew ?_ | refine Fr.alloc ?_ _ | refine Fr.trans0 ?_ hf1)))
      · go_simp; refine hK.out _ _ (fun _ => hHeld.old _) (fun hHeld' => ?_); have hHeld := hHeld' (by decide); clear hHeld' hK K; (try (refine wpAnyL_norm (by simp only [Act.put, List.setIfInBounds_toArray, List.set_cons_zero, List.set_cons_succ]; rfl) ?_))
        refine wpAnyL_ready (rs := [1]) (by kernel_rfl) (by simp) ?_; refine AllReadyL.cons rfl (fun K hK => ?_) AllReadyL.nil
        go_simp; refine (CPN.out _).mono ?_; rintro e W1 ⟨pp, pt, pg, rfl, hpl, g1, g2, g3, hf1⟩; refine hK.out _ _ (fun _ => hHeld.fr hf1 (by simp)) (fun hHeld' => ?_); have hHeld := hHeld' (by decide); clear hHeld' hK K; (try (refine wpAnyL_norm (by simp only [Act.put, List.setIfInBounds_toArray, List.set_cons_zero, List.set_cons_succ]; rfl) ?_))
        (refine wpAnyL_take (i := 4) (v := ?_) rfl (by kernel_rfl) (fun _ _ _ h => h) (Or.inl ⟨by rfl, ?_⟩) (by assumption) ?_; rotate_left; (focus (intro w hSw; skip; go_simp; (try with_reducible rfl))); (try (refine wpAnyL_norm (by simp only [Act.put, List.setIfInBounds_toArray, List.set_cons_zero, List.set_cons_succ]; rfl) ?_))); (refine wpAnyL_ready (rs := [5]) (by kernel_rfl) (by simp) ?_; refine AllReadyL.cons rfl (fun K hK => ?_) AllReadyL.nil); go_simp; (refine hK.out _ _ (fun _ => hHeld.old _) (fun hHeld' => ?_); have hHeld := hHeld' (by decide); clear hHeld' hK K; (try (refine wpAnyL_norm (by simp only [Act.put, List.setIfInBounds_toArray, List.set_cons_zero, List.set_cons_succ]; rfl) ?_))); (refine wpAnyL_take (i := 6) (v := ?_) rfl (by kernel_rfl) (fun _ _ _ h => h) (Or.inl ⟨by rfl, ?_⟩) (by assumption) ?_; rotate_left; (focus (intro w hSw; skip; go_simp; (try with_reducible rfl))); (try (refine wpAnyL_norm (by simp only [Act.put, List.setIfInBounds_toArray, List.set_cons_zero, List.set_cons_succ]; rfl) ?_))); (refine wpAnyL_done (by kernel_rfl) ?_ _)
        have l1 := hpl.1.lt; have l2 := hpl.2.1.lt; have l3 := hpl.2.1.1; have l4 := hf1.size; have l5 := hpl.2.2; (try simp only [World.size_alloc, World.size_drew] at l1 l2 l4 g1 g2 g3); refine ⟨pp, pt, pg, _, _, _, rfl, hpl.fr (S := []) (by repeat (first | exact Fr.refl _ _ | exact HF0.out | refine Fr.drew ?_ | refine Fr.alloc ?_ _ | refine Fr.trans0 ?_ hf1)) (by simp) (by simp) (by simp), ms_at (w0 := ((w.alloc (.cells #[.int .u32 r1, .int .u32 r2] 31)).alloc (.map #[] 0))) (by first | rfl | simp) (by repeat (first | exact Fr.refl _ _ | exact HF0.out | refine Fr.drew ?_ | refine Fr.alloc ?_ _ | refine Fr.trans0 ?_ hf1)), ms_at (w0 := (w.alloc (.cells #[.int .u32 r1, .int .u32 r2] 31))) (by first | rfl | simp) (by repeat (first | exact Fr.refl _ _ | exact HF0.out | refine Fr.drew ?_ | refine Fr.alloc ?_ _ | refine Fr.trans0 ?_ hf1)), at_new (by first | rfl | simp), hHeld, ?_, ?_, ?_⟩; ((try simp [World.size_alloc, World.size_drew]); omega); ((try simp [World.size_alloc, World.size_drew]); omega); (have HF := HF0.out; exact (by repeat (first | exact Fr.refl _ _ | exact HF0.out | refine Fr.drew ?_ | refine Fr.alloc ?_ _ | refine Fr.trans0 ?_ hf1)))
  · rintro e a' W h
    cases e with
    | normal =>
      obtain ⟨pp, pt, pg, m1, m2, hp, rfl, hN⟩ := h
      obtain ⟨hPl, hM1, hM2, hHp, hBx, hnd, hge, hfW⟩ := hN
      have HPl := Lib.hid hPl
      have HM1 := Lib.hid hM1
      have HM2 := Lib.hid hM2
      have HHp := Lib.hid hHp
      have HBx := Lib.hid hBx
      have HND := Lib.hid hnd
      have HGE := Lib.hid hge
      have HFW := Lib.hid hfW
      obtain ⟨a, ha⟩ : ∃ a, r1 = 256 * a := ⟨r1 / 256, by have := HH.out; omega⟩
      obtain ⟨k, hk⟩ : ∃ k, r2 = 256 * k := ⟨r2 / 256, by have := HH.out; omega⟩
      have hak : a + k ≤ 1024 ∧ 1 ≤ k := by have := HH.out; omega
      have z1 : IntKind.i64.wrap ((IntKind.i64.wrap (r1 : Int)).tdiv 256) = (a : Int) := by
        have e1 : IntKind.i64.wrap (r1 : Int) = r1 := by simp [IntKind.wrap, IntKind.signed, IntKind.bits]; omega
        have e2 : IntKind.i64.wrap (a : Int) = a := by simp [IntKind.wrap, IntKind.signed, IntKind.bits]; omega
        rw [e1, Int.tdiv_eq_ediv_of_nonneg (by omega), show (r1 : Int) / 256 = a by omega, e2]
      have z2 : IntKind.i64.wrap ((IntKind.i64.wrap (r2 : Int)).tdiv 256) = (k : Int) := by
        have e1 : IntKind.i64.wrap (r2 : Int) = r2 := by simp [IntKind.wrap, IntKind.signed, IntKind.bits]; omega
        have e2 : IntKind.i64.wrap (k : Int) = k := by simp [IntKind.wrap, IntKind.signed, IntKind.bits]; omega
        rw [e1, Int.tdiv_eq_ediv_of_nonneg (by omega), show (r2 : Int) / 256 = k by omega, e2]
      have HAK := Lib.hid (And.intro ha hk)
      clear hPl hM1 hM2 hHp hBx hnd hge hfW ha hk hmm q1 q2 q3 q4 v1 v2 v3
      show Exit.then _ _ Exit.normal _ _
      go_wp2_with fail
      refine wp_region_L (fun V => At V hp 55 #[.int .u32 r1, .int .u32 r2, .pointer (some ⟨pp, 0, none⟩), .pointer none, .pointer none, .pointer none, .pointer none, .pointer none, .map (some m1), .map (some m2)] ∧ At V w.heap.size 31 #[.int .u32 r1, .int .u32 r2]) [12] (by kernel_rfl) ⟨HHp.out.hp rfl, HBx.out.hp rfl⟩ fun hHeld => ?_
      refine wpAnyL_take (i := 0) (v := ?_) rfl (by kernel_rfl) (fun _ _ _ h => h) (Or.inl ⟨by rfl, ?_⟩) (by assumption) ?_; rotate_left; (focus (intro w hSw; skip; go_simp; (try with_reducible rfl))); (try (refine wpAnyL_norm (by simp only [Act.put, List.setIfInBounds_toArray, List.set_cons_zero, List.set_cons_succ]; rfl) ?_))
      refine wpAnyL_take (i := 1) (v := ?_) rfl (by kernel_rfl) (fun _ _ _ h => h) (Or.inl ⟨by rfl, ?_⟩) (by assumption) ?_; rotate_left; (focus (intro w hSw; skip; go_simp; (try with_reducible rfl))); (try (refine wpAnyL_norm (by simp only [Act.put, List.setIfInBounds_toArray, List.set_cons_zero, List.set_cons_succ]; rfl) ?_))
      refine wpAnyL_take (i := 2) (v := ?_) rfl (by kernel_rfl) (fun _ _ _ h => h) (Or.inl ⟨by rfl, ?_⟩) (by assumption) ?_; rotate_left; (focus (intro w hSw; skip; go_simp; (try with_reducible rfl))); (try (refine wpAnyL_norm (by simp only [Act.put, List.setIfInBounds_toArray, List.set_cons_zero, List.set_cons_succ]; rfl) ?_))
      refine wpAnyL_take (i := 3) (v := ?_) rfl (by kernel_rfl) (fun _ _ _ h => h) (Or.inl ⟨by rfl, ?_⟩) (by assumption) ?_; rotate_left; (focus (intro w hSw; have c : _ = some (Value.pointer (some ⟨pp, 0, none⟩)) := hSw.1.cell 2; go_simp; (try with_reducible rfl))); (try (refine wpAnyL_norm (by simp only [Act.put, List.setIfInBounds_toArray, List.set_cons_zero, List.set_cons_succ]; rfl) ?_))
      refine wpAnyL_take (i := 4) (v := ?_) rfl (by kernel_rfl) (fun _ _ _ h => h) (Or.inl ⟨by rfl, ?_⟩) (by assumption) ?_; rotate_left; (focus (intro w hSw; skip; go_simp; (try with_reducible rfl))); (try (refine wpAnyL_norm (by simp only [Act.put, List.setIfInBounds_toArray, List.set_cons_zero, List.set_cons_succ]; rfl) ?_))
      refine wpAnyL_take (i := 5) (v := ?_) rfl (by kernel_rfl) (fun _ _ _ h => h) (Or.inl ⟨by rfl, ?_⟩) (by assumption) ?_; rotate_left; (focus (intro w hSw; have c : _ = some (Value.int .u32 (r1 : Int)) := hSw.2.cell 0; go_simp; (try with_reducible rfl))); (try (refine wpAnyL_norm (by simp only [Act.put, List.setIfInBounds_toArray, List.set_cons_zero, List.set_cons_succ]; rfl) ?_))
      refine wpAnyL_take (i := 6) (v := ?_) rfl (by kernel_rfl) (fun _ _ _ h => h) (Or.inl ⟨by rfl, ?_⟩) (by assumption) ?_; rotate_left; (focus (intro w hSw; skip; go_simp; (try with_reducible rfl))); (try (refine wpAnyL_norm (by simp only [Act.put, List.setIfInBounds_toArray, List.set_cons_zero, List.set_cons_succ]; rfl) ?_))
      refine wpAnyL_take (i := 7) (v := ?_) rfl (by kernel_rfl) (fun _ _ _ h => h) (Or.inl ⟨by rfl, ?_⟩) (by assumption) ?_; rotate_left; (focus (intro w hSw; skip; go_simp; (try with_reducible rfl))); (try (refine wpAnyL_norm (by simp only [Act.put, List.setIfInBounds_toArray, List.set_cons_zero, List.set_cons_succ]; rfl) ?_))
      refine wpAnyL_take (i := 8) (v := ?_) rfl (by kernel_rfl) (fun _ _ _ h => h) (Or.inl ⟨by rfl, ?_⟩) (by assumption) ?_; rotate_left; (focus (intro w hSw; skip; go_simp; (try with_reducible rfl))); (try (refine wpAnyL_norm (by simp only [Act.put, List.setIfInBounds_toArray, List.set_cons_zero, List.set_cons_succ]; rfl) ?_))
      refine wpAnyL_take (i := 9) (v := ?_) rfl (by kernel_rfl) (fun _ _ _ h => h) (Or.inl ⟨by rfl, ?_⟩) (by assumption) ?_; rotate_left; (focus (intro w hSw; have c : _ = some (Value.int .u32 (r2 : Int)) := hSw.2.cell 1; go_simp; (try with_reducible rfl))); (try (refine wpAnyL_norm (by simp only [Act.put, List.setIfInBounds_toArray, List.set_cons_zero, List.set_cons_succ]; rfl) ?_))
      refine wpAnyL_take (i := 10) (v := ?_) rfl (by kernel_rfl) (fun _ _ _ h => h) (Or.inl ⟨by rfl, ?_⟩) (by assumption) ?_; rotate_left; (focus (intro w hSw; skip; go_simp; (try with_reducible rfl))); (try (refine wpAnyL_norm (by simp only [Act.put, List.setIfInBounds_toArray, List.set_cons_zero, List.set_cons_succ]; rfl) ?_))
      refine wpAnyL_take (i := 11) (v := ?_) rfl (by kernel_rfl) (fun _ _ _ h => h) (Or.inl ⟨by rfl, ?_⟩) (by assumption) ?_; rotate_left; (focus (intro w hSw; skip; go_simp; (try with_reducible rfl))); (try (refine wpAnyL_norm (by simp only [Act.put, List.setIfInBounds_toArray, List.set_cons_zero, List.set_cons_succ]; rfl) ?_))
      refine wpAnyL_ready (rs := [12]) (by kernel_rfl) (by simp) ?_; refine AllReadyL.cons rfl (fun K hK => ?_) AllReadyL.nil
      go_simp
      have CPP := pput_yes W.drew pp pt pg 1024 _ (HPl.out.heap rfl) a k (ok_put _ a k hak.2 hak.1 fun _ _ => rfl)
      refine CPP.mono ?_
      rintro e V0 ⟨rfl, hP0, hf0⟩
      have HP0 := Lib.hid hP0
      have HF0b := Lib.hid (((Fr.refl _ W).drew).trans hf0 (fun k hk => .inl hk) : Fr [pg] W V0)
      have nd := HND.out
      simp only [List.nodup_cons, List.mem_cons, List.not_mem_nil, or_false, not_or] at nd
      have A0c := Lib.hid (hHeld.1.fr hf0 (by simp; omega))
      refine hK.out _ _ (fun h => (h (by decide)).elim) (fun _ => ?_); clear hK K; (try (refine wpAnyL_norm (by simp only [Act.put, List.setIfInBounds_toArray, List.set_cons_zero, List.set_cons_succ]; rfl) ?_))
      refine wpAnyL_done (by kernel_rfl) ?_ _
      clear hP0 hf0 nd CPP
      go_wp2_with fail
      refine wp_loop_rounds 6 ?_
      rw [rounds_succ]
      go_wp2_with fail
      refine wp_region_L (fun V => At V hp 55 #[.int .u32 r1, .int .u32 r2, .pointer (some ⟨pp, 0, none⟩), .pointer none, .pointer none, .pointer none, .pointer none, .pointer none, .map (some m1), .map (some m2)]) [10] (by kernel_rfl) (A0c.out.hp rfl) fun hHeld => ?_
      refine wpAnyL_take (i := 0) (v := ?_) rfl (by kernel_rfl) (fun _ _ _ h => h) (Or.inl ⟨by rfl, ?_⟩) (by assumption) ?_; rotate_left; (focus (intro w hSw; skip; go_simp; (try with_reducible rfl))); (try (refine wpAnyL_norm (by simp only [Act.put, List.setIfInBounds_toArray, List.set_cons_zero, List.set_cons_succ]; rfl) ?_))
      refine wpAnyL_take (i := 1) (v := ?_) rfl (by kernel_rfl) (fun _ _ _ h => h) (Or.inl ⟨by rfl, ?_⟩) (by assumption) ?_; rotate_left; (focus (intro w hSw; skip; go_simp; (try with_reducible rfl))); (try (refine wpAnyL_norm (by simp only [Act.put, List.setIfInBounds_toArray, List.set_cons_zero, List.set_cons_succ]; rfl) ?_))
      refine wpAnyL_take (i := 2) (v := ?_) rfl (by kernel_rfl) (fun _ _ _ h => h) (Or.inl ⟨by rfl, ?_⟩) (by assumption) ?_; rotate_left; (focus (intro w hSw; skip; go_simp; (try with_reducible rfl))); (try (refine wpAnyL_norm (by simp only [Act.put, List.setIfInBounds_toArray, List.set_cons_zero, List.set_cons_succ]; rfl) ?_))
      refine wpAnyL_take (i := 7) (v := ?_) rfl (by kernel_rfl) (fun _ _ _ h => h) (Or.inl ⟨by rfl, ?_⟩) (by assumption) ?_; rotate_left; (focus (intro w hSw; skip; go_simp; (try with_reducible rfl))); (try (refine wpAnyL_norm (by simp only [Act.put, List.setIfInBounds_toArray, List.set_cons_zero, List.set_cons_succ]; rfl) ?_))
      refine wpAnyL_take (i := 8) (v := ?_) rfl (by kernel_rfl) (fun _ _ _ h => h) (Or.inl ⟨by rfl, ?_⟩) (by assumption) ?_; rotate_left; (focus (intro w hSw; skip; go_simp; (try with_reducible rfl))); (try (refine wpAnyL_norm (by simp only [Act.put, List.setIfInBounds_toArray, List.set_cons_zero, List.set_cons_succ]; rfl) ?_))
      refine wpAnyL_ready (rs := [3]) (by kernel_rfl) (by simp) ?_; refine AllReadyL.cons rfl (fun K hK => ?_) AllReadyL.nil
      go_simp
      have CS : Calls Tryd.prog 25 #[.int .i64 0] V0.drew fun e w' => e = .returned (.int .u32 16) ∧ V0.drew = w' := slot_any 0 _
      refine CS.mono ?_
      rintro e w8 ⟨rfl, rfl⟩
      refine hK.out _ _ (fun _ => hHeld) (fun hHeld' => ?_); have hHeld := hHeld' (by decide); clear hHeld' hK K; (try (refine wpAnyL_norm (by simp only [Act.put, List.setIfInBounds_toArray, List.set_cons_zero, List.set_cons_succ]; rfl) ?_))
      refine wpAnyL_take (i := 4) (v := ?_) rfl (by kernel_rfl) (fun _ _ _ h => h) (Or.inl ⟨by rfl, ?_⟩) (by assumption) ?_; rotate_left; (focus (intro w hSw; skip; go_simp; (try with_reducible rfl))); (try (refine wpAnyL_norm (by simp only [Act.put, List.setIfInBounds_toArray, List.set_cons_zero, List.set_cons_succ]; rfl) ?_))
      refine wpAnyL_take (i := 5) (v := ?_) rfl (by kernel_rfl) (fun _ _ _ h => h) (Or.inl ⟨by rfl, ?_⟩) (by assumption) ?_; rotate_left; (focus (intro w hSw; (have e1 : IntKind.i64.wrap 16 = 16 := rfl); (have e2 : IntKind.i64.wrap 16 = 16 := rfl); (have e3 : Int.tdiv 256 16 = 16 := rfl); go_simp; (try with_reducible rfl))); (try (refine wpAnyL_norm (by simp only [Act.put, List.setIfInBounds_toArray, List.set_cons_zero, List.set_cons_succ]; rfl) ?_))
      refine wpAnyL_ready (rs := [6]) (by kernel_rfl) (by simp) ?_; refine AllReadyL.cons rfl (fun K hK => ?_) AllReadyL.nil
      go_simp
      have CB : Calls Tryd.prog 24 #[.int .i64 16] V0.drew fun e w' => ∃ bp, e = .returned (.pointer (some ⟨bp, 0, none⟩)) ∧ Book w' bp 16 noF noT ∧ V0.drew.heap.size ≤ bp ∧ Fr [] V0.drew w' := bnew_any 16 (by omega) (by omega) _
      refine CB.mono ?_
      rintro e U0 ⟨b0, rfl, hb, hge0, hfb⟩
      have HB0 := Lib.hid hb
      have HFB0 := Lib.hid ((((Fr.refl [hp] V0).drew).trans hfb (by simp)) : Fr [hp] V0 U0)
      refine hK.out _ _ (fun _ => hHeld.fr hfb (by simp)) (fun hHeld' => ?_); have hHeld := hHeld' (by decide); clear hHeld' hK K; (try (refine wpAnyL_norm (by simp only [Act.put, List.setIfInBounds_toArray, List.set_cons_zero, List.set_cons_succ]; rfl) ?_))
      refine wpAnyL_take (i := 9) (v := ?_) rfl (by kernel_rfl) (fun _ _ _ h => h) (Or.inl ⟨by rfl, ?_⟩) (by assumption) ?_; rotate_left; (focus (intro w hSw; skip; go_simp; (try with_reducible rfl))); (try (refine wpAnyL_norm (by simp only [Act.put, List.setIfInBounds_toArray, List.set_cons_zero, List.set_cons_succ]; rfl) ?_))
      refine wpAnyL_ready (rs := [10]) (by kernel_rfl) (by simp) ?_; refine AllReadyL.cons rfl (fun K hK => ?_) AllReadyL.nil
      have d0 := hHeld.cell 3
      have f0 := hHeld.froz 3
      simp only [List.getElem?_toArray, List.getElem?_cons_zero, List.getElem?_cons_succ] at d0
      go_simp
      have HFV1 := Lib.hid (HFB0.out.set (a := ⟨hp, 3, none⟩) (.inl (by simp)) (.pointer (some ⟨b0, 0, none⟩)))
      have HBV0 := Lib.hid (And.intro HB0.out (Fr.set (Fr.refl [hp] U0) (a := ⟨hp, 3, none⟩) (.inl (by simp)) (.pointer (some ⟨b0, 0, none⟩))))
      have A1c := Lib.hid (hHeld.set 3 (.pointer (some ⟨b0, 0, none⟩)))
      refine hK.out _ _ (fun h => (h (by decide)).elim) (fun _ => ?_); clear hK K; (try (refine wpAnyL_norm (by simp only [Act.put, List.setIfInBounds_toArray, List.set_cons_zero, List.set_cons_succ]; rfl) ?_))
      refine wpAnyL_done (by kernel_rfl) ?_ _
      obtain ⟨V1, hV⟩ : ∃ V, U0.setCell ⟨hp, 3, none⟩ (.pointer (some ⟨b0, 0, none⟩)) = V := ⟨_, rfl⟩
      rw [hV] at HFV1 HBV0 A1c ⊢
      clear hV d0 f0 hHeld CS CB hb hfb
      go_wp2_with fail
      rw [rounds_succ]
      go_wp2_with fail
      refine wp_region_L (fun V => At V hp 55 #[.int .u32 r1, .int .u32 r2, .pointer (some ⟨pp, 0, none⟩), .pointer (some ⟨b0, 0, none⟩), .pointer none, .pointer none, .pointer none, .pointer none, .map (some m1), .map (some m2)]) [10] (by kernel_rfl) (A1c.out.hp rfl) fun hHeld => ?_
      refine wpAnyL_take (i := 0) (v := ?_) rfl (by kernel_rfl) (fun _ _ _ h => h) (Or.inl ⟨by rfl, ?_⟩) (by assumption) ?_; rotate_left; (focus (intro w hSw; skip; go_simp; (try with_reducible rfl))); (try (refine wpAnyL_norm (by simp only [Act.put, List.setIfInBounds_toArray, List.set_cons_zero, List.set_cons_succ]; rfl) ?_))
      refine wpAnyL_take (i := 1) (v := ?_) rfl (by kernel_rfl) (fun _ _ _ h => h) (Or.inl ⟨by rfl, ?_⟩) (by assumption) ?_; rotate_left; (focus (intro w hSw; skip; go_simp; (try with_reducible rfl))); (try (refine wpAnyL_norm (by simp only [Act.put, List.setIfInBounds_toArray, List.set_cons_zero, List.set_cons_succ]; rfl) ?_))
      refine wpAnyL_take (i := 2) (v := ?_) rfl (by kernel_rfl) (fun _ _ _ h => h) (Or.inl ⟨by rfl, ?_⟩) (by assumption) ?_; rotate_left; (focus (intro w hSw; skip; go_simp; (try with_reducible rfl))); (try (refine wpAnyL_norm (by simp only [Act.put, List.setIfInBounds_toArray, List.set_cons_zero, List.set_cons_succ]; rfl) ?_))
      refine wpAnyL_take (i := 7) (v := ?_) rfl (by kernel_rfl) (fun _ _ _ h => h) (Or.inl ⟨by rfl, ?_⟩) (by assumption) ?_; rotate_left; (focus (intro w hSw; skip; go_simp; (try with_reducible rfl))); (try (refine wpAnyL_norm (by simp only [Act.put, List.setIfInBounds_toArray, List.set_cons_zero, List.set_cons_succ]; rfl) ?_))
      refine wpAnyL_take (i := 8) (v := ?_) rfl (by kernel_rfl) (fun _ _ _ h => h) (Or.inl ⟨by rfl, ?_⟩) (by assumption) ?_; rotate_left; (focus (intro w hSw; skip; go_simp; (try with_reducible rfl))); (try (refine wpAnyL_norm (by simp only [Act.put, List.setIfInBounds_toArray, List.set_cons_zero, List.set_cons_succ]; rfl) ?_))
      refine wpAnyL_ready (rs := [3]) (by kernel_rfl) (by simp) ?_; refine AllReadyL.cons rfl (fun K hK => ?_) AllReadyL.nil
      go_simp
      have CS : Calls Tryd.prog 25 #[.int .i64 1] V1.drew fun e w' => e = .returned (.int .u32 32) ∧ V1.drew = w' := slot_any 1 _
      refine CS.mono ?_
      rintro e w8 ⟨rfl, rfl⟩
      refine hK.out _ _ (fun _ => hHeld) (fun hHeld' => ?_); have hHeld := hHeld' (by decide); clear hHeld' hK K; (try (refine wpAnyL_norm (by simp only [Act.put, List.setIfInBounds_toArray, List.set_cons_zero, List.set_cons_succ]; rfl) ?_))
      refine wpAnyL_take (i := 4) (v := ?_) rfl (by kernel_rfl) (fun _ _ _ h => h) (Or.inl ⟨by rfl, ?_⟩) (by assumption) ?_; rotate_left; (focus (intro w hSw; skip; go_simp; (try with_reducible rfl))); (try (refine wpAnyL_norm (by simp only [Act.put, List.setIfInBounds_toArray, List.set_cons_zero, List.set_cons_succ]; rfl) ?_))
      refine wpAnyL_take (i := 5) (v := ?_) rfl (by kernel_rfl) (fun _ _ _ h => h) (Or.inl ⟨by rfl, ?_⟩) (by assumption) ?_; rotate_left; (focus (intro w hSw; (have e1 : IntKind.i64.wrap 32 = 32 := rfl); (have e2 : IntKind.i64.wrap 8 = 8 := rfl); (have e3 : Int.tdiv 256 32 = 8 := rfl); go_simp; (try with_reducible rfl))); (try (refine wpAnyL_norm (by simp only [Act.put, List.setIfInBounds_toArray, List.set_cons_zero, List.set_cons_succ]; rfl) ?_))
      refine wpAnyL_ready (rs := [6]) (by kernel_rfl) (by simp) ?_; refine AllReadyL.cons rfl (fun K hK => ?_) AllReadyL.nil
      go_simp
      have CB : Calls Tryd.prog 24 #[.int .i64 8] V1.drew fun e w' => ∃ bp, e = .returned (.pointer (some ⟨bp, 0, none⟩)) ∧ Book w' bp 8 noF noT ∧ V1.drew.heap.size ≤ bp ∧ Fr [] V1.drew w' := bnew_any 8 (by omega) (by omega) _
      refine CB.mono ?_
      rintro e U1 ⟨b1, rfl, hb, hge1, hfb⟩
      have HB1 := Lib.hid hb
      have HFB1 := Lib.hid ((((Fr.refl [hp] V1).drew).trans hfb (by simp)) : Fr [hp] V1 U1)
      refine hK.out _ _ (fun _ => hHeld.fr hfb (by simp)) (fun hHeld' => ?_); have hHeld := hHeld' (by decide); clear hHeld' hK K; (try (refine wpAnyL_norm (by simp only [Act.put, List.setIfInBounds_toArray, List.set_cons_zero, List.set_cons_succ]; rfl) ?_))
      refine wpAnyL_take (i := 9) (v := ?_) rfl (by kernel_rfl) (fun _ _ _ h => h) (Or.inl ⟨by rfl, ?_⟩) (by assumption) ?_; rotate_left; (focus (intro w hSw; skip; go_simp; (try with_reducible rfl))); (try (refine wpAnyL_norm (by simp only [Act.put, List.setIfInBounds_toArray, List.set_cons_zero, List.set_cons_succ]; rfl) ?_))
      refine wpAnyL_ready (rs := [10]) (by kernel_rfl) (by simp) ?_; refine AllReadyL.cons rfl (fun K hK => ?_) AllReadyL.nil
      have d0 := hHeld.cell 4
      have f0 := hHeld.froz 4
      simp only [List.getElem?_toArray, List.getElem?_cons_zero, List.getElem?_cons_succ] at d0
      go_simp
      have HFV2 := Lib.hid (HFB1.out.set (a := ⟨hp, 4, none⟩) (.inl (by simp)) (.pointer (some ⟨b1, 0, none⟩)))
      have HBV1 := Lib.hid (And.intro HB1.out (Fr.set (Fr.refl [hp] U1) (a := ⟨hp, 4, none⟩) (.inl (by simp)) (.pointer (some ⟨b1, 0, none⟩))))
      have A2c := Lib.hid (hHeld.set 4 (.pointer (some ⟨b1, 0, none⟩)))
      refine hK.out _ _ (fun h => (h (by decide)).elim) (fun _ => ?_); clear hK K; (try (refine wpAnyL_norm (by simp only [Act.put, List.setIfInBounds_toArray, List.set_cons_zero, List.set_cons_succ]; rfl) ?_))
      refine wpAnyL_done (by kernel_rfl) ?_ _
      obtain ⟨V2, hV⟩ : ∃ V, U1.setCell ⟨hp, 4, none⟩ (.pointer (some ⟨b1, 0, none⟩)) = V := ⟨_, rfl⟩
      rw [hV] at HFV2 HBV1 A2c ⊢
      clear hV d0 f0 hHeld CS CB hb hfb
      go_wp2_with fail
      rw [rounds_succ]
      go_wp2_with fail
      refine wp_region_L (fun V => At V hp 55 #[.int .u32 r1, .int .u32 r2, .pointer (some ⟨pp, 0, none⟩), .pointer (some ⟨b0, 0, none⟩), .pointer (some ⟨b1, 0, none⟩), .pointer none, .pointer none, .pointer none, .map (some m1), .map (some m2)]) [10] (by kernel_rfl) (A2c.out.hp rfl) fun hHeld => ?_
      refine wpAnyL_take (i := 0) (v := ?_) rfl (by kernel_rfl) (fun _ _ _ h => h) (Or.inl ⟨by rfl, ?_⟩) (by assumption) ?_; rotate_left; (focus (intro w hSw; skip; go_simp; (try with_reducible rfl))); (try (refine wpAnyL_norm (by simp only [Act.put, List.setIfInBounds_toArray, List.set_cons_zero, List.set_cons_succ]; rfl) ?_))
      refine wpAnyL_take (i := 1) (v := ?_) rfl (by kernel_rfl) (fun _ _ _ h => h) (Or.inl ⟨by rfl, ?_⟩) (by assumption) ?_; rotate_left; (focus (intro w hSw; skip; go_simp; (try with_reducible rfl))); (try (refine wpAnyL_norm (by simp only [Act.put, List.setIfInBounds_toArray, List.set_cons_zero, List.set_cons_succ]; rfl) ?_))
      refine wpAnyL_take (i := 2) (v := ?_) rfl (by kernel_rfl) (fun _ _ _ h => h) (Or.inl ⟨by rfl, ?_⟩) (by assumption) ?_; rotate_left; (focus (intro w hSw; skip; go_simp; (try with_reducible rfl))); (try (refine wpAnyL_norm (by simp only [Act.put, List.setIfInBounds_toArray, List.set_cons_zero, List.set_cons_succ]; rfl) ?_))
      refine wpAnyL_take (i := 7) (v := ?_) rfl (by kernel_rfl) (fun _ _ _ h => h) (Or.inl ⟨by rfl, ?_⟩) (by assumption) ?_; rotate_left; (focus (intro w hSw; skip; go_simp; (try with_reducible rfl))); (try (refine wpAnyL_norm (by simp only [Act.put, List.setIfInBounds_toArray, List.set_cons_zero, List.set_cons_succ]; rfl) ?_))
      refine wpAnyL_take (i := 8) (v := ?_) rfl (by kernel_rfl) (fun _ _ _ h => h) (Or.inl ⟨by rfl, ?_⟩) (by assumption) ?_; rotate_left; (focus (intro w hSw; skip; go_simp; (try with_reducible rfl))); (try (refine wpAnyL_norm (by simp only [Act.put, List.setIfInBounds_toArray, List.set_cons_zero, List.set_cons_succ]; rfl) ?_))
      refine wpAnyL_ready (rs := [3]) (by kernel_rfl) (by simp) ?_; refine AllReadyL.cons rfl (fun K hK => ?_) AllReadyL.nil
      go_simp
      have CS : Calls Tryd.prog 25 #[.int .i64 2] V2.drew fun e w' => e = .returned (.int .u32 64) ∧ V2.drew = w' := slot_any 2 _
      refine CS.mono ?_
      rintro e w8 ⟨rfl, rfl⟩
      refine hK.out _ _ (fun _ => hHeld) (fun hHeld' => ?_); have hHeld := hHeld' (by decide); clear hHeld' hK K; (try (refine wpAnyL_norm (by simp only [Act.put, List.setIfInBounds_toArray, List.set_cons_zero, List.set_cons_succ]; rfl) ?_))
      refine wpAnyL_take (i := 4) (v := ?_) rfl (by kernel_rfl) (fun _ _ _ h => h) (Or.inl ⟨by rfl, ?_⟩) (by assumption) ?_; rotate_left; (focus (intro w hSw; skip; go_simp; (try with_reducible rfl))); (try (refine wpAnyL_norm (by simp only [Act.put, List.setIfInBounds_toArray, List.set_cons_zero, List.set_cons_succ]; rfl) ?_))
      refine wpAnyL_take (i := 5) (v := ?_) rfl (by kernel_rfl) (fun _ _ _ h => h) (Or.inl ⟨by rfl, ?_⟩) (by assumption) ?_; rotate_left; (focus (intro w hSw; (have e1 : IntKind.i64.wrap 64 = 64 := rfl); (have e2 : IntKind.i64.wrap 4 = 4 := rfl); (have e3 : Int.tdiv 256 64 = 4 := rfl); go_simp; (try with_reducible rfl))); (try (refine wpAnyL_norm (by simp only [Act.put, List.setIfInBounds_toArray, List.set_cons_zero, List.set_cons_succ]; rfl) ?_))
      refine wpAnyL_ready (rs := [6]) (by kernel_rfl) (by simp) ?_; refine AllReadyL.cons rfl (fun K hK => ?_) AllReadyL.nil
      go_simp
      have CB : Calls Tryd.prog 24 #[.int .i64 4] V2.drew fun e w' => ∃ bp, e = .returned (.pointer (some ⟨bp, 0, none⟩)) ∧ Book w' bp 4 noF noT ∧ V2.drew.heap.size ≤ bp ∧ Fr [] V2.drew w' := bnew_any 4 (by omega) (by omega) _
      refine CB.mono ?_
      rintro e U2 ⟨b2, rfl, hb, hge2, hfb⟩
      have HB2 := Lib.hid hb
      have HFB2 := Lib.hid ((((Fr.refl [hp] V2).drew).trans hfb (by simp)) : Fr [hp] V2 U2)
      refine hK.out _ _ (fun _ => hHeld.fr hfb (by simp)) (fun hHeld' => ?_); have hHeld := hHeld' (by decide); clear hHeld' hK K; (try (refine wpAnyL_norm (by simp only [Act.put, List.setIfInBounds_toArray, List.set_cons_zero, List.set_cons_succ]; rfl) ?_))
      refine wpAnyL_take (i := 9) (v := ?_) rfl (by kernel_rfl) (fun _ _ _ h => h) (Or.inl ⟨by rfl, ?_⟩) (by assumption) ?_; rotate_left; (focus (intro w hSw; skip; go_simp; (try with_reducible rfl))); (try (refine wpAnyL_norm (by simp only [Act.put, List.setIfInBounds_toArray, List.set_cons_zero, List.set_cons_succ]; rfl) ?_))
      refine wpAnyL_ready (rs := [10]) (by kernel_rfl) (by simp) ?_; refine AllReadyL.cons rfl (fun K hK => ?_) AllReadyL.nil
      have d0 := hHeld.cell 5
      have f0 := hHeld.froz 5
      simp only [List.getElem?_toArray, List.getElem?_cons_zero, List.getElem?_cons_succ] at d0
      go_simp
      have HFV3 := Lib.hid (HFB2.out.set (a := ⟨hp, 5, none⟩) (.inl (by simp)) (.pointer (some ⟨b2, 0, none⟩)))
      have HBV2 := Lib.hid (And.intro HB2.out (Fr.set (Fr.refl [hp] U2) (a := ⟨hp, 5, none⟩) (.inl (by simp)) (.pointer (some ⟨b2, 0, none⟩))))
      have A3c := Lib.hid (hHeld.set 5 (.pointer (some ⟨b2, 0, none⟩)))
      refine hK.out _ _ (fun h => (h (by decide)).elim) (fun _ => ?_); clear hK K; (try (refine wpAnyL_norm (by simp only [Act.put, List.setIfInBounds_toArray, List.set_cons_zero, List.set_cons_succ]; rfl) ?_))
      refine wpAnyL_done (by kernel_rfl) ?_ _
      obtain ⟨V3, hV⟩ : ∃ V, U2.setCell ⟨hp, 5, none⟩ (.pointer (some ⟨b2, 0, none⟩)) = V := ⟨_, rfl⟩
      rw [hV] at HFV3 HBV2 A3c ⊢
      clear hV d0 f0 hHeld CS CB hb hfb
      go_wp2_with fail
      rw [rounds_succ]
      go_wp2_with fail
      refine wp_region_L (fun V => At V hp 55 #[.int .u32 r1, .int .u32 r2, .pointer (some ⟨pp, 0, none⟩), .pointer (some ⟨b0, 0, none⟩), .pointer (some ⟨b1, 0, none⟩), .pointer (some ⟨b2, 0, none⟩), .pointer none, .pointer none, .map (some m1), .map (some m2)]) [10] (by kernel_rfl) (A3c.out.hp rfl) fun hHeld => ?_
      refine wpAnyL_take (i := 0) (v := ?_) rfl (by kernel_rfl) (fun _ _ _ h => h) (Or.inl ⟨by rfl, ?_⟩) (by assumption) ?_; rotate_left; (focus (intro w hSw; skip; go_simp; (try with_reducible rfl))); (try (refine wpAnyL_norm (by simp only [Act.put, List.setIfInBounds_toArray, List.set_cons_zero, List.set_cons_succ]; rfl) ?_))
      refine wpAnyL_take (i := 1) (v := ?_) rfl (by kernel_rfl) (fun _ _ _ h => h) (Or.inl ⟨by rfl, ?_⟩) (by assumption) ?_; rotate_left; (focus (intro w hSw; skip; go_simp; (try with_reducible rfl))); (try (refine wpAnyL_norm (by simp only [Act.put, List.setIfInBounds_toArray, List.set_cons_zero, List.set_cons_succ]; rfl) ?_))
      refine wpAnyL_take (i := 2) (v := ?_) rfl (by kernel_rfl) (fun _ _ _ h => h) (Or.inl ⟨by rfl, ?_⟩) (by assumption) ?_; rotate_left; (focus (intro w hSw; skip; go_simp; (try with_reducible rfl))); (try (refine wpAnyL_norm (by simp only [Act.put, List.setIfInBounds_toArray, List.set_cons_zero, List.set_cons_succ]; rfl) ?_))
      refine wpAnyL_take (i := 7) (v := ?_) rfl (by kernel_rfl) (fun _ _ _ h => h) (Or.inl ⟨by rfl, ?_⟩) (by assumption) ?_; rotate_left; (focus (intro w hSw; skip; go_simp; (try with_reducible rfl))); (try (refine wpAnyL_norm (by simp only [Act.put, List.setIfInBounds_toArray, List.set_cons_zero, List.set_cons_succ]; rfl) ?_))
      refine wpAnyL_take (i := 8) (v := ?_) rfl (by kernel_rfl) (fun _ _ _ h => h) (Or.inl ⟨by rfl, ?_⟩) (by assumption) ?_; rotate_left; (focus (intro w hSw; skip; go_simp; (try with_reducible rfl))); (try (refine wpAnyL_norm (by simp only [Act.put, List.setIfInBounds_toArray, List.set_cons_zero, List.set_cons_succ]; rfl) ?_))
      refine wpAnyL_ready (rs := [3]) (by kernel_rfl) (by simp) ?_; refine AllReadyL.cons rfl (fun K hK => ?_) AllReadyL.nil
      go_simp
      have CS : Calls Tryd.prog 25 #[.int .i64 3] V3.drew fun e w' => e = .returned (.int .u32 128) ∧ V3.drew = w' := slot_any 3 _
      refine CS.mono ?_
      rintro e w8 ⟨rfl, rfl⟩
      refine hK.out _ _ (fun _ => hHeld) (fun hHeld' => ?_); have hHeld := hHeld' (by decide); clear hHeld' hK K; (try (refine wpAnyL_norm (by simp only [Act.put, List.setIfInBounds_toArray, List.set_cons_zero, List.set_cons_succ]; rfl) ?_))
      refine wpAnyL_take (i := 4) (v := ?_) rfl (by kernel_rfl) (fun _ _ _ h => h) (Or.inl ⟨by rfl, ?_⟩) (by assumption) ?_; rotate_left; (focus (intro w hSw; skip; go_simp; (try with_reducible rfl))); (try (refine wpAnyL_norm (by simp only [Act.put, List.setIfInBounds_toArray, List.set_cons_zero, List.set_cons_succ]; rfl) ?_))
      refine wpAnyL_take (i := 5) (v := ?_) rfl (by kernel_rfl) (fun _ _ _ h => h) (Or.inl ⟨by rfl, ?_⟩) (by assumption) ?_; rotate_left; (focus (intro w hSw; (have e1 : IntKind.i64.wrap 128 = 128 := rfl); (have e2 : IntKind.i64.wrap 2 = 2 := rfl); (have e3 : Int.tdiv 256 128 = 2 := rfl); go_simp; (try with_reducible rfl))); (try (refine wpAnyL_norm (by simp only [Act.put, List.setIfInBounds_toArray, List.set_cons_zero, List.set_cons_succ]; rfl) ?_))
      refine wpAnyL_ready (rs := [6]) (by kernel_rfl) (by simp) ?_; refine AllReadyL.cons rfl (fun K hK => ?_) AllReadyL.nil
      go_simp
      have CB : Calls Tryd.prog 24 #[.int .i64 2] V3.drew fun e w' => ∃ bp, e = .returned (.pointer (some ⟨bp, 0, none⟩)) ∧ Book w' bp 2 noF noT ∧ V3.drew.heap.size ≤ bp ∧ Fr [] V3.drew w' := bnew_any 2 (by omega) (by omega) _
      refine CB.mono ?_
      rintro e U3 ⟨b3, rfl, hb, hge3, hfb⟩
      have HB3 := Lib.hid hb
      have HFB3 := Lib.hid ((((Fr.refl [hp] V3).drew).trans hfb (by simp)) : Fr [hp] V3 U3)
      refine hK.out _ _ (fun _ => hHeld.fr hfb (by simp)) (fun hHeld' => ?_); have hHeld := hHeld' (by decide); clear hHeld' hK K; (try (refine wpAnyL_norm (by simp only [Act.put, List.setIfInBounds_toArray, List.set_cons_zero, List.set_cons_succ]; rfl) ?_))
      refine wpAnyL_take (i := 9) (v := ?_) rfl (by kernel_rfl) (fun _ _ _ h => h) (Or.inl ⟨by rfl, ?_⟩) (by assumption) ?_; rotate_left; (focus (intro w hSw; skip; go_simp; (try with_reducible rfl))); (try (refine wpAnyL_norm (by simp only [Act.put, List.setIfInBounds_toArray, List.set_cons_zero, List.set_cons_succ]; rfl) ?_))
      refine wpAnyL_ready (rs := [10]) (by kernel_rfl) (by simp) ?_; refine AllReadyL.cons rfl (fun K hK => ?_) AllReadyL.nil
      have d0 := hHeld.cell 6
      have f0 := hHeld.froz 6
      simp only [List.getElem?_toArray, List.getElem?_cons_zero, List.getElem?_cons_succ] at d0
      go_simp
      have HFV4 := Lib.hid (HFB3.out.set (a := ⟨hp, 6, none⟩) (.inl (by simp)) (.pointer (some ⟨b3, 0, none⟩)))
      have HBV3 := Lib.hid (And.intro HB3.out (Fr.set (Fr.refl [hp] U3) (a := ⟨hp, 6, none⟩) (.inl (by simp)) (.pointer (some ⟨b3, 0, none⟩))))
      have A4c := Lib.hid (hHeld.set 6 (.pointer (some ⟨b3, 0, none⟩)))
      refine hK.out _ _ (fun h => (h (by decide)).elim) (fun _ => ?_); clear hK K; (try (refine wpAnyL_norm (by simp only [Act.put, List.setIfInBounds_toArray, List.set_cons_zero, List.set_cons_succ]; rfl) ?_))
      refine wpAnyL_done (by kernel_rfl) ?_ _
      obtain ⟨V4, hV⟩ : ∃ V, U3.setCell ⟨hp, 6, none⟩ (.pointer (some ⟨b3, 0, none⟩)) = V := ⟨_, rfl⟩
      rw [hV] at HFV4 HBV3 A4c ⊢
      clear hV d0 f0 hHeld CS CB hb hfb
      go_wp2_with fail
      rw [rounds_succ]
      go_wp2_with fail
      refine wp_region_L (fun V => At V hp 55 #[.int .u32 r1, .int .u32 r2, .pointer (some ⟨pp, 0, none⟩), .pointer (some ⟨b0, 0, none⟩), .pointer (some ⟨b1, 0, none⟩), .pointer (some ⟨b2, 0, none⟩), .pointer (some ⟨b3, 0, none⟩), .pointer none, .map (some m1), .map (some m2)]) [10] (by kernel_rfl) (A4c.out.hp rfl) fun hHeld => ?_
      refine wpAnyL_take (i := 0) (v := ?_) rfl (by kernel_rfl) (fun _ _ _ h => h) (Or.inl ⟨by rfl, ?_⟩) (by assumption) ?_; rotate_left; (focus (intro w hSw; skip; go_simp; (try with_reducible rfl))); (try (refine wpAnyL_norm (by simp only [Act.put, List.setIfInBounds_toArray, List.set_cons_zero, List.set_cons_succ]; rfl) ?_))
      refine wpAnyL_take (i := 1) (v := ?_) rfl (by kernel_rfl) (fun _ _ _ h => h) (Or.inl ⟨by rfl, ?_⟩) (by assumption) ?_; rotate_left; (focus (intro w hSw; skip; go_simp; (try with_reducible rfl))); (try (refine wpAnyL_norm (by simp only [Act.put, List.setIfInBounds_toArray, List.set_cons_zero, List.set_cons_succ]; rfl) ?_))
      refine wpAnyL_take (i := 2) (v := ?_) rfl (by kernel_rfl) (fun _ _ _ h => h) (Or.inl ⟨by rfl, ?_⟩) (by assumption) ?_; rotate_left; (focus (intro w hSw; skip; go_simp; (try with_reducible rfl))); (try (refine wpAnyL_norm (by simp only [Act.put, List.setIfInBounds_toArray, List.set_cons_zero, List.set_cons_succ]; rfl) ?_))
      refine wpAnyL_take (i := 7) (v := ?_) rfl (by kernel_rfl) (fun _ _ _ h => h) (Or.inl ⟨by rfl, ?_⟩) (by assumption) ?_; rotate_left; (focus (intro w hSw; skip; go_simp; (try with_reducible rfl))); (try (refine wpAnyL_norm (by simp only [Act.put, List.setIfInBounds_toArray, List.set_cons_zero, List.set_cons_succ]; rfl) ?_))
      refine wpAnyL_take (i := 8) (v := ?_) rfl (by kernel_rfl) (fun _ _ _ h => h) (Or.inl ⟨by rfl, ?_⟩) (by assumption) ?_; rotate_left; (focus (intro w hSw; skip; go_simp; (try with_reducible rfl))); (try (refine wpAnyL_norm (by simp only [Act.put, List.setIfInBounds_toArray, List.set_cons_zero, List.set_cons_succ]; rfl) ?_))
      refine wpAnyL_ready (rs := [3]) (by kernel_rfl) (by simp) ?_; refine AllReadyL.cons rfl (fun K hK => ?_) AllReadyL.nil
      go_simp
      have CS : Calls Tryd.prog 25 #[.int .i64 4] V4.drew fun e w' => e = .returned (.int .u32 256) ∧ V4.drew = w' := slot_any 4 _
      refine CS.mono ?_
      rintro e w8 ⟨rfl, rfl⟩
      refine hK.out _ _ (fun _ => hHeld) (fun hHeld' => ?_); have hHeld := hHeld' (by decide); clear hHeld' hK K; (try (refine wpAnyL_norm (by simp only [Act.put, List.setIfInBounds_toArray, List.set_cons_zero, List.set_cons_succ]; rfl) ?_))
      refine wpAnyL_take (i := 4) (v := ?_) rfl (by kernel_rfl) (fun _ _ _ h => h) (Or.inl ⟨by rfl, ?_⟩) (by assumption) ?_; rotate_left; (focus (intro w hSw; skip; go_simp; (try with_reducible rfl))); (try (refine wpAnyL_norm (by simp only [Act.put, List.setIfInBounds_toArray, List.set_cons_zero, List.set_cons_succ]; rfl) ?_))
      refine wpAnyL_take (i := 5) (v := ?_) rfl (by kernel_rfl) (fun _ _ _ h => h) (Or.inl ⟨by rfl, ?_⟩) (by assumption) ?_; rotate_left; (focus (intro w hSw; (have e1 : IntKind.i64.wrap 256 = 256 := rfl); (have e2 : IntKind.i64.wrap 1 = 1 := rfl); (have e3 : Int.tdiv 256 256 = 1 := rfl); go_simp; (try with_reducible rfl))); (try (refine wpAnyL_norm (by simp only [Act.put, List.setIfInBounds_toArray, List.set_cons_zero, List.set_cons_succ]; rfl) ?_))
      refine wpAnyL_ready (rs := [6]) (by kernel_rfl) (by simp) ?_; refine AllReadyL.cons rfl (fun K hK => ?_) AllReadyL.nil
      go_simp
      have CB : Calls Tryd.prog 24 #[.int .i64 1] V4.drew fun e w' => ∃ bp, e = .returned (.pointer (some ⟨bp, 0, none⟩)) ∧ Book w' bp 1 noF noT ∧ V4.drew.heap.size ≤ bp ∧ Fr [] V4.drew w' := bnew_any 1 (by omega) (by omega) _
      refine CB.mono ?_
      rintro e U4 ⟨b4, rfl, hb, hge4, hfb⟩
      have HB4 := Lib.hid hb
      have HFB4 := Lib.hid ((((Fr.refl [hp] V4).drew).trans hfb (by simp)) : Fr [hp] V4 U4)
      refine hK.out _ _ (fun _ => hHeld.fr hfb (by simp)) (fun hHeld' => ?_); have hHeld := hHeld' (by decide); clear hHeld' hK K; (try (refine wpAnyL_norm (by simp only [Act.put, List.setIfInBounds_toArray, List.set_cons_zero, List.set_cons_succ]; rfl) ?_))
      refine wpAnyL_take (i := 9) (v := ?_) rfl (by kernel_rfl) (fun _ _ _ h => h) (Or.inl ⟨by rfl, ?_⟩) (by assumption) ?_; rotate_left; (focus (intro w hSw; skip; go_simp; (try with_reducible rfl))); (try (refine wpAnyL_norm (by simp only [Act.put, List.setIfInBounds_toArray, List.set_cons_zero, List.set_cons_succ]; rfl) ?_))
      refine wpAnyL_ready (rs := [10]) (by kernel_rfl) (by simp) ?_; refine AllReadyL.cons rfl (fun K hK => ?_) AllReadyL.nil
      have d0 := hHeld.cell 7
      have f0 := hHeld.froz 7
      simp only [List.getElem?_toArray, List.getElem?_cons_zero, List.getElem?_cons_succ] at d0
      go_simp
      have HFV5 := Lib.hid (HFB4.out.set (a := ⟨hp, 7, none⟩) (.inl (by simp)) (.pointer (some ⟨b4, 0, none⟩)))
      have HBV4 := Lib.hid (And.intro HB4.out (Fr.set (Fr.refl [hp] U4) (a := ⟨hp, 7, none⟩) (.inl (by simp)) (.pointer (some ⟨b4, 0, none⟩))))
      have A5c := Lib.hid (hHeld.set 7 (.pointer (some ⟨b4, 0, none⟩)))
      refine hK.out _ _ (fun h => (h (by decide)).elim) (fun _ => ?_); clear hK K; (try (refine wpAnyL_norm (by simp only [Act.put, List.setIfInBounds_toArray, List.set_cons_zero, List.set_cons_succ]; rfl) ?_))
      refine wpAnyL_done (by kernel_rfl) ?_ _
      obtain ⟨V5, hV⟩ : ∃ V, U4.setCell ⟨hp, 7, none⟩ (.pointer (some ⟨b4, 0, none⟩)) = V := ⟨_, rfl⟩
      rw [hV] at HFV5 HBV4 A5c ⊢
      clear hV d0 f0 hHeld CS CB hb hfb
      go_wp2_with fail
      rw [rounds_succ]
      go_wp2
      go_ret2
      obtain ⟨ha, hk⟩ := HAK.out
      have hge := HGE.out
      have hnd := HND.out
      simp only [List.nodup_cons, List.mem_cons, List.not_mem_nil, or_false, not_or] at hnd
      have sW := HFW.out.size
      have lP := HPl.out.1.lt
      have lP2 := HPl.out.2.1.lt
      have lM1 := HM1.out.lt
      have lM2 := HM2.out.lt
      have lH := HHp.out.lt
      have s0 := HF0b.out.size
      have t0 := HFB0.out.size
      have u0 := HFV1.out.size
      have w0 := HBV0.out.1.lt
      have x0 := HBV0.out.2.size
      have t1 := HFB1.out.size
      have u1 := HFV2.out.size
      have w1 := HBV1.out.1.lt
      have x1 := HBV1.out.2.size
      have t2 := HFB2.out.size
      have u2 := HFV3.out.size
      have w2 := HBV2.out.1.lt
      have x2 := HBV2.out.2.size
      have t3 := HFB3.out.size
      have u3 := HFV4.out.size
      have w3 := HBV3.out.1.lt
      have x3 := HBV3.out.2.size
      have t4 := HFB4.out.size
      have u4 := HFV5.out.size
      have w4 := HBV4.out.1.lt
      have x4 := HBV4.out.2.size
      simp only [World.size_drew] at hge0 hge1 hge2 hge3 hge4
      have hb0 : W.heap.size ≤ b0 := by omega
      have hb1 : b0 < b1 := by omega
      have hb2 : b1 < b2 := by omega
      have hb3 : b2 < b3 := by omega
      have hb4 : b3 < b4 := by omega
      have F5 : Fr [hp] V0 V5 := (((HFV1.out.trans HFV2.out (fun k hk => .inl hk)).trans HFV3.out (fun k hk => .inl hk)).trans HFV4.out (fun k hk => .inl hk)).trans HFV5.out (fun k hk => .inl hk)
      have F15 : Fr [hp] V1 V5 := ((HFV2.out.trans HFV3.out (fun k hk => .inl hk)).trans HFV4.out (fun k hk => .inl hk)).trans HFV5.out (fun k hk => .inl hk)
      have F25 : Fr [hp] V2 V5 := (HFV3.out.trans HFV4.out (fun k hk => .inl hk)).trans HFV5.out (fun k hk => .inl hk)
      have F35 : Fr [hp] V3 V5 := HFV4.out.trans HFV5.out (fun k hk => .inl hk)
      have F45 : Fr [hp] V4 V5 := HFV5.out
      have P5 : Pl V5 pp pt pg 1024 (setr (fun _ => false) a k) := HP0.out.fr F5 (by simp; omega) (by simp; omega) (by simp; omega)
      have FW5 : Fr [pg, hp] W V5 := (HF0b.out.more (T := [pg, hp]) (by simp)).trans F5 (fun k hk => .inl (by simp at hk; simp [hk]))
      have M1 : Ms V5 m1 [] := HM1.out.fr FW5 (by simp; omega)
      have M2 : Ms V5 m2 [] := HM2.out.fr FW5 (by simp; omega)
      have B0 := (HBV0.out.1.fr HBV0.out.2 (by simp; omega)).fr F15 (by simp; omega)
      have B1 := (HBV1.out.1.fr HBV1.out.2 (by simp; omega)).fr F25 (by simp; omega)
      have B2 := (HBV2.out.1.fr HBV2.out.2 (by simp; omega)).fr F35 (by simp; omega)
      have B3 := (HBV3.out.1.fr HBV3.out.2 (by simp; omega)).fr F45 (by simp; omega)
      have B4 := HBV4.out.1.fr HBV4.out.2 (by simp; omega)
      obtain ⟨h1, h2, h3, h4⟩ := HH.out
      have hG : Good (r1, r2) [] := ⟨h1, h2, h3, h4, by simp, by simp, by simp, by simp, by simp⟩
      have hfr : frP (r1, r2) ([] ++ []) = setr (fun _ => false) a k := funext fun q => by
        unfold frP setr inn tou
        dsimp only
        rw [Bool.eq_iff_iff]
        simp
        omega
      refine ⟨⟨hp, pp, pt, pg, m1, m2, fun c => if c = 0 then b0 else if c = 1 then b1 else if c = 2 then b2 else if c = 3 then b3 else b4⟩, rfl, ⟨⟨A5c.out, ?_, fun c hc => ?_, ?_, hG⟩, M1, M2, List.Pairwise.nil, List.Pairwise.nil, by simp⟩, ?_, ?_⟩
      · rw [hfr]; exact P5
      · rcases five hc with rfl | rfl | rfl | rfl | rfl
        · exact B0
        · exact B1
        · exact B2
        · exact B3
        · exact B4
      · simp [HId.foot]
        omega
      · intro q hq
        simp [HId.foot] at hq
        omega
      · exact HFW.out.trans FW5 (fun k hk => .inr (by simp at hk; omega))
    | _ => exact h.elim
end Go.Proofs.YtdbpmojblgmhdaaDoor
