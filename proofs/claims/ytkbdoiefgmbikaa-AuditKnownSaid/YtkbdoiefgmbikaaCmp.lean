/-
  Lists of places, and of faults, held against each other. No condition.
-/



import Derived.Test.YtkbdoiefgmbikaaSmall
import Derived.Deep.CutBlock
import Derived.Deep.DeepCutAuto
import Derived.BigRegion
set_option linter.unusedVariables false
namespace Go.Proofs.Ytkbdoiefgmbikaa
open Go.ChangeShapes Go.WideShapes Go.ChangeAt Go.RowKit
set_option maxRecDepth 100000 in
theorem fault_eq (a b c d : Int) (w : World) : (Op.equalIn 10000 46 (.agg #[.int .i64 a, .int .i64 b]) (.agg #[.int .i64 c, .int .i64 d])).run Try.prog w = .ok (a == c && b == d) w := by
  have u1 := Try.underlying44
  have u2 := Try.underlying3
  have a1 := Try.isAgg44
  have a2 := Try.isAgg3
  have z1 := Try.sizeOf44
  have z2 := Try.sizeOf3
  have hS : Try.prog.underlying 46 = some (.struct (Try.prog.fieldsOf 46)) := by kernel_rfl
  rw [show (10000 : Nat) = 9999 + 1 from rfl, run_equalIn_struct w 9999 46 _ _ hS (by kernel_rfl)]
  simp only [Program.fieldsOf, Try.underlying46]
  go_simp
  by_cases h0 : a = c
  · by_cases h1 : b = d <;> simp [h0, h1]
  · simp [h0]
def iRow (l : List Nat) : List (List Value) := l.map fun (n : Nat) => [Value.int .i64 (n : Int)]
def fRow (l : List (Nat × Nat)) : List (List Value) := l.map fun p => [.int .i64 (p.1 : Int), .int .i64 (p.2 : Int)]
theorem take_snoc_eq {α : Type} (l1 l2 : List α) (k : Nat) (x y : α) (h1 : l1[k]? = some x) (h2 : l2[k]? = some y) (h : l1.take k = l2.take k) : l1.take (k + 1) = l2.take (k + 1) ↔ x = y := by
  rw [List.take_add_one, List.take_add_one, h1, h2, h]
  simp
set_option maxHeartbeats 2000000 in
set_option maxRecDepth 100000 in
theorem ints_any (w : World) (a b : Option Addr) (c1 c2 : Nat) (l1 l2 : List Nat) (h1 : RowsAt w a 1 (iRow l1)) (h2 : RowsAt w b 1 (iRow l2)) (hn : l1.length ≤ 1000000) (hn2 : l2.length ≤ 1000000) :
    Calls Try.prog 10 #[.slice a l1.length c1, .slice b l2.length c2] w fun r w' => r = .returned (.bool (decide (l1 = l2))) ∧ Fr [] w w' := by
  have H1 := Lib.hid h1
  have H2 := Lib.hid h2
  obtain ⟨n, hnn⟩ : ∃ n, l1.length = n := ⟨_, rfl⟩
  obtain ⟨m, hmm⟩ : ∃ m, l2.length = m := ⟨_, rfl⟩
  have HN := Lib.hid hnn
  have HM := Lib.hid hmm
  rw [hnn] at hn ⊢
  rw [hmm] at hn2 ⊢
  obtain ⟨R, hR⟩ : ∃ R, decide (l1 = l2) = R := ⟨_, rfl⟩
  have HR := Lib.hid hR
  rw [hR]
  clear h1 h2 hnn hmm hR
  by_cases hlen : n = m
  · subst hlen
    go_enter Try.func10, Try.ntmps10
    go_wp2_with fail
    go_loopw [5] (fun i wr => ∃ k : Nat, k ≤ n ∧ i = .int .i64 k ∧ l1.take k = l2.take k ∧ Fr [] w wr) (fun i _ => n - (intOf i).toNat)
    case atStart => exact ⟨0, by omega, rfl, rfl, Fr.refl _ _⟩
    case round =>
      obtain ⟨k, hk, rfl, he, hf⟩ := hrel
      have HE := Lib.hid he
      have FR := Lib.hid hf
      clear he hf
      by_cases hlt : k < n
      · obtain ⟨x, hx⟩ : ∃ x, l1[k]? = some x := ⟨_, List.getElem?_eq_getElem (by rw [HN.out]; exact hlt)⟩
        obtain ⟨y, hy⟩ : ∃ y, l2[k]? = some y := ⟨_, List.getElem?_eq_getElem (by rw [HM.out]; exact hlt)⟩
        have hiff := take_snoc_eq l1 l2 k x y hx hy HE.out
        rcases H1.out with h0 | ⟨g1, o1, rfl, hg1, hc1⟩
        · have : l1 = [] := by simpa [iRow] using h0
          rw [this] at hx; cases hx
        rcases H2.out with h0 | ⟨g2, o2, rfl, hg2, hc2⟩
        · have : l2 = [] := by simpa [iRow] using h0
          rw [this] at hy; cases hy
        have e1 := hc1 k [.int .i64 x] (by unfold iRow; rw [List.getElem?_map, hx]; rfl) 0 _ rfl
        have e2 := hc2 k [.int .i64 y] (by unfold iRow; rw [List.getElem?_map, hy]; rfl) 0 _ rfl
        rw [Go.WideShapes.add_plain, Nat.mul_one, Nat.add_zero] at e1 e2
        have E1 := Lib.hid fun W (hW : Fr [] w W) => (hW.cell (a := ⟨g1, o1 + k, none⟩) hg1 (by simp)).trans e1
        have E2 := Lib.hid fun W (hW : Fr [] w W) => (hW.cell (a := ⟨g2, o2 + k, none⟩) hg2 (by simp)).trans e2
        have HIF := Lib.hid hiff
        have hne : ¬ l1.take (k + 1) = l2.take (k + 1) → l1 ≠ l2 := fun h e => h (by rw [e])
        have HNE := Lib.hid hne
        have hkI : (k : Int) < (n : Int) := by omega
        have HX := Lib.hid hx
        have HY := Lib.hid hy
        clear hiff hne hx hy hc1 hc2 e1 e2
        obtain ⟨B, hB⟩ : ∃ B, ((x : Int) != (y : Int)) = B := ⟨_, rfl⟩
        have hBN : B = true ↔ x ≠ y := by rw [← hB, bne_iff_ne]; omega
        have HBN := Lib.hid hBN
        clear hBN
        go_wp2_with fail
        refine wp_region_L (fun W => Fr [] w W) [] (by kernel_rfl) FR.out.drew (fun hHeld => ?_)
        refine wpAnyL_take (i := 0) (v := ?_) rfl (by kernel_rfl) (fun _ _ _ h => h) (Or.inl ⟨by rfl, ?_⟩) (by assumption) ?_; rotate_left; (focus (intro w hSw; skip; go_simp; (try with_reducible rfl))); (try (refine wpAnyL_norm (by simp only [Act.put, List.setIfInBounds_toArray, List.set_cons_zero, List.set_cons_succ]; rfl) ?_))
        refine wpAnyL_take (i := 1) (v := ?_) rfl (by kernel_rfl) (fun _ _ _ h => h) (Or.inl ⟨by rfl, ?_⟩) (by assumption) ?_; rotate_left; (focus (intro w hSw; skip; go_simp; (try with_reducible rfl))); (try (refine wpAnyL_norm (by simp only [Act.put, List.setIfInBounds_toArray, List.set_cons_zero, List.set_cons_succ]; rfl) ?_))
        refine wpAnyL_take (i := 2) (v := ?_) rfl (by kernel_rfl) (fun _ _ _ h => h) (Or.inl ⟨by rfl, ?_⟩) (by assumption) ?_; rotate_left; (focus (intro w hSw; skip; go_simp; (try with_reducible rfl))); (try (refine wpAnyL_norm (by simp only [Act.put, List.setIfInBounds_toArray, List.set_cons_zero, List.set_cons_succ]; rfl) ?_))
        refine wpAnyL_take (i := 3) (v := ?_) rfl (by kernel_rfl) (fun _ _ _ h => h) (Or.inl ⟨by rfl, ?_⟩) (by assumption) ?_; rotate_left; (focus (intro w hSw; have c := E1.out _ hSw; go_simp; (try with_reducible rfl))); (try (refine wpAnyL_norm (by simp only [Act.put, List.setIfInBounds_toArray, List.set_cons_zero, List.set_cons_succ]; rfl) ?_))
        refine wpAnyL_take (i := 4) (v := ?_) rfl (by kernel_rfl) (fun _ _ _ h => h) (Or.inl ⟨by rfl, ?_⟩) (by assumption) ?_; rotate_left; (focus (intro w hSw; skip; go_simp; (try with_reducible rfl))); (try (refine wpAnyL_norm (by simp only [Act.put, List.setIfInBounds_toArray, List.set_cons_zero, List.set_cons_succ]; rfl) ?_))
        refine wpAnyL_take (i := 5) (v := ?_) rfl (by kernel_rfl) (fun _ _ _ h => h) (Or.inl ⟨by rfl, ?_⟩) (by assumption) ?_; rotate_left; (focus (intro w hSw; skip; go_simp; (try with_reducible rfl))); (try (refine wpAnyL_norm (by simp only [Act.put, List.setIfInBounds_toArray, List.set_cons_zero, List.set_cons_succ]; rfl) ?_))
        refine wpAnyL_take (i := 6) (v := ?_) rfl (by kernel_rfl) (fun _ _ _ h => h) (Or.inl ⟨by rfl, ?_⟩) (by assumption) ?_; rotate_left; (focus (intro w hSw; skip; go_simp; (try with_reducible rfl))); (try (refine wpAnyL_norm (by simp only [Act.put, List.setIfInBounds_toArray, List.set_cons_zero, List.set_cons_succ]; rfl) ?_))
        refine wpAnyL_take (i := 7) (v := ?_) rfl (by kernel_rfl) (fun _ _ _ h => h) (Or.inl ⟨by rfl, ?_⟩) (by assumption) ?_; rotate_left; (focus (intro w hSw; have c := E2.out _ hSw; go_simp; (try with_reducible rfl))); (try (refine wpAnyL_norm (by simp only [Act.put, List.setIfInBounds_toArray, List.set_cons_zero, List.set_cons_succ]; rfl) ?_))
        refine wpAnyL_take (i := 8) (v := ?_) rfl (by kernel_rfl) (fun _ _ _ h => h) (Or.inl ⟨by rfl, ?_⟩) (by assumption) ?_; rotate_left; (focus (intro w hSw; skip; go_simp; (try with_reducible rfl))); (try (refine wpAnyL_norm (by simp only [Act.put, List.setIfInBounds_toArray, List.set_cons_zero, List.set_cons_succ]; rfl) ?_))
        refine wpAnyL_done (by kernel_rfl) ?_ _
        cases B
        · go_wp2_with fail
          go_roundw
          case rel =>
            have hxy : x = y := by
              have := HBN.out
              simp at this
              exact this
            exact ⟨k + 1, by omega, by go_num, HIF.out.2 hxy, hHeld⟩
          case measure => simp [intOf]; omega
        · go_wp2_with fail
          go_ret
          have hxy := HBN.out.1 (by simp)
          have := HNE.out (fun e => hxy (HIF.out.1 e))
          rw [← HR.out, decide_eq_false this]
          exact ⟨rfl, hHeld⟩
      · obtain rfl : k = n := by omega
        go_wp2_with fail
        go_ret
        have := HE.out
        rw [List.take_of_length_le (by rw [HN.out]; exact Nat.le_refl _), List.take_of_length_le (by rw [HM.out]; exact Nat.le_refl _)] at this
        rw [← HR.out, decide_eq_true this]
        exact ⟨rfl, FR.out⟩
  · have hd : ((n : Int) != (m : Int)) = true := by rw [bne_iff_ne]; omega
    have hne : l1 ≠ l2 := fun e => hlen (by rw [← HN.out, ← HM.out, e])
    have HNE := Lib.hid hne
    clear hne
    go_enter Try.func10, Try.ntmps10
    go_wp2_with fail
    go_ret
    rw [← HR.out, decide_eq_false HNE.out]
    exact ⟨rfl, Fr.refl _ _⟩
set_option maxHeartbeats 2000000 in
set_option maxRecDepth 100000 in
theorem faults_any (w : World) (a b : Option Addr) (c1 c2 : Nat) (l1 l2 : List (Nat × Nat)) (h1 : RowsAt w a 2 (fRow l1)) (h2 : RowsAt w b 2 (fRow l2)) (hn : l1.length ≤ 1000000) (hn2 : l2.length ≤ 1000000) :
    Calls Try.prog 17 #[.slice a l1.length c1, .slice b l2.length c2] w fun r w' => r = .returned (.bool (decide (l1 = l2))) ∧ Fr [] w w' := by
  have H1 := Lib.hid h1
  have H2 := Lib.hid h2
  obtain ⟨n, hnn⟩ : ∃ n, l1.length = n := ⟨_, rfl⟩
  obtain ⟨m, hmm⟩ : ∃ m, l2.length = m := ⟨_, rfl⟩
  have HN := Lib.hid hnn
  have HM := Lib.hid hmm
  rw [hnn] at hn ⊢
  rw [hmm] at hn2 ⊢
  obtain ⟨R, hR⟩ : ∃ R, decide (l1 = l2) = R := ⟨_, rfl⟩
  have HR := Lib.hid hR
  rw [hR]
  clear h1 h2 hnn hmm hR
  by_cases hlen : n = m
  · subst hlen
    go_enter Try.func17, Try.ntmps17
    go_wp2_with fail
    go_loopw [5] (fun i wr => ∃ k : Nat, k ≤ n ∧ i = .int .i64 k ∧ l1.take k = l2.take k ∧ Fr [] w wr) (fun i _ => n - (intOf i).toNat)
    case atStart => exact ⟨0, by omega, rfl, rfl, Fr.refl _ _⟩
    case round =>
      obtain ⟨k, hk, rfl, he, hf⟩ := hrel
      have HE := Lib.hid he
      have FR := Lib.hid hf
      clear he hf
      by_cases hlt : k < n
      · obtain ⟨x, hx⟩ : ∃ x, l1[k]? = some x := ⟨_, List.getElem?_eq_getElem (by rw [HN.out]; exact hlt)⟩
        obtain ⟨y, hy⟩ : ∃ y, l2[k]? = some y := ⟨_, List.getElem?_eq_getElem (by rw [HM.out]; exact hlt)⟩
        have hiff := take_snoc_eq l1 l2 k x y hx hy HE.out
        rcases H1.out with h0 | ⟨g1, o1, rfl, hg1, hc1⟩
        · have : l1 = [] := by simpa [fRow] using h0
          rw [this] at hx; cases hx
        rcases H2.out with h0 | ⟨g2, o2, rfl, hg2, hc2⟩
        · have : l2 = [] := by simpa [fRow] using h0
          rw [this] at hy; cases hy
        have e1 := hc1 k [.int .i64 x.1, .int .i64 x.2] (by unfold fRow; rw [List.getElem?_map, hx]; rfl)
        have e2 := hc2 k [.int .i64 y.1, .int .i64 y.2] (by unfold fRow; rw [List.getElem?_map, hy]; rfl)
        have E1 := Lib.hid fun W (hW : Fr [] w W) j v (hv : [Value.int .i64 (x.1 : Int), .int .i64 (x.2 : Int)][j]? = some v) => show W.cell? ((⟨g1, o1 + k * 2, none⟩ : Addr).add j) = some v by (have := e1 j v hv); rw [Go.WideShapes.add_plain] at this ⊢; exact (hW.cell (a := ⟨g1, o1 + k * 2 + j, none⟩) hg1 (by simp)).trans this
        have E2 := Lib.hid fun W (hW : Fr [] w W) j v (hv : [Value.int .i64 (y.1 : Int), .int .i64 (y.2 : Int)][j]? = some v) => show W.cell? ((⟨g2, o2 + k * 2, none⟩ : Addr).add j) = some v by (have := e2 j v hv); rw [Go.WideShapes.add_plain] at this ⊢; exact (hW.cell (a := ⟨g2, o2 + k * 2 + j, none⟩) hg2 (by simp)).trans this
        have hq := fun W => fault_eq x.1 x.2 y.1 y.2 W
        have HIFt := Lib.hid (show (Try.prog.info? 46).map (·.size) = some 2 by kernel_rfl)
        have HIF := Lib.hid hiff
        have hne : ¬ l1.take (k + 1) = l2.take (k + 1) → l1 ≠ l2 := fun h e => h (by rw [e])
        have HNE := Lib.hid hne
        have hkI : (k : Int) < (n : Int) := by omega
        have HX := Lib.hid hx
        have HY := Lib.hid hy
        clear hiff hne hx hy hc1 hc2 e1 e2
        obtain ⟨B, hB⟩ : ∃ B, ((x.1 : Int) == (y.1 : Int) && (x.2 : Int) == (y.2 : Int)) = B := ⟨_, rfl⟩
        have hBN : B = true ↔ x = y := by
          rw [← hB, Bool.and_eq_true, beq_iff_eq, beq_iff_eq, Prod.ext_iff]
          omega
        rw [hB] at hq
        clear hB
        have HBN := Lib.hid hBN
        clear hBN
        go_wp2_with fail
        refine wp_region_L (fun W => Fr [] w W) [] (by kernel_rfl) FR.out.drew (fun hHeld => ?_)
        refine wpAnyL_take (i := 0) (v := ?_) rfl (by kernel_rfl) (fun _ _ _ h => h) (Or.inl ⟨by rfl, ?_⟩) (by assumption) ?_; rotate_left; (focus (intro w hSw; skip; go_simp; (try with_reducible rfl))); (try (refine wpAnyL_norm (by simp only [Act.put, List.setIfInBounds_toArray, List.set_cons_zero, List.set_cons_succ]; rfl) ?_))
        refine wpAnyL_take (i := 1) (v := ?_) rfl (by kernel_rfl) (fun _ _ _ h => h) (Or.inl ⟨by rfl, ?_⟩) (by assumption) ?_; rotate_left; (focus (intro w hSw; skip; go_simp; (try with_reducible rfl))); (try (refine wpAnyL_norm (by simp only [Act.put, List.setIfInBounds_toArray, List.set_cons_zero, List.set_cons_succ]; rfl) ?_))
        refine wpAnyL_take (i := 2) (v := ?_) rfl (by kernel_rfl) (fun _ _ _ h => h) (Or.inl ⟨by rfl, ?_⟩) (by assumption) ?_; rotate_left; (focus (intro w hSw; skip; go_simp; (try with_reducible rfl))); (try (refine wpAnyL_norm (by simp only [Act.put, List.setIfInBounds_toArray, List.set_cons_zero, List.set_cons_succ]; rfl) ?_))
        refine wpAnyL_take (i := 3) rfl (by kernel_rfl) (fun _ _ _ h => h) (yields_load_at 46 (.tmp 19) rfl ⟨g1, o1 + k * 2, none⟩ rfl [.int .i64 x.1, .int .i64 x.2] _ (fun W hW => E1.out W hW) Try.underlying46 rfl HIFt.out rfl) (by assumption) ?_; (try (refine wpAnyL_norm (by simp only [Act.put, List.setIfInBounds_toArray, List.set_cons_zero, List.set_cons_succ]; rfl) ?_))
        refine wpAnyL_take (i := 4) (v := ?_) rfl (by kernel_rfl) (fun _ _ _ h => h) (Or.inl ⟨by rfl, ?_⟩) (by assumption) ?_; rotate_left; (focus (intro w hSw; skip; go_simp; (try with_reducible rfl))); (try (refine wpAnyL_norm (by simp only [Act.put, List.setIfInBounds_toArray, List.set_cons_zero, List.set_cons_succ]; rfl) ?_))
        refine wpAnyL_take (i := 5) (v := ?_) rfl (by kernel_rfl) (fun _ _ _ h => h) (Or.inl ⟨by rfl, ?_⟩) (by assumption) ?_; rotate_left; (focus (intro w hSw; skip; go_simp; (try with_reducible rfl))); (try (refine wpAnyL_norm (by simp only [Act.put, List.setIfInBounds_toArray, List.set_cons_zero, List.set_cons_succ]; rfl) ?_))
        refine wpAnyL_take (i := 6) (v := ?_) rfl (by kernel_rfl) (fun _ _ _ h => h) (Or.inl ⟨by rfl, ?_⟩) (by assumption) ?_; rotate_left; (focus (intro w hSw; skip; go_simp; (try with_reducible rfl))); (try (refine wpAnyL_norm (by simp only [Act.put, List.setIfInBounds_toArray, List.set_cons_zero, List.set_cons_succ]; rfl) ?_))
        refine wpAnyL_take (i := 7) rfl (by kernel_rfl) (fun _ _ _ h => h) (yields_load_at 46 (.tmp 23) rfl ⟨g2, o2 + k * 2, none⟩ rfl [.int .i64 y.1, .int .i64 y.2] _ (fun W hW => E2.out W hW) Try.underlying46 rfl HIFt.out rfl) (by assumption) ?_; (try (refine wpAnyL_norm (by simp only [Act.put, List.setIfInBounds_toArray, List.set_cons_zero, List.set_cons_succ]; rfl) ?_))
        refine wpAnyL_take (i := 8) (v := ?_) rfl (by kernel_rfl) (fun _ _ _ h => h) (Or.inl ⟨by rfl, ?_⟩) (by assumption) ?_; rotate_left; (focus (intro w hSw; skip; go_simp; (try with_reducible rfl))); (try (refine wpAnyL_norm (by simp only [Act.put, List.setIfInBounds_toArray, List.set_cons_zero, List.set_cons_succ]; rfl) ?_))
        refine wpAnyL_done (by kernel_rfl) ?_ _
        cases B
        · go_wp2_with fail
          go_ret
          have hxy : x ≠ y := fun e => by have := HBN.out.2 e; simp at this
          have := HNE.out (fun e => hxy (HIF.out.1 e))
          rw [← HR.out, decide_eq_false this]
          exact ⟨rfl, hHeld⟩
        · go_wp2_with fail
          go_roundw
          case rel => exact ⟨k + 1, by omega, by go_num, HIF.out.2 (HBN.out.1 (by simp)), hHeld⟩
          case measure => simp [intOf]; omega
      · obtain rfl : k = n := by omega
        go_wp2_with fail
        go_ret
        have := HE.out
        rw [List.take_of_length_le (by rw [HN.out]; exact Nat.le_refl _), List.take_of_length_le (by rw [HM.out]; exact Nat.le_refl _)] at this
        rw [← HR.out, decide_eq_true this]
        exact ⟨rfl, FR.out⟩
  · have hd : ((n : Int) != (m : Int)) = true := by rw [bne_iff_ne]; omega
    have hne : l1 ≠ l2 := fun e => hlen (by rw [← HN.out, ← HM.out, e])
    have HNE := Lib.hid hne
    clear hne
    go_enter Try.func17, Try.ntmps17
    go_wp2_with fail
    go_ret
    rw [← HR.out, decide_eq_false HNE.out]
    exact ⟨rfl, Fr.refl _ _⟩
end Go.Proofs.Ytkbdoiefgmbikaa
