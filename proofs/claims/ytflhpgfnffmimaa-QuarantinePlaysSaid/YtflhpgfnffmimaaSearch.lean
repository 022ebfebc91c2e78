/-
  slices.BinarySearchFunc among regions by their places. Condition: a sorted list of a hundred thousand at most.
-/


import Derived.Test.YtflhpgfnffmimaaRgL
import Derived.Deep.CutBlock
import Derived.Deep.DeepCutAuto
set_option linter.unusedVariables false
namespace Go.Proofs.Ytflhpgfnffmimaa
open Go.ChangeShapes Go.WideShapes Go.ChangeAt Go.RowKit
theorem addf_any (w : World) (a b c d : Nat) (ha : a < 4294967296) (hc : c < 4294967296) :
    Calls Try.prog 50 #[.agg #[.int .u32 a, .int .u32 b], .agg #[.int .u32 c, .int .u32 d]] w fun r w' => r = .returned (.int .i64 ((a : Int) - c)) ∧ Fr [] w w' := by
  have h1 : IntKind.i64.wrap (a : Int) = a := by simp [IntKind.wrap, IntKind.signed, IntKind.bits]; omega
  have h2 : IntKind.i64.wrap (c : Int) = c := by simp [IntKind.wrap, IntKind.signed, IntKind.bits]; omega
  go_enter Try.func50, Try.ntmps50
  go_wp2_with fail
  go_ret
  exact ⟨rfl, (by repeat (first | exact Fr.refl _ _ | assumption | refine Fr.trans0 ?_ (by assumption) | refine Fr.drewN ?_ _ | refine Fr.alloc ?_ _ | refine Fr.drew ?_))⟩
/-- The place among regions: all that lie ahead of it begin below, all from it on do not. -/
def Place (l : List (Nat × Nat)) (a k : Nat) : Prop := k ≤ l.length ∧ (∀ (j : Nat) (r : Nat × Nat), j < k → l[j]? = some r → r.1 < a) ∧ ∀ (j : Nat) (r : Nat × Nat), k ≤ j → l[j]? = some r → a ≤ r.1
def Rise (l : List (Nat × Nat)) : Prop := ∀ (i j : Nat) (r s : Nat × Nat), i < j → l[i]? = some r → l[j]? = some s → r.1 < s.1
def SomeB (k : Nat) (e : Ending) : Prop := ∃ b : Bool, e = .returned (.tuple #[.int .i64 k, .bool b])
def Found (l : List (Nat × Nat)) (a : Nat) (w : World) (e : Ending) (w' : World) : Prop := ∃ k : Nat, Place l a k ∧ SomeB k e ∧ Fr [] w w'
set_option maxHeartbeats 2000000 in
set_option maxRecDepth 100000 in
theorem bsearch_any (w : World) (v : Value) (l : List (Nat × Nat)) (r : Nat × Nat) (hv : w.ownsRow 0 30 2 v l.length (rgv l)) (hl : l.length ≤ 100000) (hs : Rise l) (hb : ∀ x ∈ l, x.1 < 4294967296) (hr : r.1 < 4294967296) :
    Calls Try.prog 49 #[v, .agg #[.int .u32 r.1, .int .u32 r.2], .func (.func 50) #[] #[]] w (Found l r.1 w) := by
  obtain ⟨n, hn⟩ : ∃ n, l.length = n := ⟨_, rfl⟩
  have HN := Lib.hid hn
  rw [hn] at hv hl
  have ho := rows_open hv
  obtain ⟨va, vc, rfl, hvc⟩ := own_slice hv
  have hcell : n = 0 ∨ ∃ g, va = some ⟨g, 0, none⟩ ∧ ∀ W, Fr [] w W → ∀ i x, l[i]? = some x → ∀ j u, [Value.int .u32 (x.1 : Int), .int .u32 (x.2 : Int)][j]? = some u → W.cell? ((⟨g, i * 2, none⟩ : Addr).add j) = some u := by
    rcases ho with ⟨_, h0⟩ | ⟨g, cap, cur, e, -, hA, h1, h2, h3, h4⟩
    · exact .inl h0
    · injection e with e _ _
      refine .inr ⟨g, e, fun W hW i x hx j u hu => ?_⟩
      obtain ⟨q0, q1⟩ := rgv_get l i x hx
      have hlt := (List.getElem?_eq_some_iff.1 hx).1
      have hA' := hA.fr hW (by simp)
      have hu' : (rgv l)[i * 2 + j]? = some u := by
        match j, hu with
        | 0, hu => rw [Nat.add_zero, q0]; exact hu
        | 1, hu => rw [q1]; exact hu
      rw [Go.WideShapes.add_plain]
      exact rows_at hA' h4 (n := n) (cap := cap) 0 (i * 2 + j) u (by simpa using hu') |> fun h => by simpa using h
  have HC := Lib.hid hcell
  have HS := Lib.hid hs
  have HB := Lib.hid hb
  have HR := Lib.hid hr
  have HIR := Lib.hid infoRgS
  have A0 := Lib.hid (At.new w 30 #[.int .u32 (r.1 : Int), .int .u32 (r.2 : Int)])
  have F0 := Lib.hid (show Fr [] w (w.alloc (.cells #[.int .u32 (r.1 : Int), .int .u32 (r.2 : Int)] 30)) from (by repeat (first | exact Fr.refl _ _ | assumption | refine Fr.trans0 ?_ (by assumption) | refine Fr.drewN ?_ _ | refine Fr.alloc ?_ _ | refine Fr.drew ?_)))
  obtain ⟨ra, hra⟩ : ∃ a, r.1 = a := ⟨_, rfl⟩
  obtain ⟨rs, hrs⟩ : ∃ a, r.2 = a := ⟨_, rfl⟩
  rw [hra, hrs] at A0 F0
  rw [hra] at HR
  rw [hra, hrs]
  clear hcell hs hb hr ho hv hn hra hrs
  go_enter Try.func49, Try.ntmps49
  go_wp2_with fail
  go_loopw [9, 10] (fun s9 s10 wr => ∃ i j : Nat, i ≤ j ∧ j ≤ n ∧ s9 = .int .i64 i ∧ s10 = .int .i64 j ∧ (∀ (t : Nat) (x : Nat × Nat), t < i → l[t]? = some x → x.1 < ra) ∧ (∀ (t : Nat) (x : Nat × Nat), j ≤ t → l[t]? = some x → ra ≤ x.1) ∧ At wr w.heap.size 30 #[.int .u32 (ra : Int), .int .u32 (rs : Int)] ∧ Fr [] w wr) (fun s9 s10 _ => (intOf s10).toNat - (intOf s9).toNat)
  case atStart => exact ⟨0, n, by omega, by omega, rfl, rfl, (fun t x h => by omega), (fun t x h hx => by have := (List.getElem?_eq_some_iff.1 hx).1; rw [HN.out] at this; omega), A0.out, F0.out⟩
  case round =>
    clear A0 F0
    obtain ⟨i, j, hij, hjn, rfl, rfl, hlo, hhi, ha, hf⟩ := hrel
    have HA := Lib.hid ha
    have HF := Lib.hid hf
    have HLO := Lib.hid hlo
    have HHI := Lib.hid hhi
    clear ha hf hlo hhi
    by_cases hlt : i < j
    · obtain ⟨m, hm⟩ : ∃ m, (i + j) / 2 = m := ⟨_, rfl⟩
      have hm1 : i ≤ m := by omega
      have hm2 : m < j := by omega
      have hmm : ((i : Int) + (j : Int)) / 2 = (m : Int) := by omega
      obtain ⟨g, rfl, hc⟩ := HC.out.resolve_left (by omega)
      obtain ⟨x, hx⟩ : ∃ x, l[m]? = some x := ⟨_, List.getElem?_eq_getElem (by rw [HN.out]; omega)⟩
      have HCX := Lib.hid fun W h => hc W h m x hx
      have CA := Lib.hid fun W => addf_any W x.1 x.2 ra rs (HB.out x (List.mem_of_getElem? hx)) HR.out
      obtain ⟨xa, hxa⟩ : ∃ a, x.1 = a := ⟨_, rfl⟩
      obtain ⟨xs, hxs⟩ : ∃ a, x.2 = a := ⟨_, rfl⟩
      rw [hxa, hxs] at CA HCX
      have HX := Lib.hid hx
      have HXA := Lib.hid hxa
      have k1 : (0 : Int) ≤ (m : Int) := by omega
      have k2 : (m : Int) < (n : Int) := by omega
      clear hm hc hx hxa hxs
      go_wp2_with fail
      have hwa : IntKind.i64.wrap (m : Int) = (m : Int) := by simp [IntKind.wrap, IntKind.signed, IntKind.bits]; omega
      refine wp_region_L (fun W => Fr [] w W ∧ At W w.heap.size 30 #[.int .u32 (ra : Int), .int .u32 (rs : Int)]) [] (by kernel_rfl) ⟨HF.out.drew, HA.out.hp rfl⟩ (fun hHeld => ?_)
      refine wpAnyL_take (i := 0) (v := ?_) rfl (by kernel_rfl) (fun _ _ _ h => h) (Or.inl ⟨by rfl, ?_⟩) (by assumption) ?_; rotate_left; (focus (intro w hSw; skip; go_simp; (try with_reducible rfl))); (try (refine wpAnyL_norm (by simp only [Act.put, List.setIfInBounds_toArray, List.set_cons_zero, List.set_cons_succ]; rfl) ?_))
      refine wpAnyL_take (i := 1) (v := ?_) rfl (by kernel_rfl) (fun _ _ _ h => h) (Or.inl ⟨by rfl, ?_⟩) (by assumption) ?_; rotate_left; (focus (intro w hSw; skip; go_simp; (try with_reducible rfl))); (try (refine wpAnyL_norm (by simp only [Act.put, List.setIfInBounds_toArray, List.set_cons_zero, List.set_cons_succ]; rfl) ?_))
      refine wpAnyL_take (i := 2) (v := ?_) rfl (by kernel_rfl) (fun _ _ _ h => h) (Or.inl ⟨by rfl, ?_⟩) (by assumption) ?_; rotate_left; (focus (intro w hSw; skip; go_simp; (try with_reducible rfl))); (try (refine wpAnyL_norm (by simp only [Act.put, List.setIfInBounds_toArray, List.set_cons_zero, List.set_cons_succ]; rfl) ?_))
      refine wpAnyL_take (i := 3) (v := ?_) rfl (by kernel_rfl) (fun _ _ _ h => h) (Or.inl ⟨by rfl, ?_⟩) (by assumption) ?_; rotate_left; (focus (intro w hSw; skip; go_simp; (try with_reducible rfl))); (try (refine wpAnyL_norm (by simp only [Act.put, List.setIfInBounds_toArray, List.set_cons_zero, List.set_cons_succ]; rfl) ?_))
      refine wpAnyL_take (i := 4) rfl (by kernel_rfl) (fun _ _ _ h => h) (yields_load_at 30 (.tmp 27) rfl ⟨g, m * 2, none⟩ rfl [.int .u32 (xa : Int), .int .u32 (xs : Int)] _ (fun W h => HCX.out W h.1) Try.underlying30 rfl infoRgS rfl) (by assumption) ?_; (try (refine wpAnyL_norm (by simp only [Act.put, List.setIfInBounds_toArray, List.set_cons_zero, List.set_cons_succ]; rfl) ?_))
      refine wpAnyL_take (i := 5) rfl (by kernel_rfl) (fun _ _ _ h => h) (yields_load_at 30 (.tmp 4) rfl ⟨w.heap.size, 0, none⟩ rfl [.int .u32 (ra : Int), .int .u32 (rs : Int)] _ (fun W h j v hv => by rw [Go.WideShapes.add_plain, Nat.zero_add, h.2.cell, List.getElem?_toArray]; exact hv) Try.underlying30 rfl infoRgS rfl) (by assumption) ?_; (try (refine wpAnyL_norm (by simp only [Act.put, List.setIfInBounds_toArray, List.set_cons_zero, List.set_cons_succ]; rfl) ?_))
      refine wpAnyL_ready (rs := [6]) (by kernel_rfl) (by simp) ?_; refine AllReadyL.cons rfl (fun K hK => ?_) AllReadyL.nil
      go_simp
      refine (CA.out _).mono ?_
      rintro e w5 ⟨rfl, hf5⟩
      refine hK.out _ _ (fun _ => ⟨hHeld.1.trans0 hf5, hHeld.2.fr hf5 (by simp)⟩) (fun hHeld' => ?_); have hHeld := hHeld' (by decide); clear hHeld' hK K; (try (refine wpAnyL_norm (by simp only [Act.put, List.setIfInBounds_toArray, List.set_cons_zero, List.set_cons_succ]; rfl) ?_))
      by_cases hxr : xa < ra
      · have d1 : decide ((xa : Int) - (ra : Int) < 0) = true := by simp; omega
        have d2 : (xa : Int) - (ra : Int) < 0 := by omega
        refine wpAnyL_take (i := 7) (v := ?_) rfl (by kernel_rfl) (fun _ _ _ h => h) (Or.inl ⟨by rfl, ?_⟩) (by assumption) ?_; rotate_left; (focus (intro w hSw; skip; go_simp; (try with_reducible rfl))); (try (refine wpAnyL_norm (by simp only [Act.put, List.setIfInBounds_toArray, List.set_cons_zero, List.set_cons_succ]; rfl) ?_))
        refine wpAnyL_done (by kernel_rfl) ?_ _
        go_wp2_with fail
        go_roundw
        case rel => exact ⟨m + 1, j, by omega, by omega, by go_num, rfl, (fun t x ht hx => by
            by_cases e : t = m
            · rw [e, HX.out] at hx; cases hx; rw [HXA.out]; exact hxr
            · rcases Nat.lt_or_ge t i with h1 | h1
              · exact HLO.out t x h1 hx
              · exact Nat.lt_trans (HS.out t m x _ (by omega) hx HX.out) (by rw [HXA.out]; exact hxr)), HHI.out, hHeld.2, hHeld.1⟩
        case measure => simp [intOf]; omega
      · have d1 : decide ((xa : Int) - (ra : Int) < 0) = false := by simp; omega
        have d2 : ¬ ((xa : Int) - (ra : Int) < 0) := by omega
        refine wpAnyL_take (i := 7) (v := ?_) rfl (by kernel_rfl) (fun _ _ _ h => h) (Or.inl ⟨by rfl, ?_⟩) (by assumption) ?_; rotate_left; (focus (intro w hSw; skip; go_simp; (try with_reducible rfl))); (try (refine wpAnyL_norm (by simp only [Act.put, List.setIfInBounds_toArray, List.set_cons_zero, List.set_cons_succ]; rfl) ?_))
        refine wpAnyL_done (by kernel_rfl) ?_ _
        go_wp2_with fail
        go_roundw
        case rel => exact ⟨i, m, by omega, by omega, rfl, rfl, HLO.out, (fun t x ht hx => by
            by_cases e : t = m
            · rw [e, HX.out] at hx; cases hx; rw [HXA.out]; omega
            · have := HS.out m t _ x (by omega) HX.out hx; rw [HXA.out] at this; omega), hHeld.2, hHeld.1⟩
        case measure => simp [intOf]; omega
    · obtain rfl : i = j := by omega
      have hwa : IntKind.i64.wrap (i : Int) = (i : Int) := by simp [IntKind.wrap, IntKind.signed, IntKind.bits]; omega
      have PL : Hid (Place l ra i) := Lib.hid ⟨by rw [HN.out]; exact hjn, HLO.out, HHI.out⟩
      by_cases hin : i < n
      · obtain ⟨g, rfl, hc⟩ := HC.out.resolve_left (by omega)
        obtain ⟨x, hx⟩ : ∃ x, l[i]? = some x := ⟨_, List.getElem?_eq_getElem (by rw [HN.out]; omega)⟩
        have HCX := Lib.hid fun W h => hc W h i x hx
        have CA := Lib.hid fun W => addf_any W x.1 x.2 ra rs (HB.out x (List.mem_of_getElem? hx)) HR.out
        obtain ⟨xa, hxa⟩ : ∃ a, x.1 = a := ⟨_, rfl⟩
        obtain ⟨xs, hxs⟩ : ∃ a, x.2 = a := ⟨_, rfl⟩
        rw [hxa, hxs] at CA HCX
        have k1 : (0 : Int) ≤ (i : Int) := by omega
        have k2 : (i : Int) < (n : Int) := by omega
        have k3 : decide ((i : Int) < (n : Int)) = true := by simp; omega
        have k4 : decide (i < n) = true := by simp; omega
        clear hc hx hxa hxs
        go_wp2_with fail
        refine wp_region_L (fun W => Fr [] w W ∧ At W w.heap.size 30 #[.int .u32 (ra : Int), .int .u32 (rs : Int)]) [] (by kernel_rfl) ⟨HF.out.drew, HA.out.hp rfl⟩ (fun hHeld => ?_)
        refine wpAnyL_take (i := 0) (v := ?_) rfl (by kernel_rfl) (fun _ _ _ h => h) (Or.inl ⟨by rfl, ?_⟩) (by assumption) ?_; rotate_left; (focus (intro w hSw; skip; go_simp; (try with_reducible rfl))); (try (refine wpAnyL_norm (by simp only [Act.put, List.setIfInBounds_toArray, List.set_cons_zero, List.set_cons_succ]; rfl) ?_))
        refine wpAnyL_take (i := 1) (v := ?_) rfl (by kernel_rfl) (fun _ _ _ h => h) (Or.inl ⟨by rfl, ?_⟩) (by assumption) ?_; rotate_left; (focus (intro w hSw; skip; go_simp; (try with_reducible rfl))); (try (refine wpAnyL_norm (by simp only [Act.put, List.setIfInBounds_toArray, List.set_cons_zero, List.set_cons_succ]; rfl) ?_))
        refine wpAnyL_take (i := 2) (v := ?_) rfl (by kernel_rfl) (fun _ _ _ h => h) (Or.inl ⟨by rfl, ?_⟩) (by assumption) ?_; rotate_left; (focus (intro w hSw; skip; go_simp; (try with_reducible rfl))); (try (refine wpAnyL_norm (by simp only [Act.put, List.setIfInBounds_toArray, List.set_cons_zero, List.set_cons_succ]; rfl) ?_))
        refine wpAnyL_take (i := 3) (v := ?_) rfl (by kernel_rfl) (fun _ _ _ h => h) (Or.inl ⟨by rfl, ?_⟩) (by assumption) ?_; rotate_left; (focus (intro w hSw; skip; go_simp; (try with_reducible rfl))); (try (refine wpAnyL_norm (by simp only [Act.put, List.setIfInBounds_toArray, List.set_cons_zero, List.set_cons_succ]; rfl) ?_))
        refine wpAnyL_take (i := 4) (v := ?_) rfl (by kernel_rfl) (fun _ _ _ h => h) (Or.inl ⟨by rfl, ?_⟩) (by assumption) ?_; rotate_left; (focus (intro w hSw; skip; go_simp; (try with_reducible rfl))); (try (refine wpAnyL_norm (by simp only [Act.put, List.setIfInBounds_toArray, List.set_cons_zero, List.set_cons_succ]; rfl) ?_))
        refine wpAnyL_take (i := 5) (v := ?_) rfl (by kernel_rfl) (fun _ _ _ h => h) (Or.inl ⟨by rfl, ?_⟩) (by assumption) ?_; rotate_left; (focus (intro w hSw; skip; go_simp; (try with_reducible rfl))); (try (refine wpAnyL_norm (by simp only [Act.put, List.setIfInBounds_toArray, List.set_cons_zero, List.set_cons_succ]; rfl) ?_))
        refine wpAnyL_take (i := 6) (v := ?_) rfl (by kernel_rfl) (fun _ _ _ h => h) (Or.inl ⟨by rfl, ?_⟩) (by assumption) ?_; rotate_left; (focus (intro w hSw; skip; go_simp; (try with_reducible rfl))); (try (refine wpAnyL_norm (by simp only [Act.put, List.setIfInBounds_toArray, List.set_cons_zero, List.set_cons_succ]; rfl) ?_))
        refine wpAnyL_take (i := 7) (v := ?_) rfl (by kernel_rfl) (fun _ _ _ h => h) (Or.inl ⟨by rfl, ?_⟩) (by assumption) ?_; rotate_left; (focus (intro w hSw; skip; go_simp; (try with_reducible rfl))); (try (refine wpAnyL_norm (by simp only [Act.put, List.setIfInBounds_toArray, List.set_cons_zero, List.set_cons_succ]; rfl) ?_))
        refine wpAnyL_take (i := 8) (v := ?_) rfl (by kernel_rfl) (fun _ _ _ h => h) (Or.inl ⟨by rfl, ?_⟩) (by assumption) ?_; rotate_left; (focus (intro w hSw; skip; go_simp; (try with_reducible rfl))); (try (refine wpAnyL_norm (by simp only [Act.put, List.setIfInBounds_toArray, List.set_cons_zero, List.set_cons_succ]; rfl) ?_))
        refine wpAnyL_take (i := 9) rfl (by kernel_rfl) (fun _ _ _ h => h) (yields_load_at 30 (.tmp 43) rfl ⟨g, i * 2, none⟩ rfl [.int .u32 (xa : Int), .int .u32 (xs : Int)] _ (fun W h => HCX.out W h.1) Try.underlying30 rfl infoRgS rfl) (by assumption) ?_; (try (refine wpAnyL_norm (by simp only [Act.put, List.setIfInBounds_toArray, List.set_cons_zero, List.set_cons_succ]; rfl) ?_))
        refine wpAnyL_take (i := 10) rfl (by kernel_rfl) (fun _ _ _ h => h) (yields_load_at 30 (.tmp 4) rfl ⟨w.heap.size, 0, none⟩ rfl [.int .u32 (ra : Int), .int .u32 (rs : Int)] _ (fun W h j v hv => by rw [Go.WideShapes.add_plain, Nat.zero_add, h.2.cell, List.getElem?_toArray]; exact hv) Try.underlying30 rfl infoRgS rfl) (by assumption) ?_; (try (refine wpAnyL_norm (by simp only [Act.put, List.setIfInBounds_toArray, List.set_cons_zero, List.set_cons_succ]; rfl) ?_))
        refine wpAnyL_ready (rs := [11]) (by kernel_rfl) (by simp) ?_; refine AllReadyL.cons rfl (fun K hK => ?_) AllReadyL.nil
        go_simp
        refine (CA.out _).mono ?_
        rintro e w5 ⟨rfl, hf5⟩
        refine hK.out _ _ (fun _ => ⟨hHeld.1.trans0 hf5, hHeld.2.fr hf5 (by simp)⟩) (fun hHeld' => ?_); have hHeld := hHeld' (by decide); clear hHeld' hK K; (try (refine wpAnyL_norm (by simp only [Act.put, List.setIfInBounds_toArray, List.set_cons_zero, List.set_cons_succ]; rfl) ?_))
        obtain ⟨B, hB⟩ : ∃ B, (((xa : Int) - (ra : Int)) == 0) = B := ⟨_, rfl⟩
        refine wpAnyL_take (i := 12) (v := ?_) rfl (by kernel_rfl) (fun _ _ _ h => h) (Or.inl ⟨by rfl, ?_⟩) (by assumption) ?_; rotate_left; (focus (intro w hSw; skip; go_simp; (try with_reducible rfl))); (try (refine wpAnyL_norm (by simp only [Act.put, List.setIfInBounds_toArray, List.set_cons_zero, List.set_cons_succ]; rfl) ?_))
        refine wpAnyL_take (i := 13) (v := ?_) rfl (by kernel_rfl) (fun _ _ _ h => h) (Or.inl ⟨by rfl, ?_⟩) (by assumption) ?_; rotate_left; (focus (intro w hSw; skip; go_simp; (try with_reducible rfl))); (try (refine wpAnyL_norm (by simp only [Act.put, List.setIfInBounds_toArray, List.set_cons_zero, List.set_cons_succ]; rfl) ?_))
        refine wpAnyL_take (i := 14) (v := ?_) rfl (by kernel_rfl) (fun _ _ _ h => h) (Or.inl ⟨by rfl, ?_⟩) (by assumption) ?_; rotate_left; (focus (intro w hSw; skip; go_simp; (try with_reducible rfl))); (try (refine wpAnyL_norm (by simp only [Act.put, List.setIfInBounds_toArray, List.set_cons_zero, List.set_cons_succ]; rfl) ?_))
        refine wpAnyL_take (i := 15) (v := ?_) rfl (by kernel_rfl) (fun _ _ _ h => h) (Or.inl ⟨by rfl, ?_⟩) (by assumption) ?_; rotate_left; (focus (intro w hSw; skip; go_simp; (try with_reducible rfl))); (try (refine wpAnyL_norm (by simp only [Act.put, List.setIfInBounds_toArray, List.set_cons_zero, List.set_cons_succ]; rfl) ?_))
        refine wpAnyL_done (by kernel_rfl) ?_ _
        go_wp2_with fail
        go_ret2
        exact ⟨i, PL.out, ⟨_, rfl⟩, hHeld.1⟩
      · obtain rfl : i = n := by omega
        go_wp2_with fail
        refine wp_region_L (fun W => Fr [] w W ∧ At W w.heap.size 30 #[.int .u32 (ra : Int), .int .u32 (rs : Int)]) [] (by kernel_rfl) ⟨HF.out.drew, HA.out.hp rfl⟩ (fun hHeld => ?_)
        refine wpAnyL_take (i := 0) (v := ?_) rfl (by kernel_rfl) (fun _ _ _ h => h) (Or.inl ⟨by rfl, ?_⟩) (by assumption) ?_; rotate_left; (focus (intro w hSw; skip; go_simp; (try with_reducible rfl))); (try (refine wpAnyL_norm (by simp only [Act.put, List.setIfInBounds_toArray, List.set_cons_zero, List.set_cons_succ]; rfl) ?_))
        refine wpAnyL_take (i := 1) (v := ?_) rfl (by kernel_rfl) (fun _ _ _ h => h) (Or.inl ⟨by rfl, ?_⟩) (by assumption) ?_; rotate_left; (focus (intro w hSw; skip; go_simp; (try with_reducible rfl))); (try (refine wpAnyL_norm (by simp only [Act.put, List.setIfInBounds_toArray, List.set_cons_zero, List.set_cons_succ]; rfl) ?_))
        refine wpAnyL_take (i := 2) (v := ?_) rfl (by kernel_rfl) (fun _ _ _ h => h) (Or.inl ⟨by rfl, ?_⟩) (by assumption) ?_; rotate_left; (focus (intro w hSw; skip; go_simp; (try with_reducible rfl))); (try (refine wpAnyL_norm (by simp only [Act.put, List.setIfInBounds_toArray, List.set_cons_zero, List.set_cons_succ]; rfl) ?_))
        refine wpAnyL_take (i := 3) (v := ?_) rfl (by kernel_rfl) (fun _ _ _ h => h) (Or.inl ⟨by rfl, ?_⟩) (by assumption) ?_; rotate_left; (focus (intro w hSw; skip; go_simp; (try with_reducible rfl))); (try (refine wpAnyL_norm (by simp only [Act.put, List.setIfInBounds_toArray, List.set_cons_zero, List.set_cons_succ]; rfl) ?_))
        refine wpAnyL_take (i := 4) (v := ?_) rfl (by kernel_rfl) (fun _ _ _ h => h) (Or.inl ⟨by rfl, ?_⟩) (by assumption) ?_; rotate_left; (focus (intro w hSw; skip; go_simp; (try with_reducible rfl))); (try (refine wpAnyL_norm (by simp only [Act.put, List.setIfInBounds_toArray, List.set_cons_zero, List.set_cons_succ]; rfl) ?_))
        refine wpAnyL_take (i := 5) (v := undef) rfl (by kernel_rfl) (fun _ _ _ h => h) (Or.inr ⟨by rfl, rfl⟩) (by assumption) ?_; (try (refine wpAnyL_norm (by simp only [Act.put, List.setIfInBounds_toArray, List.set_cons_zero, List.set_cons_succ]; rfl) ?_))
        refine wpAnyL_take (i := 6) (v := undef) rfl (by kernel_rfl) (fun _ _ _ h => h) (Or.inr ⟨by rfl, rfl⟩) (by assumption) ?_; (try (refine wpAnyL_norm (by simp only [Act.put, List.setIfInBounds_toArray, List.set_cons_zero, List.set_cons_succ]; rfl) ?_))
        refine wpAnyL_take (i := 7) (v := undef) rfl (by kernel_rfl) (fun _ _ _ h => h) (Or.inr ⟨by rfl, rfl⟩) (by assumption) ?_; (try (refine wpAnyL_norm (by simp only [Act.put, List.setIfInBounds_toArray, List.set_cons_zero, List.set_cons_succ]; rfl) ?_))
        refine wpAnyL_take (i := 8) (v := undef) rfl (by kernel_rfl) (fun _ _ _ h => h) (Or.inr ⟨by rfl, rfl⟩) (by assumption) ?_; (try (refine wpAnyL_norm (by simp only [Act.put, List.setIfInBounds_toArray, List.set_cons_zero, List.set_cons_succ]; rfl) ?_))
        refine wpAnyL_take (i := 9) (v := undef) rfl (by kernel_rfl) (fun _ _ _ h => h) (Or.inr ⟨by rfl, rfl⟩) (by assumption) ?_; (try (refine wpAnyL_norm (by simp only [Act.put, List.setIfInBounds_toArray, List.set_cons_zero, List.set_cons_succ]; rfl) ?_))
        refine wpAnyL_take (i := 10) (v := undef) rfl (by kernel_rfl) (fun _ _ _ h => h) (Or.inr ⟨by rfl, rfl⟩) (by assumption) ?_; (try (refine wpAnyL_norm (by simp only [Act.put, List.setIfInBounds_toArray, List.set_cons_zero, List.set_cons_succ]; rfl) ?_))
        refine wpAnyL_take (i := 11) (v := undef) rfl (by kernel_rfl) (fun _ _ _ h => h) (Or.inr ⟨by rfl, rfl⟩) (by assumption) ?_; (try (refine wpAnyL_norm (by simp only [Act.put, List.setIfInBounds_toArray, List.set_cons_zero, List.set_cons_succ]; rfl) ?_))
        refine wpAnyL_take (i := 12) (v := undef) rfl (by kernel_rfl) (fun _ _ _ h => h) (Or.inr ⟨by rfl, rfl⟩) (by assumption) ?_; (try (refine wpAnyL_norm (by simp only [Act.put, List.setIfInBounds_toArray, List.set_cons_zero, List.set_cons_succ]; rfl) ?_))
        refine wpAnyL_take (i := 13) (v := ?_) rfl (by kernel_rfl) (fun _ _ _ h => h) (Or.inl ⟨by rfl, ?_⟩) (by assumption) ?_; rotate_left; (focus (intro w hSw; skip; go_simp; (try with_reducible rfl))); (try (refine wpAnyL_norm (by simp only [Act.put, List.setIfInBounds_toArray, List.set_cons_zero, List.set_cons_succ]; rfl) ?_))
        refine wpAnyL_take (i := 14) (v := ?_) rfl (by kernel_rfl) (fun _ _ _ h => h) (Or.inl ⟨by rfl, ?_⟩) (by assumption) ?_; rotate_left; (focus (intro w hSw; skip; go_simp; (try with_reducible rfl))); (try (refine wpAnyL_norm (by simp only [Act.put, List.setIfInBounds_toArray, List.set_cons_zero, List.set_cons_succ]; rfl) ?_))
        refine wpAnyL_take (i := 15) (v := ?_) rfl (by kernel_rfl) (fun _ _ _ h => h) (Or.inl ⟨by rfl, ?_⟩) (by assumption) ?_; rotate_left; (focus (intro w hSw; skip; go_simp; (try with_reducible rfl))); (try (refine wpAnyL_norm (by simp only [Act.put, List.setIfInBounds_toArray, List.set_cons_zero, List.set_cons_succ]; rfl) ?_))
        refine wpAnyL_done (by kernel_rfl) ?_ _
        go_wp2_with fail
        go_ret2
        exact ⟨i, PL.out, ⟨_, rfl⟩, hHeld.1⟩
end Go.Proofs.Ytflhpgfnffmimaa
