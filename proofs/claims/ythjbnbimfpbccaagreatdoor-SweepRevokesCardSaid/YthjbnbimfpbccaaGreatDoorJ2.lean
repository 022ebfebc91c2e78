/-
  slices.BinarySearchFunc among regions by their places. Condition: a sorted list of a hundred thousand at most.
-/
import Derived.Deep.CutBlock
import Derived.Deep.DeepCutAuto
import Derived.Test.YthjbnbimfpbccaaGreatDoorJ1


set_option linter.unusedVariables false
namespace Go.Proofs.YthjbnbimfpbccaaGreatDoor
open Go.ChangeShapes Go.WideShapes Go.ChangeAt Go.RowKit
theorem addf_any (w : World) (a b c d : Nat) (ha : a < 4294967296) (hc : c < 4294967296) :
    Calls Tryz.prog 101 #[.agg #[.int .u32 a, .int .u32 b], .agg #[.int .u32 c, .int .u32 d]] w fun r w' => r = .returned (.int .i64 ((a : Int) - c)) ∧ Fr [] w w' := by
  have h1 : IntKind.i64.wrap (a : Int) = a := by simp [IntKind.wrap, IntKind.signed, IntKind.bits]; omega
  have h2 : IntKind.i64.wrap (c : Int) = c := by simp [IntKind.wrap, IntKind.signed, IntKind.bits]; omega
  go_enter Tryz.func101, Tryz.ntmps101
  go_wp2_with fail
  go_ret
  exact ⟨rfl, (by repeat (first | exact Fr.refl _ _ | assumption | refine Fr.trans0 ?_ (by assumption) | refine Fr.drewN ?_ _ | refine Fr.alloc ?_ _ | refine Fr.drew ?_))⟩
/-- The place among regions: all that lie ahead of it begin below, all from it on do not. -/
def Place (l : List (Nat × Nat)) (a k : Nat) : Prop := k ≤ l.length ∧ (∀ (j : Nat) (r : Nat × Nat), j < k → l[j]? = some r → r.1 < a) ∧ ∀ (j : Nat) (r : Nat × Nat), k ≤ j → l[j]? = some r → a ≤ r.1
def Rise (l : List (Nat × Nat)) : Prop := ∀ (i j : Nat) (r s : Nat × Nat), i < j → l[i]? = some r → l[j]? = some s → r.1 < s.1
def SomeB (k : Nat) (e : Ending) : Prop := ∃ b : Bool, e = .returned (.tuple #[.int .i64 k, .bool b])
def Found (l : List (Nat × Nat)) (a : Nat) (w : World) (e : Ending) (w' : World) : Prop := ∃ k : Nat, Place l a k ∧ SomeB k e ∧ Fr [] w w'
set_option maxHeartbeats 2000000 in
set_option maxRecDepth 100000 in
theorem bsearch_any (w : World) (v : Value) (l : List (Nat × Nat)) (r : Nat × Nat) (hv : w.ownsRow 0 45 2 v l.length (rgv l)) (hl : l.length ≤ 100000) (hs : Rise l) (hb : ∀ x ∈ l, x.1 < 4294967296) (hr : r.1 < 4294967296) :
    Calls Tryz.prog 100 #[v, .agg #[.int .u32 r.1, .int .u32 r.2], .func (.func 101) #[] #[]] w (Found l r.1 w) := by
  obtain ⟨n, hn⟩ : ∃ n, l.length = n := ⟨_, rfl⟩
  have HN := Lib.hid hn
  rw [hn] at hv hl
  have ho := rows_open hv
  obtain ⟨va, vc, rfl, hvc⟩ := own_slice hv
  have hcell : n = 0 ∨ ∃ g, va = some ⟨g, 0, none⟩ ∧ ∀ W, Fr [] w W → ∀ i x, l[i]? = some x → ∀ j u, [Value.int .u32 (x.1 : Int), .int .u32 (x.2 : Int)][j]? = some u → W.cell? ((⟨g, i * 2, none⟩ : Addr).add j) = some u := by
    rcases ho with ⟨_, h0⟩ | ⟨g, cap, cur, e, -, hA, h1, h2, h3, h4⟩
    · exact .inl h0
    · injection e with e _ _
      refine .inr ⟨g, e, fun W hW i x hx j u hu => ?_⟩
      obtain ⟨q0, q1⟩ := rgv_get l i x hx
      have hlt := (List.getElem?_eq_some_iff.1 hx).1
      have hA' := hA.fr hW (by simp)
      have hu' : (rgv l)[i * 2 + j]? = some u := by
        match j, hu with
        | 0, hu => rw [Nat.add_zero, q0]; exact hu
        | 1, hu => rw [q1]; exact hu
      rw [Go.WideShapes.add_plain]
      exact rows_at hA' h4 (n := n) (cap := cap) 0 (i * 2 + j) u (by simpa using hu') |> fun h => by simpa using h
  have HC := Lib.hid hcell
  have HS := Lib.hid hs
  have HB := Lib.hid hb
  have HR := Lib.hid hr
  have HIR := Lib.hid infoRgS
  have A0 := Lib.hid (At.new w 45 #[.int .u32 (r.1 : Int), .int .u32 (r.2 : Int)])
  have F0 := Lib.hid (show Fr [] w (w.alloc (.cells #[.int .u32 (r.1 : Int), .int .u32 (r.2 : Int)] 45)) from (by repeat (first | exact Fr.refl _ _ | assumption | refine Fr.trans0 ?_ (by assumption) | refine Fr.drewN ?_ _ | refine Fr.alloc ?_ _ | refine Fr.drew ?_)))
  obtain ⟨ra, hra⟩ : ∃ a, r.1 = a := ⟨_, rfl⟩
  obtain ⟨rs, hrs⟩ : ∃ a, r.2 = a := ⟨_, rfl⟩
  rw [hra, hrs] at A0 F0
  rw [hra] at HR
  rw [hra, hrs]
  clear hcell hs hb hr ho hv hn hra hrs
  go_enter Tryz.func100, Tryz.ntmps100
  go_wp2_with fail
  go_loopw [9, 10] (fun s9 s10 wr => ∃ i j : Nat, i ≤ j ∧ j ≤ n ∧ s9 = .int .i64 i ∧ s10 = .int .i64 j ∧ (∀ (t : Nat) (x : Nat × Nat), t < i → l[t]? = some x → x.1 < ra) ∧ (∀ (t : Nat) (x : Nat × Nat), j ≤ t → l[t]? = some x → ra ≤ x.1) ∧ At wr w.heap.size 45 #[.int .u32 (ra : Int), .int .u32 (rs : Int)] ∧ Fr [] w wr) (fun s9 s10 _ => (intOf s10).toNat - (intOf s9).toNat)
  case atStart => exact ⟨0, n, by omega, by omega, rfl, rfl, (fun t x h => by omega), (fun t x h hx => by have := (List.getElem?_eq_some_iff.1 hx).1; rw [HN.out] at this; omega), A0.out, F0.out⟩
  case round =>
    clear A0 F0
    obtain ⟨i, j, hij, hjn, rfl, rfl, hlo, hhi, ha, hf⟩ := hrel
    have HA := Lib.hid ha
    have HF := Lib.hid hf
    have HLO := Lib.hid hlo
    have HHI := Lib.hid hhi
    clear ha hf hlo hhi
    by_cases hlt : i < j
    · obtain ⟨m, hm⟩ : ∃ m, (i + j) / 2 = m := ⟨_, rfl⟩
      have hm1 : i ≤ m := by omega
      have hm2 : m < j := by omega
      have hmm : ((i : Int) + (j : Int)) / 2 = (m : Int) := by omega
      obtain ⟨g, rfl, hc⟩ := HC.out.resolve_left (by omega)
      obtain ⟨x, hx⟩ : ∃ x, l[m]? = some x := ⟨_, List.getElem?_eq_getElem (by rw [HN.out]; omega)⟩
      have HCX := Lib.hid fun W h => hc W h m x hx
      have CA := Lib.hid fun W => addf_any W x.1 x.2 ra rs (HB.out x (List.mem_of_getElem? hx)) HR.out
      obtain ⟨xa, hxa⟩ : ∃ a, x.1 = a := ⟨_, rfl⟩
      obtain ⟨xs, hxs⟩ : ∃ a, x.2 = a := ⟨_, rfl⟩
      rw [hxa, hxs] at CA HCX
      have HX := Lib.hid hx
      have HXA := Lib.hid hxa
      have k1 : (0 : Int) ≤ (m : Int) := by omega
      have k2 : (m : Int) < (n : Int) := by omega
      clear hm hc hx hxa hxs
      go_wp2_with fail
      have hwa : IntKind.i64.wrap (m : Int) = (m : Int) := by simp [IntKind.wrap, IntKind.signed, IntKind.bits]; omega
      refine wp_region_L (fun W => Fr [] w W ∧ At W w.heap.size 45 #[.int .u32 (ra : Int), .int .u32 (rs : Int)]) [] (by kernel_rfl) ⟨HF.out.drew, HA.out.hp rfl⟩ (fun hHeld => ?_)
      refine wpAnyL_take (i := 0) (v := ?_) rfl (by kernel_rfl) (fun _ _ _ h => h) (Or.inl ⟨by rfl, ?_⟩) (by assumption) ?_; rotate_left; (focus (intro w hSw; skip; go_simp; (try with_reducible rfl))); (try (refine wpAnyL_norm (by simp only [Act.put, List.setIfInBounds_toArray, List.set_cons_zero, List.set_cons_succ]; rfl) ?_))
      refine wpAnyL_take (i := 1) (v := ?_) rfl (by kernel_rfl) (fun _ _ _ h => h) (Or.inl ⟨by rfl, ?_⟩) (by assumption) ?_; rotate_left; (focus (intro w hSw; skip; go_simp; (try with_reducible rfl))); (try (refine wpAnyL_norm (by simp only [Act.put, List.setIfInBounds_toArray, List.set_cons_zero, List.set_cons_succ]; rfl) ?_))
      refine wpAnyL_take (i := 2) (v := ?_) rfl (by kernel_rfl) (fun _ _ _ h => h) (Or.inl ⟨by rfl, ?_⟩) (by assumption) ?_; rotate_left; (focus (intro w hSw; skip; go_simp; (try with_reducible rfl))); (try (refine wpAnyL_norm (by simp only [Act.put, List.setIfInBounds_toArray, List.set_cons_zero, List.set_cons_succ]; rfl) ?_))
      refine wpAnyL_take (i := 3) (v := ?_) rfl (by kernel_rfl) (fun _ _ _ h => h) (Or.inl ⟨by rfl, ?_⟩) (by assumption) ?_; rotate_left; (focus (intro w hSw; skip; go_simp; (try with_reducible rfl))); (try (refine wpAnyL_norm (by simp only [Act.put, List.setIfInBounds_toArray, List.set_cons_zero, List.set_cons_succ]; rfl) ?_))
      refine wpAnyL_take (i := 4) rfl (by kernel_rfl) (fun _ _ _ h => h) (yields_load_at 45 (.tmp 27) rfl ⟨g, m * 2, none⟩ rfl [.int .u32 (xa : Int), .int .u32 (xs : Int)] _ (fun W h => HCX.out W h.1) Tryz.underlying45 rfl infoRgS rfl) (by assumption) ?_; (try (refine wpAnyL_norm (by simp only [Act.put, List.setIfInBounds_toArray, List.set_cons_zero, List.set_cons_succ]; rfl) ?_))
      refine wpAnyL_take (i := 5) rfl (by kernel_rfl) (fun _ _ _ h => h) (yields_load_at 45 (.tmp 4) rfl ⟨w.heap.size, 0, none⟩ rfl [.int .u32 (ra : Int), .int .u32 (rs : Int)] _ (fun W h j v hv => by rw [Go.WideShapes.add_plain, Nat.zero_add, h.2.cell, List.getElem?_toArray]; exact hv) Tryz.underlying45 rfl infoRgS rfl) (by assumption) ?_; (try (refine wpAnyL_norm (by simp only [Act.put, List.setIfInBounds_toArray, List.set_cons_zero, List.set_cons_succ]; rfl) ?_))
      refine wpAnyL_ready (rs := [6]) (by kernel_rfl) (by simp) ?_; refine AllReadyL.cons rfl (fun K hK => ?_) AllReadyL.nil
      go_simp
      refine (CA.out _).mono ?_
      rintro e w5 ⟨rfl, hf5⟩
      refine hK.out _ _ (fun _ => ⟨hHeld.1.trans0 hf5, hHeld.2.fr hf5 (by simp)⟩) (fun hHeld' => ?_); have hHeld := hHeld' (by decide); clear hHeld' hK K; (try (refine wpAnyL_norm (by simp only [Act.put, List.setIfInBounds_toArray, List.set_cons_zero, List.set_cons_succ]; rfl) ?_))
      by_cases hxr : xa < ra
      · have d1 : decide ((xa : Int) - (ra : Int) < 0) = true := by simp; omega
        have d2 : (xa : Int) - (ra : Int) < 0 := by omega
        refine wpAnyL_take (i := 7) (v := ?_) rfl (by kernel_rfl) (fun _ _ _ h => h) (Or.inl ⟨by rfl, ?_⟩) (by assumption) ?_; rotate_left; (focus (intro w hSw; skip; go_simp; (try with_reducible rfl))); (try (refine wpAnyL_norm (by simp only [Act.put, List.setIfInBounds_toArray, List.set_cons_zero, List.set_cons_succ]; rfl) ?_))
        refine wpAnyL_done (by kernel_rfl) ?_ _
        go_wp2_with fail
        go_roundw
        case rel => exact ⟨m + 1, j, by omega, by omega, by go_num, rfl, (fun t x ht hx => by
            by_cases e : t = m
            · rw [e, HX.out] at hx; cases hx; rw [HXA.out]; exact hxr
            · rcases Nat.lt_or_ge t i with h1 | h1
              · exact HLO.out t x h1 hx
              · exact Nat.lt_trans (HS.out t m x _ (by omega) hx HX.out) (by rw [HXA.out]; exact hxr)), HHI.out, hHeld.2, hHeld.1⟩
        case measure => simp [intOf]; omega
      · have d1 : decide ((xa : Int) - (ra : Int) < 0) = false := by simp; omega
        have d2 : ¬ ((xa : Int) - (ra : Int) < 0) := by omega
        refine wpAnyL_take (i := 7) (v := ?_) rfl (by kernel_rfl) (fun _ _ _ h => h) (Or.inl ⟨by rfl, ?_⟩) (by assumption) ?_; rotate_left; (focus (intro w hSw; skip; go_simp; (try with_reducible rfl))); (try (refine wpAnyL_norm (by simp only [Act.put, List.setIfInBounds_toArray, List.set_cons_zero, List.set_cons_succ]; rfl) ?_))
        refine wpAnyL_done (by kernel_rfl) ?_ _
        go_wp2_with fail
        go_roundw
        case rel => exact ⟨i, m, by omega, by omega, rfl, rfl, HLO.out, (fun t x ht hx => by
            by_cases e : t = m
            · rw [e, HX.out] at hx; cases hx; rw [HXA.out]; omega
            · have := HS.out m t _ x (by omega) HX.out hx; rw [HXA.out] at this; omega), hHeld.2, hHeld.1⟩
        case measure => simp [intOf]; omega
    · obtain rfl : i = j := by omega
      have hwa : IntKind.i64.wrap (i : Int) = (i : Int) := by simp [IntKind.wrap, IntKind.signed, IntKind.bits]; omega
      have PL : Hid (Place l ra i) := Lib.hid ⟨by rw [HN.out]; exact hjn, HLO.out, HHI.out⟩
      by_cases hin : i < n
      · obtain ⟨g, rfl, hc⟩ := HC.out.resolve_left (by omega)
        obtain ⟨x, hx⟩ : ∃ x, l[i]? = some x := ⟨_, List.getElem?_eq_getElem (by rw [HN.out]; omega)⟩
        have HCX := Lib.hid fun W h => hc W h i x hx
        have CA := Lib.hid fun W => addf_any W x.1 x.2 ra rs (HB.out x (List.mem_of_getElem? hx)) HR.out
        obtain ⟨xa, hxa⟩ : ∃ a, x.1 = a := ⟨_, rfl⟩
        obtain ⟨xs, hxs⟩ : ∃ a, x.2 = a := ⟨_, rfl⟩
        rw [hxa, hxs] at CA HCX
        have k1 : (0 : Int) ≤ (i : Int) := by omega
        have k2 : (i : Int) < (n : Int) := by omega
        have k3 : decide ((i : Int) < (n : Int)) = true := by simp; omega
        have k4 : decide (i < n) = true := by simp; omega
        clear hc hx hxa hxs
        go_wp2_with fail
        refine wp_region_L (fun W => Fr [] w W ∧ At W w.heap.size 45 #[.int .u32 (ra : Int), .int .u32 (rs : Int)]) [] (by kernel_rfl) ⟨HF.out.drew, HA.out.hp rfl⟩ (fun hHeld => ?_)
        refine wpAnyL_take (i := 0) (v := ?_) rfl (by kernel_rfl) (fun _ _ _ h => h) (Or.inl ⟨by rfl, ?_⟩) (by assumption) ?_; rotate_left; (focus (intro w hSw; skip; go_simp; (try with_reducible rfl))); (try (refine wpAnyL_norm (by simp only [Act.put, List.setIfInBounds_toArray, List.set_cons_zero, List.set_cons_succ]; rfl) ?_))
        refine wpAnyL_take (i := 1) (v := ?_) rfl (by kernel_rfl) (fun _ _ _ h => h) (Or.inl ⟨by rfl, ?_⟩) (by assumption) ?_; rotate_left; (focus (intro w hSw; skip; go_simp; (try with_reducible rfl))); (try (refine wpAnyL_norm (by simp only [Act.put, List.setIfInBounds_toArray, List.set_cons_zero, List.set_cons_succ]; rfl) ?_))
        refine wpAnyL_take (i := 2) (v := ?_) rfl (by kernel_rfl) (fun _ _ _ h => h) (Or.inl ⟨by rfl, ?_⟩) (by assumption) ?_; rotate_left; (focus (intro w hSw; skip; go_simp; (try with_reducible rfl))); (try (refine wpAnyL_norm (by simp only [Act.put, List.setIfInBounds_toArray, List.set_cons_zero, List.set_cons_succ]; rfl) ?_))
        refine wpAnyL_take (i := 3) (v := ?_) rfl (by kernel_rfl) (fun _ _ _ h => h) (Or.inl ⟨by rfl, ?_⟩) (by assumption) ?_; rotate_left; (focus (intro w hSw; skip; go_simp; (try with_reducible rfl))); (try (refine wpAnyL_norm (by simp only [Act.put, List.setIfInBounds_toArray, List.set_cons_zero, List.set_cons_succ]; rfl) ?_))
        refine wpAnyL_take (i := 4) (v := ?_) rfl (by kernel_rfl) (fun _ _ _ h => h) (Or.inl ⟨by rfl, ?_⟩) (by assumption) ?_; rotate_left; (focus (intro w hSw; skip; go_simp; (try with_reducible rfl))); (try (refine wpAnyL_norm (by simp only [Act.put, List.setIfInBounds_toArray, List.set_cons_zero, List.set_cons_succ]; rfl) ?_))
        refine wpAnyL_take (i := 5) (v := ?_) rfl (by kernel_rfl) (fun _ _ _ h => h) (Or.inl ⟨by rfl, ?_⟩) (by assumption) ?_; rotate_left; (focus (intro w hSw; skip; go_simp; (try with_reducible rfl))); (try (refine wpAnyL_norm (by simp only [Act.put, List.setIfInBounds_toArray, List.set_cons_zero, List.set_cons_succ]; rfl) ?_))
        refine wpAnyL_take (i := 6) (v := ?_) rfl (by kernel_rfl) (fun _ _ _ h => h) (Or.inl ⟨by rfl, ?_⟩) (by assumption) ?_; rotate_left; (focus (intro w hSw; skip; go_simp; (try with_reducible rfl))); (try (refine wpAnyL_norm (by simp only [Act.put, List.setIfInBounds_toArray, List.set_cons_zero, List.set_cons_succ]; rfl) ?_))
        refine wpAnyL_take (i := 7) (v := ?_) rfl (by kernel_rfl) (fun _ _ _ h => h) (Or.inl ⟨by rfl, ?_⟩) (by assumption) ?_; rotate_left; (focus (intro w hSw; skip; go_simp; (try with_reducible rfl))); (try (refine wpAnyL_norm (by simp only [Act.put, List.setIfInBounds_toArray, List.set_cons_zero, List.set_cons_succ]; rfl) ?_))
        refine wpAnyL_take (i := 8) (v := ?_) rfl (by kernel_rfl) (fun _ _ _ h => h) (Or.inl ⟨by rfl, ?_⟩) (by assumption) ?_; rotate_left; (focus (intro w hSw; skip; go_simp; (try with_reducible rfl))); (try (refine wpAnyL_norm (by simp only [Act.put, List.setIfInBounds_toArray, List.set_cons_zero, List.set_cons_succ]; rfl) ?_))
        refine wpAnyL_take (i := 9) rfl (by kernel_rfl) (fun _ _ _ h => h) (yields_load_at 45 (.tmp 43) rfl ⟨g, i * 2, none⟩ rfl [.int .u32 (xa : Int), .int .u32 (xs : Int)] _ (fun W h => HCX.out W h.1) Tryz.underlying45 rfl infoRgS rfl) (by assumption) ?_; (try (refine wpAnyL_norm (by simp only [Act.put, List.setIfInBounds_toArray, List.set_cons_zero, List.set_cons_succ]; rfl) ?_))
        refine wpAnyL_take (i := 10) rfl (by kernel_rfl) (fun _ _ _ h => h) (yields_load_at 45 (.tmp 4) rfl ⟨w.heap.size, 0, none⟩ rfl [.int .u32 (ra : Int), .int .u32 (rs : Int)] _ (fun W h j v hv => by rw [Go.WideShapes.add_plain, Nat.zero_add, h.2.cell, List.getElem?_toArray]; exact hv) Tryz.underlying45 rfl infoRgS rfl) (by assumption) ?_; (try (refine wpAnyL_norm (by simp only [Act.put, List.setIfInBounds_toArray, List.set_cons_zero, List.set_cons_succ]; rfl) ?_))
        refine wpAnyL_ready (rs := [11]) (by kernel_rfl) (by simp) ?_; refine AllReadyL.cons rfl (fun K hK => ?_) AllReadyL.nil
        go_simp
        refine (CA.out _).mono ?_
        rintro e w5 ⟨rfl, hf5⟩
        refine hK.out _ _ (fun _ => ⟨hHeld.1.trans0 hf5, hHeld.2.fr hf5 (by simp)⟩) (fun hHeld' => ?_); have hHeld := hHeld' (by decide); clear hHeld' hK K; (try (refine wpAnyL_norm (by simp only [Act.put, List.setIfInBounds_toArray, List.set_cons_zero, List.set_cons_succ]; rfl) ?_))
        obtain ⟨B, hB⟩ : ∃ B, (((xa : Int) - (ra : Int)) == 0) = B := ⟨_, rfl⟩
        refine wpAnyL_take (i := 12) (v := ?_) rfl (by kernel_rfl) (fun _ _ _ h => h) (Or.inl ⟨by rfl, ?_⟩) (by assumption) ?_; rotate_left; (focus (intro w hSw; skip; go_simp; (try with_reducible rfl))); (try (refine wpAnyL_norm (by simp only [Act.put, List.setIfInBounds_toArray, List.set_cons_zero, List.set_cons_succ]; rfl) ?_))
        refine wpAnyL_take (i := 13) (v := ?_) rfl (by kernel_rfl) (fun _ _ _ h => h) (Or.inl ⟨by rfl, ?_⟩) (by assumption) ?_; rotate_left; (focus (intro w hSw; skip; go_simp; (try with_reducible rfl))); (try (refine wpAnyL_norm (by simp only [Act.put, List.setIfInBounds_toArray, List.set_cons_zero, List.set_cons_succ]; rfl) ?_))
        refine wpAnyL_take (i := 14) (v := ?_) rfl (by kernel_rfl) (fun _ _ _ h => h) (Or.inl ⟨by rfl, ?_⟩) (by assumption) ?_; rotate_left; (focus (intro w hSw; skip; go_simp; (try with_reducible rfl))); (try (refine wpAnyL_norm (by simp only [Act.put, List.setIfInBounds_toArray, List.set_cons_zero, List.set_cons_succ]; rfl) ?_))
        refine wpAnyL_take (i := 15) (v := ?_) rfl (by kernel_rfl) (fun _ _ _ h => h) (Or.inl ⟨by rfl, ?_⟩) (by assumption) ?_; rotate_left; (focus (intro w hSw; skip; go_simp; (try with_reducible rfl))); (try (refine wpAnyL_norm (by simp only [Act.put, List.setIfInBounds_toArray, List.set_cons_zero, List.set_cons_succ]; rfl) ?_))
        refine wpAnyL_done (by kernel_rfl) ?_ _
        go_wp2_with fail
        go_ret2
        exact ⟨i, PL.out, ⟨_, rfl⟩, hHeld.1⟩
      · obtain rfl : i = n := by omega
        go_wp2_with fail
        refine wp_region_L (fun W => Fr [] w W ∧ At W w.heap.size 45 #[.int .u32 (ra : Int), .int .u32 (rs : Int)]) [] (by kernel_rfl) ⟨HF.out.drew, HA.out.hp rfl⟩ (fun hHeld => ?_)
        refine wpAnyL_take (i := 0) (v := ?_) rfl (by kernel_rfl) (fun _ _ _ h => h) (Or.inl ⟨by rfl, ?_⟩) (by assumption) ?_; rotate_left; (focus (intro w hSw; skip; go_simp; (try with_reducible rfl))); (try (refine wpAnyL_norm (by simp only [Act.put, List.setIfInBounds_toArray, List.set_cons_zero, List.set_cons_succ]; rfl) ?_))
        refine wpAnyL_take (i := 1) (v := ?_) rfl (by kernel_rfl) (fun _ _ _ h => h) (Or.inl ⟨by rfl, ?_⟩) (by assumption) ?_; rotate_left; (focus (intro w hSw; skip; go_simp; (try with_reducible rfl))); (try (refine wpAnyL_norm (by simp only [Act.put, List.setIfInBounds_toArray, List.set_cons_zero, List.set_cons_succ]; rfl) ?_))
        refine wpAnyL_take (i := 2) (v := ?_) rfl (by kernel_rfl) (fun _ _ _ h => h) (Or.inl ⟨by rfl, ?_⟩) (by assumption) ?_; rotate_left; (focus (intro w hSw; skip; go_simp; (try with_reducible rfl))); (try (refine wpAnyL_norm (by simp only [Act.put, List.setIfInBounds_toArray, List.set_cons_zero, List.set_cons_succ]; rfl) ?_))
        refine wpAnyL_take (i := 3) (v := ?_) rfl (by kernel_rfl) (fun _ _ _ h => h) (Or.inl ⟨by rfl, ?_⟩) (by assumption) ?_; rotate_left; (focus (intro w hSw; skip; go_simp; (try with_reducible rfl))); (try (refine wpAnyL_norm (by simp only [Act.put, List.setIfInBounds_toArray, List.set_cons_zero, List.set_cons_succ]; rfl) ?_))
        refine wpAnyL_take (i := 4) (v := ?_) rfl (by kernel_rfl) (fun _ _ _ h => h) (Or.inl ⟨by rfl, ?_⟩) (by assumption) ?_; rotate_left; (focus (intro w hSw; skip; go_simp; (try with_reducible rfl))); (try (refine wpAnyL_norm (by simp only [Act.put, List.setIfInBounds_toArray, List.set_cons_zero, List.set_cons_succ]; rfl) ?_))
        refine wpAnyL_take (i := 5) (v := undef) rfl (by kernel_rfl) (fun _ _ _ h => h) (Or.inr ⟨by rfl, rfl⟩) (by assumption) ?_; (try (refine wpAnyL_norm (by simp only [Act.put, List.setIfInBounds_toArray, List.set_cons_zero, List.set_cons_succ]; rfl) ?_))
        refine wpAnyL_take (i := 6) (v := undef) rfl (by kernel_rfl) (fun _ _ _ h => h) (Or.inr ⟨by rfl, rfl⟩) (by assumption) ?_; (try (refine wpAnyL_norm (by simp only [Act.put, List.setIfInBounds_toArray, List.set_cons_zero, List.set_cons_succ]; rfl) ?_))
        refine wpAnyL_take (i := 7) (v := undef) rfl (by kernel_rfl) (fun _ _ _ h => h) (Or.inr ⟨by rfl, rfl⟩) (by assumption) ?_; (try (refine wpAnyL_norm (by simp only [Act.put, List.setIfInBounds_toArray, List.set_cons_zero, List.set_cons_succ]; rfl) ?_))
        refine wpAnyL_take (i := 8) (v := undef) rfl (by kernel_rfl) (fun _ _ _ h => h) (Or.inr ⟨by rfl, rfl⟩) (by assumption) ?_; (try (refine wpAnyL_norm (by simp only [Act.put, List.setIfInBounds_toArray, List.set_cons_zero, List.set_cons_succ]; rfl) ?_))
        refine wpAnyL_take (i := 9) (v := undef) rfl (by kernel_rfl) (fun _ _ _ h => h) (Or.inr ⟨by rfl, rfl⟩) (by assumption) ?_; (try (refine wpAnyL_norm (by simp only [Act.put, List.setIfInBounds_toArray, List.set_cons_zero, List.set_cons_succ]; rfl) ?_))
        refine wpAnyL_take (i := 10) (v := undef) rfl (by kernel_rfl) (fun _ _ _ h => h) (Or.inr ⟨by rfl, rfl⟩) (by assumption) ?_; (try (refine wpAnyL_norm (by simp only [Act.put, List.setIfInBounds_toArray, List.set_cons_zero, List.set_cons_succ]; rfl) ?_))
        refine wpAnyL_take (i := 11) (v := undef) rfl (by kernel_rfl) (fun _ _ _ h => h) (Or.inr ⟨by rfl, rfl⟩) (by assumption) ?_; (try (refine wpAnyL_norm (by simp only [Act.put, List.setIfInBounds_toArray, List.set_cons_zero, List.set_cons_succ]; rfl) ?_))
        refine wpAnyL_take (i := 12) (v := undef) rfl (by kernel_rfl) (fun _ _ _ h => h) (Or.inr ⟨by rfl, rfl⟩) (by assumption) ?_; (try (refine wpAnyL_norm (by simp only [Act.put, List.setIfInBounds_toArray, List.set_cons_zero, List.set_cons_succ]; rfl) ?_))
        refine wpAnyL_take (i := 13) (v := ?_) rfl (by kernel_rfl) (fun _ _ _ h => h) (Or.inl ⟨by rfl, ?_⟩) (by assumption) ?_; rotate_left; (focus (intro w hSw; skip; go_simp; (try with_reducible rfl))); (try (refine wpAnyL_norm (by simp only [Act.put, List.setIfInBounds_toArray, List.set_cons_zero, List.set_cons_succ]; rfl) ?_))
        refine wpAnyL_take (i := 14) (v := ?_) rfl (by kernel_rfl) (fun _ _ _ h => h) (Or.inl ⟨by rfl, ?_⟩) (by assumption) ?_; rotate_left; (focus (intro w hSw; skip; go_simp; (try with_reducible rfl))); (try (refine wpAnyL_norm (by simp only [Act.put, List.setIfInBounds_toArray, List.set_cons_zero, List.set_cons_succ]; rfl) ?_))
        refine wpAnyL_take (i := 15) (v := ?_) rfl (by kernel_rfl) (fun _ _ _ h => h) (Or.inl ⟨by rfl, ?_⟩) (by assumption) ?_; rotate_left; (focus (intro w hSw; skip; go_simp; (try with_reducible rfl))); (try (refine wpAnyL_norm (by simp only [Act.put, List.setIfInBounds_toArray, List.set_cons_zero, List.set_cons_succ]; rfl) ?_))
        refine wpAnyL_done (by kernel_rfl) ?_ _
        go_wp2_with fail
        go_ret2
        exact ⟨i, PL.out, ⟨_, rfl⟩, hHeld.1⟩
end Go.Proofs.YthjbnbimfpbccaaGreatDoor
/-
  math/bits.OnesCount64 counts the bits that are set. Condition: the type's own range.
-/

set_option linter.unusedVariables false
namespace Go.Proofs.YthjbnbimfpbccaaGreatDoor
open Go.ChangeShapes Go.WideShapes Go.ChangeAt Go.RowKit
/-! ### plain: how many of the first m places -/
def cnt (g : Nat → Bool) : Nat → Nat
  | 0 => 0
  | m + 1 => cnt g m + if g m = true then 1 else 0
theorem cnt_congr {g h : Nat → Bool} : ∀ m, (∀ i, i < m → g i = h i) → cnt g m = cnt h m
  | 0, _ => rfl
  | m + 1, e => by simp only [cnt]; rw [cnt_congr m fun i hi => e i (by omega), e m (by omega)]
theorem cnt_add (g : Nat → Bool) (a : Nat) : ∀ b, cnt g (a + b) = cnt g a + cnt (fun j => g (a + j)) b
  | 0 => rfl
  | b + 1 => by rw [← Nat.add_assoc]; simp only [cnt]; rw [cnt_add g a b]; omega
theorem cnt_le (g : Nat → Bool) : ∀ m, cnt g m ≤ m
  | 0 => Nat.le_refl _
  | m + 1 => by have := cnt_le g m; simp only [cnt]; split <;> omega
theorem cnt_zero (g : Nat → Bool) (m : Nat) (h : ∀ i, i < m → g i = false) : cnt g m = 0 := by
  induction m with
  | zero => rfl
  | succ m ih => simp only [cnt]; rw [ih fun i hi => h i (by omega), h m (by omega)]; rfl
theorem cnt_pos (g : Nat → Bool) (m i : Nat) (hi : i < m) (h : g i = true) : 0 < cnt g m := by
  induction m with
  | zero => omega
  | succ m ih =>
    simp only [cnt]
    by_cases e : i = m
    · subst e; rw [if_pos h]; omega
    · have := ih (by omega); omega
/-! ### bytes -/
def bytes : List Nat → Nat
  | [] => 0
  | L :: l => bytes l * 256 + L
def msk (c : Nat) : Nat → Nat
  | 0 => 0
  | n + 1 => msk c n * 256 + c
theorem and_cat (a b c d : Nat) (hb : b < 256) (hd : d < 256) : (a * 256 + b) &&& (c * 256 + d) = (a &&& c) * 256 + (b &&& d) := by
  have hbd : b &&& d < 256 := Nat.and_lt_two_pow (n := 8) _ hd
  apply Nat.eq_of_testBit_eq
  intro j
  rw [Nat.testBit_and]
  have key : ∀ x y : Nat, y < 256 → (x * 256 + y).testBit j = if j < 8 then y.testBit j else x.testBit (j - 8) := by
    intro x y hy
    have := Nat.testBit_two_pow_mul_add (i := 8) x hy j
    rw [Nat.mul_comm] at this
    exact this
  rw [key a b hb, key c d hd, key _ _ hbd]
  split <;> simp [Nat.testBit_and]
def t1 (L : Nat) : Nat := (L / 2 &&& 85) + (L &&& 85)
def t2 (L : Nat) : Nat := (L / 4 &&& 51) + (L &&& 51)
def t3 (L : Nat) : Nat := (L / 16 + L) &&& 15
theorem low1 : ∀ h : Fin 2, ∀ L : Fin 256, ((h.val * 128 + L.val / 2) &&& 85) = (L.val / 2 &&& 85) ∧ t1 L.val < 256 := by decide +kernel
theorem low2 : ∀ h : Fin 4, ∀ L : Fin 256, ((h.val * 64 + L.val / 4) &&& 51) = (L.val / 4 &&& 51) ∧ t2 L.val < 256 := by decide +kernel
theorem low3 : ∀ L : Fin 256, (t2 (t1 L.val)) % 16 ≤ 4 ∧ t2 (t1 L.val) / 16 ≤ 4 ∧ t3 (t2 (t1 L.val)) = cnt L.val.testBit 8 := by decide +kernel
theorem step1 : ∀ l : List Nat, (∀ L ∈ l, L < 256) → (bytes l / 2 &&& msk 85 l.length) + (bytes l &&& msk 85 l.length) = bytes (l.map t1)
  | [], _ => rfl
  | L :: l, h => by
    have hL : L < 256 := h L (by simp)
    have ih := step1 l fun x hx => h x (by simp [hx])
    have e := (low1 ⟨bytes l % 2, by omega⟩ ⟨L, hL⟩).1
    dsimp only at e
    simp only [bytes, msk, List.length_cons, List.map_cons]
    rw [show (bytes l * 256 + L) / 2 = bytes l / 2 * 256 + (bytes l % 2 * 128 + L / 2) by omega, and_cat _ _ _ _ (by omega) (by omega), and_cat _ _ _ _ hL (by omega), e, ← ih]
    simp only [t1]; omega
theorem step2 : ∀ l : List Nat, (∀ L ∈ l, L < 256) → (bytes l / 4 &&& msk 51 l.length) + (bytes l &&& msk 51 l.length) = bytes (l.map t2)
  | [], _ => rfl
  | L :: l, h => by
    have hL : L < 256 := h L (by simp)
    have ih := step2 l fun x hx => h x (by simp [hx])
    have e := (low2 ⟨bytes l % 4, by omega⟩ ⟨L, hL⟩).1
    dsimp only at e
    simp only [bytes, msk, List.length_cons, List.map_cons]
    rw [show (bytes l * 256 + L) / 4 = bytes l / 4 * 256 + (bytes l % 4 * 64 + L / 4) by omega, and_cat _ _ _ _ (by omega) (by omega), and_cat _ _ _ _ hL (by omega), e, ← ih]
    simp only [t2]; omega
theorem and15 (n : Nat) : n &&& 15 = n % 16 := Nat.and_two_pow_sub_one_eq_mod n 4
theorem step3 : ∀ l : List Nat, (∀ L ∈ l, L % 16 ≤ 4 ∧ L / 16 ≤ 4) → (bytes l / 16 + bytes l) &&& msk 15 l.length = bytes (l.map t3)
  | [], _ => rfl
  | L :: l, h => by
    have hL := h L (by simp)
    have ih := step3 l fun x hx => h x (by simp [hx])
    have hl : bytes l % 16 ≤ 4 := by
      cases l with
      | nil => simp [bytes]
      | cons L' l' => have := h L' (by simp); simp only [bytes]; omega
    simp only [bytes, msk, List.length_cons, List.map_cons]
    rw [show (bytes l * 256 + L) / 16 + (bytes l * 256 + L) = (bytes l / 16 + bytes l) * 256 + (bytes l % 16 * 16 + L / 16 + L) by omega, and_cat _ _ _ _ (by omega) (by omega), ih]
    simp only [t3, and15]; omega
theorem cnt_bytes : ∀ l : List Nat, (∀ L ∈ l, L < 256) → cnt (bytes l).testBit (8 * l.length) = (l.map fun L => cnt L.testBit 8).sum
  | [], _ => rfl
  | L :: l, h => by
    have hL : L < 256 := h L (by simp)
    have ih := cnt_bytes l fun x hx => h x (by simp [hx])
    have key : ∀ j, (bytes l * 256 + L).testBit j = if j < 8 then L.testBit j else (bytes l).testBit (j - 8) := fun j => by
      have := Nat.testBit_two_pow_mul_add (i := 8) (bytes l) hL j
      rw [Nat.mul_comm] at this
      exact this
    rw [show 8 * (L :: l).length = 8 + 8 * l.length by simp; omega, cnt_add, List.map_cons, List.sum_cons, ← ih]
    congr 1
    · exact cnt_congr 8 fun i hi => by simp only [bytes]; rw [key, if_pos hi]
    · exact cnt_congr _ fun i hi => by simp only [bytes]; rw [key, if_neg (by omega)]; congr 1; omega
def p1 (X : Nat) : Nat := (X / 2 &&& 6148914691236517205) + (X &&& 6148914691236517205)
def p2 (X : Nat) : Nat := (X / 4 &&& 3689348814741910323) + (X &&& 3689348814741910323)
def p3 (X : Nat) : Nat := (X / 16 + X) &&& 1085102592571150095
def p4 (X : Nat) : Nat := X + X / 256
def p5 (X : Nat) : Nat := X + X / 65536
def p6 (X : Nat) : Nat := X + X / 4294967296
theorem p3_bytes (l : List Nat) (h : ∀ L ∈ l, L < 256) (hl : l.length = 8) : p3 (p2 (p1 (bytes l))) = bytes (l.map fun L => cnt L.testBit 8) := by
  have e1 := step1 l h
  have e2 := step2 (l.map t1) (by simp only [List.mem_map]; rintro x ⟨L, hL, rfl⟩; exact (low1 0 ⟨L, h L hL⟩).2)
  have e3 := step3 ((l.map t1).map t2) (by
    simp only [List.mem_map]; rintro x ⟨y, ⟨L, hL, rfl⟩, rfl⟩
    have := low3 ⟨L, h L hL⟩; exact ⟨this.1, this.2.1⟩)
  rw [hl, show msk 85 8 = 6148914691236517205 by rfl] at e1
  rw [List.length_map, hl, show msk 51 8 = 3689348814741910323 by rfl] at e2
  rw [List.length_map, List.length_map, hl, show msk 15 8 = 1085102592571150095 by rfl] at e3
  unfold p3 p2 p1
  rw [e1, e2, e3, List.map_map, List.map_map]
  congr 1
  refine List.map_congr_left fun L hL => ?_
  exact (low3 ⟨L, h L hL⟩).2.2
theorem eight (X : Nat) (h : X < 18446744073709551616) : ∃ a b c d e f g k : Nat, X = bytes [a, b, c, d, e, f, g, k] ∧ ∀ L ∈ [a, b, c, d, e, f, g, k], L < 256 := by
  refine ⟨X % 256, X / 256 % 256, X / 65536 % 256, X / 16777216 % 256, X / 4294967296 % 256, X / 1099511627776 % 256, X / 281474976710656 % 256, X / 72057594037927936 % 256, ?_, ?_⟩
  · simp only [bytes]; omega
  · intro L hL
    simp only [List.mem_cons, List.not_mem_nil, or_false] at hL
    omega
theorem pop_eq (X : Nat) (h : X < 18446744073709551616) : p6 (p5 (p4 (p3 (p2 (p1 X))))) % 128 = cnt X.testBit 64 ∧ p6 (p5 (p4 (p3 (p2 (p1 X))))) < 9223372036854775808 := by
  obtain ⟨a, b, c, d, e, f, g, k, hX, hl⟩ := eight X h
  have h3 := p3_bytes _ hl rfl
  have h8 := cnt_bytes _ hl
  rw [← hX] at h3 h8
  rw [show 8 * [a, b, c, d, e, f, g, k].length = 64 by rfl] at h8
  rw [h3, h8]
  have ha := cnt_le a.testBit 8
  have hb := cnt_le b.testBit 8
  have hc := cnt_le c.testBit 8
  have hd := cnt_le d.testBit 8
  have he := cnt_le e.testBit 8
  have hf := cnt_le f.testBit 8
  have hg := cnt_le g.testBit 8
  have hk := cnt_le k.testBit 8
  simp only [List.map_cons, List.map_nil, List.sum_cons, List.sum_nil]
  generalize cnt a.testBit 8 = A at *
  generalize cnt b.testBit 8 = B at *
  generalize cnt c.testBit 8 = C at *
  generalize cnt d.testBit 8 = D at *
  generalize cnt e.testBit 8 = E at *
  generalize cnt f.testBit 8 = F at *
  generalize cnt g.testBit 8 = G at *
  generalize cnt k.testBit 8 = K at *
  have q3 : bytes [A, B, C, D, E, F, G, K] = bytes [A, B, C, D, E, F, G, K] := rfl
  have q4 : p4 (bytes [A, B, C, D, E, F, G, K]) = bytes [A + B, B + C, C + D, D + E, E + F, F + G, G + K, K] := by simp only [p4, bytes]; omega
  have q5 : p5 (bytes [A + B, B + C, C + D, D + E, E + F, F + G, G + K, K]) = bytes [A + B + (C + D), B + C + (D + E), C + D + (E + F), D + E + (F + G), E + F + (G + K), F + G + K, G + K, K] := by simp only [p5, bytes]; omega
  have q6 : p6 (bytes [A + B + (C + D), B + C + (D + E), C + D + (E + F), D + E + (F + G), E + F + (G + K), F + G + K, G + K, K]) = bytes [A + B + (C + D) + (E + F + (G + K)), B + C + (D + E) + (F + G + K), C + D + (E + F) + (G + K), D + E + (F + G) + K, E + F + (G + K), F + G + K, G + K, K] := by simp only [p6, bytes]; omega
  rw [q4, q5, q6]
  constructor
  · show (bytes _ * 256 + (A + B + (C + D) + (E + F + (G + K)))) % 128 = _
    omega
  · simp only [bytes]; omega
theorem and_le' (a m : Nat) : a &&& m ≤ m := Nat.and_le_right
theorem wrap_nat (a : Nat) (h : a < 18446744073709551616) : IntKind.u64.wrap (a : Int) = a := IntWalk.u64_in _ (by omega)
theorem band (a b : Nat) (ha : a < 18446744073709551616) (hb : b < 18446744073709551616) : bits .and .u64 (a : Int) (b : Int) = ((a &&& b : Nat) : Int) := u64_and_nat a b ha hb
theorem i1 (X : Nat) (h : X < 18446744073709551616) : IntKind.u64.wrap (bits .and .u64 ((X : Int) / 2) 6148914691236517205 + bits .and .u64 (X : Int) 6148914691236517205) = (p1 X : Int) := by
  have e1 := band (X / 2) 6148914691236517205 (by omega) (by omega)
  have e2 := band X 6148914691236517205 h (by omega)
  have l1 := and_le' (X / 2) 6148914691236517205
  have l2 := and_le' X 6148914691236517205
  have e3 := wrap_nat (p1 X) (by unfold p1; omega)
  rw [← e3]; unfold p1
  simp only [Int.natCast_add, ← e1, ← e2]
  rfl
theorem i2 (X : Nat) (h : X < 18446744073709551616) : IntKind.u64.wrap (bits .and .u64 ((X : Int) / 4) 3689348814741910323 + bits .and .u64 (X : Int) 3689348814741910323) = (p2 X : Int) := by
  have e1 := band (X / 4) 3689348814741910323 (by omega) (by omega)
  have e2 := band X 3689348814741910323 h (by omega)
  have l1 := and_le' (X / 4) 3689348814741910323
  have l2 := and_le' X 3689348814741910323
  have e3 := wrap_nat (p2 X) (by unfold p2; omega)
  rw [← e3]; unfold p2
  simp only [Int.natCast_add, ← e1, ← e2]
  rfl
theorem i3 (X : Nat) (h : X ≤ 7378697629483820646) : bits .and .u64 (IntKind.u64.wrap ((X : Int) / 16 + (X : Int))) 1085102592571150095 = (p3 X : Int) := by
  have e0 : ((X : Int) / 16 + (X : Int)) = ((X / 16 + X : Nat) : Int) := by omega
  rw [e0, wrap_nat _ (by omega)]
  exact band (X / 16 + X) 1085102592571150095 (by omega) (by omega)
theorem i4 (X : Nat) (h : X ≤ 9000000000000000000) : IntKind.u64.wrap ((X : Int) + (X : Int) / 256) = (p4 X : Int) := by
  have e0 : ((X : Int) + (X : Int) / 256) = (p4 X : Int) := by unfold p4; omega
  rw [e0, wrap_nat _ (by unfold p4; omega)]
theorem i5 (X : Nat) (h : X ≤ 9000000000000000000) : IntKind.u64.wrap ((X : Int) + (X : Int) / 65536) = (p5 X : Int) := by
  have e0 : ((X : Int) + (X : Int) / 65536) = (p5 X : Int) := by unfold p5; omega
  rw [e0, wrap_nat _ (by unfold p5; omega)]
theorem i6 (X : Nat) (h : X ≤ 9000000000000000000) : IntKind.u64.wrap ((X : Int) + (X : Int) / 4294967296) = (p6 X : Int) := by
  have e0 : ((X : Int) + (X : Int) / 4294967296) = (p6 X : Int) := by unfold p6; omega
  rw [e0, wrap_nat _ (by unfold p6; omega)]
def u64max : Int := 18446744073709551615
theorem pop_all (X : Nat) (h : X < 18446744073709551616) : p1 X ≤ 12297829382473034410 ∧ p2 (p1 X) ≤ 7378697629483820646 ∧ p3 (p2 (p1 X)) ≤ 1085102592571150095 ∧ p4 (p3 (p2 (p1 X))) ≤ 2170205185142300190 ∧ p5 (p4 (p3 (p2 (p1 X)))) ≤ 4340410370284600380 := by
  have a1 := and_le' (X / 2) 6148914691236517205
  have a2 := and_le' X 6148914691236517205
  have b1 : p1 X ≤ 12297829382473034410 := by unfold p1; omega
  have a3 := and_le' (p1 X / 4) 3689348814741910323
  have a4 := and_le' (p1 X) 3689348814741910323
  have b2 : p2 (p1 X) ≤ 7378697629483820646 := by unfold p2; omega
  have b3 : p3 (p2 (p1 X)) ≤ 1085102592571150095 := and_le' _ _
  have b4 : p4 (p3 (p2 (p1 X))) ≤ 2170205185142300190 := by unfold p4; omega
  have b5 : p5 (p4 (p3 (p2 (p1 X)))) ≤ 4340410370284600380 := by unfold p5; omega
  exact ⟨b1, b2, b3, b4, b5⟩
theorem and127 (n : Nat) (h : n < 9223372036854775808) : bits .and .i64 (IntKind.i64.wrap (n : Int)) 127 = ((n % 128 : Nat) : Int) := by
  rw [IntWalk.i64_in _ (by omega)]
  show IntKind.i64.wrap ((BitVec.ofInt 64 (n : Int) &&& BitVec.ofInt 64 127).toNat : Int) = _
  rw [BitVec.toNat_and, show (127 : Int) = ((127 : Nat) : Int) by rfl, ofInt_u64 n (by omega), ofInt_u64 127 (by omega), show n &&& 127 = n % 128 from Nat.and_two_pow_sub_one_eq_mod n 7, IntWalk.i64_in _ (by omega)]
theorem pop_any (x : Int) (w : World) (h1 : 0 ≤ x) (h2 : x ≤ u64max) :
    Calls Tryz.prog 128 #[.int .u64 x] w fun r w' => r = .returned (.int .i64 (cnt x.toNat.testBit 64)) ∧ w = w' := by
  go_enter Tryz.func128, Tryz.ntmps128
  go_wp2
  go_ret
  refine ⟨ret_int ?_, rfl⟩
  obtain ⟨X, rfl⟩ := Int.eq_ofNat_of_zero_le h1
  unfold u64max at h2
  obtain ⟨b1, b2, b3, b4, b5⟩ := pop_all X (by omega)
  have e := pop_eq X (by omega)
  show bits .and .i64 (RowKit.wrap64 _) 127 = _
  rw [← IntWalk.i64_left]
  rw [i1 X (by omega), i2 _ (by omega), i3 _ b2, i4 _ (by omega), i5 _ (by omega), i6 _ (by omega), and127 _ e.2, e.1, Int.toNat_natCast]
end Go.Proofs.YthjbnbimfpbccaaGreatDoor
/-
  Plain facts on sets of places kept in words of 64 bits. No program here.
-/

set_option linter.unusedVariables false
namespace Go.Proofs.YthjbnbimfpbccaaGreatDoor
open Go.ChangeShapes Go.WideShapes Go.ChangeAt Go.RowKit
def bitsN (g : Nat → Bool) : Nat → Nat
  | 0 => 0
  | m + 1 => bitsN g m + if g m = true then 2 ^ m else 0
theorem bitsN_lt (g : Nat → Bool) : ∀ m, bitsN g m < 2 ^ m
  | 0 => by simp [bitsN]
  | m + 1 => by have := bitsN_lt g m; simp only [bitsN, Nat.pow_succ]; split <;> omega
theorem bitsN_test (g : Nat → Bool) : ∀ m j, (bitsN g m).testBit j = (decide (j < m) && g j)
  | 0, j => by simp [bitsN]
  | m + 1, j => by
    have hlt := bitsN_lt g m
    have ih := bitsN_test g m j
    simp only [bitsN]
    by_cases hg : g m = true
    · rw [if_pos hg, Nat.add_comm, show 2 ^ m + bitsN g m = 2 ^ m * 1 + bitsN g m by omega, Nat.testBit_two_pow_mul_add 1 hlt j]
      by_cases h1 : j < m
      · rw [if_pos h1, ih]; simp [h1, show j < m + 1 by omega]
      · rw [if_neg h1]
        by_cases h2 : j = m
        · subst h2; simp [hg]
        · have : ¬ j < m + 1 := by omega
          have h3 : Nat.testBit 1 (j - m) = false := Nat.testBit_lt_two_pow (Nat.one_lt_two_pow (by omega))
          simp [this, h3]
    · rw [if_neg hg, Nat.add_zero, ih]
      by_cases h2 : j = m
      · subst h2; simp at hg; simp [hg]
      · by_cases h1 : j < m
        · simp [h1, show j < m + 1 by omega]
        · simp [h1, show ¬ j < m + 1 by omega]
theorem bitsN_congr {g h : Nat → Bool} (m : Nat) (e : ∀ j, j < m → g j = h j) : bitsN g m = bitsN h m := by
  apply Nat.eq_of_testBit_eq
  intro j
  rw [bitsN_test, bitsN_test]
  by_cases hj : j < m
  · rw [e j hj]
  · simp [hj]
def wrd (f : Nat → Bool) (k : Nat) : Nat := bitsN (fun j => f (64 * k + j)) 64
theorem wrd_lt (f : Nat → Bool) (k : Nat) : wrd f k < 18446744073709551616 := bitsN_lt _ 64
theorem wrd_test (f : Nat → Bool) (k j : Nat) : (wrd f k).testBit j = (decide (j < 64) && f (64 * k + j)) := bitsN_test _ 64 j
def upd (f : Nat → Bool) (i : Nat) (b : Bool) : Nat → Bool := fun j => if j = i then b else f j
theorem wrd_other (f : Nat → Bool) (i : Nat) (b : Bool) (k : Nat) (h : k ≠ i / 64) : wrd (upd f i b) k = wrd f k :=
  bitsN_congr 64 fun j hj => by
    have hne : 64 * k + j ≠ i := by omega
    simp [upd, hne]
theorem wrd_set (f : Nat → Bool) (i : Nat) : wrd f (i / 64) ||| 2 ^ (i % 64) = wrd (upd f i true) (i / 64) := by
  apply Nat.eq_of_testBit_eq
  intro j
  rw [Nat.testBit_or, wrd_test, wrd_test, Nat.testBit_two_pow]
  unfold upd
  by_cases h : j = i % 64
  · subst h
    have : i % 64 < 64 := by omega
    simp [this, show 64 * (i / 64) + i % 64 = i by omega]
  · by_cases hj : j < 64
    · have h1 : 64 * (i / 64) + j ≠ i := by omega
      simp [h1, show ¬ i % 64 = j by omega]
    · simp [hj, show ¬ i % 64 = j by omega]
theorem test_not (x j : Nat) (hx : x < 2 ^ 64) (hj : j < 64) : (2 ^ 64 - 1 - x).testBit j = !x.testBit j := by
  rw [show 2 ^ 64 - 1 - x = 2 ^ 64 - (x + 1) by omega, Nat.testBit_two_pow_sub_succ hx]
  simp [hj]
theorem wrd_clr (f : Nat → Bool) (i : Nat) : wrd f (i / 64) &&& (18446744073709551615 - 2 ^ (i % 64)) = wrd (upd f i false) (i / 64) := by
  have hp : 2 ^ (i % 64) < 2 ^ 64 := Nat.pow_lt_pow_right (by omega) (by omega)
  apply Nat.eq_of_testBit_eq
  intro j
  rw [Nat.testBit_and, wrd_test, wrd_test]
  unfold upd
  by_cases hj : j < 64
  · rw [show (18446744073709551615 : Nat) = 2 ^ 64 - 1 by rfl, test_not _ _ hp hj, Nat.testBit_two_pow]
    by_cases h : j = i % 64
    · subst h
      simp [show 64 * (i / 64) + i % 64 = i by omega]
    · have h1 : 64 * (i / 64) + j ≠ i := by omega
      simp [h1, show ¬ i % 64 = j by omega]
  · simp [hj]
theorem wrd_get (f : Nat → Bool) (i : Nat) : ((wrd f (i / 64) / 2 ^ (i % 64)) &&& 1 == 1) = f i := by
  have h := wrd_test f (i / 64) (i % 64)
  have h2 : i % 64 < 64 := by omega
  rw [show 64 * (i / 64) + i % 64 = i by omega] at h
  simp only [h2, decide_true, Bool.true_and] at h
  rw [← h, Nat.testBit, Nat.shiftRight_eq_div_pow, Nat.and_comm 1]
  rw [show ∀ y : Nat, y &&& 1 = y % 2 from fun y => Nat.and_two_pow_sub_one_eq_mod y 1]
  rcases Nat.mod_two_eq_zero_or_one (wrd f (i / 64) / 2 ^ (i % 64)) with e | e <;> rw [e] <;> rfl
/-- The places of word k that stand between two ends. -/
def inw (a b k : Nat) : Nat := bitsN (fun j => decide (a ≤ 64 * k + j) && decide (64 * k + j < b)) 64
theorem inw_lt (a b k : Nat) : inw a b k < 18446744073709551616 := bitsN_lt _ 64
theorem inw_none (a b k : Nat) (h : b ≤ a ∨ b ≤ 64 * k ∨ 64 * k + 64 ≤ a) : inw a b k = 0 := by
  apply Nat.eq_of_testBit_eq
  intro j
  unfold inw
  rw [bitsN_test, Nat.zero_testBit]
  simp
  omega
/-- The mask as the program makes it. -/
theorem inw_mask (a b k l r : Nat) (hlr : l < r) (hr : r ≤ 64) (hl1 : l = a - 64 * k) (hr1 : r = min (b - 64 * k) 64) (hb : 64 * k ≤ b) :
    inw a b k = (2 ^ (r - l) - 1) * 2 ^ l := by
  apply Nat.eq_of_testBit_eq
  intro j
  unfold inw
  rw [bitsN_test, Nat.testBit_mul_two_pow, Nat.testBit_two_pow_sub_one]
  by_cases h1 : l ≤ j
  · by_cases h2 : j < r
    · have e1 : j < 64 := by omega
      have e2 : a ≤ 64 * k + j := by omega
      have e3 : 64 * k + j < b := by omega
      simp [e1, e2, e3, h1, show j - l < r - l by omega]
    · by_cases e1 : j < 64
      · have e3 : ¬ 64 * k + j < b := by omega
        simp [e3, show ¬ j - l < r - l by omega]
      · simp [e1, show ¬ j - l < r - l by omega]
  · have e2 : ¬ a ≤ 64 * k + j := by omega
    simp [e2, h1]
def clr (f : Nat → Bool) (a b : Nat) : Nat → Bool := fun i => f i && !(decide (a ≤ i) && decide (i < b))
def btw (f : Nat → Bool) (a b : Nat) : Nat → Bool := fun i => f i && (decide (a ≤ i) && decide (i < b))
theorem wrd_and (f : Nat → Bool) (a b k : Nat) : wrd f k &&& inw a b k = wrd (btw f a b) k := by
  apply Nat.eq_of_testBit_eq
  intro j
  unfold inw
  rw [Nat.testBit_and, bitsN_test, wrd_test, wrd_test]
  unfold btw
  by_cases hj : j < 64 <;> simp [hj]
theorem wrd_andNot (f : Nat → Bool) (a b k : Nat) : wrd f k &&& (18446744073709551615 - inw a b k) = wrd (clr f a b) k := by
  apply Nat.eq_of_testBit_eq
  intro j
  rw [Nat.testBit_and, wrd_test, wrd_test]
  by_cases hj : j < 64
  · rw [show (18446744073709551615 : Nat) = 2 ^ 64 - 1 by rfl, test_not _ _ (inw_lt a b k) hj]
    unfold inw clr
    rw [bitsN_test]
    simp [hj]
  · simp [hj]
theorem cnt_wrd (f : Nat → Bool) (k : Nat) : cnt (wrd f k).testBit 64 = cnt (fun j => f (64 * k + j)) 64 :=
  cnt_congr 64 fun i hi => by rw [wrd_test]; simp [hi]
theorem cnt_word (f : Nat → Bool) (k : Nat) : cnt f (64 * k) + cnt (wrd f k).testBit 64 = cnt f (64 * (k + 1)) := by
  rw [cnt_wrd, show 64 * (k + 1) = 64 * k + 64 by omega, cnt_add]
theorem wrd_zero (f : Nat → Bool) (k : Nat) : wrd f k = 0 ↔ ∀ j, j < 64 → f (64 * k + j) = false := by
  constructor
  · intro h j hj
    have := wrd_test f k j
    rw [h, Nat.zero_testBit] at this
    simpa [hj] using this.symm
  · intro h
    apply Nat.eq_of_testBit_eq
    intro j
    rw [wrd_test, Nat.zero_testBit]
    by_cases hj : j < 64
    · simp [hj, h j hj]
    · simp [hj]
/-- How many between two ends. -/
def cntB (f : Nat → Bool) (a b : Nat) : Nat := cnt (btw f a b) b
theorem cnt_out (g : Nat → Bool) (b m : Nat) (h : ∀ i, b ≤ i → g i = false) (hm : b ≤ m) : cnt g m = cnt g b := by
  obtain ⟨d, rfl⟩ : ∃ d, m = b + d := ⟨m - b, by omega⟩
  rw [cnt_add, cnt_zero _ d (fun i _ => h _ (by omega))]
  omega
theorem cntB_up (f : Nat → Bool) (a b m : Nat) (hm : b ≤ m) : cnt (btw f a b) m = cntB f a b :=
  cnt_out _ b m (fun i hi => by unfold btw; simp [show ¬ i < b by omega]) hm
theorem cntB_none (f : Nat → Bool) (a b : Nat) (h : b ≤ a) : cntB f a b = 0 :=
  cnt_zero _ b fun i hi => by unfold btw; simp; omega
/-- The words of a map of n places. -/
def wa (n : Nat) (f : Nat → Bool) : Array Value := ((List.range ((n + 63) / 64)).map fun k => Value.int .u64 (wrd f k)).toArray
theorem wa_size (n : Nat) (f : Nat → Bool) : (wa n f).size = (n + 63) / 64 := by simp [wa]
theorem wa_get (n : Nat) (f : Nat → Bool) (k : Nat) (h : k < (n + 63) / 64) : (wa n f)[k]? = some (.int .u64 (wrd f k)) := by
  unfold wa
  simp [List.getElem?_map, List.getElem?_range h]
theorem wa_set (n : Nat) (f g : Nat → Bool) (k : Nat) (v : Nat) (hv : v = wrd g k) (ho : ∀ j, j ≠ k → wrd g j = wrd f j) : (wa n f).setIfInBounds k (.int .u64 v) = wa n g := by
  subst hv
  refine Array.ext_getElem? fun i => ?_
  rw [Array.getElem?_setIfInBounds]
  by_cases hi : i < (n + 63) / 64
  · rw [wa_get n g i hi, wa_get n f i hi, wa_size]
    by_cases e : k = i
    · subst e; simp [hi]
    · rw [if_neg e, ho i (fun h => e h.symm)]
  · have h1 : (wa n g)[i]? = none := Array.getElem?_eq_none (by rw [wa_size]; omega)
    have h2 : (wa n f)[i]? = none := Array.getElem?_eq_none (by rw [wa_size]; omega)
    rw [h1, h2, wa_size]
    by_cases e : k = i
    · subst e; simp [hi]
    · rw [if_neg e]
theorem wa_new (n : Nat) : (wa n fun _ => false) = Array.replicate ((n + 63) / 64) (Value.int .u64 0) := by
  apply Array.ext
  · simp [wa]
  · intro i h1 h2
    simp only [wa, List.getElem_toArray, List.getElem_map, List.getElem_range, Array.getElem_replicate]
    rw [(wrd_zero (fun _ => false) i).2 fun _ _ => rfl]; rfl
end Go.Proofs.YthjbnbimfpbccaaGreatDoor
/-
  What the functions of tags compute: a map of n places at block p, its words at block g, holds the set f. Conditions: as stated.
-/


set_option linter.unusedVariables false
namespace Go.Proofs.YthjbnbimfpbccaaGreatDoor
open Go.ChangeShapes Go.WideShapes Go.ChangeAt Go.RowKit
def Tg (w : World) (p g n : Nat) (f : Nat → Bool) : Prop :=
  p ≠ g ∧ n ≤ 1048576 ∧ (∀ i, n ≤ i → f i = false) ∧ ∃ (c : Nat) (cs : Array Value), (n + 63) / 64 ≤ c ∧ At w p 179 #[.int .i64 n, .slice (some ⟨g, 0, none⟩) ((n + 63) / 64) c] ∧ At w g 28 cs ∧
    ∀ k, k < (n + 63) / 64 → cs[k]? = some (.int .u64 (wrd f k))
section
variable {w w' v : World} {p g n : Nat} {f : Nat → Bool} {S : List Nat}
theorem Tg.fr (h : Tg w p g n f) (hf : Fr S w w') (hp : p ∉ S) (hg : g ∉ S) : Tg w' p g n f := by
  obtain ⟨h1, h2, h3, c, cs, h4, h5, h6, h7⟩ := h
  exact ⟨h1, h2, h3, c, cs, h4, h5.fr hf hp, h6.fr hf hg, h7⟩
theorem Tg.frh (h : Tg w p g n f) (hf : Fr S v w') (hv : v.heap = w.heap) (hp : p ∉ S) (hg : g ∉ S) : Tg w' p g n f := by
  obtain ⟨h1, h2, h3, c, cs, h4, h5, h6, h7⟩ := h
  exact ⟨h1, h2, h3, c, cs, h4, h5.frh hf hv hp, h6.frh hf hv hg, h7⟩
theorem Tg.heap (h : Tg w p g n f) (hv : w'.heap = w.heap) : Tg w' p g n f := by
  unfold Tg At at *; rw [hv]; exact h
theorem Tg.drewN (h : Tg w p g n f) (m : Nat) : Tg (w.drewN m) p g n f := h.heap rfl
theorem Tg.lt (h : Tg w p g n f) : p < w.heap.size ∧ g < w.heap.size := by
  obtain ⟨h1, h2, h3, c, cs, h4, h5, h6, h7⟩ := h
  exact ⟨h5.lt, h6.lt⟩
theorem Tg.c0 (h : Tg w p g n f) : w.cell? ⟨p, 0, none⟩ = some (.int .i64 n) := by
  obtain ⟨h1, h2, h3, c, cs, h4, h5, h6, h7⟩ := h
  exact h5.cell 0
theorem Tg.c1 (h : Tg w p g n f) : ∃ c, (n + 63) / 64 ≤ c ∧ w.cell? ⟨p, 1, none⟩ = some (.slice (some ⟨g, 0, none⟩) ((n + 63) / 64) c) := by
  obtain ⟨h1, h2, h3, c, cs, h4, h5, h6, h7⟩ := h
  exact ⟨c, h4, h5.cell 1⟩
theorem Tg.ck (h : Tg w p g n f) (k : Nat) (hk : k < (n + 63) / 64) : w.cell? ⟨g, k, none⟩ = some (.int .u64 (wrd f k)) := by
  obtain ⟨h1, h2, h3, c, cs, h4, h5, h6, h7⟩ := h
  exact (h6.cell k).trans (h7 k hk)
theorem Tg.fk (h : Tg w p g n f) (k : Nat) : w.frozen? ⟨g, k, none⟩ = false := by
  obtain ⟨h1, h2, h3, c, cs, h4, h5, h6, h7⟩ := h
  exact h6.froz k
end
def inR (at_ : Int) (n : Nat) : Bool := decide (0 ≤ at_) && decide (at_ < n)

theorem infoU64 : (Tryz.prog.info? 28).map (fun i => (i.zero, i.size, i.bytes)) = some (some (.int .u64 0), 1, 8) := by kernel_rfl
theorem made_rep (z : Value) (n : Nat) : madeCells #[z] n = Array.replicate n z := by
  unfold madeCells
  refine Array.ext_getElem? fun i => ?_
  by_cases h : i < n <;> simp [h, Nat.mod_one]
theorem new_any (n : Nat) (w : World) (hn : n ≤ 1048576) :
    Calls Tryz.prog 69 #[.int .i64 n] w fun r w' => ∃ p g, r = .returned (.pointer (some ⟨p, 0, none⟩)) ∧ Tg w' p g n (fun _ => false) ∧ w.heap.size ≤ p ∧ w.heap.size ≤ g ∧ Fr [] w w' := by
  have hmk := run_make_row' (P := Tryz.prog) 177 28 (.int .u64 0) 8 Tryz.underlying177 infoU64 rfl .i64 .i64 ((n + 63) / 64) (by omega) (by omega)
  have hsz : ((n : Int) + 64 - 1) / 64 = (((n + 63) / 64 : Nat) : Int) := by omega
  obtain ⟨k, hk⟩ : ∃ k, k = (n + 63) / 64 := ⟨_, rfl⟩
  rw [← hk] at hmk hsz
  have Hk := Lib.hid hk
  clear hk
  go_enter Tryz.func69, Tryz.ntmps69
  go_wp2
  go_ret
  refine ⟨w.heap.size + 1, w.heap.size, rfl, ⟨by omega, hn, fun _ _ => rfl, k, Array.replicate k (.int .u64 0), by rw [Hk.out]; exact Nat.le_refl _, ?_, ?_, ?_⟩, by omega, by omega, ((Fr.refl _ _).alloc _).alloc _⟩
  · rw [← Hk.out]
    have := At.new (w.alloc (.cells (madeCells #[.int .u64 0] k) 28)) 179 #[.int .i64 n, .slice (some ⟨w.heap.size, 0, none⟩) k k]
    rw [World.size_alloc] at this
    exact this
  · refine At.old ?_ _
    rw [← made_rep]
    exact At.new _ _ _
  · intro i hi
    have := wa_get n (fun _ => false) i hi
    rw [wa_new] at this
    rw [Hk.out]
    exact this
theorem new_bad (n : Int) (w : World) (hn : n < 0 ∨ 1048576 < n) :
    Calls Tryz.prog 69 #[.int .i64 n] w fun r w' => r = .returned (.pointer none) ∧ w = w' := by
  rcases hn with h | h
  · go_enter Tryz.func69, Tryz.ntmps69
    go_wp2
    go_ret
    exact ⟨rfl, rfl⟩
  · have h2 : 0 ≤ n := by omega
    go_enter Tryz.func69, Tryz.ntmps69
    go_wp2
    go_ret
    exact ⟨rfl, rfl⟩
theorem len_any (w : World) (p g n : Nat) (f : Nat → Bool) (h : Tg w p g n f) :
    Calls Tryz.prog 95 #[.pointer (some ⟨p, 0, none⟩)] w fun r w' => r = .returned (.int .i64 n) ∧ w = w' := by
  have c0 := h.c0
  have hn := h.2.1
  go_enter Tryz.func95, Tryz.ntmps95
  go_wp2
  go_ret
  exact ⟨rfl, rfl⟩
theorem there_any (w : World) (p g n : Nat) (f : Nat → Bool) (h : Tg w p g n f) (i : Int) :
    Calls Tryz.prog 105 #[.pointer (some ⟨p, 0, none⟩), .int .i64 i] w fun r w' => r = .returned (.bool (inR i n)) ∧ w = w' := by
  have c0 := h.c0
  have hn := h.2.1
  by_cases h0 : 0 ≤ i
  · by_cases h1 : i < n
    · have e : inR i n = true := by simp [inR, h0, h1]
      rw [e]
      go_enter Tryz.func105, Tryz.ntmps105
      go_wp2
      go_ret
      exact ⟨rfl, rfl⟩
    · have e : inR i n = false := by simp [inR, h0, h1]
      rw [e]
      go_enter Tryz.func105, Tryz.ntmps105
      go_wp2
      go_ret
      exact ⟨rfl, rfl⟩
  · have e : inR i n = false := by simp [inR, h0]
    rw [e]
    go_enter Tryz.func105, Tryz.ntmps105
    go_wp2
    go_ret
    exact ⟨rfl, rfl⟩
theorem there_nil (w : World) (i : Int) :
    Calls Tryz.prog 105 #[.pointer none, .int .i64 i] w fun r w' => r = .returned (.bool false) ∧ w = w' := by
  go_enter Tryz.func105, Tryz.ntmps105
  go_wp2
  go_ret
  exact ⟨rfl, rfl⟩
theorem len_nil (w : World) : Calls Tryz.prog 95 #[.pointer none] w fun r w' => r = .returned (.int .i64 0) ∧ w = w' := by
  go_enter Tryz.func95, Tryz.ntmps95
  go_wp2
  go_ret
  exact ⟨rfl, rfl⟩
theorem inR_nat (i n : Nat) (h : i < n) : inR i n = true := by simp [inR, h]
theorem get_int (W e : Nat) (hW : W < 18446744073709551616) : (bits .and .u64 ((W : Int) / 2 ^ e) 1 == 1) = ((W / 2 ^ e &&& 1) == 1) := by
  have h1 : ((W : Int) / 2 ^ e) = ((W / 2 ^ e : Nat) : Int) := by simp
  have h2 : W / 2 ^ e < 18446744073709551616 := Nat.lt_of_le_of_lt (Nat.div_le_self _ _) hW
  rw [h1, show (1 : Int) = ((1 : Nat) : Int) by rfl, band _ _ h2 (by omega)]
  have : ∀ a : Nat, (((a : Nat) : Int) == ((1 : Nat) : Int)) = (a == 1) := fun a => by
    rw [Bool.eq_iff_iff]; simp; omega
  exact this _
theorem get_nil (w : World) (i : Int) :
    Calls Tryz.prog 67 #[.pointer none, .int .i64 i] w fun r w' => r = .returned (.bool false) ∧ w = w' := by
  go_enter Tryz.func67, Tryz.ntmps67
  go_wp2_with (go_at_call 105; refine (there_nil _ _).mono ?_; rintro e w' ⟨rfl, rfl⟩)
  go_ret
  exact ⟨rfl, rfl⟩
theorem get_any (w : World) (p g n : Nat) (f : Nat → Bool) (h : Tg w p g n f) (i : Int) :
    Calls Tryz.prog 67 #[.pointer (some ⟨p, 0, none⟩), .int .i64 i] w fun r w' => r = .returned (.bool (inR i n && f i.toNat)) ∧ w = w' := by
  have C := Lib.hid (there_any w p g n f h i)
  by_cases hi : inR i n = true
  · obtain ⟨i, rfl⟩ := Int.eq_ofNat_of_zero_le (show 0 ≤ i by simp [inR] at hi; omega)
    have hin : i < n := by simp [inR] at hi; omega
    rw [hi] at C
    have hn := h.2.1
    obtain ⟨cp, hcp, c1⟩ := h.c1
    have ck := h.ck (i / 64) (by omega)
    have hg := wrd_get f i
    have hl := wrd_lt f (i / 64)
    have Hg := Lib.hid (show (bits .and .u64 ((wrd f (i / 64) : Int) / 2 ^ (i % 64)) 1 == 1) = (inR i n && f i) by rw [get_int _ _ hl, hg, hi, Bool.true_and])
    have hl' : Hid (wrd f (i / 64) < 18446744073709551616) := Lib.hid hl
    clear hg hi hl
    generalize wrd f (i / 64) = W at *
    go_enter Tryz.func67, Tryz.ntmps67
    go_wp2_with (go_at_call 105; refine (C.out).mono ?_; rintro e w' ⟨rfl, rfl⟩)
    go_ret
    refine ⟨ret_bool ?_, rfl⟩
    rw [Int.toNat_natCast]
    exact Hg.out
  · simp only [Bool.not_eq_true] at hi
    rw [hi, Bool.false_and]
    rw [hi] at C
    go_enter Tryz.func67, Tryz.ntmps67
    go_wp2_with (go_at_call 105; refine (C.out).mono ?_; rintro e w' ⟨rfl, rfl⟩)
    go_ret
    exact ⟨rfl, rfl⟩
theorem shl_one (e : Nat) (h : e < 64) : IntKind.u64.wrap ((2 : Int) ^ e) = ((2 ^ e : Nat) : Int) := by
  have : 2 ^ e < 2 ^ 64 := Nat.pow_lt_pow_right (by omega) h
  rw [show (2 : Int) ^ e = ((2 ^ e : Nat) : Int) by simp, wrap_nat _ (by omega)]
theorem bor (a b : Nat) (ha : a < 18446744073709551616) (hb : b < 18446744073709551616) : bits .or .u64 (a : Int) (b : Int) = ((a ||| b : Nat) : Int) := u64_or_nat a b ha hb
theorem bnot (a b : Nat) (ha : a < 18446744073709551616) (hb : b < 18446744073709551616) : bits .andNot .u64 (a : Int) (b : Int) = ((a &&& (18446744073709551615 - b) : Nat) : Int) := u64_andNot_nat a b ha hb
theorem Tg.put {w : World} {p g n : Nat} {f f' : Nat → Bool} (h : Tg w p g n f) (k v : Nat) (hv : v = wrd f' k) (ho : ∀ j, j ≠ k → wrd f' j = wrd f j) (h0 : ∀ i, n ≤ i → f' i = false) :
    Tg (w.setCell ⟨g, k, none⟩ (.int .u64 v)) p g n f' := by
  obtain ⟨h1, h2, h3, c, cs, h4, h5, h6, h7⟩ := h
  refine ⟨h1, h2, h0, c, cs.setIfInBounds k (.int .u64 v), h4, h5.far (show p ≠ g from h1) _, h6.set k _, fun j hj => ?_⟩
  rw [Array.getElem?_setIfInBounds]
  by_cases e : k = j
  · subst e
    have hs : k < cs.size := by
      rcases Nat.lt_or_ge k cs.size with hl | hl
      · exact hl
      · have q := h7 k hj
        rw [Array.getElem?_eq_none hl] at q; cases q
    rw [if_pos rfl, if_pos hs, hv]
  · rw [if_neg e, h7 j hj, ho j (fun x => e x.symm)]
theorem put_nil (w : World) (i : Int) (b : Bool) :
    Calls Tryz.prog 63 #[.pointer none, .int .i64 i, .bool b] w fun r w' => r = .returned (.bool false) ∧ w = w' := by
  go_enter Tryz.func63, Tryz.ntmps63
  go_wp2_with (go_at_call 105; refine (there_nil _ _).mono ?_; rintro e w' ⟨rfl, rfl⟩)
  go_ret
  exact ⟨rfl, rfl⟩
theorem put_no (w : World) (p g n : Nat) (f : Nat → Bool) (h : Tg w p g n f) (i : Int) (b : Bool) (hi : inR i n = false) :
    Calls Tryz.prog 63 #[.pointer (some ⟨p, 0, none⟩), .int .i64 i, .bool b] w fun r w' => r = .returned (.bool false) ∧ w = w' := by
  have C := Lib.hid (there_any w p g n f h i)
  rw [hi] at C
  clear hi
  go_enter Tryz.func63, Tryz.ntmps63
  go_wp2_with (go_at_call 105; refine (C.out).mono ?_; rintro e w' ⟨rfl, rfl⟩)
  go_ret
  exact ⟨rfl, rfl⟩
theorem upd_out {n : Nat} {f : Nat → Bool} (h : ∀ i, n ≤ i → f i = false) (i : Nat) (b : Bool) (hi : i < n) : ∀ j, n ≤ j → upd f i b j = false := fun j hj => by
  unfold upd; rw [if_neg (by omega)]; exact h j hj
theorem put_yes (w : World) (p g n : Nat) (f : Nat → Bool) (h : Tg w p g n f) (i : Nat) (b : Bool) (hi : i < n) :
    Calls Tryz.prog 63 #[.pointer (some ⟨p, 0, none⟩), .int .i64 i, .bool b] w fun r w' => r = .returned (.bool true) ∧ Tg w' p g n (upd f i b) ∧ Fr [g] w w' := by
  have C := Lib.hid (there_any w p g n f h i)
  rw [inR_nat i n hi] at C
  have hn := h.2.1
  obtain ⟨cp, hcp, c1⟩ := h.c1
  have ck := h.ck (i / 64) (by omega)
  have fk := h.fk (i / 64)
  have hl := wrd_lt f (i / 64)
  have hsh := shl_one (i % 64) (by omega)
  have hp : 2 ^ (i % 64) < 18446744073709551616 := show 2 ^ (i % 64) < 2 ^ 64 from Nat.pow_lt_pow_right (by omega) (by omega)
  cases b
  · have hor := bnot _ _ hl hp
    have hw := Lib.hid (h.put (f' := upd f i false) (i / 64) _ (wrd_clr f i) (fun j hj => wrd_other f i false j hj) (upd_out h.2.2.1 i false hi))
    rw [← hsh] at hor
    generalize wrd f (i / 64) &&& (18446744073709551615 - 2 ^ (i % 64)) = V at *
    generalize wrd f (i / 64) = W at *
    clear hl hp hsh
    go_enter Tryz.func63, Tryz.ntmps63
    go_wp2_with (go_at_call 105; refine (C.out).mono ?_; rintro e w' ⟨rfl, rfl⟩)
    go_ret
    exact ⟨rfl, hw.out, (Fr.refl _ _).set (.inl (by simp)) _⟩
  · have hor := bor _ _ hl hp
    have hw := Lib.hid (h.put (f' := upd f i true) (i / 64) _ (wrd_set f i) (fun j hj => wrd_other f i true j hj) (upd_out h.2.2.1 i true hi))
    rw [← hsh] at hor
    generalize wrd f (i / 64) ||| 2 ^ (i % 64) = V at *
    generalize wrd f (i / 64) = W at *
    clear hl hp hsh
    go_enter Tryz.func63, Tryz.ntmps63
    go_wp2_with (go_at_call 105; refine (C.out).mono ?_; rintro e w' ⟨rfl, rfl⟩)
    go_ret
    exact ⟨rfl, hw.out, (Fr.refl _ _).set (.inl (by simp)) _⟩
theorem ones_div (e : Nat) (h : e ≤ 64) : 18446744073709551615 / 2 ^ e = 2 ^ (64 - e) - 1 := by
  have h1 : 18446744073709551616 = 2 ^ (64 - e) * 2 ^ e := by rw [← Nat.pow_add, show 64 - e + e = 64 by omega]
  have h2 : 0 < 2 ^ e := Nat.two_pow_pos e
  have h3 : 0 < 2 ^ (64 - e) := Nat.two_pow_pos _
  have h4 : 18446744073709551615 = (2 ^ e - 1) + (2 ^ (64 - e) - 1) * 2 ^ e := by
    rw [Nat.sub_mul, ← h1]
    have h5 : 2 ^ e ≤ 2 ^ 64 := Nat.pow_le_pow_right (by omega) h
    omega
  rw [h4, Nat.add_mul_div_right _ _ h2, Nat.div_eq_of_lt (by omega)]
  omega
theorem mask_int (l r e : Nat) (hlr : l < r) (hr : r ≤ 64) (he : e = 64 - (r - l)) : IntKind.u64.wrap ((18446744073709551615 : Int) / 2 ^ e * 2 ^ l) = (((2 ^ (r - l) - 1) * 2 ^ l : Nat) : Int) := by
  have h1 : ((18446744073709551615 : Int) / 2 ^ e * 2 ^ l) = ((18446744073709551615 / 2 ^ e * 2 ^ l : Nat) : Int) := by simp
  rw [h1, ones_div e (by omega), show 64 - e = r - l by omega]
  refine wrap_nat _ ?_
  have h2 : (2 ^ (r - l) - 1) * 2 ^ l < 2 ^ (r - l) * 2 ^ l := by
    have := Nat.two_pow_pos l
    have := Nat.two_pow_pos (r - l)
    exact Nat.mul_lt_mul_of_pos_right (by omega) (by omega)
  rw [← Nat.pow_add, show r - l + l = r by omega] at h2
  have h3 : 2 ^ r ≤ 2 ^ 64 := Nat.pow_le_pow_right (by omega) hr
  omega
theorem mask_at (l r e s : Nat) (hlr : l < r) (hr : r ≤ 64) (he : e = 64 - (r - l)) (hs : s = l) : IntKind.u64.wrap ((18446744073709551615 : Int) / 2 ^ e * 2 ^ s) = (((2 ^ (r - l) - 1) * 2 ^ l : Nat) : Int) := by
  subst hs; exact mask_int _ r e hlr hr he
theorem within_any (w : World) (P : Value) (a b k : Nat) (ha : a ≤ 1048576) (hb : b ≤ 1048576) (hk : 64 * k < b) (hab : a < b) (h2 : a < 64 * k + 64) :
    Calls Tryz.prog 144 #[P, .int .i64 k, .int .i64 a, .int .i64 b] w fun r w' => r = .returned (.int .u64 (inw a b k)) ∧ w = w' := by
  have Hm := Lib.hid (inw_mask a b k (a - 64 * k) (min (b - 64 * k) 64) (by omega) (by omega) rfl rfl (by omega))
  by_cases h1 : 64 * k ≤ a <;> by_cases h3 : 64 * k + 64 < b
  all_goals
    go_enter Tryz.func144, Tryz.ntmps144
    go_wp2
    all_goals go_ret
    refine ⟨ret_int ?_, rfl⟩
    rw [Hm.out]
  · refine mask_at (a - 64 * k) (min (b - 64 * k) 64) _ _ ?_ ?_ ?_ ?_ <;> omega
  · refine mask_at (a - 64 * k) (min (b - 64 * k) 64) _ _ ?_ ?_ ?_ ?_ <;> omega
  · rw [show a - 64 * k = 0 by omega, show min (b - 64 * k) 64 - 0 = 64 by omega]; rfl
  · have q := mask_at 0 (b - 64 * k) (64 - (b - k * 64)) 0 (by omega) (by omega) (by omega) rfl
    rw [Int.pow_zero, Int.mul_one] at q
    rw [q, show a - 64 * k = 0 by omega, show min (b - 64 * k) 64 = b - 64 * k by omega]
theorem cut_any (w : World) (p g n : Nat) (f : Nat → Bool) (h : Tg w p g n f) (a b : Int) :
    Calls Tryz.prog 143 #[.pointer (some ⟨p, 0, none⟩), .int .i64 a, .int .i64 b] w fun r w' => r = .returned (.tuple #[.int .i64 (max a 0), .int .i64 (min b n)]) ∧ w = w' := by
  have hn := h.2.1
  by_cases h1 : 0 ≤ a <;> by_cases h2 : b ≤ n
  all_goals
    first | rw [Int.max_eq_left (by omega)] | rw [Int.max_eq_right (by omega)]
  all_goals
    first | rw [Int.min_eq_left (by omega)] | rw [Int.min_eq_right (by omega)]
    go_enter Tryz.func143, Tryz.ntmps143
    go_wp2_with (go_at_call 95; refine (len_any w p g n f h).mono ?_; rintro e w' ⟨rfl, rfl⟩)
    go_ret2
    exact ⟨rfl, rfl⟩
theorem count_nil (w : World) : Calls Tryz.prog 94 #[.pointer none] w fun r w' => r = .returned (.int .i64 0) ∧ w = w' := by
  go_enter Tryz.func94, Tryz.ntmps94
  go_wp2
  go_ret
  exact ⟨rfl, rfl⟩
theorem count_any (w : World) (p g n : Nat) (f : Nat → Bool) (h : Tg w p g n f) :
    Calls Tryz.prog 94 #[.pointer (some ⟨p, 0, none⟩)] w fun r w' => r = .returned (.int .i64 (cnt f n)) ∧ w = w' := by
  have hn := h.2.1
  obtain ⟨cp, hcp, c1⟩ := h.c1
  have hk := Lib.hid h.ck
  have h0 := h.2.2.1
  have H0 := Lib.hid h0
  clear h h0
  go_enter Tryz.func94, Tryz.ntmps94
  go_wp2
  go_loop [3, 13] (fun t i => ∃ k : Nat, k ≤ (n + 63) / 64 ∧ i = .int .i64 k ∧ t = .int .i64 (cnt f (64 * k))) (fun _ i => (n + 63) / 64 - (intOf i).toNat)
  case atStart => exact ⟨0, by omega, rfl, rfl⟩
  case round =>
    obtain ⟨k, hkn, rfl, rfl⟩ := hrel
    have hle := cnt_le f (64 * k)
    by_cases hlt : k < (n + 63) / 64
    · have ck := hk.out k hlt
      have hw := wrd_lt f k
      have hs := Lib.hid (cnt_word f k)
      have hle2 := cnt_le (wrd f k).testBit 64
      have P := Lib.hid (fun w => pop_any (wrd f k : Int) w (by omega) (by unfold u64max; omega))
      simp only [Int.toNat_natCast] at P
      generalize cnt (wrd f k).testBit 64 = c at *
      generalize wrd f k = W at *
      clear hw
      go_wp2_with (go_at_call 128; refine (P.out _).mono ?_; rintro e w' ⟨rfl, rfl⟩)
      go_round
      case rel => exact ⟨k + 1, by omega, by go_num, by rw [← hs.out]; go_num⟩
      case measure => simp [intOf]; omega
    · go_wp2
      go_ret
      refine ⟨ret_int ?_, rfl⟩
      rw [cnt_out f n (64 * k) H0.out (by omega)]
def hit (f : Nat → Bool) (n : Nat) (a b : Int) : Nat := cntB f (max a 0).toNat (min b n).toNat
theorem cnt_mono (g : Nat → Bool) (a b : Nat) (h : a ≤ b) : cnt g a ≤ cnt g b := by
  obtain ⟨d, rfl⟩ : ∃ d, b = a + d := ⟨b - a, by omega⟩
  rw [cnt_add]; omega
theorem btw_low (f : Nat → Bool) (a b m : Nat) (h : m ≤ a) : cnt (btw f a b) m = 0 := cnt_zero _ m fun i hi => by unfold btw; simp [show ¬ a ≤ i by omega]
theorem cnt_of_word (g : Nat → Bool) (k : Nat) (h : wrd g k ≠ 0) (m : Nat) (hm : 64 * k + 64 ≤ m) : 0 < cnt g m := by
  have h1 : ¬ ∀ j, j < 64 → g (64 * k + j) = false := fun e => h ((wrd_zero g k).2 e)
  have h2 : ∃ j, j < 64 ∧ g (64 * k + j) = true := by
    apply Classical.byContradiction
    intro hne
    refine h1 fun j hj => ?_
    cases e : g (64 * k + j) with
    | false => rfl
    | true => exact (hne ⟨j, hj, e⟩).elim
  obtain ⟨j, hj, e⟩ := h2
  exact cnt_pos g m (64 * k + j) (by omega) e
theorem cnt_word0 (g : Nat → Bool) (k : Nat) (h : wrd g k = 0) : cnt g (64 * (k + 1)) = cnt g (64 * k) := by
  have := cnt_word g k
  rw [h] at this
  rw [← this]
  have : cnt (Nat.testBit 0) 64 = 0 := cnt_zero _ 64 fun i _ => Nat.zero_testBit i
  rw [this]; rfl
theorem clear_any (w : World) (p g n : Nat) (f : Nat → Bool) (h : Tg w p g n f) (a b : Int) :
    Calls Tryz.prog 123 #[.pointer (some ⟨p, 0, none⟩), .int .i64 a, .int .i64 b] w fun r w' => r = .returned (.int .i64 (hit f n a b)) ∧ Tg w' p g n (clr f (max a 0).toNat (min b n).toNat) ∧ Fr [g] w w' := by
  have hn := h.2.1
  have C := Lib.hid fun w h => cut_any w p g n f h a b
  unfold hit
  obtain ⟨A, hA⟩ := Int.eq_ofNat_of_zero_le (show 0 ≤ max a 0 by omega)
  obtain ⟨B, hB⟩ : ∃ B, min b n = B := ⟨_, rfl⟩
  have hBn : B ≤ n := by omega
  rw [hA, hB] at C ⊢
  clear hA hB
  simp only [Int.toNat_natCast]
  have hz0 : ∀ m, m ≤ A → clr f A m = f := fun m hm => funext fun i => by
    unfold clr
    by_cases h1 : A ≤ i
    · simp [show ¬ i < m by omega]
    · simp [h1]
  by_cases hAB : B ≤ A
  · have Hz := Lib.hid (hz0 B.toNat (by omega))
    have Hc := Lib.hid (cntB_none f A B.toNat (by omega))
    clear hz0
    have H := Lib.hid h
    go_enter Tryz.func123, Tryz.ntmps123
    go_wp2_with (go_at_call 143; refine (C.out _ h).mono ?_; rintro e w' ⟨rfl, rfl⟩)
    go_ret
    exact ⟨ret_int (by rw [Hc.out]; rfl), by rw [Hz.out]; exact H.out, Fr.refl _ _⟩
  · obtain ⟨B, rfl⟩ := Int.eq_ofNat_of_zero_le (show 0 ≤ B by omega)
    simp only [Int.toNat_natCast]
    have Hz := Lib.hid hz0
    have H := Lib.hid h
    have hd : decide ((B : Int) ≤ A) = false := by simp; omega
    have hd2 : decide (B ≤ A) = false := by simp; omega
    clear h hz0
    go_enter Tryz.func123, Tryz.ntmps123
    go_wp2_with (go_at_call 143; refine (C.out _ H.out).mono ?_; rintro e w' ⟨rfl, rfl⟩)
    clear C
    go_loopw [7, 8] (fun t i wr => ∃ k : Nat, k ≤ (n + 63) / 64 ∧ A / 64 ≤ k ∧ i = .int .i64 k ∧ t = .int .i64 (cnt (btw f A B) (64 * k)) ∧ Tg wr p g n (clr f A (min B (64 * k))) ∧ Fr [g] w wr) (fun _ i _ => (n + 63) / 64 - (intOf i).toNat)
    case atStart => exact ⟨A / 64, by omega, by omega, by simp, by rw [btw_low f A B _ (by omega)]; rfl, by rw [Hz.out _ (by omega)]; exact H.out, Fr.refl _ _⟩
    case round =>
      obtain ⟨k, hk, hAk, rfl, rfl, ht, hf⟩ := hrel
      have Ht := Lib.hid ht
      by_cases hlt : 64 * k < B
      · have hidx : k < (n + 63) / 64 := by omega
        obtain ⟨cp, hcp, c1⟩ := ht.c1
        have ck := ht.ck k hidx
        have fk := ht.fk k
        have ew : wrd (clr f A (min B (64 * k))) k = wrd f k := bitsN_congr 64 fun j hj => by
          unfold clr
          simp [show ¬ 64 * k + j < min B (64 * k) by omega]
        rw [ew] at ck
        have hand := band (wrd f k) (inw A B k) (wrd_lt f k) (inw_lt A B k)
        have hnot := bnot (wrd f k) (inw A B k) (wrd_lt f k) (inw_lt A B k)
        rw [wrd_and f A B k] at hand
        rw [wrd_andNot f A B k] at hnot
        have Hset := Lib.hid (ht.put (f' := clr f A (min B (64 * (k + 1)))) k (wrd (clr f A B) k) (bitsN_congr 64 fun j hj => by
            unfold clr
            by_cases h1 : 64 * k + j < B
            · simp [h1, show 64 * k + j < min B (64 * (k + 1)) by omega]
            · simp [h1, show ¬ 64 * k + j < min B (64 * (k + 1)) by omega])
          (fun i hi => bitsN_congr 64 fun j hj => by
            unfold clr
            by_cases h1 : 64 * i + j < min B (64 * k)
            · simp [h1, show 64 * i + j < min B (64 * (k + 1)) by omega]
            · simp [h1, show ¬ 64 * i + j < min B (64 * (k + 1)) by omega])
          (fun i hi => by unfold clr; rw [H.out.2.2.1 i hi]; rfl))
        have Ww := Lib.hid fun w P => within_any w P A B k (by omega) (by omega) hlt (by omega) (by omega)
        have hlt' : (k : Int) * 64 < B := by omega
        have hc := cnt_le (btw f A B) (64 * k)
        have hs := Lib.hid (cnt_word (btw f A B) k)
        have hle2 := cnt_le (wrd (btw f A B) k).testBit 64
        have P := Lib.hid (fun w => pop_any (wrd (btw f A B) k : Int) w (by omega) (by have := wrd_lt (btw f A B) k; unfold u64max; omega))
        simp only [Int.toNat_natCast] at P
        generalize cnt (wrd (btw f A B) k).testBit 64 = c at *
        generalize wrd (btw f A B) k = V at *
        generalize wrd (clr f A B) k = X at *
        generalize inw A B k = M at *
        generalize wrd f k = W at *
        clear ew ht
        go_wp2_with (first | (go_at_call 144; refine (Ww.out _ _).mono ?_; rintro e w' ⟨rfl, rfl⟩) | (go_at_call 128; refine (P.out _).mono ?_; rintro e w' ⟨rfl, rfl⟩))
        go_roundw
        case rel => exact ⟨k + 1, by omega, by omega, by go_num, by rw [← hs.out]; go_num, Hset.out, hf.set (.inl (by simp)) _⟩
        case measure => simp [intOf]; omega
      · have hlt' : ¬ (k : Int) * 64 < B := by omega
        go_wp2
        go_ret
        refine ⟨ret_int ?_, ?_, hf⟩
        · show ((cnt (btw f A B) (64 * k) : Nat) : Int) = _
          rw [cntB_up f A B (64 * k) (by omega)]
        · have := Ht.out
          rw [show min B (64 * k) = B by omega] at this
          exact this
end Go.Proofs.YthjbnbimfpbccaaGreatDoor
