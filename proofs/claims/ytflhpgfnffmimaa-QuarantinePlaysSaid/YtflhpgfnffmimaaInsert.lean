/-
  slices.Insert of one region. Condition: a list of a hundred thousand at most.
-/


import Derived.Test.YtflhpgfnffmimaaRgL
import Derived.Deep.CutBlock
import Derived.Deep.DeepCutAuto
set_option linter.unusedVariables false
namespace Go.Proofs.Ytflhpgfnffmimaa
open Go.ChangeShapes Go.WideShapes Go.ChangeAt Go.RowKit
def insL (l : List (Nat × Nat)) (i : Nat) (r : Nat × Nat) : List (Nat × Nat) := l.take i ++ r :: l.drop i
theorem insL_len (l : List (Nat × Nat)) (i : Nat) (r : Nat × Nat) (h : i ≤ l.length) : (insL l i r).length = l.length + 1 := by unfold insL; simp; omega
theorem insL_end (l : List (Nat × Nat)) (r : Nat × Nat) : insL l l.length r = l ++ [r] := by unfold insL; simp
theorem put_take (X R : List Value) (k m : Nat) (hm : k + R.length = m) (h : m ≤ X.length) : (X.take k ++ R ++ X.drop m).take m = X.take k ++ R := by
  rw [List.take_append_of_le_length (by rw [List.length_append, List.length_take]; omega), List.take_of_length_le (by rw [List.length_append, List.length_take]; omega)]
theorem put_len (X R : List Value) (k m : Nat) (hm : k + R.length = m) (h : m ≤ X.length) : (X.take k ++ R ++ X.drop m).length = X.length := by
  rw [List.length_append, List.length_append, List.length_take, List.length_drop]; omega
section
variable (w : World) (l : List (Nat × Nat)) (r : Nat × Nat) (q : Nat) (hq : At w q 30 #[.int .u32 r.1, .int .u32 r.2]) (hl : l.length ≤ 100000)
include hq hl
set_option maxHeartbeats 2000000 in
set_option maxRecDepth 100000 in
theorem insert_end (v : Value) (hv : w.ownsRow 0 30 2 v l.length (rgv l)) :
    Calls Try.prog 51 #[v, .int .i64 l.length, .slice (some ⟨q, 0, none⟩) 1 1] w fun e w' => ∃ v', e = .returned v' ∧ w'.ownsRow 0 30 2 v' (l.length + 1) (rgv (insL l l.length r)) ∧ Fr v.ownBlock.toList w w' ∧ ∀ g, v'.ownBlock = some g → v.ownBlock = some g ∨ w.heap.size ≤ g := by
  obtain ⟨i0, hi, hz0, hz1, hz2⟩ := info_parts infoRg
  have HQ := Lib.hid hq
  have hnews := Lib.hid fun j u (hu : [Value.int .u32 (r.1 : Int), .int .u32 (r.2 : Int)][j]? = some u) => show w.cell? ((⟨q, 0, none⟩ : Addr).add j) = some u by
    rw [Go.WideShapes.add_plain, Nat.zero_add, hq.cell, List.getElem?_toArray]; exact hu
  have hone := Lib.hid (show ∀ u ∈ [Value.int .u32 (r.1 : Int), .int .u32 (r.2 : Int)], u.oneCell' = true from fun u hu => by simp at hu; rcases hu with rfl | rfl <;> rfl)
  have HE := Lib.hid (show rgv (insL l l.length r) = rgv l ++ [.int .u32 (r.1 : Int), .int .u32 (r.2 : Int)] by rw [insL_end, rgv_append, rgv_cons]; rfl)
  have HV := Lib.hid hv
  obtain ⟨n, hn⟩ : ∃ n, l.length = n := ⟨_, rfl⟩
  rw [hn] at hl HE HV ⊢
  obtain ⟨va, vc, rfl, hvc⟩ := own_slice HV.out
  have hvm := own_len HV.out
  have ho := rows_open HV.out
  have HNE := Lib.hid hn
  clear hq hv hn
  rcases ho with ⟨e1, e2⟩ | ⟨g, cap, cur, e1, -, -, hc1, hc2, -⟩
  · injection e1 with e1 e3 e4
    subst e1 e2 e4
    go_enter Try.func51, Try.ntmps51
    go_wp2_with (at_builtin; refine wpList_append_own_at _ rfl (.tmp 23) (.tmp 24) 35 rfl 0 30 i0 (.agg #[.int .u32 0, .int .u32 0]) 2 8 Try.underlying35 hi hz0 hz1 hz2 rfl (by omega) (.slice none 0 0) 0 (rgv l) rfl HV.out ⟨q, 0, none⟩ 1 1 [.int .u32 (r.1 : Int), .int .u32 (r.2 : Int)] rfl rfl hnews.out hone.out (by unfold maxLen; omega) (by omega) (Nat.zero_le _) ?_; intro v1 w1 hown1 hg1 hnil hat1)
    go_ret
    exact ⟨v1, rfl, by rw [HE.out]; exact hown1, Fr.grown hg1, fun g hg => by rcases hat1 with h | h <;> rw [h] at hg; exact .inl hg; injection hg with hg; exact .inr (by omega)⟩
  · injection e1 with e1 e3 e4
    subst e1 e4
    unfold maxLen at hc2
    by_cases hcn : vc = n
    · subst hcn
      go_enter Try.func51, Try.ntmps51
      go_wp2_with (at_builtin; refine wpList_append_own_at _ rfl (.tmp 23) (.tmp 24) 35 rfl 0 30 i0 (.agg #[.int .u32 0, .int .u32 0]) 2 8 Try.underlying35 hi hz0 hz1 hz2 rfl (by omega) (.slice (some ⟨g, 0, none⟩) vc vc) vc (rgv l) rfl HV.out ⟨q, 0, none⟩ 1 1 [.int .u32 (r.1 : Int), .int .u32 (r.2 : Int)] rfl rfl hnews.out hone.out (by unfold maxLen; omega) (by omega) (Nat.zero_le _) ?_; intro v1 w1 hown1 hg1 hnil hat1)
      go_ret
      exact ⟨v1, rfl, by rw [HE.out]; exact hown1, Fr.grown hg1, fun g' hg => by rcases hat1 with h | h <;> rw [h] at hg; exact .inl hg; injection hg with hg; exact .inr (by omega)⟩
    · go_enter Try.func51, Try.ntmps51
      go_wp2_with (at_builtin; refine wpList_append_own_at _ rfl (.tmp 23) (.tmp 24) 35 rfl 0 30 i0 (.agg #[.int .u32 0, .int .u32 0]) 2 8 Try.underlying35 hi hz0 hz1 hz2 rfl (by omega) (.slice (some ⟨g, 0, none⟩) n vc) n (rgv l) rfl HV.out ⟨q, 0, none⟩ 1 1 [.int .u32 (r.1 : Int), .int .u32 (r.2 : Int)] rfl rfl hnews.out hone.out (by unfold maxLen; omega) (by omega) (Nat.zero_le _) ?_; intro v1 w1 hown1 hg1 hnil hat1)
      go_ret
      exact ⟨v1, rfl, by rw [HE.out]; exact hown1, Fr.grown hg1, fun g' hg => by rcases hat1 with h | h <;> rw [h] at hg; exact .inl hg; injection hg with hg; exact .inr (by omega)⟩
set_option maxHeartbeats 4000000 in
set_option maxRecDepth 100000 in
theorem insert_grow (g : Nat) (i : Nat) (cur : Array Value) (hA : At w g 30 cur) (ht : cur.toList.take (l.length * 2) = rgv l) (hin : i < l.length) :
    Calls Try.prog 51 #[.slice (some ⟨g, 0, none⟩) l.length l.length, .int .i64 i, .slice (some ⟨q, 0, none⟩) 1 1] w fun e w' => ∃ v', e = .returned v' ∧ w'.ownsRow 0 30 2 v' (l.length + 1) (rgv (insL l i r)) ∧ Fr [] w w' ∧ ∀ g, v'.ownBlock = some g → w.heap.size ≤ g := by
  obtain ⟨i0, hi, hz0, hz1, hz2⟩ := info_parts infoRg
  have HQ := Lib.hid hq
  have HA := Lib.hid hA
  have hone : ∀ u ∈ [Value.int .u32 (r.1 : Int), .int .u32 (r.2 : Int)], u.oneCell' = true := fun u hu => by simp at hu; rcases hu with rfl | rfl <;> rfl
  have hcl := rgv_len l
  have h1c := rgv_one l
  obtain ⟨n, hn⟩ : ∃ n, l.length = n := ⟨_, rfl⟩
  rw [hn] at hl hin ht hcl ⊢
  have htk : (rgv (l.take i)).length = i * 2 := by rw [rgv_len, List.length_take]; omega
  have hdl : (rgv (l.drop i)).length = (n - i) * 2 := by rw [rgv_len, List.length_drop]; omega
  have hold : (Builtin.firstCells i0.size i (.slice (some ⟨g, 0, none⟩) i n)).run Try.prog w.drew = .ok (rgv (l.take i)).toArray w.drew := by
    rw [hz1]
    refine run_firstCells_some w.drew 2 i ⟨g, 0, none⟩ i n (rgv (l.take i)) (by rw [htk]) (fun j v hj => ?_)
    rw [Addr.add_lit]
    rw [rgv_take, List.getElem?_take] at hj
    split at hj
    · exact rows_at (w := w.drew) (n := n) (cap := n) (hA.hp rfl) ht 0 j v (by simpa using hj)
    · cases hj
  have hkk : (n : Int) + 1 - (i : Int) = ((n + 1 - i : Nat) : Int) := by omega
  have hik : i + (n + 1 - i) = n + 1 := by omega
  have hrz : ∀ ty, (Builtin.append_ #[35, 3] ty #[.slice (some ⟨g, 0, none⟩) i n, .int .i64 ((n : Int) + 1 - (i : Int))]).run Try.prog w =
      .ok (.slice (some ⟨w.heap.size, 0, none⟩) (n + 1) (grownCap w (n + 1) n 30)) (w.drew.alloc (.cells ((rgv (l.take i)).toArray ++ Builtin.zeroCells #[.int .u32 0, .int .u32 0] (n + 1 - i) ++ Builtin.zeroCells #[.int .u32 0, .int .u32 0] (grownCap w (n + 1) n 30 - (n + 1))) 30)) := fun ty => by
    have h := Lib.run_append_grow_zeros w 35 3 ty 30 i0 _ .i64 .i64 Try.underlying35 Try.underlying3 hi hz0 (some ⟨g, 0, none⟩) i n (rgv (l.take i)) hold (n + 1 - i) (by omega) (by omega) (by omega) (by omega) (by rw [hz2]; omega) (by rw [hz2, hik]; exact growslice_fits (by omega) (by omega))
    rw [hik] at h
    rw [hkk]
    exact h
  obtain ⟨G, hG⟩ : ∃ G, G = grownCap w (n + 1) n 30 := ⟨_, rfl⟩
  have hGn : n + 1 ≤ G := by rw [hG]; exact grownCap_ge w _ _ _
  have hG63 : G ≤ 9223372036854775807 := by
    have := grownCap_le_maxLen w (n + 1) n 30 (by unfold maxLen; omega)
    rw [← hG] at this
    unfold maxLen at this
    omega
  obtain ⟨ROW, hROW⟩ : ∃ ROW : Array Value, ROW = (rgv (l.take i)).toArray ++ Builtin.zeroCells #[.int .u32 0, .int .u32 0] (n + 1 - i) ++ Builtin.zeroCells #[.int .u32 0, .int .u32 0] (G - (n + 1)) := ⟨_, rfl⟩
  rw [← hG, ← hROW] at hrz
  have hzs : ∀ k, (Builtin.zeroCells #[Value.int .u32 0, .int .u32 0] k).size = k * 2 := fun k => by
    rw [size_zeroCells]; rfl
  have hRs : ROW.size = G * 2 := by rw [hROW, Array.size_append, Array.size_append, hzs, hzs, List.size_toArray, htk]; omega
  have hRt : ROW.toList.take (i * 2) = rgv (l.take i) := by
    rw [hROW, Array.append_assoc, Array.toList_append, List.take_append_of_le_length (by simp [htk]), List.take_of_length_le (by simp [htk])]
  obtain ⟨W1, hW1⟩ : ∃ W1, W1 = w.drew.alloc (.cells ROW 30) := ⟨_, rfl⟩
  have F1 : Fr [] w W1 := by rw [hW1]; exact (Fr.refl [] w).drew.alloc _
  have A1 : At W1 w.heap.size 30 ROW := by rw [hW1]; exact At.new w.drew _ _
  rw [← hW1] at hrz
  clear hW1 hROW hG hold
  have hneq : q ≠ w.heap.size := by have := HQ.out.lt; omega
  have hneg : g ≠ w.heap.size := by have := HA.out.lt; omega
  have hrow : ROW.toList.length = G * 2 := by rw [Array.length_toList]; exact hRs
  obtain ⟨C2, hC2⟩ : ∃ C : List Value, C = ROW.toList.take (i * 2) ++ [.int .u32 (r.1 : Int), .int .u32 (r.2 : Int)] ++ ROW.toList.drop (i * 2 + 2) := ⟨_, rfl⟩
  have hC2l : C2.length = G * 2 := by rw [hC2, put_len ROW.toList [.int .u32 (r.1 : Int), .int .u32 (r.2 : Int)] (i * 2) (i * 2 + 2) rfl (by rw [hrow]; omega), hrow]
  have hC2t : C2.take ((i + 1) * 2) = rgv (l.take i) ++ [.int .u32 (r.1 : Int), .int .u32 (r.2 : Int)] := by
    rw [hC2, show (i + 1) * 2 = i * 2 + 2 by omega, put_take ROW.toList [.int .u32 (r.1 : Int), .int .u32 (r.2 : Int)] (i * 2) (i * 2 + 2) rfl (by rw [hrow]; omega), hRt]
  have hcpA : ∀ ty dc, (Builtin.copy_ #[35, 35] ty #[.slice (some ⟨w.heap.size, i * 2, none⟩) (n + 1 - i) dc, .slice (some ⟨q, 0, none⟩) 1 1]).run Try.prog W1 = .ok (goInt 1) (W1.setRow w.heap.size C2.toArray) := fun ty dc => by
    rw [hC2]
    exact run_copy_min W1 _ _ ty 30 2 w.heap.size (i * 2) (n + 1 - i) 1 1 dc (by simp only [Nat.min_def]; split <;> omega) ⟨q, 0, none⟩ 1 ROW 30 [.int .u32 (r.1 : Int), .int .u32 (r.2 : Int)] Try.underlying35 infoRgS A1 rfl
      (fun j v hj => by rw [Go.WideShapes.add_plain, Nat.zero_add, (HQ.out.fr F1 (by simp)).cell, List.getElem?_toArray]; exact hj) (by rw [hRs]; simp; omega) hone
  obtain ⟨W2, hW2⟩ : ∃ W, W1.setRow w.heap.size C2.toArray = W := ⟨_, rfl⟩
  have A2 : At W2 w.heap.size 30 C2.toArray := by rw [← hW2]; exact setRow_heap W1 w.heap.size _ _ _ (0, 0) A1
  have F2 : Fr [w.heap.size] W1 W2 := by rw [← hW2]; exact Fr.setRow W1 _ _
  have G2 : At W2 g 30 cur := (HA.out.fr F1 (by simp)).fr F2 (by simpa using hneg)
  rw [hW2] at hcpA
  obtain ⟨C3, hC3⟩ : ∃ C : List Value, C = C2.take ((i + 1) * 2) ++ rgv (l.drop i) ++ C2.drop ((n + 1) * 2) := ⟨_, rfl⟩
  have hC3l : C3.length = G * 2 := by rw [hC3, put_len C2 (rgv (l.drop i)) ((i + 1) * 2) ((n + 1) * 2) (by rw [hdl]; omega) (by omega), hC2l]
  have hC3t : C3.take ((n + 1) * 2) = rgv (insL l i r) := by
    rw [hC3, put_take C2 (rgv (l.drop i)) ((i + 1) * 2) ((n + 1) * 2) (by rw [hdl]; omega) (by omega), hC2t]
    unfold insL
    rw [rgv_append, rgv_cons, List.append_assoc]
  have hcpB : ∀ ty dc sc, (Builtin.copy_ #[35, 35] ty #[.slice (some ⟨w.heap.size, (i + 1) * 2, none⟩) (n + 1 - (i + 1)) dc, .slice (some ⟨g, i * 2, none⟩) (n - i) sc]).run Try.prog W2.drew = .ok (goInt ((n - i : Nat) : Int)) (W2.drew.setRow w.heap.size C3.toArray) := fun ty dc sc => by
    have := run_copy_min W2.drew 35 35 ty 30 2 w.heap.size ((i + 1) * 2) (n + 1 - (i + 1)) (n - i) (n - i) dc (by simp only [Nat.min_def]; split <;> omega) ⟨g, i * 2, none⟩ sc C2.toArray 30 (rgv (l.drop i)) Try.underlying35 infoRgS A2 hdl
      (fun j v hj => by rw [Go.WideShapes.add_plain]; exact rows_at (w := W2.drew) (n := n) (cap := n) (G2.hp rfl) ht (i * 2) j v (by rw [rgv_drop] at hj; exact hj)) (by rw [hdl, List.size_toArray, hC2l]; omega) (rgv_one _)
    rw [hdl, show (i + 1) * 2 + (n - i) * 2 = (n + 1) * 2 by omega, ← hC3] at this
    exact this
  obtain ⟨W3, hW3⟩ : ∃ W, W2.drew.setRow w.heap.size C3.toArray = W := ⟨_, rfl⟩
  have A3 := Lib.hid (show At W3 w.heap.size 30 C3.toArray by rw [← hW3]; exact setRow_heap W2.drew w.heap.size _ _ _ (0, 0) A2)
  have F3 := Lib.hid (show Fr [] w W3 from (F1.trans (F2.trans (show Fr [w.heap.size] W2 W3 from by rw [← hW3]; exact (Fr.refl [w.heap.size] W2).drew.trans (Fr.setRow W2.drew _ _) (fun k hk => .inl hk)) (fun k hk => .inl hk)) (by simp)))
  rw [hW3] at hcpB
  have HT := Lib.hid hC3t
  have HL3 := Lib.hid hC3l
  have HRZ := Lib.hid hrz
  have HCA := Lib.hid hcpA
  have HCB := Lib.hid hcpB
  clear hW2 hW3 hC2 hC3 hC3t hC3l hC2t hC2l hcpA hcpB hrz A1 A2 F1 F2 G2 hRs hRt hrow hzs htk hdl ht hA hq hcl h1c hone hi hz0 hz1 hz2 hkk
  have hw1 : IntKind.i64.wrap ((i : Int) + 1) = (i : Int) + 1 := by rw [IntKind.wrap_i64]; omega
  have hb1 : (0 : Int) ≤ (i : Int) + 1 := by omega
  have hin' : i ≤ n := by omega
  have htn : ((i : Int) + 1).toNat = i + 1 := by omega
  have hGi : ¬ (G = i) := by omega
  have hGim : ¬ (G = i + 1) := by omega
  have hci : ¬ (n = i) := by omega
  have hci' : ¬ ((i : Int) = (n : Int)) := by omega
  go_enter Try.func51, Try.ntmps51
  go_upto_region 10 with (at_builtin; refine Lib.wpList_append_run _ rfl (.tmp 34) (.tmp 39) _ _ rfl _ _ rfl rfl _ _ (HRZ.out _) ?_)
  go_upto_region 11 with (refine wpList_copy_at rfl (.tmp 43) (.tmp 44) 35 35 rfl (.slice (some ⟨w.heap.size, i * 2, none⟩) (n + 1 - i) (G - i)) (.slice (some ⟨q, 0, none⟩) 1 1) rfl rfl (HCA.out 3 (G - i)) ?_)
  refine wp_region_L (fun _ => True) [] (by kernel_rfl) trivial (fun hHeld => ?_)
  refine wpAnyL_take (i := 0) (v := ?_) rfl (by kernel_rfl) (fun _ _ _ h => h) (Or.inl ⟨by rfl, ?_⟩) (by assumption) ?_; rotate_left; (focus (intro w hSw; skip; go_simp; (try with_reducible rfl))); (try (refine wpAnyL_norm (by simp only [Act.put, List.setIfInBounds_toArray, List.set_cons_zero, List.set_cons_succ]; rfl) ?_))
  refine wpAnyL_take (i := 1) (v := ?_) rfl (by kernel_rfl) (fun _ _ _ h => h) (Or.inl ⟨by rfl, ?_⟩) (by assumption) ?_; rotate_left; (focus (intro w hSw; skip; go_simp; (try with_reducible rfl))); (try (refine wpAnyL_norm (by simp only [Act.put, List.setIfInBounds_toArray, List.set_cons_zero, List.set_cons_succ]; rfl) ?_))
  refine wpAnyL_take (i := 2) (v := ?_) rfl (by kernel_rfl) (fun _ _ _ h => h) (Or.inl ⟨by rfl, ?_⟩) (by assumption) ?_; rotate_left; (focus (intro w hSw; skip; go_simp; (try with_reducible rfl))); (try (refine wpAnyL_norm (by simp only [Act.put, List.setIfInBounds_toArray, List.set_cons_zero, List.set_cons_succ]; rfl) ?_))
  refine wpAnyL_take (i := 3) (v := ?_) rfl (by kernel_rfl) (fun _ _ _ h => h) (Or.inl ⟨by rfl, ?_⟩) (by assumption) ?_; rotate_left; (focus (intro w hSw; skip; go_simp; (try with_reducible rfl))); (try (refine wpAnyL_norm (by simp only [Act.put, List.setIfInBounds_toArray, List.set_cons_zero, List.set_cons_succ]; rfl) ?_))
  refine wpAnyL_take (i := 4) (v := ?_) rfl (by kernel_rfl) (fun _ _ _ h => h) (Or.inl ⟨by rfl, ?_⟩) (by assumption) ?_; rotate_left; (focus (intro w hSw; (have k1 : (0 : Int) ≤ (i : Int) + 1 ∧ (i : Int) + 1 ≤ (n : Int) + 1 := by omega); (have k2 : i + 1 ≤ n + 1 := by omega); go_simp; (try with_reducible rfl))); (try (refine wpAnyL_norm (by simp only [Act.put, List.setIfInBounds_toArray, List.set_cons_zero, List.set_cons_succ]; rfl) ?_))
  refine wpAnyL_take (i := 5) (v := ?_) rfl (by kernel_rfl) (fun _ _ _ h => h) (Or.inl ⟨by rfl, ?_⟩) (by assumption) ?_; rotate_left; (focus (intro w hSw; skip; go_simp; (try with_reducible rfl))); (try (refine wpAnyL_norm (by simp only [Act.put, List.setIfInBounds_toArray, List.set_cons_zero, List.set_cons_succ]; rfl) ?_))
  refine wpAnyL_take (i := 6) (v := ?_) rfl (by kernel_rfl) (fun _ _ _ h => h) (Or.inl ⟨by rfl, ?_⟩) (by assumption) ?_; rotate_left; (focus (intro w hSw; skip; go_simp; (try with_reducible rfl))); (try (refine wpAnyL_norm (by simp only [Act.put, List.setIfInBounds_toArray, List.set_cons_zero, List.set_cons_succ]; rfl) ?_))
  refine wpAnyL_take (i := 7) (v := ?_) rfl (by kernel_rfl) (fun _ _ _ h => h) (Or.inl ⟨by rfl, ?_⟩) (by assumption) ?_; rotate_left; (focus (intro w hSw; skip; go_simp; (try with_reducible rfl))); (try (refine wpAnyL_norm (by simp only [Act.put, List.setIfInBounds_toArray, List.set_cons_zero, List.set_cons_succ]; rfl) ?_))
  refine wpAnyL_ready (rs := [8]) (by kernel_rfl) (by simp) ?_; refine AllReadyL.cons rfl (fun K hK => ?_) AllReadyL.nil
  rw [if_pos (by rfl)]
  refine wp_copy_run (.tmp 50) (.tmp 53) 35 35 rfl (.slice (some ⟨w.heap.size, (i + 1) * 2, none⟩) (n + 1 - (i + 1)) (G - (i + 1))) (.slice (some ⟨g, i * 2, none⟩) (n - i) (n - i)) (by simp [Act.eval]; done) (by simp [Act.eval]; done) (HCB.out 3 (G - (i + 1)) (n - i)) ?_
  refine hK.out _ _ (fun _ => trivial) (fun hHeld' => ?_); have hHeld := hHeld' (by decide); clear hHeld' hK K; (try (refine wpAnyL_norm (by simp only [Act.put, List.setIfInBounds_toArray, List.set_cons_zero, List.set_cons_succ]; rfl) ?_))
  refine wpAnyL_done (by kernel_rfl) ?_ _
  go_wp2_with fail
  go_ret
  refine ⟨_, rfl, ⟨by rw [rgv_len, insL_len _ _ _ (by omega)]; omega, .inr ⟨w.heap.size, G, C3.toArray, rfl, Nat.zero_le _, A3.out, hGn, by unfold maxLen; omega, by rw [List.size_toArray]; exact HL3.out, HT.out⟩⟩, F3.out, fun g' hg => ?_⟩
  simp [Value.ownBlock] at hg
  omega
set_option maxHeartbeats 4000000 in
set_option maxRecDepth 100000 in
theorem insert_shift (g : Nat) (i c : Nat) (cur : Array Value) (hA : At w g 30 cur) (ht : cur.toList.take (l.length * 2) = rgv l) (hs : cur.size = c * 2) (hin : i < l.length) (hc : l.length + 1 ≤ c) (hcm : c ≤ maxLen) (hne : q ≠ g) :
    Calls Try.prog 51 #[.slice (some ⟨g, 0, none⟩) l.length c, .int .i64 i, .slice (some ⟨q, 0, none⟩) 1 1] w fun e w' => ∃ v', e = .returned v' ∧ w'.ownsRow 0 30 2 v' (l.length + 1) (rgv (insL l i r)) ∧ Fr [g] w w' ∧ v'.ownBlock = some g := by
  have HQ := Lib.hid hq
  have hone : ∀ u ∈ [Value.int .u32 (r.1 : Int), .int .u32 (r.2 : Int)], u.oneCell' = true := fun u hu => by simp at hu; rcases hu with rfl | rfl <;> rfl
  have hcl := rgv_len l
  obtain ⟨n, hn⟩ : ∃ n, l.length = n := ⟨_, rfl⟩
  rw [hn] at hl hin ht hcl hc ⊢
  unfold maxLen at hcm
  have hdl : (rgv (l.drop i)).length = (n - i) * 2 := by rw [rgv_len, List.length_drop]; omega
  have htk : (rgv (l.take i)).length = i * 2 := by rw [rgv_len, List.length_take]; omega
  have hov : ∀ lb cb, (callFunc 61 #[.slice (some ⟨q, 0, none⟩) 1 1, .slice (some ⟨g, (i + 1) * 2, none⟩) lb cb]).run Try.prog w = .ok (.value (.bool false)) w := fun lb cb => by
    have hsa : w.shape? q = some (30, 2) := by have h := hq; unfold At at h; simp [World.shape?, h]
    have hsb : w.shape? g = some (30, c * 2) := by have h := hA; unfold At at h; simp [World.shape?, h, hs]
    rw [run_callFunc_extern Try.func61 (by kernel_rfl) (by kernel_rfl) (by kernel_rfl) (e := Extern.SlicesOverlaps.overlaps #[35, 35] #[4]) (by kernel_rfl),
      Lib.run_overlaps_apart w 35 4 30 Try.underlying35 2 (fun w => by kernel_rfl) ⟨q, 0, none⟩ ⟨g, (i + 1) * 2, none⟩ 1 1 lb cb hne 30 30 2 (c * 2) hsa hsb (by omega) (hq.froz 0) (hq.froz 2)]
    rfl
  have hrow : cur.toList.length = c * 2 := by rw [Array.length_toList]; exact hs
  have hRt : cur.toList.take (i * 2) = rgv (l.take i) := by rw [rgv_take, ← ht, List.take_take, Nat.min_eq_left (by omega)]
  obtain ⟨C2, hC2⟩ : ∃ C : List Value, C = cur.toList.take ((i + 1) * 2) ++ rgv (l.drop i) ++ cur.toList.drop ((n + 1) * 2) := ⟨_, rfl⟩
  have hC2l : C2.length = c * 2 := by rw [hC2, put_len cur.toList (rgv (l.drop i)) ((i + 1) * 2) ((n + 1) * 2) (by rw [hdl]; omega) (by omega), hrow]
  have hcpA : ∀ ty dc sc, (Builtin.copy_ #[35, 35] ty #[.slice (some ⟨g, (i + 1) * 2, none⟩) (n - i) dc, .slice (some ⟨g, i * 2, none⟩) (n + 1 - i) sc]).run Try.prog w.drew = .ok (goInt ((n - i : Nat) : Int)) (w.drew.setRow g C2.toArray) := fun ty dc sc => by
    have := run_copy_min w.drew 35 35 ty 30 2 g ((i + 1) * 2) (n - i) (n + 1 - i) (n - i) dc (by simp only [Nat.min_def]; split <;> omega) ⟨g, i * 2, none⟩ sc cur 30 (rgv (l.drop i)) Try.underlying35 infoRgS hA hdl
      (fun j v hj => by rw [Go.WideShapes.add_plain]; exact rows_at (w := w.drew) (n := n) (cap := n) (hA.hp rfl) ht (i * 2) j v (by rw [rgv_drop] at hj; exact hj)) (by rw [hdl, hs]; omega) (rgv_one _)
    rw [hdl, show (i + 1) * 2 + (n - i) * 2 = (n + 1) * 2 by omega, ← hC2] at this
    exact this
  obtain ⟨W2, hW2⟩ : ∃ W, w.drew.setRow g C2.toArray = W := ⟨_, rfl⟩
  have A2 : At W2 g 30 C2.toArray := by rw [← hW2]; exact setRow_heap w.drew g _ _ _ (0, 0) hA
  have F2 : Fr [g] w W2 := by rw [← hW2]; exact (Fr.refl [g] w).drew.trans (Fr.setRow w.drew _ _) (fun k hk => .inl hk)
  rw [hW2] at hcpA
  obtain ⟨C3, hC3⟩ : ∃ C : List Value, C = C2.take (i * 2) ++ [.int .u32 (r.1 : Int), .int .u32 (r.2 : Int)] ++ C2.drop (i * 2 + 2) := ⟨_, rfl⟩
  have hC3l : C3.length = c * 2 := by rw [hC3, put_len C2 [.int .u32 (r.1 : Int), .int .u32 (r.2 : Int)] (i * 2) (i * 2 + 2) rfl (by omega), hC2l]
  have hcl1 : (cur.toList.take ((i + 1) * 2)).length = (i + 1) * 2 := by rw [List.length_take]; omega
  have hC2a : C2.take (i * 2) = rgv (l.take i) := by
    rw [hC2, List.append_assoc, List.take_append_of_le_length (by omega), List.take_take, Nat.min_eq_left (by omega), hRt]
  have hC2b : (C2.drop (i * 2 + 2)).take ((n - i) * 2) = rgv (l.drop i) := by
    rw [hC2, List.append_assoc, show i * 2 + 2 = (i + 1) * 2 by omega, List.drop_append_of_le_length (by omega), List.drop_of_length_le (by omega), List.nil_append, List.take_append_of_le_length (by omega), List.take_of_length_le (by omega)]
  have hC3t : C3.take ((n + 1) * 2) = rgv (insL l i r) := by
    rw [hC3, hC2a, show (n + 1) * 2 = (rgv (l.take i) ++ [Value.int .u32 (r.1 : Int), Value.int .u32 (r.2 : Int)]).length + (n - i) * 2 by rw [List.length_append, htk]; simp; omega, List.take_length_add_append, hC2b]
    unfold insL
    rw [rgv_append, rgv_cons, List.append_assoc]
  have hcpB : ∀ ty dc, (Builtin.copy_ #[35, 35] ty #[.slice (some ⟨g, i * 2, none⟩) (n + 1 - i) dc, .slice (some ⟨q, 0, none⟩) 1 1]).run Try.prog W2 = .ok (goInt 1) (W2.setRow g C3.toArray) := fun ty dc => by
    rw [hC3]
    exact run_copy_min W2 _ _ ty 30 2 g (i * 2) (n + 1 - i) 1 1 dc (by simp only [Nat.min_def]; split <;> omega) ⟨q, 0, none⟩ 1 C2.toArray 30 [.int .u32 (r.1 : Int), .int .u32 (r.2 : Int)] Try.underlying35 infoRgS A2 rfl
      (fun j v hj => by rw [Go.WideShapes.add_plain, Nat.zero_add, (HQ.out.fr F2 (by simpa using hne)).cell, List.getElem?_toArray]; exact hj) (by rw [List.size_toArray, hC2l]; simp; omega) hone
  obtain ⟨W3, hW3⟩ : ∃ W, W2.setRow g C3.toArray = W := ⟨_, rfl⟩
  have A3 := Lib.hid (show At W3 g 30 C3.toArray by rw [← hW3]; exact setRow_heap W2 g _ _ _ (0, 0) A2)
  have F3 := Lib.hid (show Fr [g] w W3 from F2.trans (by rw [← hW3]; exact Fr.setRow W2 _ _) (fun k hk => .inl hk))
  rw [hW3] at hcpB
  have HT := Lib.hid hC3t
  have HL3 := Lib.hid hC3l
  have HCA := Lib.hid hcpA
  have HCB := Lib.hid hcpB
  have HOV := Lib.hid hov
  clear hW2 hW3 hC2 hC3 hC3t hC3l hC2a hC2b hC2l hcpA hcpB hov A2 F2 hRt hrow hcl1 htk hdl ht hA hq hcl hone hs
  have hw1 : IntKind.i64.wrap ((i : Int) + 1) = (i : Int) + 1 := by rw [IntKind.wrap_i64]; omega
  have hb1 : (0 : Int) ≤ (i : Int) + 1 := by omega
  have hin' : i ≤ n := by omega
  have htn : ((i : Int) + 1).toNat = i + 1 := by omega
  have hGi : ¬ (c = i) := by omega
  have hGim : ¬ (c = i + 1) := by omega
  have hci' : ¬ ((i : Int) = (n : Int)) := by omega
  have hno : ¬ ((c : Int) < (n : Int) + 1) := by omega
  have hb3 : (i : Int) ≤ (n : Int) + 1 := by omega
  go_enter Try.func51, Try.ntmps51
  go_upto_region 15 with (simp only [HOV.out])
  refine wp_region_L (fun _ => True) [] (by kernel_rfl) trivial (fun hHeld => ?_)
  refine wpAnyL_take (i := 0) (v := ?_) rfl (by kernel_rfl) (fun _ _ _ h => h) (Or.inl ⟨by rfl, ?_⟩) (by assumption) ?_; rotate_left; (focus (intro w hSw; skip; go_simp; (try with_reducible rfl))); (try (refine wpAnyL_norm (by simp only [Act.put, List.setIfInBounds_toArray, List.set_cons_zero, List.set_cons_succ]; rfl) ?_))
  refine wpAnyL_take (i := 1) (v := ?_) rfl (by kernel_rfl) (fun _ _ _ h => h) (Or.inl ⟨by rfl, ?_⟩) (by assumption) ?_; rotate_left; (focus (intro w hSw; skip; go_simp; (try with_reducible rfl))); (try (refine wpAnyL_norm (by simp only [Act.put, List.setIfInBounds_toArray, List.set_cons_zero, List.set_cons_succ]; rfl) ?_))
  refine wpAnyL_take (i := 2) (v := ?_) rfl (by kernel_rfl) (fun _ _ _ h => h) (Or.inl ⟨by rfl, ?_⟩) (by assumption) ?_; rotate_left; (focus (intro w hSw; skip; go_simp; (try with_reducible rfl))); (try (refine wpAnyL_norm (by simp only [Act.put, List.setIfInBounds_toArray, List.set_cons_zero, List.set_cons_succ]; rfl) ?_))
  refine wpAnyL_take (i := 3) (v := ?_) rfl (by kernel_rfl) (fun _ _ _ h => h) (Or.inl ⟨by rfl, ?_⟩) (by assumption) ?_; rotate_left; (focus (intro w hSw; skip; go_simp; (try with_reducible rfl))); (try (refine wpAnyL_norm (by simp only [Act.put, List.setIfInBounds_toArray, List.set_cons_zero, List.set_cons_succ]; rfl) ?_))
  refine wpAnyL_take (i := 4) (v := ?_) rfl (by kernel_rfl) (fun _ _ _ h => h) (Or.inl ⟨by rfl, ?_⟩) (by assumption) ?_; rotate_left; (focus (intro w hSw; (have k1 : (0 : Int) ≤ (i : Int) + 1 ∧ (i : Int) + 1 ≤ (n : Int) + 1 := by omega); (have k2 : i + 1 ≤ n + 1 := by omega); go_simp; (try with_reducible rfl))); (try (refine wpAnyL_norm (by simp only [Act.put, List.setIfInBounds_toArray, List.set_cons_zero, List.set_cons_succ]; rfl) ?_))
  refine wpAnyL_take (i := 5) (v := ?_) rfl (by kernel_rfl) (fun _ _ _ h => h) (Or.inl ⟨by rfl, ?_⟩) (by assumption) ?_; rotate_left; (focus (intro w hSw; skip; go_simp; (try with_reducible rfl))); (try (refine wpAnyL_norm (by simp only [Act.put, List.setIfInBounds_toArray, List.set_cons_zero, List.set_cons_succ]; rfl) ?_))
  refine wpAnyL_take (i := 6) (v := ?_) rfl (by kernel_rfl) (fun _ _ _ h => h) (Or.inl ⟨by rfl, ?_⟩) (by assumption) ?_; rotate_left; (focus (intro w hSw; skip; go_simp; (try with_reducible rfl))); (try (refine wpAnyL_norm (by simp only [Act.put, List.setIfInBounds_toArray, List.set_cons_zero, List.set_cons_succ]; rfl) ?_))
  refine wpAnyL_take (i := 7) (v := ?_) rfl (by kernel_rfl) (fun _ _ _ h => h) (Or.inl ⟨by rfl, ?_⟩) (by assumption) ?_; rotate_left; (focus (intro w hSw; skip; go_simp; (try with_reducible rfl))); (try (refine wpAnyL_norm (by simp only [Act.put, List.setIfInBounds_toArray, List.set_cons_zero, List.set_cons_succ]; rfl) ?_))
  refine wpAnyL_ready (rs := [8]) (by kernel_rfl) (by simp) ?_; refine AllReadyL.cons rfl (fun K hK => ?_) AllReadyL.nil
  rw [if_pos (by rfl)]
  refine wp_copy_run (.tmp 73) (.tmp 76) 35 35 rfl (.slice (some ⟨g, (i + 1) * 2, none⟩) (n - i) (c - (i + 1))) (.slice (some ⟨g, i * 2, none⟩) (n + 1 - i) (c - i)) (by simp [Act.eval]; done) (by simp [Act.eval]; done) (HCA.out 3 (c - (i + 1)) (c - i)) ?_
  refine hK.out _ _ (fun _ => trivial) (fun hHeld' => ?_); have hHeld := hHeld' (by decide); clear hHeld' hK K; (try (refine wpAnyL_norm (by simp only [Act.put, List.setIfInBounds_toArray, List.set_cons_zero, List.set_cons_succ]; rfl) ?_))
  refine wpAnyL_done (by kernel_rfl) ?_ _
  go_upto_region 17 with (refine wpList_copy_at rfl (.tmp 80) (.tmp 81) 35 35 rfl (.slice (some ⟨g, i * 2, none⟩) (n + 1 - i) (c - i)) (.slice (some ⟨q, 0, none⟩) 1 1) rfl rfl (HCB.out 3 (c - i)) ?_)
  go_wp2_with fail
  go_ret
  exact ⟨_, rfl, ⟨by rw [rgv_len, insL_len _ _ _ (by omega)]; omega, .inr ⟨g, c, C3.toArray, rfl, Nat.zero_le _, A3.out, hc, by unfold maxLen; omega, by rw [List.size_toArray]; exact HL3.out, HT.out⟩⟩, F3.out, rfl⟩
theorem insert_any (v : Value) (hv : w.ownsRow 0 30 2 v l.length (rgv l)) (i : Nat) (hi : i ≤ l.length) (hne : ∀ g, v.ownBlock = some g → g ≠ q) :
    Calls Try.prog 51 #[v, .int .i64 i, .slice (some ⟨q, 0, none⟩) 1 1] w fun e w' => ∃ v', e = .returned v' ∧ w'.ownsRow 0 30 2 v' (l.length + 1) (rgv (insL l i r)) ∧ Fr v.ownBlock.toList w w' ∧ ∀ g, v'.ownBlock = some g → v.ownBlock = some g ∨ w.heap.size ≤ g := by
  by_cases he : i = l.length
  · subst he
    exact insert_end w l r q hq hl v hv
  · rcases rows_open hv with ⟨rfl, h0⟩ | ⟨g, c, cur, rfl, -, hA, h1, h2, h3, h4⟩
    · omega
    · by_cases hc : c = l.length
      · subst hc
        refine (insert_grow w l r q hq hl g i cur hA h4 (by omega)).mono ?_
        rintro e w' ⟨v', e1, e2, e3, e4⟩
        exact ⟨v', e1, e2, e3.more (by simp), fun g hg => .inr (e4 g hg)⟩
      · refine (insert_shift w l r q hq hl g i c cur hA h4 h3 (by omega) (by omega) h2 (fun h => hne g rfl h.symm)).mono ?_
        rintro e w' ⟨v', e1, e2, e3, e4⟩
        exact ⟨v', e1, e2, e3, fun g' hg => .inl (by rw [e4] at hg; exact hg)⟩
end
end Go.Proofs.Ytflhpgfnffmimaa
