/-
  Capabilities one behind the other in a block: loads and stores of one of them; frames as seventeen of them. Condition: the place lies within the block.
-/


import Derived.Test.YtilgklpponaoeaaCells
import Derived.Test.YtilgklpponaoeaaClean
set_option linter.unusedVariables false
namespace Go.Proofs.Ytilgklpponaoeaa
open Go.ChangeShapes Go.WideShapes Go.ChangeAt Go.RowKit
theorem cat_one' (l : List Cp) : ∀ v ∈ cat l, v.oneCell' = true := fun v hv => by
  unfold cat at hv
  rw [List.mem_flatMap] at hv
  obtain ⟨c, _, hc⟩ := hv
  unfold Cp.l at hc
  simp only [List.mem_cons, List.not_mem_nil, or_false] at hc
  rcases hc with rfl | rfl | rfl | rfl | rfl | rfl | rfl | rfl <;> rfl
theorem cp_one (c : Cp) : ∀ v ∈ c.l, v.oneCell' = true := fun v hv => cat_one' [c] v (by simpa [cat] using hv)
theorem cat_put : ∀ (l : List Cp) (i : Nat) (c : Cp), i < l.length → (cat l).take (i * 8) ++ c.l ++ (cat l).drop (i * 8 + c.l.length) = cat (l.set i c)
  | [], i, c, h => by simp at h
  | d :: l, 0, c, h => by
    unfold cat
    simp only [List.flatMap_cons, Nat.zero_mul, List.take_zero, List.nil_append, List.set_cons_zero, Nat.zero_add]
    rw [List.drop_append_of_le_length (by simp [Cp.l_len]), List.drop_of_length_le (by simp [Cp.l_len]), List.nil_append]
  | d :: l, i + 1, c, h => by
    have ih := cat_put l i c (by simpa using h)
    unfold cat at ih ⊢
    rw [List.flatMap_cons, List.set_cons_succ, List.flatMap_cons, ← ih, show (i + 1) * 8 = d.l.length + i * 8 by rw [Cp.l_len]; omega, List.take_append, List.take_of_length_le (by omega), List.drop_append]
    rw [show d.l.length + i * 8 - d.l.length = i * 8 by omega, List.drop_of_length_le (show d.l.length ≤ d.l.length + i * 8 + c.l.length by omega), show d.l.length + i * 8 + c.l.length - d.l.length = i * 8 + c.l.length by omega]
    simp
theorem cat_append (a b : List Cp) : cat (a ++ b) = cat a ++ cat b := by unfold cat; exact List.flatMap_append
theorem Cp.cells_l (c : Cp) : c.cells = c.l.toArray := rfl
theorem cat_single (c : Cp) : (cat [c]).toArray = c.cells := by unfold cat; simp [Cp.cells_l]
section
variable {ops : Array Oper} {rest : List Oper} {o : Oper} {a : Act} {w : World} {Q : Exit → Act → World → Prop}
theorem infoCapS : (Try.prog.info? 38).map (·.size) = some 8 := by kernel_rfl
theorem wpList_load_cap (hgd : Region.wanted o (yielded ops a.tmps) = true) (x : Operand) (ho : o.op = .load 38 x) (g k : Nat) (hx : a.eval x = .pointer (some ⟨g, k, none⟩)) (t : TypeId) (l : List Cp) (hg : At w g t (cat l).toArray) (i : Nat) (hk : k = i * 8) (c : Cp) (hi : l[i]? = some c)
    (h : wpList Try.prog ops Q rest (a.put o.dst (.agg c.cells)) w) : wpList Try.prog ops Q (o :: rest) a w :=
  wpList_load_at hgd 38 x ho ⟨g, k, none⟩ hx c.l _ (fun j v hv => by
    have hj : j < 8 := by have := (List.getElem?_eq_some_iff.1 hv).1; rw [Cp.l_len] at this; exact this
    rw [Go.WideShapes.add_plain, hg.cell, List.getElem?_toArray, hk, cat_get l i j c hi hj, hv]) Try.underlying38 rfl infoCapS h
theorem wpList_store_cap (hgd : Region.wanted o (yielded ops a.tmps) = true) (x y : Operand) (ho : o.op = .store 38 x y) (g k : Nat) (c : Cp) (hx : a.eval x = .pointer (some ⟨g, k, none⟩)) (hy : a.eval y = .agg c.cells)
    (t : TypeId) (l : List Cp) (hg : At w g t (cat l).toArray) (i : Nat) (hk : k = i * 8) (hi : i < l.length)
    (h : ∀ w', At w' g t (cat (l.set i c)).toArray → Fr [g] w w' → wpList Try.prog ops Q rest (a.put o.dst undef) w') : wpList Try.prog ops Q (o :: rest) a w :=
  wpList_store_at hgd 38 x y ho g k c.l hx hy t (cat l) hg infoCapS (by rw [cat_len, Cp.l_len]; omega) (cp_one c) (fun w' h1 h2 => h w' (by rw [← cat_put l i c hi, ← hk]; exact h1) h2)
theorem wp_store_cap {K : Act → World → Prop} (x y : Operand) (ho : o.op = .store 38 x y) (g k : Nat) (c : Cp) (hx : a.eval x = .pointer (some ⟨g, k, none⟩)) (hy : a.eval y = .agg c.cells)
    (t : TypeId) (l : List Cp) (hg : At w g t (cat l).toArray) (i : Nat) (hk : k = i * 8) (hi : i < l.length)
    (h : ∀ w', At w' g t (cat (l.set i c)).toArray → Fr [g] w w' → K (a.put o.dst undef) w') : o.wp Try.prog a w K Q :=
  wp_store_at 38 x y ho g k c.l hx hy t (cat l) hg infoCapS (by rw [cat_len, Cp.l_len]; omega) (cp_one c) (fun w' h1 h2 => h w' (by rw [← cat_put l i c hi, ← hk]; exact h1) h2)
end
/-- A frame's cells: its registers, then the program's capability. -/
def zf : List Cp := List.replicate 17 noC
theorem zeroFrame (w : World) : (zeroValue 78).run Try.prog w = .ok (.agg (cat zf).toArray) w := by kernel_rfl
theorem infoFrame : (Try.prog.info? 78).map (·.size) = some 136 := by kernel_rfl
theorem cat_size {l : List Cp} {n : Nat} (h : l.length = n) : (cat l).toArray.size = n * 8 := by simp [cat_len, h]
theorem cat_all (l : List Cp) : (cat l).toArray.all (·.oneCell') = true := by
  rw [Array.all_eq_true_iff_forall_mem]
  intro v hv
  exact cat_one' l v (by simpa using hv)
/-! ### capabilities held against each other -/
def eqC (a b : Cp) : Bool := ((a.cur : Int) == b.cur) && (((a.e : Int) == b.e) && (((a.b : Int) == b.b) && (((a.t : Int) == b.t) && (((a.pm : Int) == b.pm) && (((a.ty : Int) == b.ty) && (((a.rs : Int) == b.rs) && (a.v == b.v)))))))
theorem eqC_self (a : Cp) : eqC a a = true := by simp [eqC]
theorem eqC_iff (a b : Cp) : eqC a b = true ↔ a = b := by
  constructor
  · intro h
    simp only [eqC, Bool.and_eq_true, beq_iff_eq, Int.natCast_inj] at h
    obtain ⟨h1, h2, h3, h4, h5, h6, h7, h8⟩ := h
    cases a; cases b
    dsimp only at *
    subst h1 h2 h3 h4 h5 h6 h7 h8
    rfl
  · rintro rfl
    exact eqC_self a
set_option maxHeartbeats 1000000 in
set_option maxRecDepth 100000 in
theorem cap_eq (a b : Cp) (w : World) : (Op.equalIn 10000 38 (.agg a.cells) (.agg b.cells)).run Try.prog w = .ok (eqC a b) w := by
  have u1 := Try.underlying35
  have u2 := Try.underlying5
  have u3 := Try.underlying36
  have u4 := Try.underlying4
  have a1 := Try.isAgg35
  have a2 := Try.isAgg5
  have a3 := Try.isAgg36
  have a4 := Try.isAgg4
  have z1 := Try.sizeOf35
  have z2 := Try.sizeOf5
  have z3 := Try.sizeOf36
  have z4 := Try.sizeOf4
  have hS : Try.prog.underlying 38 = some (.struct (Try.prog.fieldsOf 38)) := by kernel_rfl
  rw [show (10000 : Nat) = 9999 + 1 from rfl, run_equalIn_struct w 9999 38 _ _ hS (by kernel_rfl)]
  simp only [Program.fieldsOf, Try.underlying38]
  unfold Cp.cells eqC
  go_simp
  by_cases h0 : (a.cur : Int) = b.cur
  rotate_left
  · simp [h0]
  rw [if_pos h0]
  by_cases h1 : (a.e : Int) = b.e
  rotate_left
  · simp [h1]
  rw [if_pos h1]
  by_cases h2 : (a.b : Int) = b.b
  rotate_left
  · simp [h2]
  rw [if_pos h2]
  by_cases h3 : (a.t : Int) = b.t
  rotate_left
  · simp [h3]
  rw [if_pos h3]
  by_cases h4 : (a.pm : Int) = b.pm
  rotate_left
  · simp [h4]
  rw [if_pos h4]
  by_cases h5 : (a.ty : Int) = b.ty
  rotate_left
  · simp [h5]
  rw [if_pos h5]
  by_cases h6 : (a.rs : Int) = b.rs
  rotate_left
  · simp [h6]
  rw [if_pos h6]
  by_cases h7 : a.v = b.v
  rotate_left
  · simp [h7]
  rw [if_pos h7]
  simp [h0, h1, h2, h3, h4, h5, h6, h7]
end Go.Proofs.Ytilgklpponaoeaa
