/-
  Frames held against each other. Condition: both have seventeen capabilities.
-/


import Derived.Test.YtilgklpponaoeaaFrame
import Derived.ChangeKeysEq
set_option linter.unusedVariables false
namespace Go.Proofs.Ytilgklpponaoeaa
open Go.ChangeShapes Go.WideShapes Go.ChangeAt Go.RowKit
theorem cap_eq_at (d : Nat) (a b : Cp) (w : World) : (Op.equalIn (d + 2) 38 (.agg a.cells) (.agg b.cells)).run Try.prog w = .ok (eqC a b) w := by
  have u1 := Try.underlying35
  have u2 := Try.underlying5
  have u3 := Try.underlying36
  have u4 := Try.underlying4
  have a1 := Try.isAgg35
  have a2 := Try.isAgg5
  have a3 := Try.isAgg36
  have a4 := Try.isAgg4
  have z1 := Try.sizeOf35
  have z2 := Try.sizeOf5
  have z3 := Try.sizeOf36
  have z4 := Try.sizeOf4
  have hS : Try.prog.underlying 38 = some (.struct (Try.prog.fieldsOf 38)) := by kernel_rfl
  rw [run_equalIn_struct w (d + 1) 38 _ _ hS (by kernel_rfl)]
  simp only [Program.fieldsOf, Try.underlying38]
  unfold Cp.cells eqC
  go_simp
  by_cases h0 : (a.cur : Int) = b.cur
  rotate_left
  · simp [h0]
  rw [if_pos h0]
  by_cases h1 : (a.e : Int) = b.e
  rotate_left
  · simp [h1]
  rw [if_pos h1]
  by_cases h2 : (a.b : Int) = b.b
  rotate_left
  · simp [h2]
  rw [if_pos h2]
  by_cases h3 : (a.t : Int) = b.t
  rotate_left
  · simp [h3]
  rw [if_pos h3]
  by_cases h4 : (a.pm : Int) = b.pm
  rotate_left
  · simp [h4]
  rw [if_pos h4]
  by_cases h5 : (a.ty : Int) = b.ty
  rotate_left
  · simp [h5]
  rw [if_pos h5]
  by_cases h6 : (a.rs : Int) = b.rs
  rotate_left
  · simp [h6]
  rw [if_pos h6]
  by_cases h7 : a.v = b.v
  rotate_left
  · simp [h7]
  rw [if_pos h7]
  simp [h0, h1, h2, h3, h4, h5, h6, h7]
theorem run_part_cap (l : List Cp) (i : Nat) (c : Cp) (hi : l[i]? = some c) (off : Nat) (ho : off = i * 8) (w : World) : (part 38 (cat l).toArray off).run Try.prog w = .ok (.agg c.cells) w := by
  subst ho
  have h1 := Try.isAgg38
  have h2 := Try.sizeOf38
  have e : (List.take 8 (List.drop (i * 8) (cat l))).toArray = c.cells := by
    rw [Cp.cells_l]
    congr 1
    apply List.ext_getElem?
    intro j
    rw [List.getElem?_take, List.getElem?_drop]
    by_cases hj : j < 8
    · rw [if_pos hj]
      exact cat_get l i j c hi hj
    · rw [if_neg hj]
      symm
      apply List.getElem?_eq_none
      rw [Cp.l_len]; omega
  simp [part, h1, h2, e]
theorem run_part_regs (l : List Cp) (h : l.length = 17) (w : World) : (part 76 (cat l).toArray 0).run Try.prog w = .ok (.agg (cat (l.take 16)).toArray) w := by
  have h1 := Try.isAgg76
  have h2 := Try.sizeOf76
  have e : List.take 128 (cat l) = cat (l.take 16) := by
    rw [show (128 : Nat) = 16 * 8 from rfl]
    have : l = l.take 16 ++ l.drop 16 := (List.take_append_drop 16 l).symm
    conv => lhs; rw [this, cat_append]
    rw [List.take_append_of_le_length (by rw [cat_len, List.length_take]; omega), List.take_of_length_le (by rw [cat_len, List.length_take]; omega)]
  simp [part, h1, h2, e]
theorem run_eqItems (d : Nat) (x y : List Cp) (hxy : x.length = y.length) (w : World) : ∀ is : List Nat, (∀ i ∈ is, i < x.length) → (Op.eqItems (d + 2) 38 8 (cat x).toArray (cat y).toArray is).run Try.prog w = .ok (is.all fun i => eqC (x.getD i noC) (y.getD i noC)) w
  | [], _ => by simp [Op.eqItems]
  | i :: is, h => by
    have hi := h i (by simp)
    have hx : x[i]? = some (x.getD i noC) := by rw [List.getD_eq_getElem?_getD]; simp [hi]
    have hy : y[i]? = some (y.getD i noC) := by rw [List.getD_eq_getElem?_getD]; simp [hxy ▸ hi]
    have ih := run_eqItems d x y hxy w is (fun j hj => h j (by simp [hj]))
    have p1 := run_part_cap x i _ hx (i * 8) rfl w
    have p2 := run_part_cap y i _ hy (i * 8) rfl w
    have p3 := cap_eq_at d (x.getD i noC) (y.getD i noC) w
    simp only [Op.eqItems, Sem.run_bind, p1, p2, p3, Result.andThen_ok, List.all_cons]
    cases eqC (x.getD i noC) (y.getD i noC)
    · simp
    · simp [ih]
def eqF (x y : List Cp) : Bool := ((List.range 16).all fun i => eqC (x.getD i noC) (y.getD i noC)) && eqC (x.getD 16 noC) (y.getD 16 noC)
theorem regs_eq_at (d : Nat) (x y : List Cp) (hx : x.length = 17) (hy : y.length = 17) (w : World) : (Op.equalIn (d + 3) 76 (.agg (cat (x.take 16)).toArray) (.agg (cat (y.take 16)).toArray)).run Try.prog w = .ok ((List.range 16).all fun i => eqC (x.getD i noC) (y.getD i noC)) w := by
  have l1 : (x.take 16).length = 16 := by rw [List.length_take, hx]; rfl
  have l2 : (y.take 16).length = 16 := by rw [List.length_take, hy]; rfl
  have hcap : Try.prog.cellsOf 38 = 8 := by kernel_rfl
  obtain ⟨ci, hci, _⟩ := Option.map_eq_some_iff.1 infoCapS
  have hb : ((List.range 16).all fun i => eqC ((x.take 16).getD i noC) ((y.take 16).getD i noC)) = (List.range 16).all fun i => eqC (x.getD i noC) (y.getD i noC) := by
    obtain ⟨n, hn⟩ : ∃ n, n = 16 := ⟨_, rfl⟩
    rw [← hn]
    rw [Bool.eq_iff_iff, List.all_eq_true, List.all_eq_true]
    have key : ∀ i, i < n → (x.take n).getD i noC = x.getD i noC ∧ (y.take n).getD i noC = y.getD i noC := fun i hi => by
      constructor
      · rw [List.getD_eq_getElem?_getD, List.getElem?_take, if_pos hi, List.getD_eq_getElem?_getD]
      · rw [List.getD_eq_getElem?_getD, List.getElem?_take, if_pos hi, List.getD_eq_getElem?_getD]
    constructor
    · intro h i hi
      have := h i hi
      rw [(key i (by simpa using hi)).1, (key i (by simpa using hi)).2] at this
      exact this
    · intro h i hi
      rw [(key i (by simpa using hi)).1, (key i (by simpa using hi)).2]
      exact h i hi
  have h2 := run_eqItems d (x.take 16) (y.take 16) (by rw [l1, l2]) w (List.range 16) (fun i hi => by rw [l1]; exact List.mem_range.1 hi)
  have h1 := run_equalIn_array (w := w) (d + 2) (cat (x.take 16)).toArray (cat (y.take 16)).toArray Try.underlying76 hci
  rw [hcap, h2, hb] at h1
  exact h1
theorem eqFields_step {P : Program} {d : Nat} {xs ys : Array Value} {f : Field} {fs : List Field} {a b : Value} {r : Bool} {w : World} (hn : f.name ≠ "_") (ha : (part f.type xs f.offset).run P w = .ok a w) (hb : (part f.type ys f.offset).run P w = .ok b w)
    (hr : (Op.equalIn d f.type a b).run P w = .ok r w) : (Op.eqFields d xs ys (f :: fs)).run P w = if r = true then (Op.eqFields d xs ys fs).run P w else .ok false w := by
  simp only [Op.eqFields, if_pos hn, Sem.run_bind, ha, hb, hr, Result.andThen_ok]
  cases r <;> simp
theorem frame_eq_at (d : Nat) (x y : List Cp) (hx : x.length = 17) (hy : y.length = 17) (w : World) : (Op.equalIn (d + 4) 78 (.agg (cat x).toArray) (.agg (cat y).toArray)).run Try.prog w = .ok (eqF x y) w := by
  have hS : Try.prog.underlying 78 = some (.struct (Try.prog.fieldsOf 78)) := by kernel_rfl
  have h0 := run_equalIn_struct w (d + 3) 78 (cat x).toArray (cat y).toArray hS (by kernel_rfl)
  simp only [Program.fieldsOf, Try.underlying78] at h0
  refine h0.trans ?_
  have p1 := run_part_regs x hx w
  have p2 := run_part_regs y hy w
  have c1 := run_part_cap x 16 (x.getD 16 noC) (by rw [List.getD_eq_getElem?_getD]; simp [hx]) 128 rfl w
  have c2 := run_part_cap y 16 (y.getD 16 noC) (by rw [List.getD_eq_getElem?_getD]; simp [hy]) 128 rfl w
  have p3 := regs_eq_at d x y hx hy w
  have p4 : (Op.equalIn (d + 3) 38 (.agg (x.getD 16 noC).cells) (.agg (y.getD 16 noC).cells)).run Try.prog w = .ok (eqC (x.getD 16 noC) (y.getD 16 noC)) w := cap_eq_at (d + 1) (x.getD 16 noC) (y.getD 16 noC) w
  unfold eqF
  obtain ⟨A, hA⟩ : ∃ A, ((List.range 16).all fun i => eqC (x.getD i noC) (y.getD i noC)) = A := ⟨_, rfl⟩
  obtain ⟨B, hB⟩ : ∃ B, eqC (x.getD 16 noC) (y.getD 16 noC) = B := ⟨_, rfl⟩
  rw [hA] at p3
  rw [hB] at p4
  rw [hA, hB]
  clear hA hB h0 hS
  refine (eqFields_step (f := { name := "Regs", type := 76, offset := 0, embedded := false, tag := "", pkgPath := "", byteOffset := 0 }) (by simp) p1 p2 p3).trans ?_
  generalize (cat x).toArray = X at *
  generalize (cat y).toArray = Y at *
  cases A
  · rw [if_neg (by simp), Bool.false_and]
  · rw [if_pos rfl, Bool.true_and]
    refine (eqFields_step (f := { name := "Pc", type := 38, offset := 128, embedded := false, tag := "", pkgPath := "", byteOffset := 384 }) (by simp) c1 c2 p4).trans ?_
    cases B
    · rw [if_neg (by simp)]
    · rw [if_pos rfl]; rfl
theorem frame_eq (x y : List Cp) (hx : x.length = 17) (hy : y.length = 17) (w : World) : (Op.equalIn 10000 78 (.agg (cat x).toArray) (.agg (cat y).toArray)).run Try.prog w = .ok (eqF x y) w := frame_eq_at 9996 x y hx hy w
theorem eqF_self (x : List Cp) : eqF x x = true := by
  unfold eqF
  rw [eqC_self, Bool.and_true, List.all_eq_true]
  exact fun i _ => eqC_self _
theorem eqF_iff (x y : List Cp) (hx : x.length = 17) (hy : y.length = 17) : eqF x y = true ↔ x = y := by
  constructor
  · intro h
    unfold eqF at h
    rw [Bool.and_eq_true, List.all_eq_true] at h
    apply List.ext_getElem?
    intro i
    rcases Nat.lt_trichotomy i 16 with hi | rfl | hi
    · have := (eqC_iff _ _).1 (h.1 i (by simpa using hi))
      rw [List.getD_eq_getElem?_getD, List.getD_eq_getElem?_getD] at this
      rw [List.getElem?_eq_getElem (by omega), List.getElem?_eq_getElem (by omega)] at this ⊢
      simpa using this
    · have := (eqC_iff _ _).1 h.2
      rw [List.getD_eq_getElem?_getD, List.getD_eq_getElem?_getD] at this
      rw [List.getElem?_eq_getElem (by omega), List.getElem?_eq_getElem (by omega)] at this ⊢
      simpa using this
    · rw [List.getElem?_eq_none (by omega), List.getElem?_eq_none (by omega)]
  · rintro rfl
    exact eqF_self x
end Go.Proofs.Ytilgklpponaoeaa
