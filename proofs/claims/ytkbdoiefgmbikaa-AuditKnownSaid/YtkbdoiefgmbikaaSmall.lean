/-
  The small functions of the statements of layer 32: the heap, events, the first history, lists held against lists. No condition.
-/



import Derived.Test.YtkbdoiefgmbikaaOutAll
import Derived.Test.YtkbdoiefgmbikaaHist
import Derived.Deep.CutBlock
import Derived.Deep.DeepCutAuto
import Derived.BigRegion
set_option linter.unusedVariables false
namespace Go.Proofs.Ytkbdoiefgmbikaa
open Go.ChangeShapes Go.WideShapes Go.ChangeAt Go.RowKit
theorem res_rowS {P : Program} {fn : Func} {p : Tmp} {ty : TypeId} (h : fn.results = #[.cell p ty]) (tmps : Array Value) (w : World) (g : Nat) (t : TypeId) (cs : Array Value) (d : TypeDesc)
    (hp : tmps.getD p undef = .pointer (some ⟨g, 0, none⟩)) (hg : At w g t cs)
    (hu : P.underlying ty = some d) (hd : (match d with | .struct _ | .array _ _ => true | _ => false) = true) (hi : (P.info? ty).map (·.size) = some cs.size) :
    (results fn tmps).run P w = .ok (.agg cs) w := results_cell_row h tmps w g t cs (0, 0) d hp hg hu hd hi
def numK (v : Nat) : Cp := ⟨v, 0, 0, 0, 0, 0, 0, false⟩
theorem numk_any (w : World) (v : Nat) : Calls Try.prog 19 #[.int .u32 v] w fun r w' => r = .returned (.agg (numK v).cells) ∧ Fr [] w w' := by
  have A := At.new w 51 (numK v).cells
  have F : Fr [] w (w.alloc (.cells (numK v).cells 51)) := (by repeat (first | exact Fr.refl _ _ | assumption | refine Fr.trans0 ?_ (by assumption) | refine Fr.drewN ?_ _ | refine Fr.alloc ?_ _ | refine Fr.drew ?_))
  unfold numK Cp.cells at *
  dsimp only [Int.cast_ofNat_Int] at *
  go_enter Try.func19, Try.ntmps19
  go_wp2_with fail
  exact bodyPost_ret (res_rowS rfl _ _ w.heap.size 51 _ _ rfl A Try.underlying51 rfl (by kernel_rfl)) rfl ⟨rfl, F⟩
theorem heap_any (w : World) : Calls Try.prog 24 #[] w fun r w' => r = .returned (.agg #[.int .u32 1024, .int .u32 1024]) ∧ Fr [] w w' := by
  have A := At.new w 27 #[.int .u32 1024, .int .u32 1024]
  go_enter Try.func24, Try.ntmps24
  go_wp2_with fail
  exact bodyPost_ret (res_rowS rfl _ _ w.heap.size 27 _ _ rfl A Try.underlying27 rfl (by kernel_rfl)) rfl ⟨rfl, (by repeat (first | exact Fr.refl _ _ | assumption | refine Fr.trans0 ?_ (by assumption) | refine Fr.drewN ?_ _ | refine Fr.alloc ?_ _ | refine Fr.drew ?_))⟩
theorem event_any (w : World) (k : Int) (n a s : Nat) : Calls Try.prog 26 #[.int .i64 k, .int .u64 n, .int .u32 a, .int .u32 s] w fun r w' => r = .returned (.agg #[.int .i64 k, .int .i64 0, .int .u32 0, .int .u64 n, .int .u32 a, .int .u32 s]) ∧ Fr [] w w' := by
  have A := At.new w 41 #[.int .i64 k, .int .i64 0, .int .u32 0, .int .u64 n, .int .u32 a, .int .u32 s]
  go_enter Try.func26, Try.ntmps26
  go_wp2_with fail
  exact bodyPost_ret (res_rowS rfl _ _ w.heap.size 41 _ _ rfl A Try.underlying41 rfl (by kernel_rfl)) rfl ⟨rfl, (by repeat (first | exact Fr.refl _ _ | assumption | refine Fr.trans0 ?_ (by assumption) | refine Fr.drewN ?_ _ | refine Fr.alloc ?_ _ | refine Fr.drew ?_))⟩
theorem sweep_any (w : World) (k : Int) (n : Nat) : Calls Try.prog 25 #[.int .i64 k, .int .u64 n] w fun r w' => r = .returned (.agg #[.int .i64 k, .int .i64 0, .int .u32 0, .int .u64 n, .int .u32 0, .int .u32 0]) ∧ Fr [] w w' := by
  have A := At.new w 41 #[.int .i64 k, .int .i64 0, .int .u32 0, .int .u64 n, .int .u32 0, .int .u32 0]
  go_enter Try.func25, Try.ntmps25
  go_wp2_with fail
  exact bodyPost_ret (res_rowS rfl _ _ w.heap.size 41 _ _ rfl A Try.underlying41 rfl (by kernel_rfl)) rfl ⟨rfl, (by repeat (first | exact Fr.refl _ _ | assumption | refine Fr.trans0 ?_ (by assumption) | refine Fr.drewN ?_ _ | refine Fr.alloc ?_ _ | refine Fr.drew ?_))⟩
def evG : Ev := ⟨2, 0, 0, 1, 1024, 64⟩
def evF : Ev := ⟨3, 0, 0, 1, 1024, 64⟩
def evB : Ev := ⟨6, 0, 0, 1, 0, 0⟩
def evR : Ev := ⟨4, 0, 0, 1, 1024, 64⟩
def evE : Ev := ⟨7, 0, 0, 1, 0, 0⟩
def goodL : List Ev := [evG, evF, evB, evR, evE]
def evc (l : List Ev) : List Value := l.flatMap evl
theorem evc_get : ∀ (l : List Ev) (k : Nat) (c : Ev) (j : Nat), l[k]? = some c → j < 6 → (evc l)[k * 6 + j]? = (evl c)[j]?
  | [], k, c, j, h, _ => by cases h
  | a :: l, 0, c, j, h, hj => by
    simp at h; subst h
    show (evl a ++ evc l)[0 * 6 + j]? = _
    rw [Nat.zero_mul, Nat.zero_add, List.getElem?_append_left (by show j < 6; exact hj)]
  | a :: l, k + 1, c, j, h, hj => by
    have := evc_get l k c j (by simpa using h) hj
    show (evl a ++ evc l)[(k + 1) * 6 + j]? = _
    rw [List.getElem?_append_right (by show 6 ≤ _; omega), show (k + 1) * 6 + j - (evl a).length = k * 6 + j by show (k + 1) * 6 + j - 6 = _; omega]
    exact this
theorem evc_in {w : World} {g : Nat} {t : TypeId} {l : List Ev} (h : At w g t (evc l).toArray) : EvIn w (some ⟨g, 0, none⟩) l :=
  .inr ⟨g, 0, rfl, h.lt, fun k e hk j v hv => by
    have hj : j < 6 := (List.getElem?_eq_some_iff.1 hv).1
    rw [Go.WideShapes.add_plain, h.cell, Nat.zero_add, List.getElem?_toArray, evc_get l k e j hk hj, hv]⟩
set_option maxHeartbeats 2000000 in
set_option maxRecDepth 100000 in
theorem good_any (w : World) : Calls Try.prog 23 #[] w fun r w' => ∃ g, r = .returned (.slice (some ⟨g, 0, none⟩) 5 5) ∧ At w' g 41 (evc goodL).toArray ∧ w.heap.size ≤ g ∧ Fr [] w w' := by
  have C1 := Lib.hid fun W => event_any W 2 1 1024 64
  have C2 := Lib.hid fun W => event_any W 3 1 1024 64
  have C3 := Lib.hid fun W => sweep_any W 6 1
  have C4 := Lib.hid fun W => event_any W 4 1 1024 64
  have C5 := Lib.hid fun W => sweep_any W 7 1
  go_enter Try.func23, Try.ntmps23
  go_wp2_with fail
  refine (C1.out _).mono ?_
  rintro e w1 ⟨rfl, f1⟩
  go_wp2_with fail
  refine (C2.out _).mono ?_
  rintro e w2 ⟨rfl, f2⟩
  go_wp2_with fail
  refine (C3.out _).mono ?_
  rintro e w3 ⟨rfl, f3⟩
  go_wp2_with fail
  refine (C4.out _).mono ?_
  rintro e w4 ⟨rfl, f4⟩
  go_wp2_with fail
  refine (C5.out _).mono ?_
  rintro e w5 ⟨rfl, f5⟩
  have F5 := Lib.hid ((((f1.trans0 f2).trans0 f3).trans0 f4).trans0 f5)
  clear f1 f2 f3 f4 f5
  go_wp2_with fail
  go_ret
  exact ⟨_, rfl, At.new w5 41 (evc goodL).toArray, F5.out.size, F5.out.alloc _⟩
/-! ### lists held against lists -/
theorem own_ints {w : World} {B : Nat} {v : Value} {l : List Nat} (h : w.ownsRow B 3 1 v l.length (nts l)) : ∃ a c, v = .slice a l.length c ∧ (∀ g, v.ownBlock = some g → B ≤ g) ∧ RowsAt w a 1 (l.map fun (n : Nat) => [Value.int .i64 (n : Int)]) := by
  rcases h.2 with ⟨rfl, h0⟩ | ⟨g, cap, cur, rfl, hbg, h1, h2, h3, h4, h5⟩
  · have : l = [] := List.eq_nil_of_length_eq_zero h0
    subst this
    exact ⟨none, 0, rfl, fun g hg => by simp [Value.ownBlock] at hg, .inl rfl⟩
  · have ha : At w g 3 cur := h1
    refine ⟨_, _, rfl, fun g' hg => (h.lt g' hg).1, .inr ⟨g, 0, rfl, ha.lt, fun k c hk j v hv => ?_⟩⟩
    rw [List.getElem?_map, Option.map_eq_some_iff] at hk
    obtain ⟨c, hk, rfl⟩ := hk
    have hkl := (List.getElem?_eq_some_iff.1 hk).1
    obtain rfl : j = 0 := by have := (List.getElem?_eq_some_iff.1 hv).1; simp at this; exact this
    rw [Go.WideShapes.add_plain, ha.cell, Nat.zero_add, ← Array.getElem?_toList]
    have : (cur.toList.take (l.length * 1))[k * 1]? = (nts l)[k * 1]? := by rw [← h5]
    rw [List.getElem?_take, if_pos (by omega)] at this
    simp only [Nat.mul_one, Nat.add_zero] at this ⊢
    rw [this]
    unfold nts
    rw [List.getElem?_map, hk]
    simpa using hv
theorem own_faults {w : World} {B : Nat} {v : Value} {l : List (Nat × Nat)} (h : w.ownsRow B 46 2 v l.length (flt l)) : ∃ a c, v = .slice a l.length c ∧ RowsAt w a 2 (l.map fun p => [.int .i64 (p.1 : Int), .int .i64 (p.2 : Int)]) := by
  rcases h.2 with ⟨rfl, h0⟩ | ⟨g, cap, cur, rfl, hbg, h1, h2, h3, h4, h5⟩
  · have : l = [] := List.eq_nil_of_length_eq_zero h0
    subst this
    exact ⟨none, 0, rfl, .inl rfl⟩
  · have ha : At w g 46 cur := h1
    refine ⟨_, _, rfl, .inr ⟨g, 0, rfl, ha.lt, fun k c hk j v hv => ?_⟩⟩
    rw [List.getElem?_map, Option.map_eq_some_iff] at hk
    obtain ⟨c, hk, rfl⟩ := hk
    have hkl := (List.getElem?_eq_some_iff.1 hk).1
    have hj : j < 2 := (List.getElem?_eq_some_iff.1 hv).1
    rw [Go.WideShapes.add_plain, ha.cell, Nat.zero_add, ← Array.getElem?_toList]
    have : (cur.toList.take (l.length * 2))[k * 2 + j]? = (flt l)[k * 2 + j]? := by rw [← h5]
    rw [List.getElem?_take, if_pos (by omega)] at this
    rw [this]
    obtain ⟨e1, e2⟩ := flt_get l k c hk
    match j, hj, hv with
    | 0, _, hv => rw [Nat.add_zero, e1]; exact hv
    | 1, _, hv => rw [e2]; exact hv
end Go.Proofs.Ytkbdoiefgmbikaa
