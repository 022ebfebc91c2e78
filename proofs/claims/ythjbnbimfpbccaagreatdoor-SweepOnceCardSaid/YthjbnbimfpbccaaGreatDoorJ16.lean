/-
  Arrays of cells by a function of the place. No condition.
-/
import Derived.Test.YthjbnbimfpbccaaGreatDoorJ15

set_option linter.unusedVariables false
namespace Go.Proofs.YthjbnbimfpbccaaGreatDoor
open Go.ChangeShapes Go.WideShapes Go.ChangeAt Go.RowKit
/-- The array of m cells whose i-th is f i. -/
def arr (m : Nat) (f : Nat → Value) : Array Value := ((List.range m).map f).toArray
theorem arr_size (m : Nat) (f : Nat → Value) : (arr m f).size = m := by simp [arr]
theorem arr_get (m : Nat) (f : Nat → Value) (i : Nat) (h : i < m) : (arr m f)[i]? = some (f i) := by
  unfold arr; rw [List.getElem?_toArray, List.getElem?_map, List.getElem?_range h]; rfl
theorem arr_ext (m : Nat) (cs : Array Value) (g : Nat → Value) (hs : cs.size = m) (h : ∀ i, i < m → cs[i]? = some (g i)) : cs = arr m g :=
  Array.ext_getElem? fun i => by
    by_cases hi : i < m
    · rw [h i hi, arr_get m g i hi]
    · rw [Array.getElem?_eq_none (by omega), Array.getElem?_eq_none (by rw [arr_size]; omega)]
theorem arr_congr (m : Nat) (f g : Nat → Value) (h : ∀ i, i < m → f i = g i) : arr m f = arr m g :=
  arr_ext m _ g (arr_size m f) fun i hi => by rw [arr_get m f i hi, h i hi]
theorem arr_set (m : Nat) (f : Nat → Value) (i : Nat) (v : Value) : (arr m f).setIfInBounds i v = arr m fun j => if j = i then v else f j :=
  arr_ext m _ _ (by rw [Array.size_setIfInBounds, arr_size]) fun j hj => by
    rw [Array.getElem?_setIfInBounds, arr_size, arr_get m f j hj]
    by_cases e : i = j
    · subst e; simp [hj]
    · rw [if_neg e, if_neg (fun h => e h.symm)]
end Go.Proofs.YthjbnbimfpbccaaGreatDoor
/-
  A sweeper without stale regions, by its state, its sweeps, its pages. Condition: as for a sweeper.
-/









set_option linter.unusedVariables false
namespace Go.Proofs.YthjbnbimfpbccaaGreatDoor
open Go.ChangeShapes Go.WideShapes Go.ChangeAt Go.RowKit
def Oc (w0 w : World) (i : Ids) (n st vis : Nat) (F : Nat → Bool) : Prop := ∃ un bs f hs, bs.length = 4096 ∧ On w0 w i ⟨st, vis, F, ⟨256, n, un, [], []⟩, bs, f, hs⟩
section
variable {w0 w w' : World} {i : Ids} {n st vis : Nat} {F : Nat → Bool}
theorem On.un {x : Sm} (h : On w0 w i x) : x.m.un = decide (x.st ≠ 0) := by
  obtain ⟨s, pv, h⟩ := h
  exact h.un
theorem Oc.f (h : Oc w0 w i n st vis F) : Fr [] w0 w := by
  obtain ⟨un, bs, f, hs, _, h⟩ := h
  exact h.f
theorem Oc.fr0 (h : Oc w0 w i n st vis F) (f : Fr [] w w') : Oc w0 w' i n st vis F := by
  obtain ⟨un, bs, g, hs, hb, h⟩ := h
  exact ⟨un, bs, g, hs, hb, h.fr0 f⟩
theorem Oc.far (h : Oc w0 w i n st vis F) {q : Nat} {t : TypeId} {cs : Array Value} (hq : At w q t cs) (ht : frn t = true) (q0 : w0.heap.size ≤ q) (f : Fr [q] w w') : Oc w0 w' i n st vis F := by
  obtain ⟨un, bs, g, hs, hb, h⟩ := h
  exact ⟨un, bs, g, hs, hb, h.far hq ht q0 f⟩
variable (h : Oc w0 w i n st vis F)
include h
theorem oc_left : Calls Tryz.prog 9 #[.pointer (some ⟨i.sp, 0, none⟩)] w fun r w' => r = .returned (.int .i64 ((cnt F 16 : Nat) : Int)) ∧ w = w' := by
  obtain ⟨un, bs, f, hs, hb, h⟩ := h
  have h2 := on_left h
  exact h2
theorem oc_vis : Calls Tryz.prog 15 #[.pointer (some ⟨i.sp, 0, none⟩)] w fun r w' => r = .returned (.int .u64 (vis : Nat)) ∧ w = w' := by
  obtain ⟨un, bs, f, hs, hb, h⟩ := h
  have h2 := on_vis h
  exact h2
theorem oc_go_yes (h1 : st = 1) : Calls Tryz.prog 10 #[.pointer (some ⟨i.sp, 0, none⟩)] w fun r w' => r = .returned (.bool true) ∧ Oc w0 w' i n 2 vis F ∧ Kp w w' := by
  obtain ⟨un, bs, f, hs, hb, h⟩ := h
  subst h1
  exact (on_go_yes h rfl).mono fun e w' ⟨h1, h2, h3⟩ => ⟨h1, ⟨un, bs, f, hs, hb, h2⟩, h3⟩
theorem oc_go_no (h1 : st ≠ 1) : Calls Tryz.prog 10 #[.pointer (some ⟨i.sp, 0, none⟩)] w fun r w' => r = .returned (.bool false) ∧ w = w' := by
  obtain ⟨un, bs, f, hs, hb, h⟩ := h
  exact on_go_no h h1
theorem oc_old (h2 : st = 2) (P : Nat) (hP : P < 16) : Calls Tryz.prog 11 #[.pointer (some ⟨i.sp, 0, none⟩), .int .i64 P] w fun r w' => r = .returned (.bool (F P)) ∧ w = w' := by
  obtain ⟨un, bs, f, hs, hb, h⟩ := h
  subst h2
  have := on_old h (by show 2 ≤ 2; omega) P
  rw [show (decide ((2 : Nat) ≠ 0) && (inR (P : Int) 16 && F (P : Int).toNat)) = F P by rw [inR_nat _ _ hP]; simp] at this
  exact this
theorem oc_old_0 (h2 : st = 0) (P : Int) : Calls Tryz.prog 11 #[.pointer (some ⟨i.sp, 0, none⟩), .int .i64 P] w fun r w' => r = .returned (.bool false) ∧ w = w' := by
  obtain ⟨un, bs, f, hs, hb, h⟩ := h
  subst h2
  exact on_old h (by show 0 ≤ 2; omega) P
theorem oc_visit_no (h1 : st = 2) (P : Nat) (hP : P < 16) (hF : F P = false) : Calls Tryz.prog 12 #[.pointer (some ⟨i.sp, 0, none⟩), .int .i64 P] w fun r w' => r = .returned (.bool false) ∧ Fr [] w w' := by
  obtain ⟨un, bs, f, hs, hb, h⟩ := h
  exact on_visit_no h P h1 (by rw [Int.toNat_natCast]; show (_ && F P) = false; rw [hF, Bool.and_false])
theorem oc_visit_yes (h1 : st = 2) (P : Nat) (hP : P < 16) (hF : F P = true) (hv : vis < 1000000) : Calls Tryz.prog 12 #[.pointer (some ⟨i.sp, 0, none⟩), .int .i64 P] w fun r w' => r = .returned (.bool true) ∧ Oc w0 w' i n 2 (vis + 1) (upd F P false) ∧ Kp w w' := by
  obtain ⟨un, bs, f, hs, hb, h⟩ := h
  subst h1
  exact (on_visit_yes h P hP hF rfl hv).mono fun e w' ⟨h1, h2, h3⟩ => ⟨h1, ⟨un, bs, _, hs, hb, h2⟩, h3⟩
theorem oc_page_no (h1 : st = 2) (hn : nxtB F 16 = false) : Calls Tryz.prog 14 #[.pointer (some ⟨i.sp, 0, none⟩)] w fun r w' => r = .returned (.tuple #[.int .i64 0, .bool false]) ∧ Fr [] w w' := by
  obtain ⟨un, bs, f, hs, hb, h⟩ := h
  exact on_page_no h h1 hn
theorem oc_page_yes (h1 : st = 2) (P : Nat) (hP : P < 16) (hF : F P = true) (hB : nxtB F 16 = true) (hN : nxtP F 16 = P) (hv : vis < 1000000) : Calls Tryz.prog 14 #[.pointer (some ⟨i.sp, 0, none⟩)] w fun r w' => r = .returned (.tuple #[.int .i64 P, .bool true]) ∧ Oc w0 w' i n 2 (vis + 1) (upd F P false) ∧ Kp w w' := by
  obtain ⟨un, bs, f, hs, hb, h⟩ := h
  subst h1
  exact (on_page_yes h P hP hF hB hN rfl hv).mono fun e w' ⟨h1, h2, h3⟩ => ⟨h1, ⟨un, bs, _, hs, hb, h2⟩, h3⟩
theorem oc_begin (h1 : st = 0) (hn : n < 1000000) : Calls Tryz.prog 8 #[.pointer (some ⟨i.sp, 0, none⟩)] w fun r w' => r = .returned (.tuple #[.int .u64 (n + 1 : Nat), .bool true]) ∧ Oc w0 w' i (n + 1) 1 vis (fstF 16) ∧ Kp w w' := by
  obtain ⟨un, bs, f, hs, hb, h⟩ := h
  subst h1
  have hun : un = false := h.un
  subst hun
  exact (on_begin_yes h rfl hn).mono fun e w' ⟨h1, h2, h3⟩ => ⟨h1, ⟨true, bs, f, _, hb, h2⟩, h3⟩
theorem oc_end_no (h1 : st = 2) (hn : cnt F 16 ≠ 0) : Calls Tryz.prog 13 #[.pointer (some ⟨i.sp, 0, none⟩)] w fun r w' => r = .returned (.tuple #[.slice none 0 0, .bool false]) ∧ Fr [] w w' := by
  obtain ⟨un, bs, f, hs, hb, h⟩ := h
  exact on_end_no h h1 hn
theorem oc_end_yes (h1 : st = 2) (hn : cnt F 16 = 0) : Calls Tryz.prog 13 #[.pointer (some ⟨i.sp, 0, none⟩)] w fun r w' => ∃ a c, r = .returned (.tuple #[.slice a 0 c, .bool true]) ∧ Oc w0 w' i n 0 vis F ∧ Kp w w' := by
  obtain ⟨un, bs, f, hs, hb, h⟩ := h
  refine (on_end_yes h h1 hn).mono fun e w' ⟨v, h1, h2, h3, h4⟩ => ?_
  obtain ⟨a, c, rfl, _⟩ := own_slice h2
  refine ⟨a, c, h1, ⟨false, bs, f, hs, hb, ?_⟩, h4⟩
  have e1 : mEnd ⟨256, n, un, [], []⟩ = ⟨256, n, false, [], []⟩ := by unfold mEnd; cases un <;> rfl
  have := h3
  dsimp only at this
  rw [e1] at this
  exact this
end
/-- Which pages were seen. -/
def sn (F : Nat → Bool) : Array Value := arr 16 fun j => .bool (!F j)
theorem sn_get (F : Nat → Bool) (P : Nat) (hP : P < 16) : (sn F)[P]? = some (.bool (!F P)) := arr_get 16 _ P hP
theorem sn_set (F : Nat → Bool) (P : Nat) : (sn F).setIfInBounds P (.bool true) = sn (upd F P false) := by
  unfold sn
  rw [arr_set]
  refine arr_congr 16 _ _ fun j _ => ?_
  unfold upd
  by_cases e : j = P
  · rw [if_pos e, if_pos e]; rfl
  · rw [if_neg e, if_neg e]
theorem sn_new : sn (fstF 16) = sn fun _ => true := by
  unfold sn
  refine arr_congr 16 _ _ fun j hj => ?_
  unfold fstF
  rw [decide_eq_true hj]
theorem begun_oc (w : World) (hT : Tab w) : Calls Tryz.prog 7 #[] w fun r w' => ∃ i : Ids, r = .returned (.tuple #[.pointer (some ⟨i.ap, 0, none⟩), .pointer (some ⟨i.y, 0, none⟩), .pointer (some ⟨i.sp, 0, none⟩)]) ∧ Oc w w' i 0 0 0 (fun _ => false) :=
  (begun_any w hT).mono fun e w' ⟨i, h1, h2, _⟩ => ⟨i, h1, false, _, _, _, List.length_replicate, h2⟩
end Go.Proofs.YthjbnbimfpbccaaGreatDoor
