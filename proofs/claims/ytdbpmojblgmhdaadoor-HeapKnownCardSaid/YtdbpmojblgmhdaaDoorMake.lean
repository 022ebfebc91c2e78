/-
  New and Copy of slots. Conditions: numbers in their types' ranges.
-/


import Derived.Test.YtdbpmojblgmhdaaDoorCalls
import Derived.Laws.Rows
set_option linter.unusedVariables false
namespace Go.Proofs.YtdbpmojblgmhdaaDoor
open Go.ChangeShapes Go.WideShapes Go.ChangeAt Go.RowKit
def noF : Nat → Nat → Bool := fun _ _ => false
def noT : Nat → Bool := fun _ => false
theorem zeroBook (w : World) : (zeroValue 92).run Tryd.prog w = .ok (.agg (ba 0 noF noT 0)) w := by kernel_rfl
theorem tot_none : ∀ m, tot noF m = 0
  | 0 => rfl
  | m + 1 => by simp only [tot, tot_none m]; rw [Nat.zero_add]; exact cnt_zero _ _ fun _ _ => rfl
theorem arr_ones (m : Nat) (f : Nat → Value) (h : ∀ i, (f i).oneCell' = true) : (arr m f).all (·.oneCell') = true := by
  unfold arr
  rw [← Array.all_toList, List.all_eq_true]
  intro v hv
  obtain ⟨i, _, rfl⟩ := List.mem_map.1 hv
  exact h i
theorem ba_ones (per : Nat) (F : Nat → Nat → Bool) (T : Nat → Bool) (fr : Int) : (ba per F T fr).all (·.oneCell') = true :=
  arr_ones 2050 _ fun i => by
    unfold bc
    split
    · rfl
    · split
      · rfl
      · split <;> rfl
theorem sound_none (per : Nat) (h1 : 1 ≤ per) (h2 : per ≤ 16) : Sound per noF noT := ⟨h1, h2, fun _ _ h => Bool.noConfusion h, fun _ h => Bool.noConfusion h⟩
theorem ba_some (per : Nat) (F : Nat → Nat → Bool) (T : Nat → Bool) (fr : Int) : ¬ ba per F T fr = #[] := fun h => by
  have := congrArg Array.size h
  rw [ba, arr_size] at this
  cases this
theorem ba_setper (per p : Nat) (F : Nat → Nat → Bool) (T : Nat → Bool) (fr : Int) : (ba p F T fr).setIfInBounds 0 (.int .i64 per) = ba per F T fr := by
  unfold ba; rw [arr_set]
  refine arr_congr _ _ _ fun i _ => ?_
  unfold bc
  by_cases h : i = 0
  · subst h; rfl
  · simp [h]
set_option maxRecDepth 100000 in
theorem bnew_any (per : Nat) (h1 : 1 ≤ per) (h2 : per ≤ 16) (w : World) :
    Calls Tryd.prog 24 #[.int .i64 per] w fun e w' => ∃ bp, e = .returned (.pointer (some ⟨bp, 0, none⟩)) ∧ Book w' bp per noF noT ∧ w.heap.size ≤ bp ∧ Fr [] w w' := by
  have hz := zeroBook
  have hs := ba_some 0 noF noT 0
  have hp := ba_setper per 0 noF noT 0
  have H := Lib.hid (At.new w 92 (ba per noF noT 0))
  go_enter Tryd.func24, Tryd.ntmps24
  go_wp2
  go_ret
  refine ⟨w.heap.size, rfl, ⟨?_, sound_none per h1 h2⟩, Nat.le_refl _, (by repeat (first | exact Fr.refl _ _ | assumption | refine Fr.trans0 ?_ (by assumption) | refine Fr.drewN ?_ _ | refine Fr.alloc ?_ _ | refine Fr.drew ?_))⟩
  rw [tot_none]
  exact H.out
theorem bnew_bad (n : Int) (h : n < 1 ∨ 16 < n) (w : World) :
    Calls Tryd.prog 24 #[.int .i64 n] w fun e w' => e = .returned (.pointer none) ∧ w = w' := by
  by_cases h1 : n < 1
  · clear h
    go_enter Tryd.func24, Tryd.ntmps24
    go_wp2
    go_ret
    exact ⟨rfl, rfl⟩
  · have h2 : 16 < n := by omega
    clear h
    go_enter Tryd.func24, Tryd.ntmps24
    go_wp2
    go_ret
    exact ⟨rfl, rfl⟩
theorem bcopy_nil (w : World) : Calls Tryd.prog 42 #[.pointer none] w fun e w' => e = .returned (.pointer none) ∧ w = w' := by
  go_enter Tryd.func42, Tryd.ntmps42
  go_wp2_with (go_at_call 60; refine (bnone_nil _).mono ?_; rintro e w' ⟨rfl, rfl⟩)
  go_ret
  exact ⟨rfl, rfl⟩
theorem infoBook : (Tryd.prog.info? 92).map (·.size) = some 2050 := by kernel_rfl
theorem sizeBook (per : Nat) (F : Nat → Nat → Bool) (T : Nat → Bool) (fr : Int) : (Tryd.prog.info? 92).map (·.size) = some (ba per F T fr).size := by rw [infoBook, ba, arr_size]
theorem ba_same (p q : Nat) (F G : Nat → Nat → Bool) (T U : Nat → Bool) (x y : Int) : (ba p F T x).size = (ba q G U y).size := by rw [ba, ba, arr_size, arr_size]
set_option maxHeartbeats 400000 in
set_option maxRecDepth 100000 in
theorem bcopy_any {w : World} {bp per : Nat} {F : Nat → Nat → Bool} {T : Nat → Bool} (h : Book w bp per F T) :
    Calls Tryd.prog 42 #[.pointer (some ⟨bp, 0, none⟩)] w fun e w' => ∃ bp', e = .returned (.pointer (some ⟨bp', 0, none⟩)) ∧ Book w' bp' per F T ∧ w.heap.size ≤ bp' ∧ Fr [] w w' := by
  have hz := zeroBook
  have H := Lib.hid h
  have HN := Lib.hid (At.new w 92 (ba 0 noF noT 0))
  clear h
  go_enter Tryd.func42, Tryd.ntmps42
  go_wp2_with (first | (go_at_call 60; refine (bnone_any H.out.1 H.out.2.1).mono ?_; rintro e w' ⟨rfl, rfl⟩) | (refine wpList_load_row rfl 92 _ rfl bp rfl 92 (ba per F T (tot F 1024 : Nat)) (0, 0) _ H.out.1 Tryd.underlying92 rfl (sizeBook _ _ _ _) ?_) | (refine wpList_store_row rfl 92 _ _ rfl w.heap.size (ba per F T (tot F 1024 : Nat)) rfl rfl 92 (ba 0 noF noT 0) HN.out (sizeBook _ _ _ _) (ba_same _ _ _ _ _ _ _ _) (ba_ones _ _ _ _) ?_))
  go_ret
  refine ⟨w.heap.size, rfl, ⟨setRow_heap _ _ _ _ _ _ HN.out, H.out.2⟩, Nat.le_refl _, ?_⟩
  refine ⟨rfl, rfl, rfl, by simp, fun k hk _ => ?_⟩
  rw [setRow_other _ _ _ _ (by omega)]
  exact Below.heap_alloc w _ k hk
end Go.Proofs.YtdbpmojblgmhdaaDoor
