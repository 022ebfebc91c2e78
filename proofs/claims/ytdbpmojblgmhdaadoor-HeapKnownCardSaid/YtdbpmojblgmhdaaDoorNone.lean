/-
  Heaps that are none: nil, and the zero value. No condition.
-/


import Derived.Test.YtdbpmojblgmhdaaDoorHWorks
set_option linter.unusedVariables false
namespace Go.Proofs.YtdbpmojblgmhdaaDoor
open Go.ChangeShapes Go.WideShapes Go.ChangeAt Go.RowKit
/-- The zero value of a heap, in a block. -/
def zh : Array Value := #[.int .u32 0, .int .u32 0, .pointer none, .pointer none, .pointer none, .pointer none, .pointer none, .pointer none, .map none, .map none]
theorem hnone_zero {w : World} {q : Nat} (h : At w q 55 zh) : Calls Tryd.prog 26 #[.pointer (some ⟨q, 0, none⟩)] w fun r w' => r = .returned (.bool true) ∧ w = w' := by
  have c2 : w.cell? ⟨q, 2, none⟩ = some (.pointer none) := by rw [h.cell]; rfl
  clear h
  go_enter Tryd.func26, Tryd.ntmps26
  go_wp2
  go_ret
  exact ⟨rfl, rfl⟩
/-- A heap that is none. -/
def Non (w : World) (v : Value) : Prop := Calls Tryd.prog 26 #[v] w fun r w' => r = .returned (.bool true) ∧ w = w'
theorem Non.nil (w : World) : Non w (.pointer none) := hnone_nil w
theorem Non.zero {w : World} {q : Nat} (h : At w q 55 zh) : Non w (.pointer (some ⟨q, 0, none⟩)) := hnone_zero h
theorem malloc_none {w : World} {p : Option Addr} (h : ∀ W, Fr [] w W → Non W (.pointer p)) (size : Int) : Calls Tryd.prog 14 #[.pointer p, .int .u32 size] w fun e w' => e = .returned (.tuple #[.agg #[.int .u32 0, .int .u32 0], .int .i64 1]) ∧ Fr [] w w' := by
  have hfa : Fr [] w (w.alloc (.cells #[.int .u32 0, .int .u32 0] 31)) := (by repeat (first | exact Fr.refl _ _ | assumption | refine Fr.trans0 ?_ (by assumption) | refine Fr.drewN ?_ _ | refine Fr.alloc ?_ _ | refine Fr.drew ?_))
  have C := Lib.hid (h _ hfa)
  have A0 := Lib.hid (At.new w 31 #[.int .u32 0, .int .u32 0])
  have HF := Lib.hid hfa
  unfold Non at C
  clear h hfa
  go_enter Tryd.func14, Tryd.ntmps14
  go_wp2_with fail
  refine (C.out).mono ?_
  rintro e w' ⟨rfl, rfl⟩
  go_wp2
  exact bodyPost_ret (res_row_tmp rfl _ _ w.heap.size 31 #[.int .u32 0, .int .u32 0] _ rfl A0.out Tryd.underlying31 rfl infoRgS) rfl ⟨rfl, HF.out⟩
theorem free_none {w : World} {p : Option Addr} (r1 r2 : Int) (h : ∀ W, Fr [] w W → Non W (.pointer p)) : Calls Tryd.prog 18 #[.pointer p, .agg #[.int .u32 r1, .int .u32 r2]] w fun e w' => e = .returned (.int .i64 1) ∧ Fr [] w w' := by
  have hfa : Fr [] w (w.alloc (.cells #[.int .u32 r1, .int .u32 r2] 31)) := (by repeat (first | exact Fr.refl _ _ | assumption | refine Fr.trans0 ?_ (by assumption) | refine Fr.drewN ?_ _ | refine Fr.alloc ?_ _ | refine Fr.drew ?_))
  have C := Lib.hid (h _ hfa)
  unfold Non at C
  clear h
  go_enter Tryd.func18, Tryd.ntmps18
  go_wp2_with fail
  refine (C.out).mono ?_
  rintro e w' ⟨rfl, rfl⟩
  go_wp2
  go_ret
  exact ⟨rfl, hfa⟩
theorem release_none {w : World} {p : Option Addr} (r1 r2 : Int) (h : ∀ W, Fr [] w W → Non W (.pointer p)) : Calls Tryd.prog 19 #[.pointer p, .agg #[.int .u32 r1, .int .u32 r2]] w fun e w' => e = .returned (.int .i64 1) ∧ Fr [] w w' := by
  have hfa : Fr [] w (w.alloc (.cells #[.int .u32 r1, .int .u32 r2] 31)) := (by repeat (first | exact Fr.refl _ _ | assumption | refine Fr.trans0 ?_ (by assumption) | refine Fr.drewN ?_ _ | refine Fr.alloc ?_ _ | refine Fr.drew ?_))
  have C := Lib.hid (h _ hfa)
  unfold Non at C
  clear h
  go_enter Tryd.func19, Tryd.ntmps19
  go_wp2_with fail
  refine (C.out).mono ?_
  rintro e w' ⟨rfl, rfl⟩
  go_wp2
  go_ret
  exact ⟨rfl, hfa⟩
theorem live_none {w : World} {p : Option Addr} (h : Non w (.pointer p)) : Calls Tryd.prog 11 #[.pointer p] w fun e w' => e = .returned (.slice none 0 0) ∧ w' = w := by
  unfold Non at h
  have C := Lib.hid h
  clear h
  go_enter Tryd.func11, Tryd.ntmps11
  go_wp2_with fail
  refine (C.out).mono ?_
  rintro e w' ⟨rfl, rfl⟩
  go_wp2
  go_ret
  exact ⟨rfl, rfl⟩
theorem rest_none {w : World} {p : Option Addr} (h : Non w (.pointer p)) : Calls Tryd.prog 12 #[.pointer p] w fun e w' => e = .returned (.slice none 0 0) ∧ w' = w := by
  unfold Non at h
  have C := Lib.hid h
  clear h
  go_enter Tryd.func12, Tryd.ntmps12
  go_wp2_with fail
  refine (C.out).mono ?_
  rintro e w' ⟨rfl, rfl⟩
  go_wp2
  go_ret
  exact ⟨rfl, rfl⟩
theorem room_none {w : World} {p : Option Addr} (h : Non w (.pointer p)) : Calls Tryd.prog 20 #[.pointer p] w fun e w' => e = .returned (.int .u32 0) ∧ w' = w := by
  unfold Non at h
  have C := Lib.hid h
  clear h
  go_enter Tryd.func20, Tryd.ntmps20
  go_wp2_with fail
  refine (C.out).mono ?_
  rintro e w' ⟨rfl, rfl⟩
  go_wp2
  go_ret
  exact ⟨rfl, rfl⟩
theorem copy_none {w : World} {p : Option Addr} (h : Non w (.pointer p)) : Calls Tryd.prog 21 #[.pointer p] w fun e w' => e = .returned (.pointer none) ∧ w' = w := by
  unfold Non at h
  have C := Lib.hid h
  clear h
  go_enter Tryd.func21, Tryd.ntmps21
  go_wp2_with fail
  refine (C.out).mono ?_
  rintro e w' ⟨rfl, rfl⟩
  go_wp2
  go_ret
  exact ⟨rfl, rfl⟩
end Go.Proofs.YtdbpmojblgmhdaaDoor
