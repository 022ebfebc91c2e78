/-
  What the functions of a trusted stack compute. Condition: numbers in their types' ranges.
-/



import Derived.Test.YtdfefnajhnlpdaaSmall
import Derived.Test.YtdfefnajhnlpdaaLists
import Derived.Test.YtdfefnajhnlpdaaFrameH
import Derived.Deep.RegionHeld3
import Derived.Deep.AppendLies
import Derived.Deep.CutBlock
import Derived.Deep.DeepCutAuto
set_option linter.unusedVariables false
namespace Go.Proofs.Ytdfefnajhnlpdaa
open Go.ChangeShapes Go.WideShapes Go.ChangeAt Go.RowKit
/-- A stack at block sp, its list v of capabilities l. -/
def St (w : World) (sp : Nat) (v : Value) (l : List Cp) : Prop := At w sp 69 #[v] ∧ w.ownsRow 0 25 8 v l.length (cat l)
section
variable {w w' : World} {sp : Nat} {v : Value} {l : List Cp} {S : List Nat}
theorem St.fr (h : St w sp v l) (f : Fr S w w') (h1 : sp ∉ S) (h2 : ∀ g, v.ownBlock = some g → g ∉ S) : St w' sp v l := ⟨h.1.fr f h1, own_fr h.2 f h2⟩
theorem St.fr0 (h : St w sp v l) (f : Fr [] w w') : St w' sp v l := h.fr f (by simp) (by simp)
end
theorem snew_any (w : World) : Calls Try.prog 9 #[] w fun r w' => ∃ sp, r = .returned (.pointer (some ⟨sp, 0, none⟩)) ∧ St w' sp (.slice none 0 0) [] ∧ w.heap.size ≤ sp ∧ Fr [] w w' := by
  go_enter Try.func9, Try.ntmps9
  go_wp2_with fail
  go_ret
  exact ⟨_, rfl, ⟨At.new _ _ _, World.ownsRow_nil _ _ _ _⟩, Nat.le_refl _, (by repeat (first | exact Fr.refl _ _ | assumption | refine Fr.trans0 ?_ (by assumption) | refine Fr.drewN ?_ _ | refine Fr.alloc ?_ _ | refine Fr.drew ?_))⟩
theorem sdepth_any {w : World} {sp : Nat} {v : Value} {l : List Cp} (h : St w sp v l) : Calls Try.prog 12 #[.pointer (some ⟨sp, 0, none⟩)] w fun r w' => r = .returned (.int .i64 (l.length / 3 : Nat)) ∧ w = w' := by
  obtain ⟨a, c, rfl, hc⟩ := own_slice h.2
  have c0 := h.1.cell 0
  simp only [List.getElem?_toArray, List.getElem?_cons_zero] at c0
  have hl := own_len h.2
  unfold maxLen at hl
  clear h
  go_enter Try.func12, Try.ntmps12
  go_wp2_with fail
  go_ret
  exact ⟨by simp, rfl⟩
theorem sdepth_nil (w : World) : Calls Try.prog 12 #[.pointer none] w fun r w' => r = .returned (.int .i64 0) ∧ w = w' := by
  go_enter Try.func12, Try.ntmps12
  go_wp2_with fail
  go_ret
  exact ⟨rfl, rfl⟩
theorem builtFrame (w : World) : (Instr.build 31 #[]).run Try.prog w = .ok (.agg (cat zf).toArray) w := run_build w 31 _ _ (by kernel_rfl)
theorem frInfo {fr : List Cp} (h : fr.length = 17) : (Try.prog.info? 31).map (·.size) = some (cat fr).toArray.size := by rw [infoFrame, cat_size h]
set_option maxHeartbeats 1000000 in
set_option maxRecDepth 100000 in
theorem scall_nil (w : World) (fr : List Cp) (a b : Cp) :
    Calls Try.prog 10 #[.pointer none, .agg (cat fr).toArray, .agg a.cells, .agg b.cells] w fun r w' => r = .returned (.tuple #[.agg (cat zf).toArray, .int .i64 9]) ∧ Fr [] w w' := by
  have hz := fun w => zeroFrame w
  have hb := fun w => builtFrame w
  have ZI := Lib.hid (frInfo zf_len)
  have ZA := Lib.hid (cat_all zf)
  obtain ⟨Z, hZ⟩ : ∃ Z, (cat zf).toArray = Z := ⟨_, rfl⟩
  rw [hZ] at hz hb ZI ZA
  have HZ := Lib.hid hZ
  clear hZ
  obtain ⟨A, hA⟩ : ∃ A, (cat fr).toArray = A := ⟨_, rfl⟩
  rw [hA]
  clear hA
  unfold Cp.cells
  rw [HZ.out]
  go_enter Try.func10, Try.ntmps10
  go_wp2_with (refine wpList_store_all rfl 31 (.tmp 8) (.tmp 14) rfl _ Z rfl rfl 31 Z (At.newq (by first | rfl | simp only [World.size_alloc])) ZI.out rfl ZA.out ?_; intro w3 hA3 hF3)
  refine bodyPost_ret (res_row_tmp rfl _ _ _ 31 _ _ rfl hA3 Try.underlying31 rfl ZI.out) rfl ⟨rfl, ?_⟩
  exact Fr.trans (w' := (((w.alloc _).alloc _).alloc _).alloc _) (by repeat (first | exact Fr.refl _ _ | assumption | refine Fr.trans0 ?_ (by assumption) | refine Fr.drewN ?_ _ | refine Fr.alloc ?_ _ | refine Fr.drew ?_)) hF3 (by simp <;> omega)
set_option maxHeartbeats 1000000 in
set_option maxRecDepth 100000 in
theorem scall_bad (w : World) (sp : Nat) (fr : List Cp) (a b : Cp) (ht : trapI a b ≠ 0) :
    Calls Try.prog 10 #[.pointer (some ⟨sp, 0, none⟩), .agg (cat fr).toArray, .agg a.cells, .agg b.cells] w fun r w' => r = .returned (.tuple #[.agg (cat zf).toArray, .int .i64 (trapI a b)]) ∧ Fr [] w w' := by
  have hz := fun w => zeroFrame w
  have hb := fun w => builtFrame w
  have ZI := Lib.hid (frInfo zf_len)
  have ZA := Lib.hid (cat_all zf)
  obtain ⟨Z, hZ⟩ : ∃ Z, (cat zf).toArray = Z := ⟨_, rfl⟩
  rw [hZ] at hz hb ZI ZA
  have HZ := Lib.hid hZ
  clear hZ
  have CT := Lib.hid fun W => ctrap_any W a b
  obtain ⟨A, hA⟩ : ∃ A, (cat fr).toArray = A := ⟨_, rfl⟩
  have HA := Lib.hid hA
  rw [hA]
  clear hA
  obtain ⟨X, hX⟩ : ∃ X, (((w.alloc (.cells A 31)).alloc (.cells a.cells 25)).alloc (.cells b.cells 25)).alloc (.cells Z 31) = X := ⟨_, rfl⟩
  have B0 : At X w.heap.size 31 A := by rw [← hX]; repeat (first | exact At.newq (by first | rfl | simp only [World.size_alloc]) | refine At.old ?_ _)
  have B1 : At X (w.heap.size + 1) 25 a.cells := by rw [← hX]; exact ((At.newq (by first | rfl | simp only [World.size_alloc])).old _).old _
  have B2 : At X (w.heap.size + 1 + 1) 25 b.cells := by rw [← hX]; exact (At.newq (by first | rfl | simp only [World.size_alloc])).old _
  have B3 : At X (w.heap.size + 1 + 1 + 1) 31 Z := by rw [← hX]; exact At.newq (by first | rfl | simp only [World.size_alloc])
  have FX : Fr [] w X := by rw [← hX]; exact (by repeat (first | exact Fr.refl _ _ | assumption | refine Fr.trans0 ?_ (by assumption) | refine Fr.drewN ?_ _ | refine Fr.alloc ?_ _ | refine Fr.drew ?_))
  have HB0 := Lib.hid B0
  have HB1 := Lib.hid B1
  have HB2 := Lib.hid B2
  have HB3 := Lib.hid B3
  have HFX := Lib.hid FX
  have HX := Lib.hid hX
  unfold Cp.cells at HX HB1 HB2 CT ⊢
  clear B0 B1 B2 B3 FX hX
  obtain ⟨tr, htr⟩ : ∃ t, trapI a b = t := ⟨_, rfl⟩
  rw [htr] at CT ht ⊢
  have hne : (tr != 0) = true := by simpa using ht
  rw [HZ.out]
  clear htr ht
  go_enter Try.func10, Try.ntmps10
  go_wp2_with fail
  rw [HX.out]
  refine (CT.out _).mono ?_
  rintro e w2 ⟨rfl, hf2⟩
  have C0 := Lib.hid (HB0.out.fr hf2 (by simp))
  have C1 := Lib.hid (HB1.out.fr hf2 (by simp))
  have C2 := Lib.hid (HB2.out.fr hf2 (by simp))
  have C3 := Lib.hid (HB3.out.fr hf2 (by simp))
  have CF := Lib.hid (HFX.out.trans0 hf2)
  clear hf2 HB0 HB1 HB2 HB3 HFX HX CT
  go_wp2_with (refine wpList_store_all rfl 31 (.tmp 8) (.tmp 20) rfl _ Z rfl rfl 31 Z C3.out ZI.out rfl ZA.out ?_; intro w3 hA3 hF3)
  exact bodyPost_ret (res_row_tmp rfl _ _ _ 31 _ _ rfl hA3 Try.underlying31 rfl ZI.out) rfl ⟨rfl, CF.out.trans hF3 (by simp <;> omega)⟩
set_option maxHeartbeats 1000000 in
set_option maxRecDepth 100000 in
theorem scall_full (w : World) (sp : Nat) (v : Value) (l : List Cp) (hs : St w sp v l) (hl : 48 ≤ l.length) (fr : List Cp) (a b : Cp) (ht : trapI a b = 0) :
    Calls Try.prog 10 #[.pointer (some ⟨sp, 0, none⟩), .agg (cat fr).toArray, .agg a.cells, .agg b.cells] w fun r w' => r = .returned (.tuple #[.agg (cat zf).toArray, .int .i64 9]) ∧ Fr [] w w' := by
  have hz := fun w => zeroFrame w
  have hb := fun w => builtFrame w
  have ZI := Lib.hid (frInfo zf_len)
  have ZA := Lib.hid (cat_all zf)
  obtain ⟨Z, hZ⟩ : ∃ Z, (cat zf).toArray = Z := ⟨_, rfl⟩
  rw [hZ] at hz hb ZI ZA
  have HZ := Lib.hid hZ
  clear hZ
  have CT := Lib.hid fun W => ctrap_any W a b
  obtain ⟨A, hA⟩ : ∃ A, (cat fr).toArray = A := ⟨_, rfl⟩
  have HA := Lib.hid hA
  rw [hA]
  clear hA
  obtain ⟨X, hX⟩ : ∃ X, (((w.alloc (.cells A 31)).alloc (.cells a.cells 25)).alloc (.cells b.cells 25)).alloc (.cells Z 31) = X := ⟨_, rfl⟩
  have B0 : At X w.heap.size 31 A := by rw [← hX]; repeat (first | exact At.newq (by first | rfl | simp only [World.size_alloc]) | refine At.old ?_ _)
  have B1 : At X (w.heap.size + 1) 25 a.cells := by rw [← hX]; exact ((At.newq (by first | rfl | simp only [World.size_alloc])).old _).old _
  have B2 : At X (w.heap.size + 1 + 1) 25 b.cells := by rw [← hX]; exact (At.newq (by first | rfl | simp only [World.size_alloc])).old _
  have B3 : At X (w.heap.size + 1 + 1 + 1) 31 Z := by rw [← hX]; exact At.newq (by first | rfl | simp only [World.size_alloc])
  have FX : Fr [] w X := by rw [← hX]; exact (by repeat (first | exact Fr.refl _ _ | assumption | refine Fr.trans0 ?_ (by assumption) | refine Fr.drewN ?_ _ | refine Fr.alloc ?_ _ | refine Fr.drew ?_))
  have HB0 := Lib.hid B0
  have HB1 := Lib.hid B1
  have HB2 := Lib.hid B2
  have HB3 := Lib.hid B3
  have HFX := Lib.hid FX
  have HX := Lib.hid hX
  unfold Cp.cells at HX HB1 HB2 CT ⊢
  clear B0 B1 B2 B3 FX hX
  rw [ht] at CT
  have hS := Lib.hid hs
  have hd : ((l.length / 3 : Nat) : Int) ≥ 16 := by omega
  have HD := Lib.hid fun W (hW : Fr [] w W) => sdepth_any (hS.out.fr0 hW)
  obtain ⟨d, hdd⟩ : ∃ d, l.length / 3 = d := ⟨_, rfl⟩
  rw [hdd] at HD hd
  rw [HZ.out]
  clear ht hdd hs hl
  go_enter Try.func10, Try.ntmps10
  go_wp2_with fail
  rw [HX.out]
  refine (CT.out _).mono ?_
  rintro e w2 ⟨rfl, hf2⟩
  have C0 := Lib.hid (HB0.out.fr hf2 (by simp))
  have C1 := Lib.hid (HB1.out.fr hf2 (by simp))
  have C2 := Lib.hid (HB2.out.fr hf2 (by simp))
  have C3 := Lib.hid (HB3.out.fr hf2 (by simp))
  have CF := Lib.hid (HFX.out.trans0 hf2)
  clear hf2 HB0 HB1 HB2 HB3 HFX HX CT
  go_wp2_with fail
  refine (HD.out _ CF.out).mono ?_
  rintro e w' ⟨rfl, rfl⟩
  go_wp2_with (refine wpList_store_all rfl 31 (.tmp 8) (.tmp 25) rfl _ Z rfl rfl 31 Z C3.out ZI.out rfl ZA.out ?_; intro w3 hA3 hF3)
  exact bodyPost_ret (res_row_tmp rfl _ _ _ 31 _ _ rfl hA3 Try.underlying31 rfl ZI.out) rfl ⟨rfl, CF.out.trans hF3 (by simp <;> omega)⟩
end Go.Proofs.Ytdfefnajhnlpdaa
