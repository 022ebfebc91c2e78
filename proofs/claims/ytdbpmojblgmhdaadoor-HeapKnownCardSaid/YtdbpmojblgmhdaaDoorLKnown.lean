/-
  HeapKnown: the chapter's examples; heaps that are none. Condition: the table of math/bits is as the library lays it (the row lists it).
-/



import Derived.Test.YtdbpmojblgmhdaaDoorNone
import Derived.Test.YtdbpmojblgmhdaaDoorDoor
set_option linter.unusedVariables false
namespace Go.Proofs.YtdbpmojblgmhdaaDoor
open Go.ChangeShapes Go.WideShapes Go.ChangeAt Go.RowKit
namespace heapKnown
theorem zeroHeap (w : World) : (zeroValue 55).run Tryd.prog w = .ok (.agg zh) w := by kernel_rfl
set_option maxHeartbeats 4000000 in
set_option maxRecDepth 100000 in
theorem walk (w : World) (hT : Tab32 w) : Calls Tryd.prog 6 #[] w fun e w' => e = .returned (.bool true) ∧ Fr [] w w' := by
  have M0 : Hid (malP (1024, 1024) ([] ++ []) 10 = (some (1024, 16), 0)) := Lib.hid (by decide +kernel)
  have M1 : Hid (malP (1024, 1024) ([(1024, 16)] ++ []) 16 = (some (1040, 16), 0)) := Lib.hid (by decide +kernel)
  have M2 : Hid (malP (1024, 1024) ([(1024, 16), (1040, 16)] ++ []) 17 = (some (1280, 32), 0)) := Lib.hid (by decide +kernel)
  have M3 : Hid (malP (1024, 1024) ([(1024, 16), (1040, 16), (1280, 32)] ++ []) 1 = (some (1056, 16), 0)) := Lib.hid (by decide +kernel)
  have M4 : Hid (malP (1024, 1024) ([(1024, 16), (1040, 16), (1056, 16), (1280, 32)] ++ []) 300 = (some (1536, 512), 0)) := Lib.hid (by decide +kernel)
  have M5 : Hid (malP (1024, 1024) ([(1024, 16), (1040, 16), (1056, 16), (1280, 32), (1536, 512)] ++ []) 0 = (none, 6)) := Lib.hid (by decide +kernel)
  have M6 : Hid (malP (1024, 1024) ([(1024, 16), (1040, 16), (1056, 16), (1280, 32), (1536, 512)] ++ []) 1025 = (none, 6)) := Lib.hid (by decide +kernel)
  have M7 : Hid (malP (1024, 1024) ([(1024, 16), (1040, 16), (1056, 16), (1280, 32), (1536, 512)] ++ []) 200 = (none, 7)) := Lib.hid (by decide +kernel)
  have M8 : Hid (malP (1024, 1024) ([(1024, 16), (1056, 16), (1280, 32), (1536, 512)] ++ [(1040, 16)]) 16 = (some (1072, 16), 0)) := Lib.hid (by decide +kernel)
  have M9 : Hid (malP (1024, 1024) ([(1024, 16), (1056, 16), (1072, 16), (1280, 32), (1536, 512)] ++ []) 16 = (some (1040, 16), 0)) := Lib.hid (by decide +kernel)
  have MR : Hid (roomP (1024, 1024) ([(1024, 16), (1040, 16), (1056, 16), (1072, 16), (1280, 32), (1536, 512)] ++ []) = 416) := Lib.hid (by decide +kernel)
  have HT := Lib.hid hT
  clear hT
  have RG := Lib.hid region_any
  have z0 : ((0 : Nat) : Int) = 0 := rfl
  have hz := zeroHeap
  go_enter Tryd.func6, Tryd.ntmps6
  go_wp2_with fail
  refine (RG.out 1024 1024 _).mono ?_
  rintro e w1 ⟨rfl, hf1⟩
  have HF1 := Lib.hid hf1
  clear hf1
  go_wp2_with fail
  refine (hnew_any w1 (1024, 1024) (by decide) (by decide) (by decide) (by decide)).mono ?_
  rintro e w2 ⟨I, rfl, hh, hge, hf2⟩
  have F2 := Lib.hid (HF1.out.trans0 hf2)
  have H2 := Lib.hid hh
  have s1 := HF1.out.size
  have HG := Lib.hid (fun k hk => Nat.le_trans s1 (hge k hk))
  clear hh hge hf2
  go_wp2_with fail
  have CM := malloc_is (L := []) (R := []) H2.out (HT.out.fr F2.out (by simp)) (size := 10) (by decide) M0.out
  refine CM.mono ?_
  rintro e v3 ⟨rfl, hh, hf⟩
  have hh : Hp v3 I (1024, 1024) [(1024, 16)] [] := hh
  have hfw := F2.out.trans hf (fun k hk => .inr (HG.out k hk))
  have H3 := Lib.hid hh
  have F3 := Lib.hid hfw
  clear hh hf hfw CM
  go_wp2_with fail
  have CM := malloc_is (L := [(1024, 16)]) (R := []) H3.out (HT.out.fr F3.out (by simp)) (size := 16) (by decide) M1.out
  refine CM.mono ?_
  rintro e v4 ⟨rfl, hh, hf⟩
  have hh : Hp v4 I (1024, 1024) [(1024, 16), (1040, 16)] [] := hh
  have hfw := F3.out.trans hf (fun k hk => .inr (HG.out k hk))
  have H4 := Lib.hid hh
  have F4 := Lib.hid hfw
  clear hh hf hfw CM
  go_wp2_with fail
  have CM := malloc_is (L := [(1024, 16), (1040, 16)]) (R := []) H4.out (HT.out.fr F4.out (by simp)) (size := 17) (by decide) M2.out
  refine CM.mono ?_
  rintro e v5 ⟨rfl, hh, hf⟩
  have hh : Hp v5 I (1024, 1024) [(1024, 16), (1040, 16), (1280, 32)] [] := hh
  have hfw := F4.out.trans hf (fun k hk => .inr (HG.out k hk))
  have H5 := Lib.hid hh
  have F5 := Lib.hid hfw
  clear hh hf hfw CM
  go_wp2_with fail
  have CM := malloc_is (L := [(1024, 16), (1040, 16), (1280, 32)]) (R := []) H5.out (HT.out.fr F5.out (by simp)) (size := 1) (by decide) M3.out
  refine CM.mono ?_
  rintro e v6 ⟨rfl, hh, hf⟩
  have hh : Hp v6 I (1024, 1024) [(1024, 16), (1040, 16), (1056, 16), (1280, 32)] [] := hh
  have hfw := F5.out.trans hf (fun k hk => .inr (HG.out k hk))
  simp only [rv, Option.getD_some]
  obtain ⟨u6, hu6⟩ : ∃ W, v6.alloc (.cells #[.int .u32 1056, .int .u32 16] 31) = W := ⟨_, rfl⟩
  have hfa : Fr [] v6 u6 := by rw [← hu6]; exact (by repeat (first | exact Fr.refl _ _ | assumption | refine Fr.trans0 ?_ (by assumption) | refine Fr.drewN ?_ _ | refine Fr.alloc ?_ _ | refine Fr.drew ?_))
  have X3 := Lib.hid (show At u6 v6.heap.size 31 #[.int .u32 1056, .int .u32 16] by rw [← hu6]; exact At.new _ _ _)
  have HL3 := Lib.hid hh.lt
  have H6 := Lib.hid (hh.fr0 hfa)
  have F6 := Lib.hid (hfw.trans0 hfa)
  clear hh hf hfw hfa CM
  go_wp2_with fail
  have CM := malloc_is (L := [(1024, 16), (1040, 16), (1056, 16), (1280, 32)]) (R := []) H6.out (HT.out.fr F6.out (by simp)) (size := 300) (by decide) M4.out
  refine CM.mono ?_
  rintro e v7 ⟨rfl, hh, hf⟩
  have hh : Hp v7 I (1024, 1024) [(1024, 16), (1040, 16), (1056, 16), (1280, 32), (1536, 512)] [] := hh
  have hfw := F6.out.trans hf (fun k hk => .inr (HG.out k hk))
  have X3 := Lib.hid (X3.out.fr hf (fun hk => by have := HL3.out _ hk; omega))
  simp only [rv, Option.getD_some]
  obtain ⟨u7, hu7⟩ : ∃ W, v7.alloc (.cells #[.int .u32 1536, .int .u32 512] 31) = W := ⟨_, rfl⟩
  have hfa : Fr [] v7 u7 := by rw [← hu7]; exact (by repeat (first | exact Fr.refl _ _ | assumption | refine Fr.trans0 ?_ (by assumption) | refine Fr.drewN ?_ _ | refine Fr.alloc ?_ _ | refine Fr.drew ?_))
  have X3 := Lib.hid (X3.out.fr hfa (by simp))
  have X5 := Lib.hid (show At u7 v7.heap.size 31 #[.int .u32 1536, .int .u32 512] by rw [← hu7]; exact At.new _ _ _)
  have HL5 := Lib.hid hh.lt
  have H7 := Lib.hid (hh.fr0 hfa)
  have F7 := Lib.hid (hfw.trans0 hfa)
  clear hh hf hfw hfa CM
  go_wp2_with fail
  have CM := malloc_is (L := [(1024, 16), (1040, 16), (1056, 16), (1280, 32), (1536, 512)]) (R := []) H7.out (HT.out.fr F7.out (by simp)) (size := 0) (by decide) M5.out
  refine CM.mono ?_
  rintro e v8 ⟨rfl, hh, hf⟩
  have hh : Hp v8 I (1024, 1024) [(1024, 16), (1040, 16), (1056, 16), (1280, 32), (1536, 512)] [] := hh
  have hfw := F7.out.trans hf (fun k hk => .inr (HG.out k hk))
  have X3 := Lib.hid (X3.out.fr hf (fun hk => by have := HL3.out _ hk; omega))
  have X5 := Lib.hid (X5.out.fr hf (fun hk => by have := HL5.out _ hk; omega))
  simp only [rv, Option.getD_none, z0]
  have H8 := Lib.hid hh
  have F8 := Lib.hid hfw
  clear hh hf hfw CM
  go_wp2_with fail
  have hfa : Fr [] v8 (v8.alloc (.cells #[.int .u32 0, .int .u32 0] 31)) := (by repeat (first | exact Fr.refl _ _ | assumption | refine Fr.trans0 ?_ (by assumption) | refine Fr.drewN ?_ _ | refine Fr.alloc ?_ _ | refine Fr.drew ?_))
  obtain ⟨u8, hu⟩ : ∃ W, v8.alloc (.cells #[.int .u32 0, .int .u32 0] 31) = W := ⟨_, rfl⟩
  rw [hu] at hfa ⊢
  clear hu
  have X3 := Lib.hid (X3.out.fr hfa (by simp))
  have X5 := Lib.hid (X5.out.fr hfa (by simp))
  have H8 := Lib.hid (H8.out.fr0 hfa)
  have F8 := Lib.hid (F8.out.trans0 hfa)
  clear hfa
  go_wp2_with fail
  have CM := malloc_is (L := [(1024, 16), (1040, 16), (1056, 16), (1280, 32), (1536, 512)]) (R := []) H8.out (HT.out.fr F8.out (by simp)) (size := 1025) (by decide) M6.out
  refine CM.mono ?_
  rintro e v9 ⟨rfl, hh, hf⟩
  have hh : Hp v9 I (1024, 1024) [(1024, 16), (1040, 16), (1056, 16), (1280, 32), (1536, 512)] [] := hh
  have hfw := F8.out.trans hf (fun k hk => .inr (HG.out k hk))
  have X3 := Lib.hid (X3.out.fr hf (fun hk => by have := HL3.out _ hk; omega))
  have X5 := Lib.hid (X5.out.fr hf (fun hk => by have := HL5.out _ hk; omega))
  simp only [rv, Option.getD_none, z0]
  have H9 := Lib.hid hh
  have F9 := Lib.hid hfw
  clear hh hf hfw CM
  go_wp2_with fail
  have hfa : Fr [] v9 (v9.alloc (.cells #[.int .u32 0, .int .u32 0] 31)) := (by repeat (first | exact Fr.refl _ _ | assumption | refine Fr.trans0 ?_ (by assumption) | refine Fr.drewN ?_ _ | refine Fr.alloc ?_ _ | refine Fr.drew ?_))
  obtain ⟨u9, hu⟩ : ∃ W, v9.alloc (.cells #[.int .u32 0, .int .u32 0] 31) = W := ⟨_, rfl⟩
  rw [hu] at hfa ⊢
  clear hu
  have X3 := Lib.hid (X3.out.fr hfa (by simp))
  have X5 := Lib.hid (X5.out.fr hfa (by simp))
  have H9 := Lib.hid (H9.out.fr0 hfa)
  have F9 := Lib.hid (F9.out.trans0 hfa)
  clear hfa
  go_wp2_with fail
  have CM := malloc_is (L := [(1024, 16), (1040, 16), (1056, 16), (1280, 32), (1536, 512)]) (R := []) H9.out (HT.out.fr F9.out (by simp)) (size := 200) (by decide) M7.out
  refine CM.mono ?_
  rintro e v10 ⟨rfl, hh, hf⟩
  have hh : Hp v10 I (1024, 1024) [(1024, 16), (1040, 16), (1056, 16), (1280, 32), (1536, 512)] [] := hh
  have hfw := F9.out.trans hf (fun k hk => .inr (HG.out k hk))
  have X3 := Lib.hid (X3.out.fr hf (fun hk => by have := HL3.out _ hk; omega))
  have X5 := Lib.hid (X5.out.fr hf (fun hk => by have := HL5.out _ hk; omega))
  simp only [rv, Option.getD_none, z0]
  have H10 := Lib.hid hh
  have F10 := Lib.hid hfw
  clear hh hf hfw CM
  go_wp2_with fail
  have hfa : Fr [] v10 (v10.alloc (.cells #[.int .u32 0, .int .u32 0] 31)) := (by repeat (first | exact Fr.refl _ _ | assumption | refine Fr.trans0 ?_ (by assumption) | refine Fr.drewN ?_ _ | refine Fr.alloc ?_ _ | refine Fr.drew ?_))
  obtain ⟨u10, hu⟩ : ∃ W, v10.alloc (.cells #[.int .u32 0, .int .u32 0] 31) = W := ⟨_, rfl⟩
  rw [hu] at hfa ⊢
  clear hu
  have X3 := Lib.hid (X3.out.fr hfa (by simp))
  have X5 := Lib.hid (X5.out.fr hfa (by simp))
  have H10 := Lib.hid (H10.out.fr0 hfa)
  have F10 := Lib.hid (F10.out.trans0 hfa)
  clear hfa
  go_wp2_with fail
  refine (RG.out 1040 16 _).mono ?_
  rintro e y11 ⟨rfl, hf⟩
  have hh := H10.out.fr0 hf
  have hfw := F10.out.trans0 hf
  have X3 := Lib.hid (X3.out.fr hf (by simp))
  have X5 := Lib.hid (X5.out.fr hf (by simp))
  clear hf
  go_wp2_with fail
  have CF := free_yes (r := (1040, 16)) (L := [(1024, 16), (1040, 16), (1056, 16), (1280, 32), (1536, 512)]) (R := []) hh (by decide)
  refine CF.mono ?_
  rintro e v11 ⟨rfl, hh, hf⟩
  have hh : Hp v11 I (1024, 1024) [(1024, 16), (1056, 16), (1280, 32), (1536, 512)] [(1040, 16)] := hh
  have H11 := Lib.hid hh
  have F11 := Lib.hid (hfw.trans hf (fun k hk => .inr (HG.out k hk)))
  have X3 := Lib.hid (X3.out.fr hf (fun hk => by have := HL3.out _ hk; omega))
  have X5 := Lib.hid (X5.out.fr hf (fun hk => by have := HL5.out _ hk; omega))
  clear hh hf hfw CF
  go_wp2_with fail
  refine (RG.out 1040 32 _).mono ?_
  rintro e y12 ⟨rfl, hf⟩
  have hh := H11.out.fr0 hf
  have hfw := F11.out.trans0 hf
  have X3 := Lib.hid (X3.out.fr hf (by simp))
  have X5 := Lib.hid (X5.out.fr hf (by simp))
  clear hf
  go_wp2_with fail
  have CF := free_no (r := (1040, 32)) (L := [(1024, 16), (1056, 16), (1280, 32), (1536, 512)]) (R := [(1040, 16)]) hh (by unfold Ok32; decide) (by decide)
  refine CF.mono ?_
  rintro e v12 ⟨rfl, hh, hf⟩
  have hh : Hp v12 I (1024, 1024) [(1024, 16), (1056, 16), (1280, 32), (1536, 512)] [(1040, 16)] := hh
  have H12 := Lib.hid hh
  have F12 := Lib.hid (hfw.trans hf (fun k hk => .inr (HG.out k hk)))
  have X3 := Lib.hid (X3.out.fr hf (fun hk => by have := HL3.out _ hk; omega))
  have X5 := Lib.hid (X5.out.fr hf (fun hk => by have := HL5.out _ hk; omega))
  clear hh hf hfw CF
  go_wp2_with fail
  have CM := malloc_is (L := [(1024, 16), (1056, 16), (1280, 32), (1536, 512)]) (R := [(1040, 16)]) H12.out (HT.out.fr F12.out (by simp)) (size := 16) (by decide) M8.out
  refine CM.mono ?_
  rintro e v13 ⟨rfl, hh, hf⟩
  have hh : Hp v13 I (1024, 1024) [(1024, 16), (1056, 16), (1072, 16), (1280, 32), (1536, 512)] [(1040, 16)] := hh
  have hfw := F12.out.trans hf (fun k hk => .inr (HG.out k hk))
  have X3 := Lib.hid (X3.out.fr hf (fun hk => by have := HL3.out _ hk; omega))
  have X5 := Lib.hid (X5.out.fr hf (fun hk => by have := HL5.out _ hk; omega))
  simp only [rv, Option.getD_some]
  obtain ⟨u13, hu13⟩ : ∃ W, v13.alloc (.cells #[.int .u32 1072, .int .u32 16] 31) = W := ⟨_, rfl⟩
  have hfa : Fr [] v13 u13 := by rw [← hu13]; exact (by repeat (first | exact Fr.refl _ _ | assumption | refine Fr.trans0 ?_ (by assumption) | refine Fr.drewN ?_ _ | refine Fr.alloc ?_ _ | refine Fr.drew ?_))
  have X3 := Lib.hid (X3.out.fr hfa (by simp))
  have X5 := Lib.hid (X5.out.fr hfa (by simp))
  have X15 := Lib.hid (show At u13 v13.heap.size 31 #[.int .u32 1072, .int .u32 16] by rw [← hu13]; exact At.new _ _ _)
  have HL15 := Lib.hid hh.lt
  have H13 := Lib.hid (hh.fr0 hfa)
  have F13 := Lib.hid (hfw.trans0 hfa)
  clear hh hf hfw hfa CM
  go_wp2_with fail
  refine (RG.out 1040 16 _).mono ?_
  rintro e y14 ⟨rfl, hf⟩
  have hh := H13.out.fr0 hf
  have hfw := F13.out.trans0 hf
  have X3 := Lib.hid (X3.out.fr hf (by simp))
  have X5 := Lib.hid (X5.out.fr hf (by simp))
  have X15 := Lib.hid (X15.out.fr hf (by simp))
  clear hf
  go_wp2_with fail
  have CF := release_yes (r := (1040, 16)) (L := [(1024, 16), (1056, 16), (1072, 16), (1280, 32), (1536, 512)]) (R := [(1040, 16)]) hh (by decide)
  refine CF.mono ?_
  rintro e v14 ⟨rfl, hh, hf⟩
  have hh : Hp v14 I (1024, 1024) [(1024, 16), (1056, 16), (1072, 16), (1280, 32), (1536, 512)] [] := hh
  have H14 := Lib.hid hh
  have F14 := Lib.hid (hfw.trans hf (fun k hk => .inr (HG.out k hk)))
  have X3 := Lib.hid (X3.out.fr hf (fun hk => by have := HL3.out _ hk; omega))
  have X5 := Lib.hid (X5.out.fr hf (fun hk => by have := HL5.out _ hk; omega))
  have X15 := Lib.hid (X15.out.fr hf (fun hk => by have := HL15.out _ hk; omega))
  clear hh hf hfw CF
  go_wp2_with fail
  refine (RG.out 1040 16 _).mono ?_
  rintro e y15 ⟨rfl, hf⟩
  have hh := H14.out.fr0 hf
  have hfw := F14.out.trans0 hf
  have X3 := Lib.hid (X3.out.fr hf (by simp))
  have X5 := Lib.hid (X5.out.fr hf (by simp))
  have X15 := Lib.hid (X15.out.fr hf (by simp))
  clear hf
  go_wp2_with fail
  have CF := release_no (r := (1040, 16)) (L := [(1024, 16), (1056, 16), (1072, 16), (1280, 32), (1536, 512)]) (R := []) hh (by unfold Ok32; decide) (by decide)
  refine CF.mono ?_
  rintro e v15 ⟨rfl, hh, hf⟩
  have hh : Hp v15 I (1024, 1024) [(1024, 16), (1056, 16), (1072, 16), (1280, 32), (1536, 512)] [] := hh
  have H15 := Lib.hid hh
  have F15 := Lib.hid (hfw.trans hf (fun k hk => .inr (HG.out k hk)))
  have X3 := Lib.hid (X3.out.fr hf (fun hk => by have := HL3.out _ hk; omega))
  have X5 := Lib.hid (X5.out.fr hf (fun hk => by have := HL5.out _ hk; omega))
  have X15 := Lib.hid (X15.out.fr hf (fun hk => by have := HL15.out _ hk; omega))
  clear hh hf hfw CF
  go_wp2_with fail
  have CM := malloc_is (L := [(1024, 16), (1056, 16), (1072, 16), (1280, 32), (1536, 512)]) (R := []) H15.out (HT.out.fr F15.out (by simp)) (size := 16) (by decide) M9.out
  refine CM.mono ?_
  rintro e v16 ⟨rfl, hh, hf⟩
  have hh : Hp v16 I (1024, 1024) [(1024, 16), (1040, 16), (1056, 16), (1072, 16), (1280, 32), (1536, 512)] [] := hh
  have hfw := F15.out.trans hf (fun k hk => .inr (HG.out k hk))
  have X3 := Lib.hid (X3.out.fr hf (fun hk => by have := HL3.out _ hk; omega))
  have X5 := Lib.hid (X5.out.fr hf (fun hk => by have := HL5.out _ hk; omega))
  have X15 := Lib.hid (X15.out.fr hf (fun hk => by have := HL15.out _ hk; omega))
  simp only [rv, Option.getD_some]
  obtain ⟨u16, hu16⟩ : ∃ W, v16.alloc (.cells #[.int .u32 1040, .int .u32 16] 31) = W := ⟨_, rfl⟩
  have hfa : Fr [] v16 u16 := by rw [← hu16]; exact (by repeat (first | exact Fr.refl _ _ | assumption | refine Fr.trans0 ?_ (by assumption) | refine Fr.drewN ?_ _ | refine Fr.alloc ?_ _ | refine Fr.drew ?_))
  have X3 := Lib.hid (X3.out.fr hfa (by simp))
  have X5 := Lib.hid (X5.out.fr hfa (by simp))
  have X15 := Lib.hid (X15.out.fr hfa (by simp))
  have X19 := Lib.hid (show At u16 v16.heap.size 31 #[.int .u32 1040, .int .u32 16] by rw [← hu16]; exact At.new _ _ _)
  have HL19 := Lib.hid hh.lt
  have H16 := Lib.hid (hh.fr0 hfa)
  have F16 := Lib.hid (hfw.trans0 hfa)
  clear hh hf hfw hfa CM
  go_wp2_with fail
  refine (RG.out 1 256 _).mono ?_
  rintro e y17 ⟨rfl, hf⟩
  have H17 := Lib.hid (H16.out.fr0 hf)
  have F17 := Lib.hid (F16.out.trans0 hf)
  have X3 := Lib.hid (X3.out.fr hf (by simp))
  have X5 := Lib.hid (X5.out.fr hf (by simp))
  have X15 := Lib.hid (X15.out.fr hf (by simp))
  have X19 := Lib.hid (X19.out.fr hf (by simp))
  clear hf
  go_wp2_with fail
  have CN := hnew_bad y17 (1, 256) (by unfold Ok32; decide) (by decide)
  refine CN.mono ?_
  rintro e v18 ⟨rfl, hf⟩
  have H18 := Lib.hid (H17.out.fr0 hf)
  have F18 := Lib.hid (F17.out.trans0 hf)
  have X3 := Lib.hid (X3.out.fr hf (by simp))
  have X5 := Lib.hid (X5.out.fr hf (by simp))
  have X15 := Lib.hid (X15.out.fr hf (by simp))
  have X19 := Lib.hid (X19.out.fr hf (by simp))
  clear hf CN
  go_wp2_with fail
  refine (RG.out 256 0 _).mono ?_
  rintro e y19 ⟨rfl, hf⟩
  have H19 := Lib.hid (H18.out.fr0 hf)
  have F19 := Lib.hid (F18.out.trans0 hf)
  have X3 := Lib.hid (X3.out.fr hf (by simp))
  have X5 := Lib.hid (X5.out.fr hf (by simp))
  have X15 := Lib.hid (X15.out.fr hf (by simp))
  have X19 := Lib.hid (X19.out.fr hf (by simp))
  clear hf
  go_wp2_with fail
  have CN := hnew_bad y19 (256, 0) (by unfold Ok32; decide) (by decide)
  refine CN.mono ?_
  rintro e v20 ⟨rfl, hf⟩
  have H20 := Lib.hid (H19.out.fr0 hf)
  have F20 := Lib.hid (F19.out.trans0 hf)
  have X3 := Lib.hid (X3.out.fr hf (by simp))
  have X5 := Lib.hid (X5.out.fr hf (by simp))
  have X15 := Lib.hid (X15.out.fr hf (by simp))
  have X19 := Lib.hid (X19.out.fr hf (by simp))
  clear hf CN
  go_wp2_with fail
  refine (RG.out 256 255 _).mono ?_
  rintro e y21 ⟨rfl, hf⟩
  have H21 := Lib.hid (H20.out.fr0 hf)
  have F21 := Lib.hid (F20.out.trans0 hf)
  have X3 := Lib.hid (X3.out.fr hf (by simp))
  have X5 := Lib.hid (X5.out.fr hf (by simp))
  have X15 := Lib.hid (X15.out.fr hf (by simp))
  have X19 := Lib.hid (X19.out.fr hf (by simp))
  clear hf
  go_wp2_with fail
  have CN := hnew_bad y21 (256, 255) (by unfold Ok32; decide) (by decide)
  refine CN.mono ?_
  rintro e v22 ⟨rfl, hf⟩
  have H22 := Lib.hid (H21.out.fr0 hf)
  have F22 := Lib.hid (F21.out.trans0 hf)
  have X3 := Lib.hid (X3.out.fr hf (by simp))
  have X5 := Lib.hid (X5.out.fr hf (by simp))
  have X15 := Lib.hid (X15.out.fr hf (by simp))
  have X19 := Lib.hid (X19.out.fr hf (by simp))
  clear hf CN
  go_wp2_with fail
  refine (RG.out 256 262144 _).mono ?_
  rintro e y23 ⟨rfl, hf⟩
  have H23 := Lib.hid (H22.out.fr0 hf)
  have F23 := Lib.hid (F22.out.trans0 hf)
  have X3 := Lib.hid (X3.out.fr hf (by simp))
  have X5 := Lib.hid (X5.out.fr hf (by simp))
  have X15 := Lib.hid (X15.out.fr hf (by simp))
  have X19 := Lib.hid (X19.out.fr hf (by simp))
  clear hf
  go_wp2_with fail
  have CN := hnew_long y23 (256, 262144) (by unfold Ok32; decide) (by decide) (by decide) (by decide) (by decide)
  refine CN.mono ?_
  rintro e v24 ⟨rfl, hf⟩
  have H24 := Lib.hid (H23.out.fr0 hf)
  have F24 := Lib.hid (F23.out.trans0 hf)
  have X3 := Lib.hid (X3.out.fr hf (by simp))
  have X5 := Lib.hid (X5.out.fr hf (by simp))
  have X15 := Lib.hid (X15.out.fr hf (by simp))
  have X19 := Lib.hid (X19.out.fr hf (by simp))
  clear hf CN
  go_wp2_with fail
  refine (RG.out 0 262144 _).mono ?_
  rintro e y25 ⟨rfl, hf⟩
  have H25 := Lib.hid (H24.out.fr0 hf)
  have F25 := Lib.hid (F24.out.trans0 hf)
  have X3 := Lib.hid (X3.out.fr hf (by simp))
  have X5 := Lib.hid (X5.out.fr hf (by simp))
  have X15 := Lib.hid (X15.out.fr hf (by simp))
  have X19 := Lib.hid (X19.out.fr hf (by simp))
  clear hf
  go_wp2_with fail
  have CN := hnew_any y25 (0, 262144) (by decide) (by decide) (by decide) (by decide)
  refine CN.mono ?_
  rintro e v26 ⟨I2, rfl, -, -, hf⟩
  have H26 := Lib.hid (H25.out.fr0 hf)
  have F26 := Lib.hid (F25.out.trans0 hf)
  have X3 := Lib.hid (X3.out.fr hf (by simp))
  have X5 := Lib.hid (X5.out.fr hf (by simp))
  have X15 := Lib.hid (X15.out.fr hf (by simp))
  have X19 := Lib.hid (X19.out.fr hf (by simp))
  clear hf CN
  go_wp2_with fail
  have hfa : Fr [] v26 (v26.alloc (.cells zh 55)) := (by repeat (first | exact Fr.refl _ _ | assumption | refine Fr.trans0 ?_ (by assumption) | refine Fr.drewN ?_ _ | refine Fr.alloc ?_ _ | refine Fr.drew ?_))
  have Z := At.new v26 55 zh
  obtain ⟨z1, hz1⟩ : ∃ W, v26.alloc (.cells zh 55) = W := ⟨_, rfl⟩
  rw [hz1] at hfa Z ⊢
  obtain ⟨zq, hzq⟩ : ∃ zq, v26.heap.size = zq := ⟨_, rfl⟩
  rw [hzq] at Z ⊢
  clear hz1 hzq
  have ZZ := Lib.hid Z
  have H27 := Lib.hid (H26.out.fr0 hfa)
  have F27 := Lib.hid (F26.out.trans0 hfa)
  have X3 := Lib.hid (X3.out.fr hfa (by simp))
  have X5 := Lib.hid (X5.out.fr hfa (by simp))
  have X15 := Lib.hid (X15.out.fr hfa (by simp))
  have X19 := Lib.hid (X19.out.fr hfa (by simp))
  clear hfa Z hz
  have CM := malloc_none (p := none) (fun W (_ : Fr [] z1 W) => Non.nil W) 16
  refine CM.mono ?_
  rintro e v28 ⟨rfl, hf⟩
  have ZZ := Lib.hid (ZZ.out.fr hf (by simp))
  have H28 := Lib.hid (H27.out.fr0 hf)
  have F28 := Lib.hid (F27.out.trans0 hf)
  have X3 := Lib.hid (X3.out.fr hf (by simp))
  have X5 := Lib.hid (X5.out.fr hf (by simp))
  have X15 := Lib.hid (X15.out.fr hf (by simp))
  have X19 := Lib.hid (X19.out.fr hf (by simp))
  clear hf CM
  go_wp2_with fail
  have hfa : Fr [] v28 (v28.alloc (.cells #[.int .u32 0, .int .u32 0] 31)) := (by repeat (first | exact Fr.refl _ _ | assumption | refine Fr.trans0 ?_ (by assumption) | refine Fr.drewN ?_ _ | refine Fr.alloc ?_ _ | refine Fr.drew ?_))
  obtain ⟨u28, hu⟩ : ∃ W, v28.alloc (.cells #[.int .u32 0, .int .u32 0] 31) = W := ⟨_, rfl⟩
  rw [hu] at hfa ⊢
  clear hu
  have ZZ := Lib.hid (ZZ.out.fr hfa (by simp))
  have H28 := Lib.hid (H28.out.fr0 hfa)
  have F28 := Lib.hid (F28.out.trans0 hfa)
  have X3 := Lib.hid (X3.out.fr hfa (by simp))
  have X5 := Lib.hid (X5.out.fr hfa (by simp))
  have X15 := Lib.hid (X15.out.fr hfa (by simp))
  have X19 := Lib.hid (X19.out.fr hfa (by simp))
  clear hfa
  refine (RG.out 0 16 _).mono ?_
  rintro e y29 ⟨rfl, hf⟩
  have ZZ := Lib.hid (ZZ.out.fr hf (by simp))
  have H29 := Lib.hid (H28.out.fr0 hf)
  have F29 := Lib.hid (F28.out.trans0 hf)
  have X3 := Lib.hid (X3.out.fr hf (by simp))
  have X5 := Lib.hid (X5.out.fr hf (by simp))
  have X15 := Lib.hid (X15.out.fr hf (by simp))
  have X19 := Lib.hid (X19.out.fr hf (by simp))
  clear hf
  go_wp2_with fail
  have CF := free_none (p := some ⟨zq, 0, none⟩) 0 16 (fun W (hW : Fr [] y29 W) => Non.zero (ZZ.out.fr hW (by simp)))
  refine CF.mono ?_
  rintro e v30 ⟨rfl, hf⟩
  have ZZ := Lib.hid (ZZ.out.fr hf (by simp))
  have H30 := Lib.hid (H29.out.fr0 hf)
  have F30 := Lib.hid (F29.out.trans0 hf)
  have X3 := Lib.hid (X3.out.fr hf (by simp))
  have X5 := Lib.hid (X5.out.fr hf (by simp))
  have X15 := Lib.hid (X15.out.fr hf (by simp))
  have X19 := Lib.hid (X19.out.fr hf (by simp))
  clear hf CF
  go_wp2_with fail
  refine wp_region_L (fun W => At W v6.heap.size 31 #[.int .u32 1056, .int .u32 16] ∧ At W v7.heap.size 31 #[.int .u32 1536, .int .u32 512] ∧ At W v13.heap.size 31 #[.int .u32 1072, .int .u32 16] ∧ At W v16.heap.size 31 #[.int .u32 1040, .int .u32 16] ∧ At W zq 55 zh) [] (by kernel_rfl) ⟨X3.out.hp rfl, X5.out.hp rfl, X15.out.hp rfl, X19.out.hp rfl, ZZ.out.hp rfl⟩ fun hHeld => ?_
  have H31 := H30.out.fr0 ((Fr.refl [] v30).drew)
  have F31 := F30.out.drew
  refine wpAnyL_take (i := 0) (v := ?_) rfl (by kernel_rfl) (fun _ _ _ h => h) (Or.inl ⟨by rfl, ?_⟩) (by assumption) ?_; rotate_left; (focus (intro w hSw; skip; go_simp; (try with_reducible rfl))); (try (refine wpAnyL_norm (by simp only [Act.put, List.setIfInBounds_toArray, List.set_cons_zero, List.set_cons_succ]; rfl) ?_))
  refine wpAnyL_ready (rs := [1]) (by kernel_rfl) (by simp) ?_; refine AllReadyL.cons rfl (fun K hK => ?_) AllReadyL.nil
  go_simp
  have CC := works_any v30.drew (HT.out.fr F31 (by simp))
  refine CC.mono ?_
  rintro e w1032 ⟨rfl, hf32⟩
  have H32 := H31.fr0 hf32
  have F32 := F31.trans0 hf32
  refine hK.out _ _ (fun _ => ⟨hHeld.1.fr hf32 (by simp), hHeld.2.1.fr hf32 (by simp), hHeld.2.2.1.fr hf32 (by simp), hHeld.2.2.2.1.fr hf32 (by simp), hHeld.2.2.2.2.fr hf32 (by simp)⟩) (fun hHeld' => ?_); have hHeld := hHeld' (by decide); clear hHeld' hK K; (try (refine wpAnyL_norm (by simp only [Act.put, List.setIfInBounds_toArray, List.set_cons_zero, List.set_cons_succ]; rfl) ?_))
  as_aux_lemma =>
    refine wpAnyL_take (i := 2) (v := ?_) rfl (by kernel_rfl) (fun _ _ _ h => h) (Or.inl ⟨by rfl, ?_⟩) (by assumption) ?_; rotate_left; (focus (intro w hSw; skip; go_simp; (try with_reducible rfl))); (try (refine wpAnyL_norm (by simp only [Act.put, List.setIfInBounds_toArray, List.set_cons_zero, List.set_cons_succ]; rfl) ?_))
    refine wpAnyL_take (i := 3) (v := ?_) rfl (by kernel_rfl) (fun _ _ _ h => h) (Or.inl ⟨by rfl, ?_⟩) (by assumption) ?_; rotate_left; (focus (intro w hSw; skip; go_simp; (try with_reducible rfl))); (try (refine wpAnyL_norm (by simp only [Act.put, List.setIfInBounds_toArray, List.set_cons_zero, List.set_cons_succ]; rfl) ?_))
    refine wpAnyL_take (i := 4) rfl (by kernel_rfl) (fun _ _ _ h => h) (yields_load_at 31 (.tmp 3) rfl ⟨v6.heap.size, 0, none⟩ rfl [.int .u32 1056, .int .u32 16] _ (fun W h => two_cells h.1) Tryd.underlying31 rfl infoRgS rfl) (by assumption) ?_; (try (refine wpAnyL_norm (by simp only [Act.put, List.setIfInBounds_toArray, List.set_cons_zero, List.set_cons_succ]; rfl) ?_))
    refine wpAnyL_ready (rs := [5]) (by kernel_rfl) (by simp) ?_; refine AllReadyL.cons rfl (fun K hK => ?_) AllReadyL.nil
    go_simp
    have CC := RG.out 1056 16 w1032
    refine CC.mono ?_
    rintro e w1033 ⟨rfl, hf33⟩
    have H33 := H32.fr0 hf33
    have F33 := F32.trans0 hf33
    refine hK.out _ _ (fun _ => ⟨hHeld.1.fr hf33 (by simp), hHeld.2.1.fr hf33 (by simp), hHeld.2.2.1.fr hf33 (by simp), hHeld.2.2.2.1.fr hf33 (by simp), hHeld.2.2.2.2.fr hf33 (by simp)⟩) (fun hHeld' => ?_); have hHeld := hHeld' (by decide); clear hHeld' hK K; (try (refine wpAnyL_norm (by simp only [Act.put, List.setIfInBounds_toArray, List.set_cons_zero, List.set_cons_succ]; rfl) ?_))
    refine wpAnyL_take (i := 6) (v := ?_) rfl (by kernel_rfl) (fun _ _ _ h => h) (Or.inl ⟨by rfl, ?_⟩) (by assumption) ?_; rotate_left; (focus (intro w hSw; skip; go_simp; (try with_reducible rfl))); (try (refine wpAnyL_norm (by simp only [Act.put, List.setIfInBounds_toArray, List.set_cons_zero, List.set_cons_succ]; rfl) ?_))
    refine wpAnyL_take (i := 7) (v := ?_) rfl (by kernel_rfl) (fun _ _ _ h => h) (Or.inl ⟨by rfl, ?_⟩) (by assumption) ?_; rotate_left; (focus (intro w hSw; skip; go_simp; (try with_reducible rfl))); (try (refine wpAnyL_norm (by simp only [Act.put, List.setIfInBounds_toArray, List.set_cons_zero, List.set_cons_succ]; rfl) ?_))
    refine wpAnyL_take (i := 8) (v := ?_) rfl (by kernel_rfl) (fun _ _ _ h => h) (Or.inl ⟨by rfl, ?_⟩) (by assumption) ?_; rotate_left; (focus (intro w hSw; skip; go_simp; (try with_reducible rfl))); (try (refine wpAnyL_norm (by simp only [Act.put, List.setIfInBounds_toArray, List.set_cons_zero, List.set_cons_succ]; rfl) ?_))
    refine wpAnyL_take (i := 9) rfl (by kernel_rfl) (fun _ _ _ h => h) (yields_load_at 31 (.tmp 5) rfl ⟨v7.heap.size, 0, none⟩ rfl [.int .u32 1536, .int .u32 512] _ (fun W h => two_cells h.2.1) Tryd.underlying31 rfl infoRgS rfl) (by assumption) ?_; (try (refine wpAnyL_norm (by simp only [Act.put, List.setIfInBounds_toArray, List.set_cons_zero, List.set_cons_succ]; rfl) ?_))
    refine wpAnyL_ready (rs := [10]) (by kernel_rfl) (by simp) ?_; refine AllReadyL.cons rfl (fun K hK => ?_) AllReadyL.nil
    go_simp
    have CC := RG.out 1536 512 w1033
    refine CC.mono ?_
    rintro e w1034 ⟨rfl, hf34⟩
    have H34 := H33.fr0 hf34
    have F34 := F33.trans0 hf34
    refine hK.out _ _ (fun _ => ⟨hHeld.1.fr hf34 (by simp), hHeld.2.1.fr hf34 (by simp), hHeld.2.2.1.fr hf34 (by simp), hHeld.2.2.2.1.fr hf34 (by simp), hHeld.2.2.2.2.fr hf34 (by simp)⟩) (fun hHeld' => ?_); have hHeld := hHeld' (by decide); clear hHeld' hK K; (try (refine wpAnyL_norm (by simp only [Act.put, List.setIfInBounds_toArray, List.set_cons_zero, List.set_cons_succ]; rfl) ?_))
    refine wpAnyL_take (i := 11) (v := ?_) rfl (by kernel_rfl) (fun _ _ _ h => h) (Or.inl ⟨by rfl, ?_⟩) (by assumption) ?_; rotate_left; (focus (intro w hSw; skip; go_simp; (try with_reducible rfl))); (try (refine wpAnyL_norm (by simp only [Act.put, List.setIfInBounds_toArray, List.set_cons_zero, List.set_cons_succ]; rfl) ?_))
    refine wpAnyL_take (i := 12) (v := ?_) rfl (by kernel_rfl) (fun _ _ _ h => h) (Or.inl ⟨by rfl, ?_⟩) (by assumption) ?_; rotate_left; (focus (intro w hSw; skip; go_simp; (try with_reducible rfl))); (try (refine wpAnyL_norm (by simp only [Act.put, List.setIfInBounds_toArray, List.set_cons_zero, List.set_cons_succ]; rfl) ?_))
    refine wpAnyL_take (i := 13) (v := ?_) rfl (by kernel_rfl) (fun _ _ _ h => h) (Or.inl ⟨by rfl, ?_⟩) (by assumption) ?_; rotate_left; (focus (intro w hSw; skip; go_simp; (try with_reducible rfl))); (try (refine wpAnyL_norm (by simp only [Act.put, List.setIfInBounds_toArray, List.set_cons_zero, List.set_cons_succ]; rfl) ?_))
    refine wpAnyL_take (i := 14) (v := ?_) rfl (by kernel_rfl) (fun _ _ _ h => h) (Or.inl ⟨by rfl, ?_⟩) (by assumption) ?_; rotate_left; (focus (intro w hSw; skip; go_simp; (try with_reducible rfl))); (try (refine wpAnyL_norm (by simp only [Act.put, List.setIfInBounds_toArray, List.set_cons_zero, List.set_cons_succ]; rfl) ?_))
    refine wpAnyL_take (i := 15) (v := ?_) rfl (by kernel_rfl) (fun _ _ _ h => h) (Or.inl ⟨by rfl, ?_⟩) (by assumption) ?_; rotate_left; (focus (intro w hSw; skip; go_simp; (try with_reducible rfl))); (try (refine wpAnyL_norm (by simp only [Act.put, List.setIfInBounds_toArray, List.set_cons_zero, List.set_cons_succ]; rfl) ?_))
    refine wpAnyL_take (i := 16) (v := ?_) rfl (by kernel_rfl) (fun _ _ _ h => h) (Or.inl ⟨by rfl, ?_⟩) (by assumption) ?_; rotate_left; (focus (intro w hSw; skip; go_simp; (try with_reducible rfl))); (try (refine wpAnyL_norm (by simp only [Act.put, List.setIfInBounds_toArray, List.set_cons_zero, List.set_cons_succ]; rfl) ?_))
    refine wpAnyL_take (i := 17) (v := ?_) rfl (by kernel_rfl) (fun _ _ _ h => h) (Or.inl ⟨by rfl, ?_⟩) (by assumption) ?_; rotate_left; (focus (intro w hSw; skip; go_simp; (try with_reducible rfl))); (try (refine wpAnyL_norm (by simp only [Act.put, List.setIfInBounds_toArray, List.set_cons_zero, List.set_cons_succ]; rfl) ?_))
    refine wpAnyL_take (i := 18) (v := ?_) rfl (by kernel_rfl) (fun _ _ _ h => h) (Or.inl ⟨by rfl, ?_⟩) (by assumption) ?_; rotate_left; (focus (intro w hSw; skip; go_simp; (try with_reducible rfl))); (try (refine wpAnyL_norm (by simp only [Act.put, List.setIfInBounds_toArray, List.set_cons_zero, List.set_cons_succ]; rfl) ?_))
    refine wpAnyL_take (i := 19) (v := ?_) rfl (by kernel_rfl) (fun _ _ _ h => h) (Or.inl ⟨by rfl, ?_⟩) (by assumption) ?_; rotate_left; (focus (intro w hSw; skip; go_simp; (try with_reducible rfl))); (try (refine wpAnyL_norm (by simp only [Act.put, List.setIfInBounds_toArray, List.set_cons_zero, List.set_cons_succ]; rfl) ?_))
    refine wpAnyL_take (i := 20) (v := ?_) rfl (by kernel_rfl) (fun _ _ _ h => h) (Or.inl ⟨by rfl, ?_⟩) (by assumption) ?_; rotate_left; (focus (intro w hSw; skip; go_simp; (try with_reducible rfl))); (try (refine wpAnyL_norm (by simp only [Act.put, List.setIfInBounds_toArray, List.set_cons_zero, List.set_cons_succ]; rfl) ?_))
    refine wpAnyL_take (i := 21) (v := ?_) rfl (by kernel_rfl) (fun _ _ _ h => h) (Or.inl ⟨by rfl, ?_⟩) (by assumption) ?_; rotate_left; (focus (intro w hSw; skip; go_simp; (try with_reducible rfl))); (try (refine wpAnyL_norm (by simp only [Act.put, List.setIfInBounds_toArray, List.set_cons_zero, List.set_cons_succ]; rfl) ?_))
    refine wpAnyL_take (i := 22) (v := ?_) rfl (by kernel_rfl) (fun _ _ _ h => h) (Or.inl ⟨by rfl, ?_⟩) (by assumption) ?_; rotate_left; (focus (intro w hSw; skip; go_simp; (try with_reducible rfl))); (try (refine wpAnyL_norm (by simp only [Act.put, List.setIfInBounds_toArray, List.set_cons_zero, List.set_cons_succ]; rfl) ?_))
    refine wpAnyL_take (i := 23) (v := ?_) rfl (by kernel_rfl) (fun _ _ _ h => h) (Or.inl ⟨by rfl, ?_⟩) (by assumption) ?_; rotate_left; (focus (intro w hSw; skip; go_simp; (try with_reducible rfl))); (try (refine wpAnyL_norm (by simp only [Act.put, List.setIfInBounds_toArray, List.set_cons_zero, List.set_cons_succ]; rfl) ?_))
    refine wpAnyL_take (i := 24) (v := ?_) rfl (by kernel_rfl) (fun _ _ _ h => h) (Or.inl ⟨by rfl, ?_⟩) (by assumption) ?_; rotate_left; (focus (intro w hSw; skip; go_simp; (try with_reducible rfl))); (try (refine wpAnyL_norm (by simp only [Act.put, List.setIfInBounds_toArray, List.set_cons_zero, List.set_cons_succ]; rfl) ?_))
    refine wpAnyL_take (i := 25) (v := ?_) rfl (by kernel_rfl) (fun _ _ _ h => h) (Or.inl ⟨by rfl, ?_⟩) (by assumption) ?_; rotate_left; (focus (intro w hSw; skip; go_simp; (try with_reducible rfl))); (try (refine wpAnyL_norm (by simp only [Act.put, List.setIfInBounds_toArray, List.set_cons_zero, List.set_cons_succ]; rfl) ?_))
    refine wpAnyL_take (i := 26) (v := ?_) rfl (by kernel_rfl) (fun _ _ _ h => h) (Or.inl ⟨by rfl, ?_⟩) (by assumption) ?_; rotate_left; (focus (intro w hSw; skip; go_simp; (try with_reducible rfl))); (try (refine wpAnyL_norm (by simp only [Act.put, List.setIfInBounds_toArray, List.set_cons_zero, List.set_cons_succ]; rfl) ?_))
    refine wpAnyL_take (i := 27) (v := ?_) rfl (by kernel_rfl) (fun _ _ _ h => h) (Or.inl ⟨by rfl, ?_⟩) (by assumption) ?_; rotate_left; (focus (intro w hSw; skip; go_simp; (try with_reducible rfl))); (try (refine wpAnyL_norm (by simp only [Act.put, List.setIfInBounds_toArray, List.set_cons_zero, List.set_cons_succ]; rfl) ?_))
    refine wpAnyL_take (i := 28) (v := ?_) rfl (by kernel_rfl) (fun _ _ _ h => h) (Or.inl ⟨by rfl, ?_⟩) (by assumption) ?_; rotate_left; (focus (intro w hSw; skip; go_simp; (try with_reducible rfl))); (try (refine wpAnyL_norm (by simp only [Act.put, List.setIfInBounds_toArray, List.set_cons_zero, List.set_cons_succ]; rfl) ?_))
    refine wpAnyL_take (i := 29) (v := ?_) rfl (by kernel_rfl) (fun _ _ _ h => h) (Or.inl ⟨by rfl, ?_⟩) (by assumption) ?_; rotate_left; (focus (intro w hSw; skip; go_simp; (try with_reducible rfl))); (try (refine wpAnyL_norm (by simp only [Act.put, List.setIfInBounds_toArray, List.set_cons_zero, List.set_cons_succ]; rfl) ?_))
    as_aux_lemma =>
      refine wpAnyL_take (i := 30) (v := ?_) rfl (by kernel_rfl) (fun _ _ _ h => h) (Or.inl ⟨by rfl, ?_⟩) (by assumption) ?_; rotate_left; (focus (intro w hSw; skip; go_simp; (try with_reducible rfl))); (try (refine wpAnyL_norm (by simp only [Act.put, List.setIfInBounds_toArray, List.set_cons_zero, List.set_cons_succ]; rfl) ?_))
      refine wpAnyL_take (i := 31) (v := ?_) rfl (by kernel_rfl) (fun _ _ _ h => h) (Or.inl ⟨by rfl, ?_⟩) (by assumption) ?_; rotate_left; (focus (intro w hSw; skip; go_simp; (try with_reducible rfl))); (try (refine wpAnyL_norm (by simp only [Act.put, List.setIfInBounds_toArray, List.set_cons_zero, List.set_cons_succ]; rfl) ?_))
      refine wpAnyL_take (i := 32) (v := ?_) rfl (by kernel_rfl) (fun _ _ _ h => h) (Or.inl ⟨by rfl, ?_⟩) (by assumption) ?_; rotate_left; (focus (intro w hSw; skip; go_simp; (try with_reducible rfl))); (try (refine wpAnyL_norm (by simp only [Act.put, List.setIfInBounds_toArray, List.set_cons_zero, List.set_cons_succ]; rfl) ?_))
      refine wpAnyL_take (i := 33) (v := ?_) rfl (by kernel_rfl) (fun _ _ _ h => h) (Or.inl ⟨by rfl, ?_⟩) (by assumption) ?_; rotate_left; (focus (intro w hSw; skip; go_simp; (try with_reducible rfl))); (try (refine wpAnyL_norm (by simp only [Act.put, List.setIfInBounds_toArray, List.set_cons_zero, List.set_cons_succ]; rfl) ?_))
      refine wpAnyL_take (i := 34) rfl (by kernel_rfl) (fun _ _ _ h => h) (yields_load_at 31 (.tmp 15) rfl ⟨v13.heap.size, 0, none⟩ rfl [.int .u32 1072, .int .u32 16] _ (fun W h => two_cells h.2.2.1) Tryd.underlying31 rfl infoRgS rfl) (by assumption) ?_; (try (refine wpAnyL_norm (by simp only [Act.put, List.setIfInBounds_toArray, List.set_cons_zero, List.set_cons_succ]; rfl) ?_))
      refine wpAnyL_ready (rs := [35]) (by kernel_rfl) (by simp) ?_; refine AllReadyL.cons rfl (fun K hK => ?_) AllReadyL.nil
      go_simp
      have CC := RG.out 1072 16 w1034
      refine CC.mono ?_
      rintro e w1035 ⟨rfl, hf35⟩
      have H35 := H34.fr0 hf35
      have F35 := F34.trans0 hf35
      refine hK.out _ _ (fun _ => ⟨hHeld.1.fr hf35 (by simp), hHeld.2.1.fr hf35 (by simp), hHeld.2.2.1.fr hf35 (by simp), hHeld.2.2.2.1.fr hf35 (by simp), hHeld.2.2.2.2.fr hf35 (by simp)⟩) (fun hHeld' => ?_); have hHeld := hHeld' (by decide); clear hHeld' hK K; (try (refine wpAnyL_norm (by simp only [Act.put, List.setIfInBounds_toArray, List.set_cons_zero, List.set_cons_succ]; rfl) ?_))
      refine wpAnyL_take (i := 36) (v := ?_) rfl (by kernel_rfl) (fun _ _ _ h => h) (Or.inl ⟨by rfl, ?_⟩) (by assumption) ?_; rotate_left; (focus (intro w hSw; skip; go_simp; (try with_reducible rfl))); (try (refine wpAnyL_norm (by simp only [Act.put, List.setIfInBounds_toArray, List.set_cons_zero, List.set_cons_succ]; rfl) ?_))
      refine wpAnyL_take (i := 37) (v := ?_) rfl (by kernel_rfl) (fun _ _ _ h => h) (Or.inl ⟨by rfl, ?_⟩) (by assumption) ?_; rotate_left; (focus (intro w hSw; skip; go_simp; (try with_reducible rfl))); (try (refine wpAnyL_norm (by simp only [Act.put, List.setIfInBounds_toArray, List.set_cons_zero, List.set_cons_succ]; rfl) ?_))
      refine wpAnyL_take (i := 38) (v := ?_) rfl (by kernel_rfl) (fun _ _ _ h => h) (Or.inl ⟨by rfl, ?_⟩) (by assumption) ?_; rotate_left; (focus (intro w hSw; skip; go_simp; (try with_reducible rfl))); (try (refine wpAnyL_norm (by simp only [Act.put, List.setIfInBounds_toArray, List.set_cons_zero, List.set_cons_succ]; rfl) ?_))
      refine wpAnyL_take (i := 39) (v := ?_) rfl (by kernel_rfl) (fun _ _ _ h => h) (Or.inl ⟨by rfl, ?_⟩) (by assumption) ?_; rotate_left; (focus (intro w hSw; skip; go_simp; (try with_reducible rfl))); (try (refine wpAnyL_norm (by simp only [Act.put, List.setIfInBounds_toArray, List.set_cons_zero, List.set_cons_succ]; rfl) ?_))
      refine wpAnyL_take (i := 40) (v := ?_) rfl (by kernel_rfl) (fun _ _ _ h => h) (Or.inl ⟨by rfl, ?_⟩) (by assumption) ?_; rotate_left; (focus (intro w hSw; skip; go_simp; (try with_reducible rfl))); (try (refine wpAnyL_norm (by simp only [Act.put, List.setIfInBounds_toArray, List.set_cons_zero, List.set_cons_succ]; rfl) ?_))
      refine wpAnyL_take (i := 41) (v := ?_) rfl (by kernel_rfl) (fun _ _ _ h => h) (Or.inl ⟨by rfl, ?_⟩) (by assumption) ?_; rotate_left; (focus (intro w hSw; skip; go_simp; (try with_reducible rfl))); (try (refine wpAnyL_norm (by simp only [Act.put, List.setIfInBounds_toArray, List.set_cons_zero, List.set_cons_succ]; rfl) ?_))
      refine wpAnyL_take (i := 42) (v := ?_) rfl (by kernel_rfl) (fun _ _ _ h => h) (Or.inl ⟨by rfl, ?_⟩) (by assumption) ?_; rotate_left; (focus (intro w hSw; skip; go_simp; (try with_reducible rfl))); (try (refine wpAnyL_norm (by simp only [Act.put, List.setIfInBounds_toArray, List.set_cons_zero, List.set_cons_succ]; rfl) ?_))
      refine wpAnyL_take (i := 43) (v := ?_) rfl (by kernel_rfl) (fun _ _ _ h => h) (Or.inl ⟨by rfl, ?_⟩) (by assumption) ?_; rotate_left; (focus (intro w hSw; skip; go_simp; (try with_reducible rfl))); (try (refine wpAnyL_norm (by simp only [Act.put, List.setIfInBounds_toArray, List.set_cons_zero, List.set_cons_succ]; rfl) ?_))
      refine wpAnyL_take (i := 44) (v := ?_) rfl (by kernel_rfl) (fun _ _ _ h => h) (Or.inl ⟨by rfl, ?_⟩) (by assumption) ?_; rotate_left; (focus (intro w hSw; skip; go_simp; (try with_reducible rfl))); (try (refine wpAnyL_norm (by simp only [Act.put, List.setIfInBounds_toArray, List.set_cons_zero, List.set_cons_succ]; rfl) ?_))
      refine wpAnyL_take (i := 45) (v := ?_) rfl (by kernel_rfl) (fun _ _ _ h => h) (Or.inl ⟨by rfl, ?_⟩) (by assumption) ?_; rotate_left; (focus (intro w hSw; skip; go_simp; (try with_reducible rfl))); (try (refine wpAnyL_norm (by simp only [Act.put, List.setIfInBounds_toArray, List.set_cons_zero, List.set_cons_succ]; rfl) ?_))
      refine wpAnyL_take (i := 46) (v := ?_) rfl (by kernel_rfl) (fun _ _ _ h => h) (Or.inl ⟨by rfl, ?_⟩) (by assumption) ?_; rotate_left; (focus (intro w hSw; skip; go_simp; (try with_reducible rfl))); (try (refine wpAnyL_norm (by simp only [Act.put, List.setIfInBounds_toArray, List.set_cons_zero, List.set_cons_succ]; rfl) ?_))
      refine wpAnyL_take (i := 47) rfl (by kernel_rfl) (fun _ _ _ h => h) (yields_load_at 31 (.tmp 19) rfl ⟨v16.heap.size, 0, none⟩ rfl [.int .u32 1040, .int .u32 16] _ (fun W h => two_cells h.2.2.2.1) Tryd.underlying31 rfl infoRgS rfl) (by assumption) ?_; (try (refine wpAnyL_norm (by simp only [Act.put, List.setIfInBounds_toArray, List.set_cons_zero, List.set_cons_succ]; rfl) ?_))
      refine wpAnyL_ready (rs := [48]) (by kernel_rfl) (by simp) ?_; refine AllReadyL.cons rfl (fun K hK => ?_) AllReadyL.nil
      go_simp
      have CC := RG.out 1040 16 w1035
      refine CC.mono ?_
      rintro e w1036 ⟨rfl, hf36⟩
      have H36 := H35.fr0 hf36
      have F36 := F35.trans0 hf36
      refine hK.out _ _ (fun _ => ⟨hHeld.1.fr hf36 (by simp), hHeld.2.1.fr hf36 (by simp), hHeld.2.2.1.fr hf36 (by simp), hHeld.2.2.2.1.fr hf36 (by simp), hHeld.2.2.2.2.fr hf36 (by simp)⟩) (fun hHeld' => ?_); have hHeld := hHeld' (by decide); clear hHeld' hK K; (try (refine wpAnyL_norm (by simp only [Act.put, List.setIfInBounds_toArray, List.set_cons_zero, List.set_cons_succ]; rfl) ?_))
      refine wpAnyL_take (i := 49) (v := ?_) rfl (by kernel_rfl) (fun _ _ _ h => h) (Or.inl ⟨by rfl, ?_⟩) (by assumption) ?_; rotate_left; (focus (intro w hSw; skip; go_simp; (try with_reducible rfl))); (try (refine wpAnyL_norm (by simp only [Act.put, List.setIfInBounds_toArray, List.set_cons_zero, List.set_cons_succ]; rfl) ?_))
      refine wpAnyL_take (i := 50) (v := ?_) rfl (by kernel_rfl) (fun _ _ _ h => h) (Or.inl ⟨by rfl, ?_⟩) (by assumption) ?_; rotate_left; (focus (intro w hSw; skip; go_simp; (try with_reducible rfl))); (try (refine wpAnyL_norm (by simp only [Act.put, List.setIfInBounds_toArray, List.set_cons_zero, List.set_cons_succ]; rfl) ?_))
      refine wpAnyL_take (i := 51) (v := ?_) rfl (by kernel_rfl) (fun _ _ _ h => h) (Or.inl ⟨by rfl, ?_⟩) (by assumption) ?_; rotate_left; (focus (intro w hSw; skip; go_simp; (try with_reducible rfl))); (try (refine wpAnyL_norm (by simp only [Act.put, List.setIfInBounds_toArray, List.set_cons_zero, List.set_cons_succ]; rfl) ?_))
      refine wpAnyL_take (i := 52) (v := ?_) rfl (by kernel_rfl) (fun _ _ _ h => h) (Or.inl ⟨by rfl, ?_⟩) (by assumption) ?_; rotate_left; (focus (intro w hSw; skip; go_simp; (try with_reducible rfl))); (try (refine wpAnyL_norm (by simp only [Act.put, List.setIfInBounds_toArray, List.set_cons_zero, List.set_cons_succ]; rfl) ?_))
      refine wpAnyL_ready (rs := [53]) (by kernel_rfl) (by simp) ?_; refine AllReadyL.cons rfl (fun K hK => ?_) AllReadyL.nil
      go_simp
      have CC := room_any H36.h
      rw [MR.out] at CC
      refine CC.mono ?_
      rintro e w1037 ⟨rfl, hf37⟩
      have H37 := H36.fr0 hf37
      have F37 := F36.trans0 hf37
      refine hK.out _ _ (fun _ => ⟨hHeld.1.fr hf37 (by simp), hHeld.2.1.fr hf37 (by simp), hHeld.2.2.1.fr hf37 (by simp), hHeld.2.2.2.1.fr hf37 (by simp), hHeld.2.2.2.2.fr hf37 (by simp)⟩) (fun hHeld' => ?_); have hHeld := hHeld' (by decide); clear hHeld' hK K; (try (refine wpAnyL_norm (by simp only [Act.put, List.setIfInBounds_toArray, List.set_cons_zero, List.set_cons_succ]; rfl) ?_))
      refine wpAnyL_take (i := 54) (v := ?_) rfl (by kernel_rfl) (fun _ _ _ h => h) (Or.inl ⟨by rfl, ?_⟩) (by assumption) ?_; rotate_left; (focus (intro w hSw; skip; go_simp; (try with_reducible rfl))); (try (refine wpAnyL_norm (by simp only [Act.put, List.setIfInBounds_toArray, List.set_cons_zero, List.set_cons_succ]; rfl) ?_))
      refine wpAnyL_take (i := 55) (v := ?_) rfl (by kernel_rfl) (fun _ _ _ h => h) (Or.inl ⟨by rfl, ?_⟩) (by assumption) ?_; rotate_left; (focus (intro w hSw; skip; go_simp; (try with_reducible rfl))); (try (refine wpAnyL_norm (by simp only [Act.put, List.setIfInBounds_toArray, List.set_cons_zero, List.set_cons_succ]; rfl) ?_))
      refine wpAnyL_take (i := 56) (v := ?_) rfl (by kernel_rfl) (fun _ _ _ h => h) (Or.inl ⟨by rfl, ?_⟩) (by assumption) ?_; rotate_left; (focus (intro w hSw; skip; go_simp; (try with_reducible rfl))); (try (refine wpAnyL_norm (by simp only [Act.put, List.setIfInBounds_toArray, List.set_cons_zero, List.set_cons_succ]; rfl) ?_))
      refine wpAnyL_take (i := 57) (v := ?_) rfl (by kernel_rfl) (fun _ _ _ h => h) (Or.inl ⟨by rfl, ?_⟩) (by assumption) ?_; rotate_left; (focus (intro w hSw; skip; go_simp; (try with_reducible rfl))); (try (refine wpAnyL_norm (by simp only [Act.put, List.setIfInBounds_toArray, List.set_cons_zero, List.set_cons_succ]; rfl) ?_))
      refine wpAnyL_take (i := 58) (v := ?_) rfl (by kernel_rfl) (fun _ _ _ h => h) (Or.inl ⟨by rfl, ?_⟩) (by assumption) ?_; rotate_left; (focus (intro w hSw; skip; go_simp; (try with_reducible rfl))); (try (refine wpAnyL_norm (by simp only [Act.put, List.setIfInBounds_toArray, List.set_cons_zero, List.set_cons_succ]; rfl) ?_))
      refine wpAnyL_take (i := 59) (v := ?_) rfl (by kernel_rfl) (fun _ _ _ h => h) (Or.inl ⟨by rfl, ?_⟩) (by assumption) ?_; rotate_left; (focus (intro w hSw; skip; go_simp; (try with_reducible rfl))); (try (refine wpAnyL_norm (by simp only [Act.put, List.setIfInBounds_toArray, List.set_cons_zero, List.set_cons_succ]; rfl) ?_))
      as_aux_lemma =>
        refine wpAnyL_take (i := 60) (v := ?_) rfl (by kernel_rfl) (fun _ _ _ h => h) (Or.inl ⟨by rfl, ?_⟩) (by assumption) ?_; rotate_left; (focus (intro w hSw; skip; go_simp; (try with_reducible rfl))); (try (refine wpAnyL_norm (by simp only [Act.put, List.setIfInBounds_toArray, List.set_cons_zero, List.set_cons_succ]; rfl) ?_))
        refine wpAnyL_take (i := 61) (v := ?_) rfl (by kernel_rfl) (fun _ _ _ h => h) (Or.inl ⟨by rfl, ?_⟩) (by assumption) ?_; rotate_left; (focus (intro w hSw; skip; go_simp; (try with_reducible rfl))); (try (refine wpAnyL_norm (by simp only [Act.put, List.setIfInBounds_toArray, List.set_cons_zero, List.set_cons_succ]; rfl) ?_))
        refine wpAnyL_take (i := 62) (v := ?_) rfl (by kernel_rfl) (fun _ _ _ h => h) (Or.inl ⟨by rfl, ?_⟩) (by assumption) ?_; rotate_left; (focus (intro w hSw; skip; go_simp; (try with_reducible rfl))); (try (refine wpAnyL_norm (by simp only [Act.put, List.setIfInBounds_toArray, List.set_cons_zero, List.set_cons_succ]; rfl) ?_))
        refine wpAnyL_take (i := 63) (v := ?_) rfl (by kernel_rfl) (fun _ _ _ h => h) (Or.inl ⟨by rfl, ?_⟩) (by assumption) ?_; rotate_left; (focus (intro w hSw; skip; go_simp; (try with_reducible rfl))); (try (refine wpAnyL_norm (by simp only [Act.put, List.setIfInBounds_toArray, List.set_cons_zero, List.set_cons_succ]; rfl) ?_))
        refine wpAnyL_take (i := 64) (v := ?_) rfl (by kernel_rfl) (fun _ _ _ h => h) (Or.inl ⟨by rfl, ?_⟩) (by assumption) ?_; rotate_left; (focus (intro w hSw; skip; go_simp; (try with_reducible rfl))); (try (refine wpAnyL_norm (by simp only [Act.put, List.setIfInBounds_toArray, List.set_cons_zero, List.set_cons_succ]; rfl) ?_))
        refine wpAnyL_take (i := 65) (v := ?_) rfl (by kernel_rfl) (fun _ _ _ h => h) (Or.inl ⟨by rfl, ?_⟩) (by assumption) ?_; rotate_left; (focus (intro w hSw; skip; go_simp; (try with_reducible rfl))); (try (refine wpAnyL_norm (by simp only [Act.put, List.setIfInBounds_toArray, List.set_cons_zero, List.set_cons_succ]; rfl) ?_))
        refine wpAnyL_take (i := 66) (v := ?_) rfl (by kernel_rfl) (fun _ _ _ h => h) (Or.inl ⟨by rfl, ?_⟩) (by assumption) ?_; rotate_left; (focus (intro w hSw; skip; go_simp; (try with_reducible rfl))); (try (refine wpAnyL_norm (by simp only [Act.put, List.setIfInBounds_toArray, List.set_cons_zero, List.set_cons_succ]; rfl) ?_))
        refine wpAnyL_take (i := 67) (v := ?_) rfl (by kernel_rfl) (fun _ _ _ h => h) (Or.inl ⟨by rfl, ?_⟩) (by assumption) ?_; rotate_left; (focus (intro w hSw; skip; go_simp; (try with_reducible rfl))); (try (refine wpAnyL_norm (by simp only [Act.put, List.setIfInBounds_toArray, List.set_cons_zero, List.set_cons_succ]; rfl) ?_))
        refine wpAnyL_take (i := 68) (v := ?_) rfl (by kernel_rfl) (fun _ _ _ h => h) (Or.inl ⟨by rfl, ?_⟩) (by assumption) ?_; rotate_left; (focus (intro w hSw; skip; go_simp; (try with_reducible rfl))); (try (refine wpAnyL_norm (by simp only [Act.put, List.setIfInBounds_toArray, List.set_cons_zero, List.set_cons_succ]; rfl) ?_))
        refine wpAnyL_take (i := 69) (v := ?_) rfl (by kernel_rfl) (fun _ _ _ h => h) (Or.inl ⟨by rfl, ?_⟩) (by assumption) ?_; rotate_left; (focus (intro w hSw; skip; go_simp; (try with_reducible rfl))); (try (refine wpAnyL_norm (by simp only [Act.put, List.setIfInBounds_toArray, List.set_cons_zero, List.set_cons_succ]; rfl) ?_))
        refine wpAnyL_take (i := 70) (v := ?_) rfl (by kernel_rfl) (fun _ _ _ h => h) (Or.inl ⟨by rfl, ?_⟩) (by assumption) ?_; rotate_left; (focus (intro w hSw; skip; go_simp; (try with_reducible rfl))); (try (refine wpAnyL_norm (by simp only [Act.put, List.setIfInBounds_toArray, List.set_cons_zero, List.set_cons_succ]; rfl) ?_))
        refine wpAnyL_take (i := 71) (v := ?_) rfl (by kernel_rfl) (fun _ _ _ h => h) (Or.inl ⟨by rfl, ?_⟩) (by assumption) ?_; rotate_left; (focus (intro w hSw; skip; go_simp; (try with_reducible rfl))); (try (refine wpAnyL_norm (by simp only [Act.put, List.setIfInBounds_toArray, List.set_cons_zero, List.set_cons_succ]; rfl) ?_))
        refine wpAnyL_take (i := 72) (v := ?_) rfl (by kernel_rfl) (fun _ _ _ h => h) (Or.inl ⟨by rfl, ?_⟩) (by assumption) ?_; rotate_left; (focus (intro w hSw; skip; go_simp; (try with_reducible rfl))); (try (refine wpAnyL_norm (by simp only [Act.put, List.setIfInBounds_toArray, List.set_cons_zero, List.set_cons_succ]; rfl) ?_))
        refine wpAnyL_take (i := 73) (v := ?_) rfl (by kernel_rfl) (fun _ _ _ h => h) (Or.inl ⟨by rfl, ?_⟩) (by assumption) ?_; rotate_left; (focus (intro w hSw; skip; go_simp; (try with_reducible rfl))); (try (refine wpAnyL_norm (by simp only [Act.put, List.setIfInBounds_toArray, List.set_cons_zero, List.set_cons_succ]; rfl) ?_))
        refine wpAnyL_take (i := 74) (v := ?_) rfl (by kernel_rfl) (fun _ _ _ h => h) (Or.inl ⟨by rfl, ?_⟩) (by assumption) ?_; rotate_left; (focus (intro w hSw; skip; go_simp; (try with_reducible rfl))); (try (refine wpAnyL_norm (by simp only [Act.put, List.setIfInBounds_toArray, List.set_cons_zero, List.set_cons_succ]; rfl) ?_))
        refine wpAnyL_take (i := 75) (v := ?_) rfl (by kernel_rfl) (fun _ _ _ h => h) (Or.inl ⟨by rfl, ?_⟩) (by assumption) ?_; rotate_left; (focus (intro w hSw; skip; go_simp; (try with_reducible rfl))); (try (refine wpAnyL_norm (by simp only [Act.put, List.setIfInBounds_toArray, List.set_cons_zero, List.set_cons_succ]; rfl) ?_))
        refine wpAnyL_take (i := 76) (v := ?_) rfl (by kernel_rfl) (fun _ _ _ h => h) (Or.inl ⟨by rfl, ?_⟩) (by assumption) ?_; rotate_left; (focus (intro w hSw; skip; go_simp; (try with_reducible rfl))); (try (refine wpAnyL_norm (by simp only [Act.put, List.setIfInBounds_toArray, List.set_cons_zero, List.set_cons_succ]; rfl) ?_))
        refine wpAnyL_take (i := 77) (v := ?_) rfl (by kernel_rfl) (fun _ _ _ h => h) (Or.inl ⟨by rfl, ?_⟩) (by assumption) ?_; rotate_left; (focus (intro w hSw; skip; go_simp; (try with_reducible rfl))); (try (refine wpAnyL_norm (by simp only [Act.put, List.setIfInBounds_toArray, List.set_cons_zero, List.set_cons_succ]; rfl) ?_))
        refine wpAnyL_take (i := 78) (v := ?_) rfl (by kernel_rfl) (fun _ _ _ h => h) (Or.inl ⟨by rfl, ?_⟩) (by assumption) ?_; rotate_left; (focus (intro w hSw; skip; go_simp; (try with_reducible rfl))); (try (refine wpAnyL_norm (by simp only [Act.put, List.setIfInBounds_toArray, List.set_cons_zero, List.set_cons_succ]; rfl) ?_))
        refine wpAnyL_take (i := 79) (v := ?_) rfl (by kernel_rfl) (fun _ _ _ h => h) (Or.inl ⟨by rfl, ?_⟩) (by assumption) ?_; rotate_left; (focus (intro w hSw; skip; go_simp; (try with_reducible rfl))); (try (refine wpAnyL_norm (by simp only [Act.put, List.setIfInBounds_toArray, List.set_cons_zero, List.set_cons_succ]; rfl) ?_))
        refine wpAnyL_take (i := 80) (v := ?_) rfl (by kernel_rfl) (fun _ _ _ h => h) (Or.inl ⟨by rfl, ?_⟩) (by assumption) ?_; rotate_left; (focus (intro w hSw; skip; go_simp; (try with_reducible rfl))); (try (refine wpAnyL_norm (by simp only [Act.put, List.setIfInBounds_toArray, List.set_cons_zero, List.set_cons_succ]; rfl) ?_))
        refine wpAnyL_take (i := 81) (v := ?_) rfl (by kernel_rfl) (fun _ _ _ h => h) (Or.inl ⟨by rfl, ?_⟩) (by assumption) ?_; rotate_left; (focus (intro w hSw; skip; go_simp; (try with_reducible rfl))); (try (refine wpAnyL_norm (by simp only [Act.put, List.setIfInBounds_toArray, List.set_cons_zero, List.set_cons_succ]; rfl) ?_))
        refine wpAnyL_take (i := 82) (v := ?_) rfl (by kernel_rfl) (fun _ _ _ h => h) (Or.inl ⟨by rfl, ?_⟩) (by assumption) ?_; rotate_left; (focus (intro w hSw; skip; go_simp; (try with_reducible rfl))); (try (refine wpAnyL_norm (by simp only [Act.put, List.setIfInBounds_toArray, List.set_cons_zero, List.set_cons_succ]; rfl) ?_))
        refine wpAnyL_take (i := 83) (v := ?_) rfl (by kernel_rfl) (fun _ _ _ h => h) (Or.inl ⟨by rfl, ?_⟩) (by assumption) ?_; rotate_left; (focus (intro w hSw; skip; go_simp; (try with_reducible rfl))); (try (refine wpAnyL_norm (by simp only [Act.put, List.setIfInBounds_toArray, List.set_cons_zero, List.set_cons_succ]; rfl) ?_))
        refine wpAnyL_take (i := 84) (v := ?_) rfl (by kernel_rfl) (fun _ _ _ h => h) (Or.inl ⟨by rfl, ?_⟩) (by assumption) ?_; rotate_left; (focus (intro w hSw; skip; go_simp; (try with_reducible rfl))); (try (refine wpAnyL_norm (by simp only [Act.put, List.setIfInBounds_toArray, List.set_cons_zero, List.set_cons_succ]; rfl) ?_))
        refine wpAnyL_take (i := 85) (v := ?_) rfl (by kernel_rfl) (fun _ _ _ h => h) (Or.inl ⟨by rfl, ?_⟩) (by assumption) ?_; rotate_left; (focus (intro w hSw; skip; go_simp; (try with_reducible rfl))); (try (refine wpAnyL_norm (by simp only [Act.put, List.setIfInBounds_toArray, List.set_cons_zero, List.set_cons_succ]; rfl) ?_))
        refine wpAnyL_ready (rs := [86]) (by kernel_rfl) (by simp) ?_; refine AllReadyL.cons rfl (fun K hK => ?_) AllReadyL.nil
        go_simp
        have CC := RG.out 0 16 w1037
        refine CC.mono ?_
        rintro e w1038 ⟨rfl, hf38⟩
        have H38 := H37.fr0 hf38
        have F38 := F37.trans0 hf38
        refine hK.out _ _ (fun _ => ⟨hHeld.1.fr hf38 (by simp), hHeld.2.1.fr hf38 (by simp), hHeld.2.2.1.fr hf38 (by simp), hHeld.2.2.2.1.fr hf38 (by simp), hHeld.2.2.2.2.fr hf38 (by simp)⟩) (fun hHeld' => ?_); have hHeld := hHeld' (by decide); clear hHeld' hK K; (try (refine wpAnyL_norm (by simp only [Act.put, List.setIfInBounds_toArray, List.set_cons_zero, List.set_cons_succ]; rfl) ?_))
        refine wpAnyL_ready (rs := [87]) (by kernel_rfl) (by simp) ?_; refine AllReadyL.cons rfl (fun K hK => ?_) AllReadyL.nil
        go_simp
        have CC := release_none (p := none) 0 16 (fun W (_ : Fr [] w1038 W) => Non.nil W)
        refine CC.mono ?_
        rintro e w1039 ⟨rfl, hf39⟩
        have H39 := H38.fr0 hf39
        have F39 := F38.trans0 hf39
        refine hK.out _ _ (fun _ => ⟨hHeld.1.fr hf39 (by simp), hHeld.2.1.fr hf39 (by simp), hHeld.2.2.1.fr hf39 (by simp), hHeld.2.2.2.1.fr hf39 (by simp), hHeld.2.2.2.2.fr hf39 (by simp)⟩) (fun hHeld' => ?_); have hHeld := hHeld' (by decide); clear hHeld' hK K; (try (refine wpAnyL_norm (by simp only [Act.put, List.setIfInBounds_toArray, List.set_cons_zero, List.set_cons_succ]; rfl) ?_))
        refine wpAnyL_take (i := 88) (v := ?_) rfl (by kernel_rfl) (fun _ _ _ h => h) (Or.inl ⟨by rfl, ?_⟩) (by assumption) ?_; rotate_left; (focus (intro w hSw; skip; go_simp; (try with_reducible rfl))); (try (refine wpAnyL_norm (by simp only [Act.put, List.setIfInBounds_toArray, List.set_cons_zero, List.set_cons_succ]; rfl) ?_))
        refine wpAnyL_take (i := 89) (v := ?_) rfl (by kernel_rfl) (fun _ _ _ h => h) (Or.inl ⟨by rfl, ?_⟩) (by assumption) ?_; rotate_left; (focus (intro w hSw; skip; go_simp; (try with_reducible rfl))); (try (refine wpAnyL_norm (by simp only [Act.put, List.setIfInBounds_toArray, List.set_cons_zero, List.set_cons_succ]; rfl) ?_))
        as_aux_lemma =>
          refine wpAnyL_take (i := 90) (v := ?_) rfl (by kernel_rfl) (fun _ _ _ h => h) (Or.inl ⟨by rfl, ?_⟩) (by assumption) ?_; rotate_left; (focus (intro w hSw; skip; go_simp; (try with_reducible rfl))); (try (refine wpAnyL_norm (by simp only [Act.put, List.setIfInBounds_toArray, List.set_cons_zero, List.set_cons_succ]; rfl) ?_))
          refine wpAnyL_take (i := 91) (v := ?_) rfl (by kernel_rfl) (fun _ _ _ h => h) (Or.inl ⟨by rfl, ?_⟩) (by assumption) ?_; rotate_left; (focus (intro w hSw; skip; go_simp; (try with_reducible rfl))); (try (refine wpAnyL_norm (by simp only [Act.put, List.setIfInBounds_toArray, List.set_cons_zero, List.set_cons_succ]; rfl) ?_))
          refine wpAnyL_ready (rs := [92]) (by kernel_rfl) (by simp) ?_; refine AllReadyL.cons rfl (fun K hK => ?_) AllReadyL.nil
          go_simp
          have CC := live_none (p := some ⟨zq, 0, none⟩) (Non.zero hHeld.2.2.2.2)
          refine CC.mono ?_
          rintro e w1040 ⟨rfl, hw⟩
          rw [hw]
          clear hw
          refine hK.out _ _ (fun _ => hHeld) (fun hHeld' => ?_); have hHeld := hHeld' (by decide); clear hHeld' hK K; (try (refine wpAnyL_norm (by simp only [Act.put, List.setIfInBounds_toArray, List.set_cons_zero, List.set_cons_succ]; rfl) ?_))
          refine wpAnyL_take (i := 93) (v := ?_) rfl (by kernel_rfl) (fun _ _ _ h => h) (Or.inl ⟨by rfl, ?_⟩) (by assumption) ?_; rotate_left; (focus (intro w hSw; skip; go_simp; (try with_reducible rfl))); (try (refine wpAnyL_norm (by simp only [Act.put, List.setIfInBounds_toArray, List.set_cons_zero, List.set_cons_succ]; rfl) ?_))
          refine wpAnyL_take (i := 94) (v := ?_) rfl (by kernel_rfl) (fun _ _ _ h => h) (Or.inl ⟨by rfl, ?_⟩) (by assumption) ?_; rotate_left; (focus (intro w hSw; skip; go_simp; (try with_reducible rfl))); (try (refine wpAnyL_norm (by simp only [Act.put, List.setIfInBounds_toArray, List.set_cons_zero, List.set_cons_succ]; rfl) ?_))
          refine wpAnyL_take (i := 95) (v := ?_) rfl (by kernel_rfl) (fun _ _ _ h => h) (Or.inl ⟨by rfl, ?_⟩) (by assumption) ?_; rotate_left; (focus (intro w hSw; skip; go_simp; (try with_reducible rfl))); (try (refine wpAnyL_norm (by simp only [Act.put, List.setIfInBounds_toArray, List.set_cons_zero, List.set_cons_succ]; rfl) ?_))
          refine wpAnyL_take (i := 96) (v := ?_) rfl (by kernel_rfl) (fun _ _ _ h => h) (Or.inl ⟨by rfl, ?_⟩) (by assumption) ?_; rotate_left; (focus (intro w hSw; skip; go_simp; (try with_reducible rfl))); (try (refine wpAnyL_norm (by simp only [Act.put, List.setIfInBounds_toArray, List.set_cons_zero, List.set_cons_succ]; rfl) ?_))
          refine wpAnyL_take (i := 97) (v := ?_) rfl (by kernel_rfl) (fun _ _ _ h => h) (Or.inl ⟨by rfl, ?_⟩) (by assumption) ?_; rotate_left; (focus (intro w hSw; skip; go_simp; (try with_reducible rfl))); (try (refine wpAnyL_norm (by simp only [Act.put, List.setIfInBounds_toArray, List.set_cons_zero, List.set_cons_succ]; rfl) ?_))
          refine wpAnyL_ready (rs := [98]) (by kernel_rfl) (by simp) ?_; refine AllReadyL.cons rfl (fun K hK => ?_) AllReadyL.nil
          go_simp
          have CC := rest_none (p := none) (Non.nil w1039)
          refine CC.mono ?_
          rintro e w1040 ⟨rfl, hw⟩
          rw [hw]
          clear hw
          refine hK.out _ _ (fun _ => hHeld) (fun hHeld' => ?_); have hHeld := hHeld' (by decide); clear hHeld' hK K; (try (refine wpAnyL_norm (by simp only [Act.put, List.setIfInBounds_toArray, List.set_cons_zero, List.set_cons_succ]; rfl) ?_))
          refine wpAnyL_take (i := 99) (v := ?_) rfl (by kernel_rfl) (fun _ _ _ h => h) (Or.inl ⟨by rfl, ?_⟩) (by assumption) ?_; rotate_left; (focus (intro w hSw; skip; go_simp; (try with_reducible rfl))); (try (refine wpAnyL_norm (by simp only [Act.put, List.setIfInBounds_toArray, List.set_cons_zero, List.set_cons_succ]; rfl) ?_))
          refine wpAnyL_take (i := 100) (v := ?_) rfl (by kernel_rfl) (fun _ _ _ h => h) (Or.inl ⟨by rfl, ?_⟩) (by assumption) ?_; rotate_left; (focus (intro w hSw; skip; go_simp; (try with_reducible rfl))); (try (refine wpAnyL_norm (by simp only [Act.put, List.setIfInBounds_toArray, List.set_cons_zero, List.set_cons_succ]; rfl) ?_))
          refine wpAnyL_take (i := 101) (v := ?_) rfl (by kernel_rfl) (fun _ _ _ h => h) (Or.inl ⟨by rfl, ?_⟩) (by assumption) ?_; rotate_left; (focus (intro w hSw; skip; go_simp; (try with_reducible rfl))); (try (refine wpAnyL_norm (by simp only [Act.put, List.setIfInBounds_toArray, List.set_cons_zero, List.set_cons_succ]; rfl) ?_))
          refine wpAnyL_take (i := 102) (v := ?_) rfl (by kernel_rfl) (fun _ _ _ h => h) (Or.inl ⟨by rfl, ?_⟩) (by assumption) ?_; rotate_left; (focus (intro w hSw; skip; go_simp; (try with_reducible rfl))); (try (refine wpAnyL_norm (by simp only [Act.put, List.setIfInBounds_toArray, List.set_cons_zero, List.set_cons_succ]; rfl) ?_))
          refine wpAnyL_take (i := 103) (v := ?_) rfl (by kernel_rfl) (fun _ _ _ h => h) (Or.inl ⟨by rfl, ?_⟩) (by assumption) ?_; rotate_left; (focus (intro w hSw; skip; go_simp; (try with_reducible rfl))); (try (refine wpAnyL_norm (by simp only [Act.put, List.setIfInBounds_toArray, List.set_cons_zero, List.set_cons_succ]; rfl) ?_))
          refine wpAnyL_ready (rs := [104]) (by kernel_rfl) (by simp) ?_; refine AllReadyL.cons rfl (fun K hK => ?_) AllReadyL.nil
          go_simp
          have CC := room_none (p := none) (Non.nil w1039)
          refine CC.mono ?_
          rintro e w1040 ⟨rfl, hw⟩
          rw [hw]
          clear hw
          refine hK.out _ _ (fun _ => hHeld) (fun hHeld' => ?_); have hHeld := hHeld' (by decide); clear hHeld' hK K; (try (refine wpAnyL_norm (by simp only [Act.put, List.setIfInBounds_toArray, List.set_cons_zero, List.set_cons_succ]; rfl) ?_))
          refine wpAnyL_take (i := 105) (v := ?_) rfl (by kernel_rfl) (fun _ _ _ h => h) (Or.inl ⟨by rfl, ?_⟩) (by assumption) ?_; rotate_left; (focus (intro w hSw; skip; go_simp; (try with_reducible rfl))); (try (refine wpAnyL_norm (by simp only [Act.put, List.setIfInBounds_toArray, List.set_cons_zero, List.set_cons_succ]; rfl) ?_))
          refine wpAnyL_take (i := 106) (v := ?_) rfl (by kernel_rfl) (fun _ _ _ h => h) (Or.inl ⟨by rfl, ?_⟩) (by assumption) ?_; rotate_left; (focus (intro w hSw; skip; go_simp; (try with_reducible rfl))); (try (refine wpAnyL_norm (by simp only [Act.put, List.setIfInBounds_toArray, List.set_cons_zero, List.set_cons_succ]; rfl) ?_))
          refine wpAnyL_take (i := 107) (v := ?_) rfl (by kernel_rfl) (fun _ _ _ h => h) (Or.inl ⟨by rfl, ?_⟩) (by assumption) ?_; rotate_left; (focus (intro w hSw; skip; go_simp; (try with_reducible rfl))); (try (refine wpAnyL_norm (by simp only [Act.put, List.setIfInBounds_toArray, List.set_cons_zero, List.set_cons_succ]; rfl) ?_))
          refine wpAnyL_take (i := 108) (v := ?_) rfl (by kernel_rfl) (fun _ _ _ h => h) (Or.inl ⟨by rfl, ?_⟩) (by assumption) ?_; rotate_left; (focus (intro w hSw; skip; go_simp; (try with_reducible rfl))); (try (refine wpAnyL_norm (by simp only [Act.put, List.setIfInBounds_toArray, List.set_cons_zero, List.set_cons_succ]; rfl) ?_))
          refine wpAnyL_ready (rs := [109]) (by kernel_rfl) (by simp) ?_; refine AllReadyL.cons rfl (fun K hK => ?_) AllReadyL.nil
          go_simp
          have CC := copy_none (p := some ⟨zq, 0, none⟩) (Non.zero hHeld.2.2.2.2)
          refine CC.mono ?_
          rintro e w1040 ⟨rfl, hw⟩
          rw [hw]
          clear hw
          refine hK.out _ _ (fun _ => hHeld) (fun hHeld' => ?_); have hHeld := hHeld' (by decide); clear hHeld' hK K; (try (refine wpAnyL_norm (by simp only [Act.put, List.setIfInBounds_toArray, List.set_cons_zero, List.set_cons_succ]; rfl) ?_))
          refine wpAnyL_take (i := 110) (v := ?_) rfl (by kernel_rfl) (fun _ _ _ h => h) (Or.inl ⟨by rfl, ?_⟩) (by assumption) ?_; rotate_left; (focus (intro w hSw; skip; go_simp; (try with_reducible rfl))); (try (refine wpAnyL_norm (by simp only [Act.put, List.setIfInBounds_toArray, List.set_cons_zero, List.set_cons_succ]; rfl) ?_))
          refine wpAnyL_take (i := 111) (v := ?_) rfl (by kernel_rfl) (fun _ _ _ h => h) (Or.inl ⟨by rfl, ?_⟩) (by assumption) ?_; rotate_left; (focus (intro w hSw; skip; go_simp; (try with_reducible rfl))); (try (refine wpAnyL_norm (by simp only [Act.put, List.setIfInBounds_toArray, List.set_cons_zero, List.set_cons_succ]; rfl) ?_))
          refine wpAnyL_take (i := 112) (v := ?_) rfl (by kernel_rfl) (fun _ _ _ h => h) (Or.inl ⟨by rfl, ?_⟩) (by assumption) ?_; rotate_left; (focus (intro w hSw; skip; go_simp; (try with_reducible rfl))); (try (refine wpAnyL_norm (by simp only [Act.put, List.setIfInBounds_toArray, List.set_cons_zero, List.set_cons_succ]; rfl) ?_))
          refine wpAnyL_take (i := 113) (v := ?_) rfl (by kernel_rfl) (fun _ _ _ h => h) (Or.inl ⟨by rfl, ?_⟩) (by assumption) ?_; rotate_left; (focus (intro w hSw; skip; go_simp; (try with_reducible rfl))); (try (refine wpAnyL_norm (by simp only [Act.put, List.setIfInBounds_toArray, List.set_cons_zero, List.set_cons_succ]; rfl) ?_))
          refine wpAnyL_ready (rs := [114]) (by kernel_rfl) (by simp) ?_; refine AllReadyL.cons rfl (fun K hK => ?_) AllReadyL.nil
          go_simp
          have CC := copy_none (p := none) (Non.nil w1039)
          refine CC.mono ?_
          rintro e w1040 ⟨rfl, hw⟩
          rw [hw]
          clear hw
          refine hK.out _ _ (fun _ => hHeld) (fun hHeld' => ?_); have hHeld := hHeld' (by decide); clear hHeld' hK K; (try (refine wpAnyL_norm (by simp only [Act.put, List.setIfInBounds_toArray, List.set_cons_zero, List.set_cons_succ]; rfl) ?_))
          refine wpAnyL_take (i := 115) (v := ?_) rfl (by kernel_rfl) (fun _ _ _ h => h) (Or.inl ⟨by rfl, ?_⟩) (by assumption) ?_; rotate_left; (focus (intro w hSw; skip; go_simp; (try with_reducible rfl))); (try (refine wpAnyL_norm (by simp only [Act.put, List.setIfInBounds_toArray, List.set_cons_zero, List.set_cons_succ]; rfl) ?_))
          refine wpAnyL_take (i := 116) (v := ?_) rfl (by kernel_rfl) (fun _ _ _ h => h) (Or.inl ⟨by rfl, ?_⟩) (by assumption) ?_; rotate_left; (focus (intro w hSw; skip; go_simp; (try with_reducible rfl))); (try (refine wpAnyL_norm (by simp only [Act.put, List.setIfInBounds_toArray, List.set_cons_zero, List.set_cons_succ]; rfl) ?_))
          refine wpAnyL_take (i := 117) (v := ?_) rfl (by kernel_rfl) (fun _ _ _ h => h) (Or.inl ⟨by rfl, ?_⟩) (by assumption) ?_; rotate_left; (focus (intro w hSw; skip; go_simp; (try with_reducible rfl))); (try (refine wpAnyL_norm (by simp only [Act.put, List.setIfInBounds_toArray, List.set_cons_zero, List.set_cons_succ]; rfl) ?_))
          refine wpAnyL_done (by kernel_rfl) ?_ _
          go_wp2
          go_ret
          exact ⟨rfl, F39⟩
theorem laidOut : laidOutB Tryd.prog = true := by kernel_rfl
set_option maxRecDepth 100000 in
theorem lifted (os : Os) (started : os.Started) (H : Type) (enc : TypeId × Value → H) :
    ReturnsInHanded {} Tryd.checked os 6 .any (fun w args => (Rows.heapKnownSpec.pre enc Tryd.prog Tryd.f6 [] false w args ∧ laidMetH Tryd.prog laidL w) ∧ sizedMet enc Tryd.prog Tryd.f6 (OpenSpec.ofChange Rows.heapKnownSpec) false w args) (Rows.heapKnownSpec.post enc Tryd.prog Tryd.f6 false true false false) := by
  refine returnsInHanded_of_change_and (C := Tryd.checked) (X := fun w _ => laidMetH Tryd.prog laidL w) (fun _ _ _ hh h => h.of_heap hh) own started (by kernel_rfl) Tryd.func6
    (ChangeSpec.witness_at (enc := enc) (C := Tryd.checked) (os := os) (X := fun w _ => laidMetH Tryd.prog laidL w) false (laidWorld os) #[] 8 rfl (by kernel_rfl) (by kernel_rfl) (by kernel_rfl) (by kernel_rfl) (by kernel_rfl) (laidWorld_met os _)) ?_
  intro W base args ds gs before hval0 hW _ _ hL _
  have hT := tab_of_laid hL
  have hval : ∀ (j : Nat) t v, Tryd.f6.params[j]? = some t → args[j]? = some v → Value.okWide Tryd.prog W .any base t v := hval0
  have hW' := hW
  obtain ⟨p, q, hA0, hV, rfl, hfz, hnd⟩ := hW
  have hA : DataW.TrodAll enc Tryd.prog W 0 (fun _ => true) true Tryd.f6.params.toList args.toList ds p := hA0
  rw [Tryd.params6] at hA hval
  obtain ⟨rfl, rfl, rfl⟩ := trodAll_none hA
  obtain ⟨rfl, rfl⟩ := trodVars_none hV
  clear hA0 hval0
  simp only [List.append_nil] at hW'
  refine (walk  W hT).mono fun e W' ⟨he, hg⟩ => ?_
  subst he
  exact ⟨_, rfl, post_fr (pa := []) (pv := []) hW' (fun _ _ _ => (trodAll_cons_mk (shut_bool Tryd.underlying4 _) trodAll_mk0)) (fun sp _ => rfl) (fun _ _ => rfl) rfl
    hg (ok_one (by kernel_rfl) rfl (okWide_bool_mk Tryd.underlying4 _))⟩
theorem over : Rows.heapKnownRow.holds Tryd.pinned (OpenSpec.ofChange Rows.heapKnownSpec) :=
  OpenClaim.holds_of_wide 6 Tryd.f6 rfl rfl rfl rfl rfl rfl rfl ⟨rfl, rfl, rfl, rfl, rfl⟩ rfl rfl rfl rfl rfl (by kernel_rfl) Tryd.func6 (by kernel_rfl)
    (of_decide_eq_true (by kernel_rfl)) (by unfold Func.isWrapper; first | (rw [if_pos (by decide +kernel)]; kernel_rfl) | (rw [if_neg (by decide +kernel)]; exact ⟨rfl, rfl⟩))
    (fun os started H enc _ => lifted os started H enc)
set_option maxRecDepth 100000 in
/-- The card, tied. -/
theorem proved : Rows.HeapKnownCardSaid :=
  Claim7.holds_tied_plain_at .later [] [.data] true (true, "8ce21f2ef25034e41947e6acf6b6718bb579e8dab5a546fffb3a11b6bc30a79c") true
    over (fun _ h => by cases h) (by kernel_rfl) (fun _ h => by cases h) heapKnown_row_tie rfl ⟨rfl, rfl⟩ (by kernel_rfl) rfl
    (fun f fn hf hfn => by
      obtain rfl : f = 6 := Option.some.inj ((show Tryd.prog.funcNamed "fallow/fallowlaw14.HeapKnown" = some 6 by kernel_rfl).symm.trans hf) |>.symm
      obtain rfl : fn = Tryd.f6 := (Option.some.inj (Tryd.func6.symm.trans hfn)).symm
      exact ⟨by kernel_rfl, fun j t ht => by
        have hm : t ∈ Tryd.f6.params.toList := by simpa using Array.mem_of_getElem? ht
        have hall : (Tryd.f6.params.toList.all fun u => !Tryd.prog.wantsStandIn u) = true := by kernel_rfl
        exact (show Tryd.prog.wantsStandIn t = false by simpa using List.all_eq_true.1 hall t hm)⟩)
    (by kernel_rfl)
end heapKnown
end Go.Proofs.YtdbpmojblgmhdaaDoor
