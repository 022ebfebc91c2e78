/-
  PaintKnown: the chapter's examples. No condition.
-/


import Derived.Test.YtkkbbadcickicaaWorks
import Derived.Test.YtkkbbadcickicaaLists
set_option linter.unusedVariables false
namespace Go.Proofs.Ytkkbbadcickicaa
open Go.ChangeShapes Go.WideShapes Go.ChangeAt Go.RowKit
namespace paintKnown
def k1 : Nat → Bool := newC 16 z0 32 32 true
def k2 : Nat → Bool := newC 16 k1 64 16 true
def k3 : Nat → Bool := newC 16 k2 32 48 false
set_option maxHeartbeats 8000000 in
set_option maxRecDepth 100000 in
theorem walk (w : World) : Calls Try.prog 6 #[] w fun e w' => e = .returned (.bool true) ∧ Fr [] w w' := by
  have hbs : ∀ w : World, (Instr.buildSlice 50 7 #[(0, .agg #[.int .u32 8, .int .u32 16]), (1, .agg #[.int .u32 0, .int .u32 0]), (2, .agg #[.int .u32 0, .int .u32 8]), (3, .agg #[.int .u32 240, .int .u32 32]), (4, .agg #[.int .u32 4294967280, .int .u32 32]), (5, .agg #[.int .u32 256, .int .u32 16]), (6, .agg #[.int .u32 16, .int .u32 32])]).run Try.prog w = .ok (.slice (some ⟨w.heap.size, 0, none⟩) 7 7) (w.alloc (.cells #[.int .u32 8, .int .u32 16, .int .u32 0, .int .u32 0, .int .u32 0, .int .u32 8, .int .u32 240, .int .u32 32, .int .u32 4294967280, .int .u32 32, .int .u32 256, .int .u32 16, .int .u32 16, .int .u32 32] 28)) := fun w => by kernel_rfl
  go_enter Try.func6, Try.ntmps6
  go_wp2_with fail
  refine (ptnew_bad (15) _ (by omega)).mono ?_
  rintro e w' ⟨rfl, rfl⟩
  go_wp2_with fail
  refine (ptnew_bad (-16) _ (by omega)).mono ?_
  rintro e w' ⟨rfl, rfl⟩
  go_wp2_with fail
  refine (ptnew_bad (262160) _ (by omega)).mono ?_
  rintro e w' ⟨rfl, rfl⟩
  go_wp2_with fail
  refine (ptnew_any 16384 _ (by omega)).mono ?_
  rintro e w1 ⟨pp1, p1, g1, rfl, h1, hpp1, hp1, hg1, hf1⟩
  have F1 := Lib.hid hf1
  clear h1 hpp1 hp1 hg1
  clear hf1
  go_wp2_with fail
  refine (ptnew_any 0 _ (by omega)).mono ?_
  rintro e w2 ⟨pp2, p2, g2, rfl, h2, hpp2, hp2, hg2, hf2⟩
  have F2 := Lib.hid (F1.out.trans0 hf2)
  clear h2 hpp2 hp2 hg2
  clear hf2
  go_wp2_with fail
  refine (ptnew_any 16 _ (by omega)).mono ?_
  rintro e w3 ⟨pp3, p3, g3, rfl, h3, hpp3, hp3, hg3, hf3⟩
  have F3 := Lib.hid (F2.out.trans0 hf3)
  have hsw0 := F2.out.size
  have hls := h3.lt
  have hsw := F3.out.size
  clear hf3
  go_wp2_with fail
  refine (ptcount_is h3 0 (by decide +kernel)).mono ?_
  rintro e w' ⟨rfl, rfl⟩
  go_wp2_with fail
  refine (ptadd_is h3 32 32 true k1 ⟨by omega, by omega⟩ ⟨by omega, by omega⟩ (by decide +kernel) (by rfl)).mono ?_
  rintro e w4 ⟨rfl, h4, hf4⟩
  have F4 := Lib.hid (F3.out.trans hf4 (by simp; omega))
  clear hf4
  go_wp2_with fail
  refine (ptadd_is h4 48 16 false _ ⟨by omega, by omega⟩ ⟨by omega, by omega⟩ (by decide +kernel) rfl).mono ?_
  rintro e w5 ⟨rfl, h5, hf5⟩
  have h5 : Pt w5 pp3 p3 g3 16 k1 := by
    have e : newC 16 k1 48 16 true = k1 := by unfold newC; rw [if_neg (by decide +kernel)]
    rw [e] at h5; exact h5
  have F5 := Lib.hid (F4.out.trans hf5 (by simp; omega))
  clear hf5
  go_wp2_with fail
  refine (ptadd_is h5 64 16 true k2 ⟨by omega, by omega⟩ ⟨by omega, by omega⟩ (by decide +kernel) (by rfl)).mono ?_
  rintro e w6 ⟨rfl, h6, hf6⟩
  have F6 := Lib.hid (F5.out.trans hf6 (by simp; omega))
  clear hf6
  go_wp2_with fail
  refine (ptcount_is h6 3 (by decide +kernel)).mono ?_
  rintro e w' ⟨rfl, rfl⟩
  go_wp2_with fail
  refine wp_loop_rounds 7 ?_
  have AX := At.new w6 26 #[.int .u32 32, .int .u32 63, .int .u32 79, .int .u32 31, .int .u32 80, .int .u32 4294967295]
  have hfa7 : Fr [] w6 (w6.alloc (.cells #[.int .u32 32, .int .u32 63, .int .u32 79, .int .u32 31, .int .u32 80, .int .u32 4294967295] 26)) := (by repeat (first | exact Fr.refl _ _ | assumption | refine Fr.trans0 ?_ (by assumption) | refine Fr.drewN ?_ _ | refine Fr.alloc ?_ _ | refine Fr.drew ?_))
  have hsz7 : w6.heap.size + 1 = (w6.alloc (.cells #[.int .u32 32, .int .u32 63, .int .u32 79, .int .u32 31, .int .u32 80, .int .u32 4294967295] 26)).heap.size := by simp
  have h7 := h6.fr hfa7 (by simp) (by simp) (by simp)
  have F7 := Lib.hid (F6.out.trans0 hfa7)
  have hl7 := h7.lt
  rw [rounds_succ]
  go_wp2_with fail
  refine (pthas_is h7 32 true ⟨by omega, by omega⟩ (by decide +kernel)).mono ?_
  rintro e w' ⟨rfl, rfl⟩
  go_wp2_with fail
  rw [rounds_succ]
  go_wp2_with fail
  refine (pthas_is h7 63 true ⟨by omega, by omega⟩ (by decide +kernel)).mono ?_
  rintro e w' ⟨rfl, rfl⟩
  go_wp2_with fail
  rw [rounds_succ]
  go_wp2_with fail
  refine (pthas_is h7 79 true ⟨by omega, by omega⟩ (by decide +kernel)).mono ?_
  rintro e w' ⟨rfl, rfl⟩
  go_wp2_with fail
  rw [rounds_succ]
  go_wp2_with fail
  refine (pthas_is h7 31 false ⟨by omega, by omega⟩ (by decide +kernel)).mono ?_
  rintro e w' ⟨rfl, rfl⟩
  go_wp2_with fail
  rw [rounds_succ]
  go_wp2_with fail
  refine (pthas_is h7 80 false ⟨by omega, by omega⟩ (by decide +kernel)).mono ?_
  rintro e w' ⟨rfl, rfl⟩
  go_wp2_with fail
  rw [rounds_succ]
  go_wp2_with fail
  refine (pthas_is h7 4294967295 false ⟨by omega, by omega⟩ (by decide +kernel)).mono ?_
  rintro e w' ⟨rfl, rfl⟩
  go_wp2_with fail
  rw [rounds_succ]
  go_wp2_with fail
  refine wp_buildSlice 50 7 _ _ _ _ (hbs _) rfl (by simp [go_sem]) ?_
  simp only [Act.put, List.setIfInBounds_toArray, List.set_cons_zero, List.set_cons_succ]
  have AS := At.new (w6.alloc (.cells #[.int .u32 32, .int .u32 63, .int .u32 79, .int .u32 31, .int .u32 80, .int .u32 4294967295] 26)) 28 #[.int .u32 8, .int .u32 16, .int .u32 0, .int .u32 0, .int .u32 0, .int .u32 8, .int .u32 240, .int .u32 32, .int .u32 4294967280, .int .u32 32, .int .u32 256, .int .u32 16, .int .u32 16, .int .u32 32]
  have hfa8 : Fr [] (w6.alloc (.cells #[.int .u32 32, .int .u32 63, .int .u32 79, .int .u32 31, .int .u32 80, .int .u32 4294967295] 26)) ((w6.alloc (.cells #[.int .u32 32, .int .u32 63, .int .u32 79, .int .u32 31, .int .u32 80, .int .u32 4294967295] 26)).alloc (.cells #[.int .u32 8, .int .u32 16, .int .u32 0, .int .u32 0, .int .u32 0, .int .u32 8, .int .u32 240, .int .u32 32, .int .u32 4294967280, .int .u32 32, .int .u32 256, .int .u32 16, .int .u32 16, .int .u32 32] 28)) := (by repeat (first | exact Fr.refl _ _ | assumption | refine Fr.trans0 ?_ (by assumption) | refine Fr.drewN ?_ _ | refine Fr.alloc ?_ _ | refine Fr.drew ?_))
  have h8 := h7.fr hfa8 (by simp) (by simp) (by simp)
  have F8 := Lib.hid (F7.out.trans0 hfa8)
  have hl8 := h8.lt
  obtain ⟨w8, hw8⟩ : ∃ W, (w6.alloc (.cells #[.int .u32 32, .int .u32 63, .int .u32 79, .int .u32 31, .int .u32 80, .int .u32 4294967295] 26)).alloc (.cells #[.int .u32 8, .int .u32 16, .int .u32 0, .int .u32 0, .int .u32 0, .int .u32 8, .int .u32 240, .int .u32 32, .int .u32 4294967280, .int .u32 32, .int .u32 256, .int .u32 16, .int .u32 16, .int .u32 32] 28) = W := ⟨_, rfl⟩
  obtain ⟨S, hS⟩ : ∃ S, (w6.alloc (.cells #[.int .u32 32, .int .u32 63, .int .u32 79, .int .u32 31, .int .u32 80, .int .u32 4294967295] 26)).heap.size = S := ⟨_, rfl⟩
  have hS2 := hS
  rw [World.size_alloc] at hS2
  rw [hS] at AS
  rw [hw8] at AS h8 F8 hl8 hfa8
  rw [hw8, hS]
  have hSg : S ≠ g3 := by omega
  clear hw8 hS hS2 AX hfa8 hfa7
  clear hbs
  go_wp2
  refine wp_loop_rounds 8 ?_
  rw [rounds_succ]
  have d0 := AS.cell 0
  have d1 := AS.cell 1
  simp only [List.getElem?_toArray, List.getElem?_cons_zero, List.getElem?_cons_succ] at d0 d1
  go_wp2_with fail
  have AR0 := At.new w8 28 #[.int .u32 8, .int .u32 16]
  have hfa9 : Fr [] w8 (w8.alloc (.cells #[.int .u32 8, .int .u32 16] 28)) := (by repeat (first | exact Fr.refl _ _ | assumption | refine Fr.trans0 ?_ (by assumption) | refine Fr.drewN ?_ _ | refine Fr.alloc ?_ _ | refine Fr.drew ?_))
  have hsz9 : w8.heap.size + 1 = (w8.alloc (.cells #[.int .u32 8, .int .u32 16] 28)).heap.size := by simp
  have h9 := h8.fr hfa9 (by simp) (by simp) (by simp)
  have F9 := Lib.hid (F8.out.trans0 hfa9)
  have AS_9 := AS.fr hfa9 (by simp)
  have hl9 := h9.lt
  have hrg0 : w8.heap.size ≠ g3 := by omega
  refine (ptadd_is h9 8 16 false _ ⟨by omega, by omega⟩ ⟨by omega, by omega⟩ (by decide +kernel) rfl).mono ?_
  rintro e w10 ⟨rfl, h10, hf10⟩
  have h10 : Pt w10 pp3 p3 g3 16 k2 := by
    have e : newC 16 k2 8 16 true = k2 := by unfold newC; rw [if_neg (by decide +kernel)]
    rw [e] at h10; exact h10
  have hl10 := h10.lt
  have F10 := Lib.hid (F9.out.trans hf10 (by simp; omega))
  have AS_10 := AS_9.fr hf10 (by simp; omega)
  have AR0_10 := AR0.fr hf10 (by simp; omega)
  clear hf10
  have d0 := AR0_10.cell 0
  have d1 := AR0_10.cell 1
  simp only [List.getElem?_toArray, List.getElem?_cons_zero, List.getElem?_cons_succ] at d0 d1
  go_wp2_with fail
  refine (ptrem_is h10 8 16 false _ ⟨by omega, by omega⟩ ⟨by omega, by omega⟩ (by decide +kernel) rfl).mono ?_
  rintro e w11 ⟨rfl, h11, hf11⟩
  have h11 : Pt w11 pp3 p3 g3 16 k2 := by
    have e : newC 16 k2 8 16 false = k2 := by unfold newC; rw [if_neg (by decide +kernel)]
    rw [e] at h11; exact h11
  have hl11 := h11.lt
  have F11 := Lib.hid (F10.out.trans hf11 (by simp; omega))
  have AS_11 := AS_10.fr hf11 (by simp; omega)
  have AR0_11 := AR0_10.fr hf11 (by simp; omega)
  clear hf11
  clear d0 d1
  go_wp2_with fail
  rw [rounds_succ]
  have d2 := AS_11.cell 2
  have d3 := AS_11.cell 3
  simp only [List.getElem?_toArray, List.getElem?_cons_zero, List.getElem?_cons_succ] at d2 d3
  go_wp2_with fail
  have AR1 := At.new w11 28 #[.int .u32 0, .int .u32 0]
  have hfa12 : Fr [] w11 (w11.alloc (.cells #[.int .u32 0, .int .u32 0] 28)) := (by repeat (first | exact Fr.refl _ _ | assumption | refine Fr.trans0 ?_ (by assumption) | refine Fr.drewN ?_ _ | refine Fr.alloc ?_ _ | refine Fr.drew ?_))
  have hsz12 : w11.heap.size + 1 = (w11.alloc (.cells #[.int .u32 0, .int .u32 0] 28)).heap.size := by simp
  have h12 := h11.fr hfa12 (by simp) (by simp) (by simp)
  have F12 := Lib.hid (F11.out.trans0 hfa12)
  have AS_12 := AS_11.fr hfa12 (by simp)
  have hl12 := h12.lt
  have hrg1 : w11.heap.size ≠ g3 := by omega
  refine (ptadd_is h12 0 0 false _ ⟨by omega, by omega⟩ ⟨by omega, by omega⟩ (by decide +kernel) rfl).mono ?_
  rintro e w13 ⟨rfl, h13, hf13⟩
  have h13 : Pt w13 pp3 p3 g3 16 k2 := by
    have e : newC 16 k2 0 0 true = k2 := by unfold newC; rw [if_neg (by decide +kernel)]
    rw [e] at h13; exact h13
  have hl13 := h13.lt
  have F13 := Lib.hid (F12.out.trans hf13 (by simp; omega))
  have AS_13 := AS_12.fr hf13 (by simp; omega)
  have AR1_13 := AR1.fr hf13 (by simp; omega)
  clear hf13
  have d0 := AR1_13.cell 0
  have d1 := AR1_13.cell 1
  simp only [List.getElem?_toArray, List.getElem?_cons_zero, List.getElem?_cons_succ] at d0 d1
  go_wp2_with fail
  refine (ptrem_is h13 0 0 false _ ⟨by omega, by omega⟩ ⟨by omega, by omega⟩ (by decide +kernel) rfl).mono ?_
  rintro e w14 ⟨rfl, h14, hf14⟩
  have h14 : Pt w14 pp3 p3 g3 16 k2 := by
    have e : newC 16 k2 0 0 false = k2 := by unfold newC; rw [if_neg (by decide +kernel)]
    rw [e] at h14; exact h14
  have hl14 := h14.lt
  have F14 := Lib.hid (F13.out.trans hf14 (by simp; omega))
  have AS_14 := AS_13.fr hf14 (by simp; omega)
  have AR1_14 := AR1_13.fr hf14 (by simp; omega)
  clear hf14
  clear d0 d1 d2 d3
  go_wp2_with fail
  rw [rounds_succ]
  have d4 := AS_14.cell 4
  have d5 := AS_14.cell 5
  simp only [List.getElem?_toArray, List.getElem?_cons_zero, List.getElem?_cons_succ] at d4 d5
  go_wp2_with fail
  have AR2 := At.new w14 28 #[.int .u32 0, .int .u32 8]
  have hfa15 : Fr [] w14 (w14.alloc (.cells #[.int .u32 0, .int .u32 8] 28)) := (by repeat (first | exact Fr.refl _ _ | assumption | refine Fr.trans0 ?_ (by assumption) | refine Fr.drewN ?_ _ | refine Fr.alloc ?_ _ | refine Fr.drew ?_))
  have hsz15 : w14.heap.size + 1 = (w14.alloc (.cells #[.int .u32 0, .int .u32 8] 28)).heap.size := by simp
  have h15 := h14.fr hfa15 (by simp) (by simp) (by simp)
  have F15 := Lib.hid (F14.out.trans0 hfa15)
  have AS_15 := AS_14.fr hfa15 (by simp)
  have hl15 := h15.lt
  have hrg2 : w14.heap.size ≠ g3 := by omega
  refine (ptadd_is h15 0 8 false _ ⟨by omega, by omega⟩ ⟨by omega, by omega⟩ (by decide +kernel) rfl).mono ?_
  rintro e w16 ⟨rfl, h16, hf16⟩
  have h16 : Pt w16 pp3 p3 g3 16 k2 := by
    have e : newC 16 k2 0 8 true = k2 := by unfold newC; rw [if_neg (by decide +kernel)]
    rw [e] at h16; exact h16
  have hl16 := h16.lt
  have F16 := Lib.hid (F15.out.trans hf16 (by simp; omega))
  have AS_16 := AS_15.fr hf16 (by simp; omega)
  have AR2_16 := AR2.fr hf16 (by simp; omega)
  clear hf16
  have d0 := AR2_16.cell 0
  have d1 := AR2_16.cell 1
  simp only [List.getElem?_toArray, List.getElem?_cons_zero, List.getElem?_cons_succ] at d0 d1
  go_wp2_with fail
  refine (ptrem_is h16 0 8 false _ ⟨by omega, by omega⟩ ⟨by omega, by omega⟩ (by decide +kernel) rfl).mono ?_
  rintro e w17 ⟨rfl, h17, hf17⟩
  have h17 : Pt w17 pp3 p3 g3 16 k2 := by
    have e : newC 16 k2 0 8 false = k2 := by unfold newC; rw [if_neg (by decide +kernel)]
    rw [e] at h17; exact h17
  have hl17 := h17.lt
  have F17 := Lib.hid (F16.out.trans hf17 (by simp; omega))
  have AS_17 := AS_16.fr hf17 (by simp; omega)
  have AR2_17 := AR2_16.fr hf17 (by simp; omega)
  clear hf17
  clear d0 d1 d4 d5
  go_wp2_with fail
  rw [rounds_succ]
  have d6 := AS_17.cell 6
  have d7 := AS_17.cell 7
  simp only [List.getElem?_toArray, List.getElem?_cons_zero, List.getElem?_cons_succ] at d6 d7
  go_wp2_with fail
  have AR3 := At.new w17 28 #[.int .u32 240, .int .u32 32]
  have hfa18 : Fr [] w17 (w17.alloc (.cells #[.int .u32 240, .int .u32 32] 28)) := (by repeat (first | exact Fr.refl _ _ | assumption | refine Fr.trans0 ?_ (by assumption) | refine Fr.drewN ?_ _ | refine Fr.alloc ?_ _ | refine Fr.drew ?_))
  have hsz18 : w17.heap.size + 1 = (w17.alloc (.cells #[.int .u32 240, .int .u32 32] 28)).heap.size := by simp
  have h18 := h17.fr hfa18 (by simp) (by simp) (by simp)
  have F18 := Lib.hid (F17.out.trans0 hfa18)
  have AS_18 := AS_17.fr hfa18 (by simp)
  have hl18 := h18.lt
  have hrg3 : w17.heap.size ≠ g3 := by omega
  refine (ptadd_is h18 240 32 false _ ⟨by omega, by omega⟩ ⟨by omega, by omega⟩ (by decide +kernel) rfl).mono ?_
  rintro e w19 ⟨rfl, h19, hf19⟩
  have h19 : Pt w19 pp3 p3 g3 16 k2 := by
    have e : newC 16 k2 240 32 true = k2 := by unfold newC; rw [if_neg (by decide +kernel)]
    rw [e] at h19; exact h19
  have hl19 := h19.lt
  have F19 := Lib.hid (F18.out.trans hf19 (by simp; omega))
  have AS_19 := AS_18.fr hf19 (by simp; omega)
  have AR3_19 := AR3.fr hf19 (by simp; omega)
  clear hf19
  have d0 := AR3_19.cell 0
  have d1 := AR3_19.cell 1
  simp only [List.getElem?_toArray, List.getElem?_cons_zero, List.getElem?_cons_succ] at d0 d1
  go_wp2_with fail
  refine (ptrem_is h19 240 32 false _ ⟨by omega, by omega⟩ ⟨by omega, by omega⟩ (by decide +kernel) rfl).mono ?_
  rintro e w20 ⟨rfl, h20, hf20⟩
  have h20 : Pt w20 pp3 p3 g3 16 k2 := by
    have e : newC 16 k2 240 32 false = k2 := by unfold newC; rw [if_neg (by decide +kernel)]
    rw [e] at h20; exact h20
  have hl20 := h20.lt
  have F20 := Lib.hid (F19.out.trans hf20 (by simp; omega))
  have AS_20 := AS_19.fr hf20 (by simp; omega)
  have AR3_20 := AR3_19.fr hf20 (by simp; omega)
  clear hf20
  clear d0 d1 d6 d7
  go_wp2_with fail
  rw [rounds_succ]
  have d8 := AS_20.cell 8
  have d9 := AS_20.cell 9
  simp only [List.getElem?_toArray, List.getElem?_cons_zero, List.getElem?_cons_succ] at d8 d9
  go_wp2_with fail
  have AR4 := At.new w20 28 #[.int .u32 4294967280, .int .u32 32]
  have hfa21 : Fr [] w20 (w20.alloc (.cells #[.int .u32 4294967280, .int .u32 32] 28)) := (by repeat (first | exact Fr.refl _ _ | assumption | refine Fr.trans0 ?_ (by assumption) | refine Fr.drewN ?_ _ | refine Fr.alloc ?_ _ | refine Fr.drew ?_))
  have hsz21 : w20.heap.size + 1 = (w20.alloc (.cells #[.int .u32 4294967280, .int .u32 32] 28)).heap.size := by simp
  have h21 := h20.fr hfa21 (by simp) (by simp) (by simp)
  have F21 := Lib.hid (F20.out.trans0 hfa21)
  have AS_21 := AS_20.fr hfa21 (by simp)
  have hl21 := h21.lt
  have hrg4 : w20.heap.size ≠ g3 := by omega
  refine (ptadd_is h21 4294967280 32 false _ ⟨by omega, by omega⟩ ⟨by omega, by omega⟩ (by decide +kernel) rfl).mono ?_
  rintro e w22 ⟨rfl, h22, hf22⟩
  have h22 : Pt w22 pp3 p3 g3 16 k2 := by
    have e : newC 16 k2 4294967280 32 true = k2 := by unfold newC; rw [if_neg (by decide +kernel)]
    rw [e] at h22; exact h22
  have hl22 := h22.lt
  have F22 := Lib.hid (F21.out.trans hf22 (by simp; omega))
  have AS_22 := AS_21.fr hf22 (by simp; omega)
  have AR4_22 := AR4.fr hf22 (by simp; omega)
  clear hf22
  have d0 := AR4_22.cell 0
  have d1 := AR4_22.cell 1
  simp only [List.getElem?_toArray, List.getElem?_cons_zero, List.getElem?_cons_succ] at d0 d1
  go_wp2_with fail
  refine (ptrem_is h22 4294967280 32 false _ ⟨by omega, by omega⟩ ⟨by omega, by omega⟩ (by decide +kernel) rfl).mono ?_
  rintro e w23 ⟨rfl, h23, hf23⟩
  have h23 : Pt w23 pp3 p3 g3 16 k2 := by
    have e : newC 16 k2 4294967280 32 false = k2 := by unfold newC; rw [if_neg (by decide +kernel)]
    rw [e] at h23; exact h23
  have hl23 := h23.lt
  have F23 := Lib.hid (F22.out.trans hf23 (by simp; omega))
  have AS_23 := AS_22.fr hf23 (by simp; omega)
  have AR4_23 := AR4_22.fr hf23 (by simp; omega)
  clear hf23
  clear d0 d1 d8 d9
  go_wp2_with fail
  rw [rounds_succ]
  have d10 := AS_23.cell 10
  have d11 := AS_23.cell 11
  simp only [List.getElem?_toArray, List.getElem?_cons_zero, List.getElem?_cons_succ] at d10 d11
  go_wp2_with fail
  have AR5 := At.new w23 28 #[.int .u32 256, .int .u32 16]
  have hfa24 : Fr [] w23 (w23.alloc (.cells #[.int .u32 256, .int .u32 16] 28)) := (by repeat (first | exact Fr.refl _ _ | assumption | refine Fr.trans0 ?_ (by assumption) | refine Fr.drewN ?_ _ | refine Fr.alloc ?_ _ | refine Fr.drew ?_))
  have hsz24 : w23.heap.size + 1 = (w23.alloc (.cells #[.int .u32 256, .int .u32 16] 28)).heap.size := by simp
  have h24 := h23.fr hfa24 (by simp) (by simp) (by simp)
  have F24 := Lib.hid (F23.out.trans0 hfa24)
  have AS_24 := AS_23.fr hfa24 (by simp)
  have hl24 := h24.lt
  have hrg5 : w23.heap.size ≠ g3 := by omega
  refine (ptadd_is h24 256 16 false _ ⟨by omega, by omega⟩ ⟨by omega, by omega⟩ (by decide +kernel) rfl).mono ?_
  rintro e w25 ⟨rfl, h25, hf25⟩
  have h25 : Pt w25 pp3 p3 g3 16 k2 := by
    have e : newC 16 k2 256 16 true = k2 := by unfold newC; rw [if_neg (by decide +kernel)]
    rw [e] at h25; exact h25
  have hl25 := h25.lt
  have F25 := Lib.hid (F24.out.trans hf25 (by simp; omega))
  have AS_25 := AS_24.fr hf25 (by simp; omega)
  have AR5_25 := AR5.fr hf25 (by simp; omega)
  clear hf25
  have d0 := AR5_25.cell 0
  have d1 := AR5_25.cell 1
  simp only [List.getElem?_toArray, List.getElem?_cons_zero, List.getElem?_cons_succ] at d0 d1
  go_wp2_with fail
  refine (ptrem_is h25 256 16 false _ ⟨by omega, by omega⟩ ⟨by omega, by omega⟩ (by decide +kernel) rfl).mono ?_
  rintro e w26 ⟨rfl, h26, hf26⟩
  have h26 : Pt w26 pp3 p3 g3 16 k2 := by
    have e : newC 16 k2 256 16 false = k2 := by unfold newC; rw [if_neg (by decide +kernel)]
    rw [e] at h26; exact h26
  have hl26 := h26.lt
  have F26 := Lib.hid (F25.out.trans hf26 (by simp; omega))
  have AS_26 := AS_25.fr hf26 (by simp; omega)
  have AR5_26 := AR5_25.fr hf26 (by simp; omega)
  clear hf26
  clear d0 d1 d10 d11
  go_wp2_with fail
  rw [rounds_succ]
  have d12 := AS_26.cell 12
  have d13 := AS_26.cell 13
  simp only [List.getElem?_toArray, List.getElem?_cons_zero, List.getElem?_cons_succ] at d12 d13
  go_wp2_with fail
  have AR6 := At.new w26 28 #[.int .u32 16, .int .u32 32]
  have hfa27 : Fr [] w26 (w26.alloc (.cells #[.int .u32 16, .int .u32 32] 28)) := (by repeat (first | exact Fr.refl _ _ | assumption | refine Fr.trans0 ?_ (by assumption) | refine Fr.drewN ?_ _ | refine Fr.alloc ?_ _ | refine Fr.drew ?_))
  have hsz27 : w26.heap.size + 1 = (w26.alloc (.cells #[.int .u32 16, .int .u32 32] 28)).heap.size := by simp
  have h27 := h26.fr hfa27 (by simp) (by simp) (by simp)
  have F27 := Lib.hid (F26.out.trans0 hfa27)
  have AS_27 := AS_26.fr hfa27 (by simp)
  have hl27 := h27.lt
  have hrg6 : w26.heap.size ≠ g3 := by omega
  refine (ptadd_is h27 16 32 false _ ⟨by omega, by omega⟩ ⟨by omega, by omega⟩ (by decide +kernel) rfl).mono ?_
  rintro e w28 ⟨rfl, h28, hf28⟩
  have h28 : Pt w28 pp3 p3 g3 16 k2 := by
    have e : newC 16 k2 16 32 true = k2 := by unfold newC; rw [if_neg (by decide +kernel)]
    rw [e] at h28; exact h28
  have hl28 := h28.lt
  have F28 := Lib.hid (F27.out.trans hf28 (by simp; omega))
  have AS_28 := AS_27.fr hf28 (by simp; omega)
  have AR6_28 := AR6.fr hf28 (by simp; omega)
  clear hf28
  have d0 := AR6_28.cell 0
  have d1 := AR6_28.cell 1
  simp only [List.getElem?_toArray, List.getElem?_cons_zero, List.getElem?_cons_succ] at d0 d1
  go_wp2_with fail
  refine (ptrem_is h28 16 32 false _ ⟨by omega, by omega⟩ ⟨by omega, by omega⟩ (by decide +kernel) rfl).mono ?_
  rintro e w29 ⟨rfl, h29, hf29⟩
  have h29 : Pt w29 pp3 p3 g3 16 k2 := by
    have e : newC 16 k2 16 32 false = k2 := by unfold newC; rw [if_neg (by decide +kernel)]
    rw [e] at h29; exact h29
  have hl29 := h29.lt
  have F29 := Lib.hid (F28.out.trans hf29 (by simp; omega))
  have AS_29 := AS_28.fr hf29 (by simp; omega)
  have AR6_29 := AR6_28.fr hf29 (by simp; omega)
  clear hf29
  clear d0 d1 d12 d13
  go_wp2_with fail
  rw [rounds_succ]
  clear AS_29
  go_wp2_with fail
  have AQ := At.new w29 28 #[.int .u32 32, .int .u32 48]
  have hfa30 : Fr [] w29 (w29.alloc (.cells #[.int .u32 32, .int .u32 48] 28)) := (by repeat (first | exact Fr.refl _ _ | assumption | refine Fr.trans0 ?_ (by assumption) | refine Fr.drewN ?_ _ | refine Fr.alloc ?_ _ | refine Fr.drew ?_))
  have hsz30 : w29.heap.size + 1 = (w29.alloc (.cells #[.int .u32 32, .int .u32 48] 28)).heap.size := by simp
  have h30 := h29.fr hfa30 (by simp) (by simp) (by simp)
  have F30 := Lib.hid (F29.out.trans0 hfa30)
  have hl30 := h30.lt
  have hqg : w29.heap.size ≠ g3 := by omega
  refine (ptrem_is h30 32 48 true _ ⟨by omega, by omega⟩ ⟨by omega, by omega⟩ (by decide +kernel) rfl).mono ?_
  rintro e w31 ⟨rfl, h31, hf31⟩
  have h31 : Pt w31 pp3 p3 g3 16 k3 := h31
  have F31 := Lib.hid (F30.out.trans hf31 (by simp; omega))
  have AQ_31 := AQ.fr hf31 (by simp; omega)
  clear hf31
  have d0 := AQ_31.cell 0
  have d1 := AQ_31.cell 1
  simp only [List.getElem?_toArray, List.getElem?_cons_zero, List.getElem?_cons_succ] at d0 d1
  go_wp2_with fail
  refine (ptrem_is h31 32 48 false _ ⟨by omega, by omega⟩ ⟨by omega, by omega⟩ (by decide +kernel) rfl).mono ?_
  rintro e w32 ⟨rfl, h32, hf32⟩
  have h32 : Pt w32 pp3 p3 g3 16 k3 := by
    have e : newC 16 k3 32 48 false = k3 := by unfold newC; rw [if_neg (by decide +kernel)]
    rw [e] at h32; exact h32
  have F32 := Lib.hid (F31.out.trans hf32 (by simp; omega))
  have AQ_32 := AQ_31.fr hf32 (by simp; omega)
  clear hf32
  have d0 := AQ_32.cell 0
  have d1 := AQ_32.cell 1
  simp only [List.getElem?_toArray, List.getElem?_cons_zero, List.getElem?_cons_succ] at d0 d1
  go_wp2_with fail
  refine (ptcount_is h32 0 (by decide +kernel)).mono ?_
  rintro e w' ⟨rfl, rfl⟩
  go_wp2_with fail
  refine (ptadd_nil _ 32 48).mono ?_
  rintro e w33 ⟨rfl, hf33⟩
  have F33 := Lib.hid (F32.out.trans0 hf33)
  have AQ_33 := AQ_32.fr hf33 (by simp)
  clear hf33
  have d0 := AQ_33.cell 0
  have d1 := AQ_33.cell 1
  simp only [List.getElem?_toArray, List.getElem?_cons_zero, List.getElem?_cons_succ] at d0 d1
  go_wp2_with fail
  refine (ptrem_nil _ 32 48).mono ?_
  rintro e w34 ⟨rfl, hf34⟩
  have F34 := Lib.hid (F33.out.trans0 hf34)
  have AQ_34 := AQ_33.fr hf34 (by simp)
  clear hf34
  go_wp2_with fail
  refine (pthas_nil _ 32).mono ?_
  rintro e w' ⟨rfl, rfl⟩
  go_wp2_with fail
  refine (ptcount_nil _).mono ?_
  rintro e w' ⟨rfl, rfl⟩
  go_wp2_with fail
  refine (ptcopy_nil _).mono ?_
  rintro e w' ⟨rfl, rfl⟩
  go_wp2_with fail
  refine (works15_any _).mono ?_
  rintro e w35 ⟨rfl, hf35⟩
  have F35 := Lib.hid (F34.out.trans0 hf35)
  have AQ_35 := AQ_34.fr hf35 (by simp)
  clear hf35
  go_wp2_with fail
  go_ret
  exact ⟨rfl, F35.out⟩
theorem laidOut : laidOutB Try.prog = true := by kernel_rfl
set_option maxRecDepth 100000 in
theorem lifted (os : Os) (started : os.Started) (H : Type) (enc : TypeId × Value → H) :
    ReturnsInHanded {} Try.checked os 6 .any (Rows.paintKnownSpec.pre6 enc Try.prog Try.f6 Rows.paintKnownRow.domain false) (Rows.paintKnownSpec.post enc Try.prog Try.f6 false true false false) := by
  refine returnsInHanded_of_change (C := Try.checked) own started (by kernel_rfl) Try.func6
    (ChangeSpec.witness6 (enc := enc) (C := Try.checked) false ⟨#[], #[], []⟩ 8 (by kernel_rfl) (by kernel_rfl) (by kernel_rfl) (by kernel_rfl)) ?_
  intro W base args ds gs before hval0 hW hcnd _
  have hval : ∀ (j : Nat) t v, Try.f6.params[j]? = some t → args[j]? = some v → Value.okWide Try.prog W .any base t v := hval0
  have hW' := hW
  obtain ⟨p, q, hA0, hV, rfl, hfz, hnd⟩ := hW
  have hA : DataW.TrodAll enc Try.prog W 0 (fun _ => true) true Try.f6.params.toList args.toList ds p := hA0
  rw [Try.params6] at hA hval
  obtain ⟨rfl, rfl, rfl⟩ := trodAll_none hA
  obtain ⟨rfl, rfl⟩ := trodVars_none hV
  clear hA0 hval0
  simp only [List.append_nil] at hW'
  refine (walk  W ).mono fun e W' ⟨he, hg⟩ => ?_
  subst he
  exact ⟨_, rfl, post_fr (pa := []) (pv := []) hW' (fun _ _ _ => (trodAll_cons_mk (shut_bool Try.underlying4 _) trodAll_mk0)) (fun sp _ => rfl) (fun _ _ => rfl) rfl
    hg (ok_one (by kernel_rfl) rfl (okWide_bool_mk Try.underlying4 _))⟩
theorem over : Rows.paintKnownRow.holds Try.pinned (OpenSpec.ofChange Rows.paintKnownSpec) :=
  OpenClaim.holds_of_wide 6 Try.f6 rfl rfl rfl rfl rfl rfl rfl ⟨rfl, rfl, rfl, rfl, rfl⟩ rfl rfl rfl rfl rfl (by kernel_rfl) Try.func6 (by kernel_rfl)
    (of_decide_eq_true (by kernel_rfl)) (by unfold Func.isWrapper; first | (rw [if_pos (by decide +kernel)]; kernel_rfl) | (rw [if_neg (by decide +kernel)]; exact ⟨rfl, rfl⟩))
    (fun os started H enc _ => lifted os started H enc)
/-- The statement, proved. -/
theorem proved : Rows.PaintKnownSaid :=
  over
end paintKnown
end Go.Proofs.Ytkkbbadcickicaa
