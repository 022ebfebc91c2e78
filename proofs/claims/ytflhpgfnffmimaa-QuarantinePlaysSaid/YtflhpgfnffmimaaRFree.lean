/-
  The reference's Free. Condition: numbers in their types' ranges, lists of a hundred thousand at most.
-/



import Derived.Test.YtflhpgfnffmimaaRWith
import Derived.Test.YtflhpgfnffmimaaRMeets
set_option linter.unusedVariables false
namespace Go.Proofs.Ytflhpgfnffmimaa
open Go.ChangeShapes Go.WideShapes Go.ChangeAt Go.RowKit
/-- Is a region let in? -/
def ref16.ok (b : Nat) (lw lb : List (Nat × Nat)) (a s : Nat) : Bool := decide (a % 16 = 0 ∧ s % 16 = 0 ∧ 0 < s ∧ a + s ≤ b) && !(ref16.mts lw (a, s) || ref16.mts lb (a, s))
section
variable (w : World) (b : Nat) (wa : Option Addr) (wn wc : Nat) (la : Option Addr) (ln lc : Nat) (ep : Nat) (un : Bool) (hb : b ≤ 262144) (a s : Nat) (ha : a < 4294967296) (hs : s < 4294967296)
include hb ha hs
set_option maxHeartbeats 2000000 in
set_option maxRecDepth 100000 in
theorem rfree_bad (hbad : ¬ (a % 16 = 0 ∧ s % 16 = 0 ∧ 0 < s ∧ a + s ≤ b)) : Calls Try.prog 21 #[.agg (ryc (b : Nat) wa wn wc la ln lc ep un), .agg #[.int .u32 a, .int .u32 s]] w fun e w' => e = .returned (.tuple #[.agg (ryc (b : Nat) wa wn wc la ln lc ep un), .bool false]) ∧ Fr [] w w' := by
  have hwb : IntKind.u64.wrap (b : Int) = (b : Int) := by simp [IntKind.wrap, IntKind.signed, IntKind.bits]; omega
  have t1 : (a : Int).tmod 16 = (a : Int) % 16 := Int.tmod_eq_emod_of_nonneg (by omega)
  have t2 : (s : Int).tmod 16 = (s : Int) % 16 := Int.tmod_eq_emod_of_nonneg (by omega)
  unfold ryc
  by_cases h1 : a % 16 = 0
  · have e1 : ((a : Int) % 16 != 0) = false := by simp; omega
    by_cases h2 : s % 16 = 0
    · have e2 : ((s : Int) % 16 != 0) = false := by simp; omega
      by_cases h3 : s = 0
      · have e3 : ((s : Int) == 0) = true := by simp; omega
        clear hbad h1 h2 h3
        obtain ⟨w1, hw1⟩ : ∃ W, w.alloc (.cells #[.int .i64 (b : Nat), .slice wa wn wc, .slice la ln lc, .int .u64 ep, .bool un] 45) = W := ⟨_, rfl⟩
        have A1 := At.new w 45 #[.int .i64 (b : Nat), .slice wa wn wc, .slice la ln lc, .int .u64 ep, .bool un]
        have F1 : Fr [] w (w.alloc (.cells #[.int .i64 (b : Nat), .slice wa wn wc, .slice la ln lc, .int .u64 ep, .bool un] 45)) := (by repeat (first | exact Fr.refl _ _ | assumption | refine Fr.trans0 ?_ (by assumption) | refine Fr.drewN ?_ _ | refine Fr.alloc ?_ _ | refine Fr.drew ?_))
        have hs1 : w1.heap.size = w.heap.size + 1 := by rw [← hw1]; exact World.size_alloc _ _
        rw [hw1] at A1 F1
        obtain ⟨w2, hw2⟩ : ∃ W, w1.alloc (.cells #[.int .u32 (a : Int), .int .u32 s] 30) = W := ⟨_, rfl⟩
        have A2 := A1.old (.cells #[.int .u32 (a : Int), .int .u32 s] 30)
        have B2 := (At.newq hs1.symm : At (w1.alloc (.cells #[.int .u32 (a : Int), .int .u32 s] 30)) (w.heap.size + 1) 30 #[.int .u32 (a : Int), .int .u32 s])
        have F2 : Fr [] w (w1.alloc (.cells #[.int .u32 (a : Int), .int .u32 s] 30)) := F1.alloc _
        have hs2 : w2.heap.size = w.heap.size + 1 + 1 := by rw [← hw2, World.size_alloc, hs1]
        rw [hw2] at A2 B2 F2
        obtain ⟨w3, hw3⟩ : ∃ W, w2.alloc (.cells #[.int .i64 0, .slice none 0 0, .slice none 0 0, .int .u64 0, .bool false] 45) = W := ⟨_, rfl⟩
        have A3 := A2.old (.cells #[.int .i64 0, .slice none 0 0, .slice none 0 0, .int .u64 0, .bool false] 45)
        have B3 := B2.old (.cells #[.int .i64 0, .slice none 0 0, .slice none 0 0, .int .u64 0, .bool false] 45)
        have C3 := (At.newq hs2.symm : At (w2.alloc (.cells #[.int .i64 0, .slice none 0 0, .slice none 0 0, .int .u64 0, .bool false] 45)) (w.heap.size + 1 + 1) 45 #[.int .i64 0, .slice none 0 0, .slice none 0 0, .int .u64 0, .bool false])
        have F3 : Fr [] w (w2.alloc (.cells #[.int .i64 0, .slice none 0 0, .slice none 0 0, .int .u64 0, .bool false] 45)) := F2.alloc _
        rw [hw3] at A3 B3 C3 F3
        have c0 := A3.cell 0
        have c1 := A3.cell 1
        have c2 := A3.cell 2
        have c3 := A3.cell 3
        have c4 := A3.cell 4
        simp only [List.getElem?_toArray, List.getElem?_cons_zero, List.getElem?_cons_succ] at c0 c1 c2 c3 c4
        have d0 := B3.cell 0
        have d1 := B3.cell 1
        simp only [List.getElem?_toArray, List.getElem?_cons_zero, List.getElem?_cons_succ] at d0 d1
        have HA := Lib.hid A3
        have HB := Lib.hid B3
        have HC := Lib.hid C3
        have HF := Lib.hid F3
        clear A1 A2 B2 F1 F2 A3 B3 C3 F3
        go_enter Try.func21, Try.ntmps21
        go_upto_region 2 with (fail)
        go_wp2_with (first | (refine wpList_load_all rfl 45 (.tmp 2) rfl w.heap.size rfl 45 #[.int .i64 (b : Nat), .slice wa wn wc, .slice la ln lc, .int .u64 ep, .bool un] HA.out _ Try.underlying45 rfl (by kernel_rfl) ?_) | (refine wpList_store_all rfl 45 (.tmp 4) (.tmp 46) rfl (w.heap.size + 1 + 1) #[.int .i64 (b : Nat), .slice wa wn wc, .slice la ln lc, .int .u64 ep, .bool un] rfl rfl 45 #[.int .i64 0, .slice none 0 0, .slice none 0 0, .int .u64 0, .bool false] HC.out (by kernel_rfl) rfl (by simp [Value.oneCell']) ?_; intro w9 hA9 hF9))
        exact bodyPost_ret (res_row_tmpR rfl _ _ (w.heap.size + 1 + 1) 45 _ _ rfl hA9 Try.underlying45 rfl (by kernel_rfl)) rfl ⟨rfl, (HF.out).trans hF9 (by simp <;> omega)⟩
      · have e3 : ((s : Int) == 0) = false := by simpa using h3
        have h4 : b < a + s := by omega
        have h4i : (b : Int) < (a : Int) + (s : Int) := by omega
        have e4 : decide ((b : Int) < (a : Int) + (s : Int)) = true := decide_eq_true h4i
        clear hbad h1 h2 h3 h4
        obtain ⟨w1, hw1⟩ : ∃ W, w.alloc (.cells #[.int .i64 (b : Nat), .slice wa wn wc, .slice la ln lc, .int .u64 ep, .bool un] 45) = W := ⟨_, rfl⟩
        have A1 := At.new w 45 #[.int .i64 (b : Nat), .slice wa wn wc, .slice la ln lc, .int .u64 ep, .bool un]
        have F1 : Fr [] w (w.alloc (.cells #[.int .i64 (b : Nat), .slice wa wn wc, .slice la ln lc, .int .u64 ep, .bool un] 45)) := (by repeat (first | exact Fr.refl _ _ | assumption | refine Fr.trans0 ?_ (by assumption) | refine Fr.drewN ?_ _ | refine Fr.alloc ?_ _ | refine Fr.drew ?_))
        have hs1 : w1.heap.size = w.heap.size + 1 := by rw [← hw1]; exact World.size_alloc _ _
        rw [hw1] at A1 F1
        obtain ⟨w2, hw2⟩ : ∃ W, w1.alloc (.cells #[.int .u32 (a : Int), .int .u32 s] 30) = W := ⟨_, rfl⟩
        have A2 := A1.old (.cells #[.int .u32 (a : Int), .int .u32 s] 30)
        have B2 := (At.newq hs1.symm : At (w1.alloc (.cells #[.int .u32 (a : Int), .int .u32 s] 30)) (w.heap.size + 1) 30 #[.int .u32 (a : Int), .int .u32 s])
        have F2 : Fr [] w (w1.alloc (.cells #[.int .u32 (a : Int), .int .u32 s] 30)) := F1.alloc _
        have hs2 : w2.heap.size = w.heap.size + 1 + 1 := by rw [← hw2, World.size_alloc, hs1]
        rw [hw2] at A2 B2 F2
        obtain ⟨w3, hw3⟩ : ∃ W, w2.alloc (.cells #[.int .i64 0, .slice none 0 0, .slice none 0 0, .int .u64 0, .bool false] 45) = W := ⟨_, rfl⟩
        have A3 := A2.old (.cells #[.int .i64 0, .slice none 0 0, .slice none 0 0, .int .u64 0, .bool false] 45)
        have B3 := B2.old (.cells #[.int .i64 0, .slice none 0 0, .slice none 0 0, .int .u64 0, .bool false] 45)
        have C3 := (At.newq hs2.symm : At (w2.alloc (.cells #[.int .i64 0, .slice none 0 0, .slice none 0 0, .int .u64 0, .bool false] 45)) (w.heap.size + 1 + 1) 45 #[.int .i64 0, .slice none 0 0, .slice none 0 0, .int .u64 0, .bool false])
        have F3 : Fr [] w (w2.alloc (.cells #[.int .i64 0, .slice none 0 0, .slice none 0 0, .int .u64 0, .bool false] 45)) := F2.alloc _
        rw [hw3] at A3 B3 C3 F3
        have c0 := A3.cell 0
        have c1 := A3.cell 1
        have c2 := A3.cell 2
        have c3 := A3.cell 3
        have c4 := A3.cell 4
        simp only [List.getElem?_toArray, List.getElem?_cons_zero, List.getElem?_cons_succ] at c0 c1 c2 c3 c4
        have d0 := B3.cell 0
        have d1 := B3.cell 1
        simp only [List.getElem?_toArray, List.getElem?_cons_zero, List.getElem?_cons_succ] at d0 d1
        have HA := Lib.hid A3
        have HB := Lib.hid B3
        have HC := Lib.hid C3
        have HF := Lib.hid F3
        clear A1 A2 B2 F1 F2 A3 B3 C3 F3
        go_enter Try.func21, Try.ntmps21
        go_upto_region 2 with (fail)
        go_wp2_with (first | (refine wpList_load_all rfl 45 (.tmp 2) rfl w.heap.size rfl 45 #[.int .i64 (b : Nat), .slice wa wn wc, .slice la ln lc, .int .u64 ep, .bool un] HA.out _ Try.underlying45 rfl (by kernel_rfl) ?_) | (refine wpList_store_all rfl 45 (.tmp 4) (.tmp 46) rfl (w.heap.size + 1 + 1) #[.int .i64 (b : Nat), .slice wa wn wc, .slice la ln lc, .int .u64 ep, .bool un] rfl rfl 45 #[.int .i64 0, .slice none 0 0, .slice none 0 0, .int .u64 0, .bool false] HC.out (by kernel_rfl) rfl (by simp [Value.oneCell']) ?_; intro w9 hA9 hF9))
        exact bodyPost_ret (res_row_tmpR rfl _ _ (w.heap.size + 1 + 1) 45 _ _ rfl hA9 Try.underlying45 rfl (by kernel_rfl)) rfl ⟨rfl, (HF.out).trans hF9 (by simp <;> omega)⟩
    · have e2 : ((s : Int) % 16 != 0) = true := by simp; omega
      clear hbad h1 h2
      obtain ⟨w1, hw1⟩ : ∃ W, w.alloc (.cells #[.int .i64 (b : Nat), .slice wa wn wc, .slice la ln lc, .int .u64 ep, .bool un] 45) = W := ⟨_, rfl⟩
      have A1 := At.new w 45 #[.int .i64 (b : Nat), .slice wa wn wc, .slice la ln lc, .int .u64 ep, .bool un]
      have F1 : Fr [] w (w.alloc (.cells #[.int .i64 (b : Nat), .slice wa wn wc, .slice la ln lc, .int .u64 ep, .bool un] 45)) := (by repeat (first | exact Fr.refl _ _ | assumption | refine Fr.trans0 ?_ (by assumption) | refine Fr.drewN ?_ _ | refine Fr.alloc ?_ _ | refine Fr.drew ?_))
      have hs1 : w1.heap.size = w.heap.size + 1 := by rw [← hw1]; exact World.size_alloc _ _
      rw [hw1] at A1 F1
      obtain ⟨w2, hw2⟩ : ∃ W, w1.alloc (.cells #[.int .u32 (a : Int), .int .u32 s] 30) = W := ⟨_, rfl⟩
      have A2 := A1.old (.cells #[.int .u32 (a : Int), .int .u32 s] 30)
      have B2 := (At.newq hs1.symm : At (w1.alloc (.cells #[.int .u32 (a : Int), .int .u32 s] 30)) (w.heap.size + 1) 30 #[.int .u32 (a : Int), .int .u32 s])
      have F2 : Fr [] w (w1.alloc (.cells #[.int .u32 (a : Int), .int .u32 s] 30)) := F1.alloc _
      have hs2 : w2.heap.size = w.heap.size + 1 + 1 := by rw [← hw2, World.size_alloc, hs1]
      rw [hw2] at A2 B2 F2
      obtain ⟨w3, hw3⟩ : ∃ W, w2.alloc (.cells #[.int .i64 0, .slice none 0 0, .slice none 0 0, .int .u64 0, .bool false] 45) = W := ⟨_, rfl⟩
      have A3 := A2.old (.cells #[.int .i64 0, .slice none 0 0, .slice none 0 0, .int .u64 0, .bool false] 45)
      have B3 := B2.old (.cells #[.int .i64 0, .slice none 0 0, .slice none 0 0, .int .u64 0, .bool false] 45)
      have C3 := (At.newq hs2.symm : At (w2.alloc (.cells #[.int .i64 0, .slice none 0 0, .slice none 0 0, .int .u64 0, .bool false] 45)) (w.heap.size + 1 + 1) 45 #[.int .i64 0, .slice none 0 0, .slice none 0 0, .int .u64 0, .bool false])
      have F3 : Fr [] w (w2.alloc (.cells #[.int .i64 0, .slice none 0 0, .slice none 0 0, .int .u64 0, .bool false] 45)) := F2.alloc _
      rw [hw3] at A3 B3 C3 F3
      have c0 := A3.cell 0
      have c1 := A3.cell 1
      have c2 := A3.cell 2
      have c3 := A3.cell 3
      have c4 := A3.cell 4
      simp only [List.getElem?_toArray, List.getElem?_cons_zero, List.getElem?_cons_succ] at c0 c1 c2 c3 c4
      have d0 := B3.cell 0
      have d1 := B3.cell 1
      simp only [List.getElem?_toArray, List.getElem?_cons_zero, List.getElem?_cons_succ] at d0 d1
      have HA := Lib.hid A3
      have HB := Lib.hid B3
      have HC := Lib.hid C3
      have HF := Lib.hid F3
      clear A1 A2 B2 F1 F2 A3 B3 C3 F3
      go_enter Try.func21, Try.ntmps21
      go_upto_region 2 with (fail)
      go_wp2_with (first | (refine wpList_load_all rfl 45 (.tmp 2) rfl w.heap.size rfl 45 #[.int .i64 (b : Nat), .slice wa wn wc, .slice la ln lc, .int .u64 ep, .bool un] HA.out _ Try.underlying45 rfl (by kernel_rfl) ?_) | (refine wpList_store_all rfl 45 (.tmp 4) (.tmp 46) rfl (w.heap.size + 1 + 1) #[.int .i64 (b : Nat), .slice wa wn wc, .slice la ln lc, .int .u64 ep, .bool un] rfl rfl 45 #[.int .i64 0, .slice none 0 0, .slice none 0 0, .int .u64 0, .bool false] HC.out (by kernel_rfl) rfl (by simp [Value.oneCell']) ?_; intro w9 hA9 hF9))
      exact bodyPost_ret (res_row_tmpR rfl _ _ (w.heap.size + 1 + 1) 45 _ _ rfl hA9 Try.underlying45 rfl (by kernel_rfl)) rfl ⟨rfl, (HF.out).trans hF9 (by simp <;> omega)⟩
  · have e1 : ((a : Int) % 16 != 0) = true := by simp; omega
    clear hbad h1
    obtain ⟨w1, hw1⟩ : ∃ W, w.alloc (.cells #[.int .i64 (b : Nat), .slice wa wn wc, .slice la ln lc, .int .u64 ep, .bool un] 45) = W := ⟨_, rfl⟩
    have A1 := At.new w 45 #[.int .i64 (b : Nat), .slice wa wn wc, .slice la ln lc, .int .u64 ep, .bool un]
    have F1 : Fr [] w (w.alloc (.cells #[.int .i64 (b : Nat), .slice wa wn wc, .slice la ln lc, .int .u64 ep, .bool un] 45)) := (by repeat (first | exact Fr.refl _ _ | assumption | refine Fr.trans0 ?_ (by assumption) | refine Fr.drewN ?_ _ | refine Fr.alloc ?_ _ | refine Fr.drew ?_))
    have hs1 : w1.heap.size = w.heap.size + 1 := by rw [← hw1]; exact World.size_alloc _ _
    rw [hw1] at A1 F1
    obtain ⟨w2, hw2⟩ : ∃ W, w1.alloc (.cells #[.int .u32 (a : Int), .int .u32 s] 30) = W := ⟨_, rfl⟩
    have A2 := A1.old (.cells #[.int .u32 (a : Int), .int .u32 s] 30)
    have B2 := (At.newq hs1.symm : At (w1.alloc (.cells #[.int .u32 (a : Int), .int .u32 s] 30)) (w.heap.size + 1) 30 #[.int .u32 (a : Int), .int .u32 s])
    have F2 : Fr [] w (w1.alloc (.cells #[.int .u32 (a : Int), .int .u32 s] 30)) := F1.alloc _
    have hs2 : w2.heap.size = w.heap.size + 1 + 1 := by rw [← hw2, World.size_alloc, hs1]
    rw [hw2] at A2 B2 F2
    obtain ⟨w3, hw3⟩ : ∃ W, w2.alloc (.cells #[.int .i64 0, .slice none 0 0, .slice none 0 0, .int .u64 0, .bool false] 45) = W := ⟨_, rfl⟩
    have A3 := A2.old (.cells #[.int .i64 0, .slice none 0 0, .slice none 0 0, .int .u64 0, .bool false] 45)
    have B3 := B2.old (.cells #[.int .i64 0, .slice none 0 0, .slice none 0 0, .int .u64 0, .bool false] 45)
    have C3 := (At.newq hs2.symm : At (w2.alloc (.cells #[.int .i64 0, .slice none 0 0, .slice none 0 0, .int .u64 0, .bool false] 45)) (w.heap.size + 1 + 1) 45 #[.int .i64 0, .slice none 0 0, .slice none 0 0, .int .u64 0, .bool false])
    have F3 : Fr [] w (w2.alloc (.cells #[.int .i64 0, .slice none 0 0, .slice none 0 0, .int .u64 0, .bool false] 45)) := F2.alloc _
    rw [hw3] at A3 B3 C3 F3
    have c0 := A3.cell 0
    have c1 := A3.cell 1
    have c2 := A3.cell 2
    have c3 := A3.cell 3
    have c4 := A3.cell 4
    simp only [List.getElem?_toArray, List.getElem?_cons_zero, List.getElem?_cons_succ] at c0 c1 c2 c3 c4
    have d0 := B3.cell 0
    have d1 := B3.cell 1
    simp only [List.getElem?_toArray, List.getElem?_cons_zero, List.getElem?_cons_succ] at d0 d1
    have HA := Lib.hid A3
    have HB := Lib.hid B3
    have HC := Lib.hid C3
    have HF := Lib.hid F3
    clear A1 A2 B2 F1 F2 A3 B3 C3 F3
    go_enter Try.func21, Try.ntmps21
    go_upto_region 2 with (fail)
    go_wp2_with (first | (refine wpList_load_all rfl 45 (.tmp 2) rfl w.heap.size rfl 45 #[.int .i64 (b : Nat), .slice wa wn wc, .slice la ln lc, .int .u64 ep, .bool un] HA.out _ Try.underlying45 rfl (by kernel_rfl) ?_) | (refine wpList_store_all rfl 45 (.tmp 4) (.tmp 46) rfl (w.heap.size + 1 + 1) #[.int .i64 (b : Nat), .slice wa wn wc, .slice la ln lc, .int .u64 ep, .bool un] rfl rfl 45 #[.int .i64 0, .slice none 0 0, .slice none 0 0, .int .u64 0, .bool false] HC.out (by kernel_rfl) rfl (by simp [Value.oneCell']) ?_; intro w9 hA9 hF9))
    exact bodyPost_ret (res_row_tmpR rfl _ _ (w.heap.size + 1 + 1) 45 _ _ rfl hA9 Try.underlying45 rfl (by kernel_rfl)) rfl ⟨rfl, (HF.out).trans hF9 (by simp <;> omega)⟩
end
section
variable (w : World) (b : Nat) (wa : Option Addr) (wc : Nat) (la : Option Addr) (lc : Nat) (ep : Nat) (un : Bool) (hb : b ≤ 262144) (a s : Nat) (ha : a < 4294967296) (hs : s < 4294967296)
  (lw lb : List (Nat × Nat)) (bw bl : Nat) (hW : w.ownsRow bw 30 2 (.slice wa lw.length wc) lw.length (rgv lw)) (hL : w.ownsRow bl 30 2 (.slice la lb.length lc) lb.length (rgv lb))
  (hbw : ∀ q ∈ lw, q.1 < 4294967296 ∧ q.2 < 4294967296) (hbl : ∀ q ∈ lb, q.1 < 4294967296 ∧ q.2 < 4294967296) (hnw : lw.length ≤ 100000) (hnl : lb.length ≤ 100000)
  (h1 : a % 16 = 0) (h2 : s % 16 = 0) (h3 : 0 < s) (h4 : a + s ≤ b)
include hb ha hs hW hL hbw hbl hnw hnl h1 h2 h3 h4
set_option maxHeartbeats 2000000 in
set_option maxRecDepth 100000 in
theorem rfree_hit (hm : (ref16.mts lw (a, s) || ref16.mts lb (a, s)) = true) : Calls Try.prog 21 #[.agg (ryc (b : Nat) wa lw.length wc la lb.length lc ep un), .agg #[.int .u32 a, .int .u32 s]] w fun e w' => e = .returned (.tuple #[.agg (ryc (b : Nat) wa lw.length wc la lb.length lc ep un), .bool false]) ∧ Fr [] w w' := by
  have hwb : IntKind.u64.wrap (b : Int) = (b : Int) := by simp [IntKind.wrap, IntKind.signed, IntKind.bits]; omega
  have t1 : (a : Int).tmod 16 = (a : Int) % 16 := Int.tmod_eq_emod_of_nonneg (by omega)
  have t2 : (s : Int).tmod 16 = (s : Int) % 16 := Int.tmod_eq_emod_of_nonneg (by omega)
  have e1 : ((a : Int) % 16 != 0) = false := by simp; omega
  have e2 : ((s : Int) % 16 != 0) = false := by simp; omega
  have e3 : ((s : Int) == 0) = false := by simp; omega
  have e4 : decide ((b : Int) < (a : Int) + (s : Int)) = false := decide_eq_false (by omega)
  obtain ⟨wn, hwn⟩ : ∃ n, lw.length = n := ⟨_, rfl⟩
  obtain ⟨ln, hln⟩ : ∃ n, lb.length = n := ⟨_, rfl⟩
  rw [hwn, hln]
  rw [hwn] at hW
  rw [hln] at hL
  have CM1 := Lib.hid fun W (h : Fr [] w W) => (show Calls Try.prog 39 #[.slice wa wn wc, .agg #[.int .u32 (a : Int), .int .u32 s]] W fun e w' => e = .returned (.bool (ref16.mts lw (a, s))) ∧ Fr [] W w' from rmeets_any W (.slice wa wn wc) lw bw (by rw [hwn]; exact own_fr0 hW h) hbw (by omega) a s ha hs)
  have CM2 := Lib.hid fun W (h : Fr [] w W) => (show Calls Try.prog 39 #[.slice la ln lc, .agg #[.int .u32 (a : Int), .int .u32 s]] W fun e w' => e = .returned (.bool (ref16.mts lb (a, s))) ∧ Fr [] W w' from rmeets_any W (.slice la ln lc) lb bl (by rw [hln]; exact own_fr0 hL h) hbl (by omega) a s ha hs)
  have CW := Lib.hid fun W (h : Fr [] w W) => (show Calls Try.prog 40 #[.slice wa wn wc, .agg #[.int .u32 (a : Int), .int .u32 s]] W fun e w' => ∃ u, e = .returned u ∧ w'.ownsRow W.heap.size 30 2 u (wn + 1) (rgv (ref16.wth lw (a, s))) ∧ Fr [] W w' from by
    have := rwith_any W (.slice wa wn wc) lw bw (by rw [hwn]; exact own_fr0 hW h) hbw (by omega) a s ha hs
    rw [hwn] at this
    exact this)
  obtain ⟨M1, hM1⟩ : ∃ M, ref16.mts lw (a, s) = M := ⟨_, rfl⟩
  obtain ⟨M2, hM2⟩ : ∃ M, ref16.mts lb (a, s) = M := ⟨_, rfl⟩
  rw [hM1] at CM1
  rw [hM2] at CM2
  obtain ⟨LW, hLW⟩ : ∃ L, ref16.wth lw (a, s) = L := ⟨_, rfl⟩
  rw [hLW] at CW
  unfold ryc
  rw [hM1, hM2] at hm
  clear h1 h2 h3 h4 hW hL hbw hbl hwn hln hM1 hM2 hLW CW
  cases M1 with
  | true =>
    clear hm
    obtain ⟨w1, hw1⟩ : ∃ W, w.alloc (.cells #[.int .i64 (b : Nat), .slice wa wn wc, .slice la ln lc, .int .u64 ep, .bool un] 45) = W := ⟨_, rfl⟩
    have A1 := At.new w 45 #[.int .i64 (b : Nat), .slice wa wn wc, .slice la ln lc, .int .u64 ep, .bool un]
    have F1 : Fr [] w (w.alloc (.cells #[.int .i64 (b : Nat), .slice wa wn wc, .slice la ln lc, .int .u64 ep, .bool un] 45)) := (by repeat (first | exact Fr.refl _ _ | assumption | refine Fr.trans0 ?_ (by assumption) | refine Fr.drewN ?_ _ | refine Fr.alloc ?_ _ | refine Fr.drew ?_))
    have hs1 : w1.heap.size = w.heap.size + 1 := by rw [← hw1]; exact World.size_alloc _ _
    rw [hw1] at A1 F1
    obtain ⟨w2, hw2⟩ : ∃ W, w1.alloc (.cells #[.int .u32 (a : Int), .int .u32 s] 30) = W := ⟨_, rfl⟩
    have A2 := A1.old (.cells #[.int .u32 (a : Int), .int .u32 s] 30)
    have B2 := (At.newq hs1.symm : At (w1.alloc (.cells #[.int .u32 (a : Int), .int .u32 s] 30)) (w.heap.size + 1) 30 #[.int .u32 (a : Int), .int .u32 s])
    have F2 : Fr [] w (w1.alloc (.cells #[.int .u32 (a : Int), .int .u32 s] 30)) := F1.alloc _
    have hs2 : w2.heap.size = w.heap.size + 1 + 1 := by rw [← hw2, World.size_alloc, hs1]
    rw [hw2] at A2 B2 F2
    obtain ⟨w3, hw3⟩ : ∃ W, w2.alloc (.cells #[.int .i64 0, .slice none 0 0, .slice none 0 0, .int .u64 0, .bool false] 45) = W := ⟨_, rfl⟩
    have A3 := A2.old (.cells #[.int .i64 0, .slice none 0 0, .slice none 0 0, .int .u64 0, .bool false] 45)
    have B3 := B2.old (.cells #[.int .i64 0, .slice none 0 0, .slice none 0 0, .int .u64 0, .bool false] 45)
    have C3 := (At.newq hs2.symm : At (w2.alloc (.cells #[.int .i64 0, .slice none 0 0, .slice none 0 0, .int .u64 0, .bool false] 45)) (w.heap.size + 1 + 1) 45 #[.int .i64 0, .slice none 0 0, .slice none 0 0, .int .u64 0, .bool false])
    have F3 : Fr [] w (w2.alloc (.cells #[.int .i64 0, .slice none 0 0, .slice none 0 0, .int .u64 0, .bool false] 45)) := F2.alloc _
    rw [hw3] at A3 B3 C3 F3
    have c0 := A3.cell 0
    have c1 := A3.cell 1
    have c2 := A3.cell 2
    have c3 := A3.cell 3
    have c4 := A3.cell 4
    simp only [List.getElem?_toArray, List.getElem?_cons_zero, List.getElem?_cons_succ] at c0 c1 c2 c3 c4
    have d0 := B3.cell 0
    have d1 := B3.cell 1
    simp only [List.getElem?_toArray, List.getElem?_cons_zero, List.getElem?_cons_succ] at d0 d1
    have HA := Lib.hid A3
    have HB := Lib.hid B3
    have HC := Lib.hid C3
    have HF := Lib.hid F3
    clear A1 A2 B2 F1 F2 A3 B3 C3 F3
    go_enter Try.func21, Try.ntmps21
    go_wp2_with fail
    refine (CM1.out _ HF.out).mono ?_
    rintro e w5 ⟨rfl, hf5⟩
    -- behind a call: hf5 frame, from facts HA HB HC HF
    have HA5 := Lib.hid (HA.out.fr hf5 (by simp))
    have HB5 := Lib.hid (HB.out.fr hf5 (by simp))
    have HC5 := Lib.hid (HC.out.fr hf5 (by simp))
    have HF5 := Lib.hid (HF.out.trans0 hf5)
    have p50 := HA5.out.cell 0
    have p51 := HA5.out.cell 1
    have p52 := HA5.out.cell 2
    have p53 := HA5.out.cell 3
    have p54 := HA5.out.cell 4
    simp only [List.getElem?_toArray, List.getElem?_cons_zero, List.getElem?_cons_succ] at p50 p51 p52 p53 p54
    have q50 := HB5.out.cell 0
    have q51 := HB5.out.cell 1
    simp only [List.getElem?_toArray, List.getElem?_cons_zero, List.getElem?_cons_succ] at q50 q51
    clear hf5
    go_upto_region 2 with (fail)
    go_wp2_with (first | (refine wpList_load_all rfl 45 (.tmp 2) rfl w.heap.size rfl 45 #[.int .i64 (b : Nat), .slice wa wn wc, .slice la ln lc, .int .u64 ep, .bool un] HA5.out _ Try.underlying45 rfl (by kernel_rfl) ?_) | (refine wpList_store_all rfl 45 (.tmp 4) (.tmp 46) rfl (w.heap.size + 1 + 1) #[.int .i64 (b : Nat), .slice wa wn wc, .slice la ln lc, .int .u64 ep, .bool un] rfl rfl 45 #[.int .i64 0, .slice none 0 0, .slice none 0 0, .int .u64 0, .bool false] HC5.out (by kernel_rfl) rfl (by simp [Value.oneCell']) ?_; intro w9 hA9 hF9))
    exact bodyPost_ret (res_row_tmpR rfl _ _ (w.heap.size + 1 + 1) 45 _ _ rfl hA9 Try.underlying45 rfl (by kernel_rfl)) rfl ⟨rfl, (HF5.out).trans hF9 (by simp <;> omega)⟩
  | false =>
    rw [Bool.false_or] at hm
    subst hm
    obtain ⟨w1, hw1⟩ : ∃ W, w.alloc (.cells #[.int .i64 (b : Nat), .slice wa wn wc, .slice la ln lc, .int .u64 ep, .bool un] 45) = W := ⟨_, rfl⟩
    have A1 := At.new w 45 #[.int .i64 (b : Nat), .slice wa wn wc, .slice la ln lc, .int .u64 ep, .bool un]
    have F1 : Fr [] w (w.alloc (.cells #[.int .i64 (b : Nat), .slice wa wn wc, .slice la ln lc, .int .u64 ep, .bool un] 45)) := (by repeat (first | exact Fr.refl _ _ | assumption | refine Fr.trans0 ?_ (by assumption) | refine Fr.drewN ?_ _ | refine Fr.alloc ?_ _ | refine Fr.drew ?_))
    have hs1 : w1.heap.size = w.heap.size + 1 := by rw [← hw1]; exact World.size_alloc _ _
    rw [hw1] at A1 F1
    obtain ⟨w2, hw2⟩ : ∃ W, w1.alloc (.cells #[.int .u32 (a : Int), .int .u32 s] 30) = W := ⟨_, rfl⟩
    have A2 := A1.old (.cells #[.int .u32 (a : Int), .int .u32 s] 30)
    have B2 := (At.newq hs1.symm : At (w1.alloc (.cells #[.int .u32 (a : Int), .int .u32 s] 30)) (w.heap.size + 1) 30 #[.int .u32 (a : Int), .int .u32 s])
    have F2 : Fr [] w (w1.alloc (.cells #[.int .u32 (a : Int), .int .u32 s] 30)) := F1.alloc _
    have hs2 : w2.heap.size = w.heap.size + 1 + 1 := by rw [← hw2, World.size_alloc, hs1]
    rw [hw2] at A2 B2 F2
    obtain ⟨w3, hw3⟩ : ∃ W, w2.alloc (.cells #[.int .i64 0, .slice none 0 0, .slice none 0 0, .int .u64 0, .bool false] 45) = W := ⟨_, rfl⟩
    have A3 := A2.old (.cells #[.int .i64 0, .slice none 0 0, .slice none 0 0, .int .u64 0, .bool false] 45)
    have B3 := B2.old (.cells #[.int .i64 0, .slice none 0 0, .slice none 0 0, .int .u64 0, .bool false] 45)
    have C3 := (At.newq hs2.symm : At (w2.alloc (.cells #[.int .i64 0, .slice none 0 0, .slice none 0 0, .int .u64 0, .bool false] 45)) (w.heap.size + 1 + 1) 45 #[.int .i64 0, .slice none 0 0, .slice none 0 0, .int .u64 0, .bool false])
    have F3 : Fr [] w (w2.alloc (.cells #[.int .i64 0, .slice none 0 0, .slice none 0 0, .int .u64 0, .bool false] 45)) := F2.alloc _
    rw [hw3] at A3 B3 C3 F3
    have c0 := A3.cell 0
    have c1 := A3.cell 1
    have c2 := A3.cell 2
    have c3 := A3.cell 3
    have c4 := A3.cell 4
    simp only [List.getElem?_toArray, List.getElem?_cons_zero, List.getElem?_cons_succ] at c0 c1 c2 c3 c4
    have d0 := B3.cell 0
    have d1 := B3.cell 1
    simp only [List.getElem?_toArray, List.getElem?_cons_zero, List.getElem?_cons_succ] at d0 d1
    have HA := Lib.hid A3
    have HB := Lib.hid B3
    have HC := Lib.hid C3
    have HF := Lib.hid F3
    clear A1 A2 B2 F1 F2 A3 B3 C3 F3
    go_enter Try.func21, Try.ntmps21
    go_wp2_with fail
    refine (CM1.out _ HF.out).mono ?_
    rintro e w5 ⟨rfl, hf5⟩
    -- behind a call: hf5 frame, from facts HA HB HC HF
    have HA5 := Lib.hid (HA.out.fr hf5 (by simp))
    have HB5 := Lib.hid (HB.out.fr hf5 (by simp))
    have HC5 := Lib.hid (HC.out.fr hf5 (by simp))
    have HF5 := Lib.hid (HF.out.trans0 hf5)
    have p50 := HA5.out.cell 0
    have p51 := HA5.out.cell 1
    have p52 := HA5.out.cell 2
    have p53 := HA5.out.cell 3
    have p54 := HA5.out.cell 4
    simp only [List.getElem?_toArray, List.getElem?_cons_zero, List.getElem?_cons_succ] at p50 p51 p52 p53 p54
    have q50 := HB5.out.cell 0
    have q51 := HB5.out.cell 1
    simp only [List.getElem?_toArray, List.getElem?_cons_zero, List.getElem?_cons_succ] at q50 q51
    clear hf5
    go_wp2_with fail
    refine (CM2.out _ HF5.out).mono ?_
    rintro e w6 ⟨rfl, hf6⟩
    -- behind a call: hf6 frame, from facts HA HB HC HF
    have HA6 := Lib.hid (HA5.out.fr hf6 (by simp))
    have HB6 := Lib.hid (HB5.out.fr hf6 (by simp))
    have HC6 := Lib.hid (HC5.out.fr hf6 (by simp))
    have HF6 := Lib.hid (HF5.out.trans0 hf6)
    have p60 := HA6.out.cell 0
    have p61 := HA6.out.cell 1
    have p62 := HA6.out.cell 2
    have p63 := HA6.out.cell 3
    have p64 := HA6.out.cell 4
    simp only [List.getElem?_toArray, List.getElem?_cons_zero, List.getElem?_cons_succ] at p60 p61 p62 p63 p64
    have q60 := HB6.out.cell 0
    have q61 := HB6.out.cell 1
    simp only [List.getElem?_toArray, List.getElem?_cons_zero, List.getElem?_cons_succ] at q60 q61
    clear hf6
    go_upto_region 2 with (fail)
    go_wp2_with (first | (refine wpList_load_all rfl 45 (.tmp 2) rfl w.heap.size rfl 45 #[.int .i64 (b : Nat), .slice wa wn wc, .slice la ln lc, .int .u64 ep, .bool un] HA6.out _ Try.underlying45 rfl (by kernel_rfl) ?_) | (refine wpList_store_all rfl 45 (.tmp 4) (.tmp 46) rfl (w.heap.size + 1 + 1) #[.int .i64 (b : Nat), .slice wa wn wc, .slice la ln lc, .int .u64 ep, .bool un] rfl rfl 45 #[.int .i64 0, .slice none 0 0, .slice none 0 0, .int .u64 0, .bool false] HC6.out (by kernel_rfl) rfl (by simp [Value.oneCell']) ?_; intro w9 hA9 hF9))
    exact bodyPost_ret (res_row_tmpR rfl _ _ (w.heap.size + 1 + 1) 45 _ _ rfl hA9 Try.underlying45 rfl (by kernel_rfl)) rfl ⟨rfl, (HF6.out).trans hF9 (by simp <;> omega)⟩
set_option maxHeartbeats 2000000 in
set_option maxRecDepth 100000 in
theorem rfree_yes (hm : (ref16.mts lw (a, s) || ref16.mts lb (a, s)) = false) : Calls Try.prog 21 #[.agg (ryc (b : Nat) wa lw.length wc la lb.length lc ep un), .agg #[.int .u32 a, .int .u32 s]] w fun e w' => ∃ wa' wc', e = .returned (.tuple #[.agg (ryc (b : Nat) wa' (lw.length + 1) wc' la lb.length lc ep un), .bool true]) ∧ w'.ownsRow w.heap.size 30 2 (.slice wa' (lw.length + 1) wc') (lw.length + 1) (rgv (ref16.wth lw (a, s))) ∧ Fr [] w w' := by
  have hwb : IntKind.u64.wrap (b : Int) = (b : Int) := by simp [IntKind.wrap, IntKind.signed, IntKind.bits]; omega
  have t1 : (a : Int).tmod 16 = (a : Int) % 16 := Int.tmod_eq_emod_of_nonneg (by omega)
  have t2 : (s : Int).tmod 16 = (s : Int) % 16 := Int.tmod_eq_emod_of_nonneg (by omega)
  have e1 : ((a : Int) % 16 != 0) = false := by simp; omega
  have e2 : ((s : Int) % 16 != 0) = false := by simp; omega
  have e3 : ((s : Int) == 0) = false := by simp; omega
  have e4 : decide ((b : Int) < (a : Int) + (s : Int)) = false := decide_eq_false (by omega)
  obtain ⟨wn, hwn⟩ : ∃ n, lw.length = n := ⟨_, rfl⟩
  obtain ⟨ln, hln⟩ : ∃ n, lb.length = n := ⟨_, rfl⟩
  rw [hwn, hln]
  rw [hwn] at hW
  rw [hln] at hL
  have CM1 := Lib.hid fun W (h : Fr [] w W) => (show Calls Try.prog 39 #[.slice wa wn wc, .agg #[.int .u32 (a : Int), .int .u32 s]] W fun e w' => e = .returned (.bool (ref16.mts lw (a, s))) ∧ Fr [] W w' from rmeets_any W (.slice wa wn wc) lw bw (by rw [hwn]; exact own_fr0 hW h) hbw (by omega) a s ha hs)
  have CM2 := Lib.hid fun W (h : Fr [] w W) => (show Calls Try.prog 39 #[.slice la ln lc, .agg #[.int .u32 (a : Int), .int .u32 s]] W fun e w' => e = .returned (.bool (ref16.mts lb (a, s))) ∧ Fr [] W w' from rmeets_any W (.slice la ln lc) lb bl (by rw [hln]; exact own_fr0 hL h) hbl (by omega) a s ha hs)
  have CW := Lib.hid fun W (h : Fr [] w W) => (show Calls Try.prog 40 #[.slice wa wn wc, .agg #[.int .u32 (a : Int), .int .u32 s]] W fun e w' => ∃ u, e = .returned u ∧ w'.ownsRow W.heap.size 30 2 u (wn + 1) (rgv (ref16.wth lw (a, s))) ∧ Fr [] W w' from by
    have := rwith_any W (.slice wa wn wc) lw bw (by rw [hwn]; exact own_fr0 hW h) hbw (by omega) a s ha hs
    rw [hwn] at this
    exact this)
  obtain ⟨M1, hM1⟩ : ∃ M, ref16.mts lw (a, s) = M := ⟨_, rfl⟩
  obtain ⟨M2, hM2⟩ : ∃ M, ref16.mts lb (a, s) = M := ⟨_, rfl⟩
  rw [hM1] at CM1
  rw [hM2] at CM2
  obtain ⟨LW, hLW⟩ : ∃ L, ref16.wth lw (a, s) = L := ⟨_, rfl⟩
  rw [hLW] at CW
  unfold ryc
  rw [hLW]
  rw [hM1, hM2, Bool.or_eq_false_iff] at hm
  obtain ⟨rfl, rfl⟩ := hm
  clear h1 h2 h3 h4 hW hL hbw hbl hwn hln hM1 hM2 hLW
  obtain ⟨w1, hw1⟩ : ∃ W, w.alloc (.cells #[.int .i64 (b : Nat), .slice wa wn wc, .slice la ln lc, .int .u64 ep, .bool un] 45) = W := ⟨_, rfl⟩
  have A1 := At.new w 45 #[.int .i64 (b : Nat), .slice wa wn wc, .slice la ln lc, .int .u64 ep, .bool un]
  have F1 : Fr [] w (w.alloc (.cells #[.int .i64 (b : Nat), .slice wa wn wc, .slice la ln lc, .int .u64 ep, .bool un] 45)) := (by repeat (first | exact Fr.refl _ _ | assumption | refine Fr.trans0 ?_ (by assumption) | refine Fr.drewN ?_ _ | refine Fr.alloc ?_ _ | refine Fr.drew ?_))
  have hs1 : w1.heap.size = w.heap.size + 1 := by rw [← hw1]; exact World.size_alloc _ _
  rw [hw1] at A1 F1
  obtain ⟨w2, hw2⟩ : ∃ W, w1.alloc (.cells #[.int .u32 (a : Int), .int .u32 s] 30) = W := ⟨_, rfl⟩
  have A2 := A1.old (.cells #[.int .u32 (a : Int), .int .u32 s] 30)
  have B2 := (At.newq hs1.symm : At (w1.alloc (.cells #[.int .u32 (a : Int), .int .u32 s] 30)) (w.heap.size + 1) 30 #[.int .u32 (a : Int), .int .u32 s])
  have F2 : Fr [] w (w1.alloc (.cells #[.int .u32 (a : Int), .int .u32 s] 30)) := F1.alloc _
  have hs2 : w2.heap.size = w.heap.size + 1 + 1 := by rw [← hw2, World.size_alloc, hs1]
  rw [hw2] at A2 B2 F2
  obtain ⟨w3, hw3⟩ : ∃ W, w2.alloc (.cells #[.int .i64 0, .slice none 0 0, .slice none 0 0, .int .u64 0, .bool false] 45) = W := ⟨_, rfl⟩
  have A3 := A2.old (.cells #[.int .i64 0, .slice none 0 0, .slice none 0 0, .int .u64 0, .bool false] 45)
  have B3 := B2.old (.cells #[.int .i64 0, .slice none 0 0, .slice none 0 0, .int .u64 0, .bool false] 45)
  have C3 := (At.newq hs2.symm : At (w2.alloc (.cells #[.int .i64 0, .slice none 0 0, .slice none 0 0, .int .u64 0, .bool false] 45)) (w.heap.size + 1 + 1) 45 #[.int .i64 0, .slice none 0 0, .slice none 0 0, .int .u64 0, .bool false])
  have F3 : Fr [] w (w2.alloc (.cells #[.int .i64 0, .slice none 0 0, .slice none 0 0, .int .u64 0, .bool false] 45)) := F2.alloc _
  rw [hw3] at A3 B3 C3 F3
  have c0 := A3.cell 0
  have c1 := A3.cell 1
  have c2 := A3.cell 2
  have c3 := A3.cell 3
  have c4 := A3.cell 4
  simp only [List.getElem?_toArray, List.getElem?_cons_zero, List.getElem?_cons_succ] at c0 c1 c2 c3 c4
  have d0 := B3.cell 0
  have d1 := B3.cell 1
  simp only [List.getElem?_toArray, List.getElem?_cons_zero, List.getElem?_cons_succ] at d0 d1
  have HA := Lib.hid A3
  have HB := Lib.hid B3
  have HC := Lib.hid C3
  have HF := Lib.hid F3
  clear A1 A2 B2 F1 F2 A3 B3 C3 F3
  go_enter Try.func21, Try.ntmps21
  go_wp2_with fail
  refine (CM1.out _ HF.out).mono ?_
  rintro e w5 ⟨rfl, hf5⟩
  -- behind a call: hf5 frame, from facts HA HB HC HF
  have HA5 := Lib.hid (HA.out.fr hf5 (by simp))
  have HB5 := Lib.hid (HB.out.fr hf5 (by simp))
  have HC5 := Lib.hid (HC.out.fr hf5 (by simp))
  have HF5 := Lib.hid (HF.out.trans0 hf5)
  have p50 := HA5.out.cell 0
  have p51 := HA5.out.cell 1
  have p52 := HA5.out.cell 2
  have p53 := HA5.out.cell 3
  have p54 := HA5.out.cell 4
  simp only [List.getElem?_toArray, List.getElem?_cons_zero, List.getElem?_cons_succ] at p50 p51 p52 p53 p54
  have q50 := HB5.out.cell 0
  have q51 := HB5.out.cell 1
  simp only [List.getElem?_toArray, List.getElem?_cons_zero, List.getElem?_cons_succ] at q50 q51
  clear hf5
  go_wp2_with fail
  refine (CM2.out _ HF5.out).mono ?_
  rintro e w6 ⟨rfl, hf6⟩
  -- behind a call: hf6 frame, from facts HA HB HC HF
  have HA6 := Lib.hid (HA5.out.fr hf6 (by simp))
  have HB6 := Lib.hid (HB5.out.fr hf6 (by simp))
  have HC6 := Lib.hid (HC5.out.fr hf6 (by simp))
  have HF6 := Lib.hid (HF5.out.trans0 hf6)
  have p60 := HA6.out.cell 0
  have p61 := HA6.out.cell 1
  have p62 := HA6.out.cell 2
  have p63 := HA6.out.cell 3
  have p64 := HA6.out.cell 4
  simp only [List.getElem?_toArray, List.getElem?_cons_zero, List.getElem?_cons_succ] at p60 p61 p62 p63 p64
  have q60 := HB6.out.cell 0
  have q61 := HB6.out.cell 1
  simp only [List.getElem?_toArray, List.getElem?_cons_zero, List.getElem?_cons_succ] at q60 q61
  clear hf6
  go_wp2_with fail
  refine (CW.out _ HF6.out).mono ?_
  rintro e w7 ⟨u, rfl, ho7, hf7⟩
  -- behind a call: hf7 frame, from facts HA HB HC HF
  have HA7 := Lib.hid (HA6.out.fr hf7 (by simp))
  have HB7 := Lib.hid (HB6.out.fr hf7 (by simp))
  have HC7 := Lib.hid (HC6.out.fr hf7 (by simp))
  have HF7 := Lib.hid (HF6.out.trans0 hf7)
  have p70 := HA7.out.cell 0
  have p71 := HA7.out.cell 1
  have p72 := HA7.out.cell 2
  have p73 := HA7.out.cell 3
  have p74 := HA7.out.cell 4
  simp only [List.getElem?_toArray, List.getElem?_cons_zero, List.getElem?_cons_succ] at p70 p71 p72 p73 p74
  have q70 := HB7.out.cell 0
  have q71 := HB7.out.cell 1
  simp only [List.getElem?_toArray, List.getElem?_cons_zero, List.getElem?_cons_succ] at q70 q71
  obtain ⟨m, hm⟩ : ∃ m, wn + 1 = m := ⟨_, rfl⟩
  rw [hm] at ho7
  obtain ⟨wa', wc', rfl, -⟩ := own_slice ho7
  have HM := Lib.hid hm
  have O7 := Lib.hid (own_base ho7 (HF6.out.size))
  clear hf7 ho7 hm
  have z1 := HA7.out.froz 1
  have A8 := HA7.out.set 1 (.slice wa' m wc')
  simp only [List.setIfInBounds_toArray, List.set_cons_zero, List.set_cons_succ] at A8
  have G8 : Fr [w.heap.size] w7 (w7.setCell ⟨w.heap.size, 1, none⟩ (.slice wa' m wc')) := (Fr.refl _ _).set (.inl (by simp)) _
  have O8 := own_fr O7.out G8 (fun g hg => by simpa using own_ne O7.out HA7.out (by decide) g hg)
  have C8 := HC7.out.fr G8 (by simp <;> omega)
  have F8 := HF7.out.trans G8 (by simp)
  obtain ⟨w8, hw8⟩ : ∃ W, w7.setCell ⟨w.heap.size, 1, none⟩ (.slice wa' m wc') = W := ⟨_, rfl⟩
  rw [hw8] at A8 O8 C8 F8
  have r0 := A8.cell 0
  have r1 := A8.cell 1
  have r2 := A8.cell 2
  have r3 := A8.cell 3
  have r4 := A8.cell 4
  simp only [List.getElem?_toArray, List.getElem?_cons_zero, List.getElem?_cons_succ] at r0 r1 r2 r3 r4
  have HA8 := Lib.hid A8
  have HO8 := Lib.hid O8
  have HC8 := Lib.hid C8
  have HF8 := Lib.hid F8
  clear A8 O8 C8 F8 G8
  go_upto_region 4 with (fail)
  go_wp2_with (first | (refine wpList_load_all rfl 45 (.tmp 2) rfl w.heap.size rfl 45 #[.int .i64 (b : Nat), .slice wa' m wc', .slice la ln lc, .int .u64 ep, .bool un] HA8.out _ Try.underlying45 rfl (by kernel_rfl) ?_) | (refine wpList_store_all rfl 45 (.tmp 4) (.tmp 52) rfl (w.heap.size + 1 + 1) #[.int .i64 (b : Nat), .slice wa' m wc', .slice la ln lc, .int .u64 ep, .bool un] rfl rfl 45 #[.int .i64 0, .slice none 0 0, .slice none 0 0, .int .u64 0, .bool false] HC8.out (by kernel_rfl) rfl (by simp [Value.oneCell']) ?_; intro w9 hA9 hF9))
  obtain rfl := HM.out
  exact bodyPost_ret (res_row_tmpR rfl _ _ (w.heap.size + 1 + 1) 45 _ _ rfl hA9 Try.underlying45 rfl (by kernel_rfl)) rfl ⟨wa', wc', rfl, own_fr HO8.out hF9 (fun g hg => by simpa using own_ne HO8.out HC8.out (by decide) g hg), HF8.out.trans hF9 (by simp <;> omega)⟩
end
end Go.Proofs.Ytflhpgfnffmimaa
