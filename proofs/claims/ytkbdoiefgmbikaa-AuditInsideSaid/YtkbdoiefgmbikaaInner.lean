/-
  What is derived of a grant, and what is not: the plain law behind AuditInside. No program in sight; no condition.
-/
import Derived.Test.YtkbdoiefgmbikaaOutAll
import Derived.Test.YtkbdoiefgmbikaaMade
set_option linter.unusedVariables false
namespace Go.Proofs.Ytkbdoiefgmbikaa
open Go.ChangeShapes Go.WideShapes Go.ChangeAt Go.RowKit
theorem mk_yes (a s pm : Nat) (hp : pm ≤ 255) (hs : s ≤ 2048) (ha : a + s ≤ 4294967296) : mkB a s pm = true := by
  unfold mkB
  rw [decide_eq_true hp, decide_eq_true ha, (small_exact a (a + s) (by omega) (by omega)).2]
  rfl
theorem mk_range (a s pm : Nat) (h1 : a < 4294967296) (hs : s ≤ 2048) (ha : a + s ≤ 4294967296) : (mkC a s pm).base = (a : Int) ∧ (mkC a s pm).top = ((a + s : Nat) : Int) :=
  dec_exact a (a + s) a (by omega) ha h1 (small_exact a (a + s) (by omega) (by omega)).2 (Nat.le_refl _) (by omega)
structure Ins (r n f k : Nat) : Prop where
  n1 : 1 ≤ n
  n2 : n ≤ 2047
  r1 : r < 65536
  f1 : r ≤ f
  k1 : 1 ≤ k
  k2 : f + k ≤ r + n
section
variable {r n f k : Nat}
def hiC (f k : Nat) : Hd := ⟨0, 0, 0, mkC f k 1⟩
def hiG (r n : Nat) : Hd := ⟨0, 0, 0, mkC r n 3⟩
def hiM (r n : Nat) : Hd := ⟨0, 0, 0, mkC r (n + 1) 1⟩
def hiE (f k : Nat) : Hd := ⟨0, 0, 0, mkC f k 4⟩
def hiN (r : Nat) : Hd := ⟨1, 3, 0, ⟨r, 0, 0, 0, 0, 0, 0, false⟩⟩
theorem pmT : pmB 1 27 = true ∧ pmB 3 27 = true ∧ pmB 4 27 = false ∧ pmB 1 3 = true ∧ pmB 3 3 = true ∧ pmB 4 3 = false ∧ pmB 1 1 = true ∧ pmB 3 1 = false ∧ pmB 3 4 = false ∧ pmB 4 4 = true ∧ pmB 4 1 = false := by decide +kernel
theorem within_mk (a s p b t q : Nat) (h1 : a < 4294967296) (hs : s ≤ 2048) (ha : a + s ≤ 4294967296) (h2 : b < 4294967296) (ht : t ≤ 2048) (hb : b + t ≤ 4294967296) (h0 : 1 ≤ s) :
    withinB (mkC a s p) (mkC b t q) = (pmB p q && (decide (b ≤ a) && decide (a + s ≤ b + t))) := by
  obtain ⟨e1, e2⟩ := mk_range a s p h1 hs ha
  obtain ⟨e3, e4⟩ := mk_range b t q h2 ht hb
  unfold withinB
  rw [e1, e2, e3, e4]
  have e0 : decide (((a + s : Nat) : Int) ≤ (a : Int)) = false := by simp; omega
  have e5 : decide ((b : Int) ≤ (a : Int)) = decide (b ≤ a) := by rw [decide_eq_decide]; omega
  have e6 : decide (((a + s : Nat) : Int) ≤ ((b + t : Nat) : Int)) = decide (a + s ≤ b + t) := by rw [decide_eq_decide]; omega
  rw [e0, e5, e6, Bool.false_or]
  rfl
theorem meets_mk (a s p b t : Nat) (h1 : a < 4294967296) (hs : s ≤ 2048) (ha : a + s ≤ 4294967296) : meetsB (mkC a s p) b t = decide (max a b < min (a + s) (b + t)) := by
  obtain ⟨e1, e2⟩ := mk_range a s p h1 hs ha
  unfold meetsB
  rw [e1, e2, decide_eq_decide]
  omega
def five (r n f k : Nat) : List Hd := [hiC f k, hiG r n, hiM r n, hiE f k, hiN r]
theorem plc_five (S : Cp → Bool) (b0 b1 b2 b3 : Bool) (h0 : S (mkC f k 1) = b0) (h1 : S (mkC r n 3) = b1) (h2 : S (mkC r (n + 1) 1) = b2) (h3 : S (mkC f k 4) = b3) :
    plc S (five r n f k) 0 = (if b0 = true then [0] else []) ++ ((if b1 = true then [1] else []) ++ ((if b2 = true then [2] else []) ++ (if b3 = true then [3] else []))) := by
  unfold five
  simp only [plc, hiC, hiG, hiM, hiE, hiN, h0, h1, h2, h3]
  cases b0 <;> cases b1 <;> cases b2 <;> cases b3 <;> simp [mkC]
theorem in1 (h : Ins r n f k) : plc (fun c => !(([] ++ gcs [(r, n)]).any (withinB c))) (five r n f k) 0 = [2, 3] := by
  obtain ⟨i1, i2, i3, i4, i5, i6⟩ := h
  obtain ⟨p1, p2, p3, p4, p5, p6, p7, p8, p9, p10, p11⟩ := pmT
  have hg : gcs [(r, n)] = [mkC r n 27] := by unfold gcs; simp only [List.flatMap_cons, List.flatMap_nil, List.append_nil]; rw [if_pos (mk_yes r n 27 (by omega) (by omega) (by omega))]
  rw [hg]
  refine plc_five _ false false true true ?_ ?_ ?_ ?_
  all_goals simp only [List.nil_append, List.any_cons, List.any_nil, Bool.or_false]
  · rw [within_mk f k 1 r n 27 (by omega) (by omega) (by omega) (by omega) (by omega) (by omega) i5, p1, decide_eq_true (by omega), decide_eq_true (by omega)]; rfl
  · rw [within_mk r n 3 r n 27 (by omega) (by omega) (by omega) (by omega) (by omega) (by omega) i1, p2, decide_eq_true (by omega), decide_eq_true (by omega)]; rfl
  · rw [within_mk r (n + 1) 1 r n 27 (by omega) (by omega) (by omega) (by omega) (by omega) (by omega) (by omega), p1, decide_eq_true (by omega), decide_eq_false (by omega)]; rfl
  · rw [within_mk f k 4 r n 27 (by omega) (by omega) (by omega) (by omega) (by omega) (by omega) i5, p3]; rfl
theorem in2 (h : Ins r n f k) : plc (fun c => !(([mkC r n 3] ++ gcs []).any (withinB c))) (five r n f k) 0 = [2, 3] := by
  obtain ⟨i1, i2, i3, i4, i5, i6⟩ := h
  obtain ⟨p1, p2, p3, p4, p5, p6, p7, p8, p9, p10, p11⟩ := pmT
  rw [show gcs [] = [] from rfl]
  refine plc_five _ false false true true ?_ ?_ ?_ ?_
  all_goals simp only [List.append_nil, List.any_cons, List.any_nil, Bool.or_false]
  · rw [within_mk f k 1 r n 3 (by omega) (by omega) (by omega) (by omega) (by omega) (by omega) i5, p4, decide_eq_true (by omega), decide_eq_true (by omega)]; rfl
  · rw [within_mk r n 3 r n 3 (by omega) (by omega) (by omega) (by omega) (by omega) (by omega) i1, p5, decide_eq_true (by omega), decide_eq_true (by omega)]; rfl
  · rw [within_mk r (n + 1) 1 r n 3 (by omega) (by omega) (by omega) (by omega) (by omega) (by omega) (by omega), p4, decide_eq_true (by omega), decide_eq_false (by omega)]; rfl
  · rw [within_mk f k 4 r n 3 (by omega) (by omega) (by omega) (by omega) (by omega) (by omega) i5, p6]; rfl
theorem in3 (h : Ins r n f k) : plc (fun c => !(([mkC r (n + 1) 1, mkC f k 4] ++ gcs []).any (withinB c))) (five r n f k) 0 = [1] := by
  obtain ⟨i1, i2, i3, i4, i5, i6⟩ := h
  obtain ⟨p1, p2, p3, p4, p5, p6, p7, p8, p9, p10, p11⟩ := pmT
  rw [show gcs [] = [] from rfl]
  refine plc_five _ false true false false ?_ ?_ ?_ ?_
  all_goals simp only [List.append_nil, List.any_cons, List.any_nil, Bool.or_false]
  · rw [within_mk f k 1 r (n + 1) 1 (by omega) (by omega) (by omega) (by omega) (by omega) (by omega) i5, p7, decide_eq_true (by omega), decide_eq_true (by omega)]; rfl
  · rw [within_mk r n 3 r (n + 1) 1 (by omega) (by omega) (by omega) (by omega) (by omega) (by omega) i1, p8, within_mk r n 3 f k 4 (by omega) (by omega) (by omega) (by omega) (by omega) (by omega) i1, p9]; rfl
  · rw [within_mk r (n + 1) 1 r (n + 1) 1 (by omega) (by omega) (by omega) (by omega) (by omega) (by omega) (by omega), p7, decide_eq_true (by omega), decide_eq_true (by omega)]; rfl
  · rw [within_mk f k 4 r (n + 1) 1 (by omega) (by omega) (by omega) (by omega) (by omega) (by omega) i5, p11, within_mk f k 4 f k 4 (by omega) (by omega) (by omega) (by omega) (by omega) (by omega) i5, p10]; simp
theorem in4 (h : Ins r n f k) : plc (fun c => meetsB c f k) (five r n f k) 0 = [0, 1, 2, 3] := by
  obtain ⟨i1, i2, i3, i4, i5, i6⟩ := h
  refine plc_five _ true true true true ?_ ?_ ?_ ?_
  · rw [meets_mk f k 1 f k (by omega) (by omega) (by omega), decide_eq_true (by omega)]
  · rw [meets_mk r n 3 f k (by omega) (by omega) (by omega), decide_eq_true (by omega)]
  · rw [meets_mk r (n + 1) 1 f k (by omega) (by omega) (by omega), decide_eq_true (by omega)]
  · rw [meets_mk f k 4 f k (by omega) (by omega) (by omega), decide_eq_true (by omega)]
end
end Go.Proofs.Ytkbdoiefgmbikaa
