/-
  A yard in memory; none, New, and what Free refuses. Condition: numbers in their types' ranges.
-/



import Derived.Test.YtflhpgfnffmimaaLotAdd
import Derived.Deep.CutBlock
import Derived.Deep.DeepCutAuto
set_option linter.unusedVariables false
namespace Go.Proofs.Ytflhpgfnffmimaa
open Go.ChangeShapes Go.WideShapes Go.ChangeAt Go.RowKit
/-- What a yard holds, and where. -/
structure YS where
  y : Nat
  n : Nat
  ep : Nat
  un : Bool
  wv : Value
  a : Nat
  b : Nat
  c : Nat
  lw : List (Nat × Nat)
  bv : Value
  a' : Nat
  b' : Nat
  c' : Nat
  lb : List (Nat × Nat)
def YS.cells (s : YS) : Array Value := #[.int .u64 s.ep, .bool s.un, .int .i64 (16 * s.n : Nat), s.wv, .pointer (some ⟨s.a, 0, none⟩), s.bv, .pointer (some ⟨s.a', 0, none⟩)]
structure Yd (w : World) (s : YS) : Prop where
  at_ : At w s.y 68 s.cells
  wt : Lt w s.wv s.a s.b s.c s.n s.lw
  bt : Lt w s.bv s.a' s.b' s.c' s.n s.lb
  ne : s.c ≠ s.c'
  apart : ∀ g, s.wv.ownBlock = some g → s.bv.ownBlock ≠ some g
  up : s.un = true → 1 ≤ s.ep
  few : s.ep ≤ 1000000
theorem Yd.fr0 {w w' : World} {s : YS} (h : Yd w s) (f : Fr [] w w') : Yd w' s := ⟨h.at_.fr f (by simp), h.wt.fr0 f, h.bt.fr0 f, h.ne, h.apart, h.up, h.few⟩
theorem qnone_any {w : World} {s : YS} (h : Yd w s) : Calls Try.prog 34 #[.pointer (some ⟨s.y, 0, none⟩)] w fun r w' => r = .returned (.bool false) ∧ w = w' := by
  have c4 := h.at_.cell 4
  unfold YS.cells at c4
  simp only [List.getElem?_toArray, List.getElem?_cons_zero, List.getElem?_cons_succ] at c4
  clear h
  go_enter Try.func34, Try.ntmps34
  go_wp2_with fail
  go_ret
  exact ⟨rfl, rfl⟩
theorem qnone_nil (w : World) : Calls Try.prog 34 #[.pointer none] w fun r w' => r = .returned (.bool true) ∧ w = w' := by
  go_enter Try.func34, Try.ntmps34
  go_wp2_with fail
  go_ret
  exact ⟨rfl, rfl⟩
set_option maxRecDepth 100000 in
theorem qnew_bad (w : World) (b : Int) (h : b < 0 ∨ 262144 < b ∨ ¬ b % 16 = 0) : Calls Try.prog 8 #[.int .i64 b] w fun r w' => r = .returned (.pointer none) ∧ w = w' := by
  by_cases h0 : b < 0
  · clear h
    go_enter Try.func8, Try.ntmps8
    go_wp2_with fail
    go_ret
    exact ⟨rfl, rfl⟩
  · have h0' : 0 ≤ b := by omega
    by_cases h1 : 262144 < b
    · clear h
      go_enter Try.func8, Try.ntmps8
      go_wp2_with fail
      go_ret
      exact ⟨rfl, rfl⟩
    · have h2 : (b % 16 != 0) = true := by simp; omega
      clear h
      go_enter Try.func8, Try.ntmps8
      go_wp2_with fail
      go_ret
      exact ⟨rfl, rfl⟩
set_option maxRecDepth 100000 in
theorem qnew_any (w : World) (n : Nat) (hn : n ≤ 16384) : Calls Try.prog 8 #[.int .i64 (16 * n : Nat)] w fun r w' => ∃ s : YS, r = .returned (.pointer (some ⟨s.y, 0, none⟩)) ∧ Yd w' s ∧ s.n = n ∧ s.ep = 0 ∧ s.un = false ∧ s.lw = [] ∧ s.lb = [] ∧ s.wv = .slice none 0 0 ∧ s.bv = .slice none 0 0 ∧ (w.heap.size ≤ s.y ∧ w.heap.size ≤ s.c ∧ w.heap.size ≤ s.c') ∧ Fr [] w w' := by
  have C := Lib.hid fun W => fresh_any n W hn
  obtain ⟨m, hm⟩ : ∃ m, 16 * n = m := ⟨_, rfl⟩
  have HM := Lib.hid hm
  rw [hm] at C ⊢
  have h1 : ((m : Int) % 16 != 0) = false := by simp; omega
  have h2 : ¬ ((262144 : Int) < (m : Int)) := by omega
  clear hm
  go_enter Try.func8, Try.ntmps8
  go_wp2_with fail
  refine (C.out _).mono ?_
  rintro e w2 ⟨a, b, c, rfl, h2', ha, hb, hc, hf2⟩
  have L2 := Lib.hid h2'
  have F2 := Lib.hid hf2
  clear h2' hf2
  go_wp2_with fail
  refine (C.out _).mono ?_
  rintro e w3 ⟨a', b', c', rfl, h3, ha', hb', hc', hf3⟩
  have L2' := Lib.hid (L2.out.fr0 hf3)
  have L3 := Lib.hid h3
  have F3 := Lib.hid (F2.out.trans0 hf3)
  have hs2 := F2.out.size
  have hs3 := hf3.size
  obtain ⟨-, -, ⟨_, hcc⟩⟩ := Pt.blocks L2.out.pt
  have hcl := hcc.lt
  clear h3 hf3 hcc
  go_wp2_with fail
  go_ret
  have hga : Fr [] w3 (w3.alloc (.cells #[.int .u64 0, .bool false, .int .i64 (m : Int), .slice none 0 0, .pointer (some ⟨a, 0, none⟩), .slice none 0 0, .pointer (some ⟨a', 0, none⟩)] 68)) := (by repeat (first | exact Fr.refl _ _ | assumption | refine Fr.trans0 ?_ (by assumption) | refine Fr.drewN ?_ _ | refine Fr.alloc ?_ _ | refine Fr.drew ?_))
  refine ⟨⟨w3.heap.size, n, 0, false, .slice none 0 0, a, b, c, [], .slice none 0 0, a', b', c', []⟩, rfl, ⟨?_, L2'.out.fr0 hga, L3.out.fr0 hga, by dsimp only; omega, (fun g hg => by simp [Value.ownBlock] at hg), (fun h => by cases h), by dsimp only; omega⟩, rfl, rfl, rfl, rfl, rfl, rfl, rfl, ⟨by dsimp only; omega, by dsimp only; omega, by dsimp only; omega⟩, F3.out.trans0 hga⟩
  unfold YS.cells
  dsimp only
  rw [HM.out]
  exact At.new w3 _ _
end Go.Proofs.Ytflhpgfnffmimaa
