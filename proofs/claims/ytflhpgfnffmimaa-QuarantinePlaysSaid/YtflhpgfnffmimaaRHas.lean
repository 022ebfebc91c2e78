/-
  The reference's Has and Begin. Condition: numbers in their types' ranges.
-/



import Derived.Test.YtflhpgfnffmimaaRTell
import Derived.Test.YtflhpgfnffmimaaRMeets
set_option linter.unusedVariables false
namespace Go.Proofs.Ytflhpgfnffmimaa
open Go.ChangeShapes Go.WideShapes Go.ChangeAt Go.RowKit
set_option maxRecDepth 100000 in
theorem rhas_any (w : World) (b : Int) (wa : Option Addr) (wn wc : Nat) (la : Option Addr) (n lc : Nat) (ep : Nat) (un : Bool) (l : List (Nat × Nat)) (base : Nat) (hl : l.length = n) (hv : w.ownsRow base 30 2 (.slice la n lc) n (rgv l)) (hb : ∀ q ∈ l, q.1 < 4294967296 ∧ q.2 < 4294967296) (hn : n ≤ 1000000) (a : Nat) (ha : a < 4294967296) :
    Calls Try.prog 29 #[.agg (ryc b wa wn wc la n lc ep un), .int .u32 a] w fun e w' => e = .returned (.bool (ref16.mts l (a, 1))) ∧ Fr [] w w' := by
  unfold ryc
  have A1 := At.new w 45 #[.int .i64 b, .slice wa wn wc, .slice la n lc, .int .u64 ep, .bool un]
  have c2 := A1.cell 2
  simp only [List.getElem?_toArray, List.getElem?_cons_zero, List.getElem?_cons_succ] at c2
  have F1 : Fr [] w (w.alloc (.cells #[.int .i64 b, .slice wa wn wc, .slice la n lc, .int .u64 ep, .bool un] 45)) := (by repeat (first | exact Fr.refl _ _ | assumption | refine Fr.trans0 ?_ (by assumption) | refine Fr.drewN ?_ _ | refine Fr.alloc ?_ _ | refine Fr.drew ?_))
  have HF := Lib.hid F1
  have CM := Lib.hid fun W (h : Fr [] w W) => (show Calls Try.prog 39 #[.slice la n lc, .agg #[.int .u32 (a : Int), .int .u32 1]] W fun e w' => e = .returned (.bool (ref16.mts l (a, 1))) ∧ Fr [] W w' from rmeets_any W (.slice la n lc) l base (by rw [hl]; exact own_fr0 hv h) hb (by omega) a 1 ha (by omega))
  obtain ⟨M, hM⟩ : ∃ M, ref16.mts l (a, 1) = M := ⟨_, rfl⟩
  rw [hM] at CM ⊢
  clear A1 F1 hv hb hM hl
  go_enter Try.func29, Try.ntmps29
  go_wp2_with fail
  refine (CM.out _ HF.out).mono ?_
  rintro e w' ⟨rfl, hf⟩
  go_wp2_with fail
  go_ret
  exact ⟨rfl, HF.out.trans0 hf⟩
end Go.Proofs.Ytflhpgfnffmimaa
