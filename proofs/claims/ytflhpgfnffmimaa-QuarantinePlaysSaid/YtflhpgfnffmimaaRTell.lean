/-
  What the reference's yard tells: ended, Ticket, Done. Condition: an epoch of a million at most.
-/



import Derived.Test.YtflhpgfnffmimaaModel
set_option linter.unusedVariables false
namespace Go.Proofs.Ytflhpgfnffmimaa
open Go.ChangeShapes Go.WideShapes Go.ChangeAt Go.RowKit
/-- The reference's yard as a value. -/
def ryc (b : Int) (wa : Option Addr) (wn wc : Nat) (la : Option Addr) (ln lc : Nat) (ep : Nat) (un : Bool) : Array Value := #[.int .i64 b, .slice wa wn wc, .slice la ln lc, .int .u64 ep, .bool un]
def rend (ep : Nat) (un : Bool) : Int := if un = true then (ep : Int) - 1 else ep
section
variable (w : World) (b : Int) (wa : Option Addr) (wn wc : Nat) (la : Option Addr) (ln lc : Nat) (ep : Nat) (un : Bool) (hu : un = true → 1 ≤ ep) (he : ep ≤ 1000000)
include hu he
set_option maxRecDepth 100000 in
theorem rended_any : Calls Try.prog 53 #[.agg (ryc b wa wn wc la ln lc ep un)] w fun e w' => e = .returned (.int .u64 (rend ep un)) ∧ Fr [] w w' := by
  unfold ryc rend
  have A1 := At.new w 45 #[.int .i64 b, .slice wa wn wc, .slice la ln lc, .int .u64 ep, .bool un]
  have c3 := A1.cell 3
  have c4 := A1.cell 4
  simp only [List.getElem?_toArray, List.getElem?_cons_zero, List.getElem?_cons_succ] at c3 c4
  have F1 : Fr [] w (w.alloc (.cells #[.int .i64 b, .slice wa wn wc, .slice la ln lc, .int .u64 ep, .bool un] 45)) := (by repeat (first | exact Fr.refl _ _ | assumption | refine Fr.trans0 ?_ (by assumption) | refine Fr.drewN ?_ _ | refine Fr.alloc ?_ _ | refine Fr.drew ?_))
  have HF := Lib.hid F1
  clear A1 F1
  cases un with
  | true =>
    have h1 := hu rfl
    have h2 : IntKind.u64.wrap ((ep : Int) - 1) = (ep : Int) - 1 := by simp [IntKind.wrap, IntKind.signed, IntKind.bits]; omega
    clear hu
    go_enter Try.func53, Try.ntmps53
    go_wp2_with fail
    go_ret
    exact ⟨rfl, HF.out⟩
  | false =>
    clear hu
    go_enter Try.func53, Try.ntmps53
    go_wp2_with fail
    go_ret
    exact ⟨rfl, HF.out⟩
def rtk (wn ln ep : Nat) (un : Bool) : Int := if 0 < wn then (ep : Int) + 1 else if 0 < ln then ep else rend ep un
set_option maxRecDepth 100000 in
theorem rdone_any (t : Int) : Calls Try.prog 43 #[.agg (ryc b wa wn wc la ln lc ep un), .int .u64 t] w fun e w' => e = .returned (.bool (decide (t ≤ rend ep un))) ∧ Fr [] w w' := by
  unfold ryc
  have A1 := At.new w 45 #[.int .i64 b, .slice wa wn wc, .slice la ln lc, .int .u64 ep, .bool un]
  have c0 := A1.cell 0
  have c1 := A1.cell 1
  have c2 := A1.cell 2
  have c3 := A1.cell 3
  have c4 := A1.cell 4
  simp only [List.getElem?_toArray, List.getElem?_cons_zero, List.getElem?_cons_succ] at c0 c1 c2 c3 c4
  have F1 : Fr [] w (w.alloc (.cells #[.int .i64 b, .slice wa wn wc, .slice la ln lc, .int .u64 ep, .bool un] 45)) := (by repeat (first | exact Fr.refl _ _ | assumption | refine Fr.trans0 ?_ (by assumption) | refine Fr.drewN ?_ _ | refine Fr.alloc ?_ _ | refine Fr.drew ?_))
  have HF := Lib.hid F1
  have CE := Lib.hid fun W => (show Calls Try.prog 53 #[.agg #[.int .i64 b, .slice wa wn wc, .slice la ln lc, .int .u64 ep, .bool un]] W fun e w' => e = .returned (.int .u64 (rend ep un)) ∧ Fr [] W w' from rended_any W b wa wn wc la ln lc ep un hu he)
  have HAT := Lib.hid A1
  clear A1 F1 hu
  obtain ⟨E, hE⟩ : ∃ E, rend ep un = E := ⟨_, rfl⟩
  rw [hE] at CE ⊢
  clear hE
  go_enter Try.func43, Try.ntmps43
  go_wp2_with (refine wpList_load_all rfl 45 (.tmp 2) rfl w.heap.size rfl 45 #[.int .i64 b, .slice wa wn wc, .slice la ln lc, .int .u64 ep, .bool un] HAT.out _ Try.underlying45 rfl (by kernel_rfl) ?_)
  refine (CE.out _).mono ?_
  rintro e w' ⟨rfl, hf⟩
  go_wp2_with fail
  go_ret
  exact ⟨rfl, HF.out.trans0 hf⟩
set_option maxRecDepth 100000 in
theorem rticket_any : Calls Try.prog 42 #[.agg (ryc b wa wn wc la ln lc ep un)] w fun e w' => e = .returned (.int .u64 (rtk wn ln ep un)) ∧ Fr [] w w' := by
  unfold ryc rtk
  have hv : IntKind.u64.wrap ((ep : Int) + 1) = (ep : Int) + 1 := by simp [IntKind.wrap, IntKind.signed, IntKind.bits]; omega
  have A1 := At.new w 45 #[.int .i64 b, .slice wa wn wc, .slice la ln lc, .int .u64 ep, .bool un]
  have c0 := A1.cell 0
  have c1 := A1.cell 1
  have c2 := A1.cell 2
  have c3 := A1.cell 3
  have c4 := A1.cell 4
  simp only [List.getElem?_toArray, List.getElem?_cons_zero, List.getElem?_cons_succ] at c0 c1 c2 c3 c4
  have F1 : Fr [] w (w.alloc (.cells #[.int .i64 b, .slice wa wn wc, .slice la ln lc, .int .u64 ep, .bool un] 45)) := (by repeat (first | exact Fr.refl _ _ | assumption | refine Fr.trans0 ?_ (by assumption) | refine Fr.drewN ?_ _ | refine Fr.alloc ?_ _ | refine Fr.drew ?_))
  have HF := Lib.hid F1
  have CE := Lib.hid fun W => (show Calls Try.prog 53 #[.agg #[.int .i64 b, .slice wa wn wc, .slice la ln lc, .int .u64 ep, .bool un]] W fun e w' => e = .returned (.int .u64 (rend ep un)) ∧ Fr [] W w' from rended_any W b wa wn wc la ln lc ep un hu he)
  have HAT := Lib.hid A1
  clear A1 F1 hu
  obtain ⟨E, hE⟩ : ∃ E, rend ep un = E := ⟨_, rfl⟩
  rw [hE] at CE ⊢
  clear hE
  by_cases h1 : 0 < wn
  · rw [if_pos h1]
    have h1i : (0 : Int) < (wn : Int) := by omega
    go_enter Try.func42, Try.ntmps42
    go_wp2_with fail
    go_ret
    exact ⟨rfl, HF.out⟩
  · rw [if_neg h1]
    obtain rfl : wn = 0 := by omega
    by_cases h2 : 0 < ln
    · rw [if_pos h2]
      have h2i : (0 : Int) < (ln : Int) := by omega
      go_enter Try.func42, Try.ntmps42
      go_wp2_with fail
      go_ret
      exact ⟨rfl, HF.out⟩
    · rw [if_neg h2]
      obtain rfl : ln = 0 := by omega
      go_enter Try.func42, Try.ntmps42
      go_wp2_with (refine wpList_load_all rfl 45 (.tmp 1) rfl w.heap.size rfl 45 #[.int .i64 b, .slice wa 0 wc, .slice la 0 lc, .int .u64 ep, .bool un] HAT.out _ Try.underlying45 rfl (by kernel_rfl) ?_)
      refine (CE.out _).mono ?_
      rintro e w' ⟨rfl, hf⟩
      go_wp2_with fail
      go_ret
      exact ⟨rfl, HF.out.trans0 hf⟩
end
end Go.Proofs.Ytflhpgfnffmimaa
