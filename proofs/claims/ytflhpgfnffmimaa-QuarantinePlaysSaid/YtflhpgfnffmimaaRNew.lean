/-
  The reference's New. Condition: none.
-/



import Derived.Test.YtflhpgfnffmimaaRTell
set_option linter.unusedVariables false
namespace Go.Proofs.Ytflhpgfnffmimaa
open Go.ChangeShapes Go.WideShapes Go.ChangeAt Go.RowKit
theorem res_row_tmpR {P : Program} {fn : Func} {p x : Tmp} {ty : TypeId} (h : fn.results = #[.cell p ty, .tmp x]) (tmps : Array Value) (w : World) (g : Nat) (t : TypeId) (cs : Array Value) (d : TypeDesc)
    (hp : tmps.getD p undef = .pointer (some ⟨g, 0, none⟩)) (hg : At w g t cs)
    (hu : P.underlying ty = some d) (hd : (match d with | .struct _ | .array _ _ => true | _ => false) = true) (hi : (P.info? ty).map (·.size) = some cs.size) :
    (results fn tmps).run P w = .ok (.tuple #[.agg cs, tmps.getD x undef]) w := by
  have hp' : tmps[p]?.getD undef = .pointer (some ⟨g, 0, none⟩) := by simpa using hp
  simp [results, h, hp', asAddr, run_loadVar_row w g t ty cs (0, 0) d hg hu hd hi]
set_option maxRecDepth 100000 in
theorem rnew_any (w : World) (n : Nat) (hn : n ≤ 16384) : Calls Try.prog 20 #[.int .i64 (16 * n : Nat)] w fun e w' => e = .returned (.tuple #[.agg (ryc (16 * n : Nat) none 0 0 none 0 0 0 false), .bool true]) ∧ Fr [] w w' := by
  unfold ryc
  have A0 := Lib.hid (At.new w 45 #[.int .i64 0, .slice none 0 0, .slice none 0 0, .int .u64 0, .bool false])
  have F0 := Lib.hid (show Fr [] w (w.alloc (.cells #[.int .i64 0, .slice none 0 0, .slice none 0 0, .int .u64 0, .bool false] 45)) from (by repeat (first | exact Fr.refl _ _ | assumption | refine Fr.trans0 ?_ (by assumption) | refine Fr.drewN ?_ _ | refine Fr.alloc ?_ _ | refine Fr.drew ?_)))
  obtain ⟨m, hm⟩ : ∃ m, 16 * n = m := ⟨_, rfl⟩
  rw [hm]
  have h1 : ¬ (m : Int) < 0 := by omega
  have h2 : ¬ (m : Int) > 262144 := by omega
  have h3 : ((m : Int) % 16 != 0) = false := by simp; omega
  have h4 : (m : Int).tmod 16 = (m : Int) % 16 := Int.tmod_eq_emod_of_nonneg (by omega)
  clear hm
  go_enter Try.func20, Try.ntmps20
  go_wp2_with fail
  exact bodyPost_ret (res_row_tmpR rfl _ _ w.heap.size 45 _ _ rfl (At.new w 45 #[.int .i64 (m : Int), .slice none 0 0, .slice none 0 0, .int .u64 0, .bool false]) Try.underlying45 rfl (by kernel_rfl)) rfl ⟨rfl, (by repeat (first | exact Fr.refl _ _ | assumption | refine Fr.trans0 ?_ (by assumption) | refine Fr.drewN ?_ _ | refine Fr.alloc ?_ _ | refine Fr.drew ?_))⟩
set_option maxRecDepth 100000 in
theorem rnew_bad (w : World) (b : Int) (h : b < 0 ∨ 262144 < b ∨ ¬ b % 16 = 0) : Calls Try.prog 20 #[.int .i64 b] w fun e w' => e = .returned (.tuple #[.agg (ryc 0 none 0 0 none 0 0 0 false), .bool false]) ∧ Fr [] w w' := by
  unfold ryc
  by_cases h0 : b < 0
  · clear h
    go_enter Try.func20, Try.ntmps20
    go_wp2_with fail
    exact bodyPost_ret (res_row_tmpR rfl _ _ w.heap.size 45 _ _ rfl (At.new w 45 #[.int .i64 0, .slice none 0 0, .slice none 0 0, .int .u64 0, .bool false]) Try.underlying45 rfl (by kernel_rfl)) rfl ⟨rfl, (by repeat (first | exact Fr.refl _ _ | assumption | refine Fr.trans0 ?_ (by assumption) | refine Fr.drewN ?_ _ | refine Fr.alloc ?_ _ | refine Fr.drew ?_))⟩
  · have h0' : 0 ≤ b := by omega
    by_cases h1 : 262144 < b
    · clear h
      go_enter Try.func20, Try.ntmps20
      go_wp2_with fail
      exact bodyPost_ret (res_row_tmpR rfl _ _ w.heap.size 45 _ _ rfl (At.new w 45 #[.int .i64 0, .slice none 0 0, .slice none 0 0, .int .u64 0, .bool false]) Try.underlying45 rfl (by kernel_rfl)) rfl ⟨rfl, (by repeat (first | exact Fr.refl _ _ | assumption | refine Fr.trans0 ?_ (by assumption) | refine Fr.drewN ?_ _ | refine Fr.alloc ?_ _ | refine Fr.drew ?_))⟩
    · have h2 : (b % 16 != 0) = true := by simp; omega
      have h4 : b.tmod 16 = b % 16 := Int.tmod_eq_emod_of_nonneg (by omega)
      clear h
      go_enter Try.func20, Try.ntmps20
      go_wp2_with fail
      exact bodyPost_ret (res_row_tmpR rfl _ _ w.heap.size 45 _ _ rfl (At.new w 45 #[.int .i64 0, .slice none 0 0, .slice none 0 0, .int .u64 0, .bool false]) Try.underlying45 rfl (by kernel_rfl)) rfl ⟨rfl, (by repeat (first | exact Fr.refl _ _ | assumption | refine Fr.trans0 ?_ (by assumption) | refine Fr.drewN ?_ _ | refine Fr.alloc ?_ _ | refine Fr.drew ?_))⟩
end Go.Proofs.Ytflhpgfnffmimaa
