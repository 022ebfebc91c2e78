/-
  Encode of bounds that are exact; common of two regions. Conditions: sizes below 2^32.
-/


import Derived.Test.YtdbpmojblgmhdaaDoorHWorks
import Derived.Lib.MinMax
set_option linter.unusedVariables false
namespace Go.Proofs.YtdbpmojblgmhdaaDoor
open Go.ChangeShapes Go.WideShapes Go.ChangeAt Go.RowKit
theorem right_yes (b t : Int) (w : World) (h1 : 0 ≤ b) (h2 : b < 4294967296) (h3 : b ≤ t) (h4 : t ≤ 4294967296) : Calls Tryd.prog 32 #[.int .u32 b, .int .u64 t] w fun r w' => r = .returned (.bool true) ∧ ∃ n, w' = w.drewN n := by
  go_enter Tryd.func32, Tryd.ntmps32
  go_wp2
  go_ret
  exact ⟨rfl, 0, rfl⟩
theorem encode_exact (b t : Int) (w : World) (h1 : 0 ≤ b) (h2 : b < 4294967296) (h3 : b ≤ t) (h4 : t ≤ 4294967296) (q1 : rdn b (expo b t) = b) (q2 : rup t (expo b t) = t) :
    Calls Tryd.prog 17 #[.int .u32 b, .int .u64 t] w fun r w' => (∃ x y z : Value, r = .returned (.tuple #[x, y, z, .bool true, .bool true])) ∧ ∃ n, w' = w.drewN n := by
  have he := expo_le b t
  have C1 := Lib.hid fun w => rounded_any b t (expo b t) w he h1 h2 (by omega) h4
  have C2 := Lib.hid fun w => exponent_any b t w h1 h2 (by omega) h4 h3
  rw [q1, q2] at C1
  generalize expo b t = e at *
  have hp := pow_bd e he
  clear q1 q2
  go_enter Tryd.func17, Tryd.ntmps17
  go_wp2_with (first | (go_at_call 32; refine (right_yes b t _ h1 h2 h3 h4).mono ?_; rintro r w' ⟨rfl, n, rfl⟩) | (go_at_call 33; refine (C2.out _).mono ?_; rintro r w' ⟨rfl, rfl⟩) | (go_at_call 34; refine (C1.out _).mono ?_; rintro r w' ⟨rfl, rfl⟩))
  go_quiet (fail)
  go_wp2
  exact bodyPost_ret (res_tmp5 rfl _ _ _) rfl ⟨⟨_, _, _, rfl⟩, _, by rw [World.drewN_drewN]⟩
theorem common_any (x y : Rg) (hx : Ok32 x) (hy : Ok32 y) (w : World) : Calls Tryd.prog 15 #[.agg #[.int .u32 x.1, .int .u32 x.2], .agg #[.int .u32 y.1, .int .u32 y.2]] w fun e w' => e = .returned (.bool (decide (max x.1 y.1 < min (x.1 + x.2) (y.1 + y.2)))) ∧ Fr [] w w' := by
  obtain ⟨x1, x2⟩ := x
  obtain ⟨y1, y2⟩ := y
  unfold Ok32 at hx hy
  dsimp only at hx hy ⊢
  have v1 : IntKind.u64.wrap (x1 : Int) = x1 := by simp [IntKind.wrap, IntKind.signed, IntKind.bits]; omega
  have v2 : IntKind.u64.wrap (x2 : Int) = x2 := by simp [IntKind.wrap, IntKind.signed, IntKind.bits]; omega
  have v3 : IntKind.u64.wrap (y1 : Int) = y1 := by simp [IntKind.wrap, IntKind.signed, IntKind.bits]; omega
  have v4 : IntKind.u64.wrap (y2 : Int) = y2 := by simp [IntKind.wrap, IntKind.signed, IntKind.bits]; omega
  have v5 : IntKind.u64.wrap ((x1 : Int) + x2) = (x1 : Int) + x2 := by simp [IntKind.wrap, IntKind.signed, IntKind.bits]; omega
  have v6 : IntKind.u64.wrap ((y1 : Int) + y2) = (y1 : Int) + y2 := by simp [IntKind.wrap, IntKind.signed, IntKind.bits]; omega
  go_enter Tryd.func15, Tryd.ntmps15
  go_wp2
  go_ret
  refine ⟨?_, (by repeat (first | exact Fr.refl _ _ | assumption | refine Fr.trans0 ?_ (by assumption) | refine Fr.drewN ?_ _ | refine Fr.alloc ?_ _ | refine Fr.drew ?_))⟩
  have hd : decide (max (x1 : Int) y1 < min ((x1 : Int) + x2) ((y1 : Int) + y2)) = decide (max x1 y1 < min (x1 + x2) (y1 + y2)) := by rw [decide_eq_decide]; omega
  rw [← hd]
  rfl
end Go.Proofs.YtdbpmojblgmhdaaDoor
