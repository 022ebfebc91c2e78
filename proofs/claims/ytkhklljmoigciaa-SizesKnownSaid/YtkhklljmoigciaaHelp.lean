/-
  Contracts of layer 11 in the form that the laws use. Conditions: sizes below 2^32.
-/
import Derived.Test.YtkhklljmoigciaaPlain
import Derived.Test.YtkhklljmoigciaaWorks
set_option linter.unusedVariables false
namespace Go.Proofs.Ytkhklljmoigciaa
open Go.ChangeShapes Go.WideShapes Go.ChangeAt Go.RowKit
theorem pd3 (s h p a e : Int) (h1 : 0 ≤ s) (h2 : s < 4294967296) (hv : padV s h = (p, a, e)) : Hid (∀ w, Calls Try.prog 10 #[.int .u32 s, .int .u32 h] w fun r w' => r = .returned (.tuple #[.int .u32 p, .int .u32 a, .int .i64 e]) ∧ Fr [] w w') := Lib.hid fun w => by
  have := padded_any s h w h1 h2
  unfold Pd at this
  rw [hv] at this
  exact this
theorem pages_any (n : Int) (w : World) (h1 : 0 ≤ n) (h2 : n < 4294967296) : Calls Try.prog 18 #[.int .u32 n] w fun r w' => r = .returned (.int .i64 ((n + 256 - 1) / 256)) ∧ w = w' := by
  go_enter Try.func18, Try.ntmps18
  go_wp2
  go_ret
  exact ⟨rfl, rfl⟩
theorem rpages_any (n : Int) (w : World) (h1 : 0 ≤ n) (h2 : n < 4294967296) : Calls Try.prog 19 #[.int .u32 n] w fun r w' => r = .returned (.int .i64 ((n + 256 - 1) / 256)) ∧ w = w' := by
  go_enter Try.func19, Try.ntmps19
  go_wp2
  go_ret
  exact ⟨rfl, rfl⟩
theorem classes_any (w : World) : Calls Try.prog 17 #[] w fun r w' => r = .returned (.int .i64 5) ∧ w = w' := by
  go_enter Try.func17, Try.ntmps17
  go_wp2
  go_ret
  exact ⟨rfl, rfl⟩
theorem right_yes (b t : Int) (w : World) (h1 : 0 ≤ b) (h2 : b < 4294967296) (h3 : b ≤ t) (h4 : t ≤ 4294967296) : Calls Try.prog 24 #[.int .u32 b, .int .u64 t] w fun r w' => r = .returned (.bool true) ∧ ∃ n, w' = w.drewN n := by
  go_enter Try.func24, Try.ntmps24
  go_wp2
  go_ret
  exact ⟨rfl, 0, rfl⟩
def mant (x : Int) (e : Nat) : Int := IntKind.u16.wrap (bits .and .u64 (IntKind.u64.wrap (x / 2 ^ e)) 4095)
theorem encode_exact (b t : Int) (w : World) (h1 : 0 ≤ b) (h2 : b < 4294967296) (h3 : b ≤ t) (h4 : t ≤ 4294967296) (q1 : rdn b (expo b t) = b) (q2 : rup t (expo b t) = t) :
    Calls Try.prog 20 #[.int .u32 b, .int .u64 t] w fun r w' => (∃ x y z : Value, r = .returned (.tuple #[x, y, z, .bool true, .bool true])) ∧ ∃ n, w' = w.drewN n := by
  have he := expo_le b t
  have C1 := Lib.hid fun w => rounded_any b t (expo b t) w he h1 h2 (by omega) h4
  have C2 := Lib.hid fun w => exponent_any b t w h1 h2 (by omega) h4 h3
  rw [q1, q2] at C1
  generalize expo b t = e at *
  have hp := pow_bd e he
  clear q1 q2
  go_enter Try.func20, Try.ntmps20
  go_wp2_with (first | (go_at_call 24; refine (right_yes b t _ h1 h2 h3 h4).mono ?_; rintro r w' ⟨rfl, n, rfl⟩) | (go_at_call 25; refine (C2.out _).mono ?_; rintro r w' ⟨rfl, rfl⟩) | (go_at_call 26; refine (C1.out _).mono ?_; rintro r w' ⟨rfl, rfl⟩))
  go_quiet (fail)
  go_wp2
  exact bodyPost_ret (res_tmp5 rfl _ _ _) rfl ⟨⟨_, _, _, rfl⟩, _, by rw [World.drewN_drewN]⟩
end Go.Proofs.Ytkhklljmoigciaa
