/-
  math/bits.OnesCount32 and TrailingZeros32. Conditions: the type's own range; the table of math/bits is as the library lays it (TrailingZeros32).
-/

import Derived.Test.YtdbpmojblgmhdaaDoorTell
import Derived.Lib.BitFns
set_option linter.unusedVariables false
namespace Go.Proofs.YtdbpmojblgmhdaaDoor
open Go.ChangeShapes Go.WideShapes Go.ChangeAt Go.RowKit
theorem pop8_cnt : ∀ n : Fin 256, Lib.pop8 (n.val : Int) = (cnt n.val.testBit 8 : Int) := by decide +kernel
set_option maxHeartbeats 1000000 in
set_option maxRecDepth 100000 in
theorem pop32_core (x A B p q : Nat) (w : World) (hA : A < 256) (hB : B < 256) (h1 : (x : Int) / 16777216 = 0) (h2 : (x : Int) / 65536 = 0) (h3 : bits .and .u32 ((x : Int) / 256) 255 = (A : Int)) (h4 : bits .and .u32 (x : Int) 255 = (B : Int))
    (h5 : Lib.pop8 (A : Int) = p) (h6 : Lib.pop8 (B : Int) = q) (hp : p ≤ 8) (hq : q ≤ 8) :
    Calls Tryd.prog 77 #[.int .u32 x] w fun r w' => r = .returned (.int .i64 (p + q : Nat)) ∧ ∃ n, w' = w.drewN n := by
  have a1 : (0 : Int) ≤ A := by omega
  have a2 : (A : Int) ≤ 255 := by omega
  have b1 : (0 : Int) ≤ B := by omega
  have b2 : (B : Int) ≤ 255 := by omega
  have z1 : bits BinOp.and IntKind.u32 0 255 = 0 := by decide +kernel
  have z2 : Lib.pop8 0 = 0 := by decide +kernel
  have z3 : IntKind.u8.wrap ((p : Int) + q) = (p : Int) + q := by simp [IntKind.wrap, IntKind.signed, IntKind.bits]; omega
  have z4 : IntKind.i64.wrap ((p : Int) + q) = (p : Int) + q := IntWalk.i64_in _ (by omega)
  have z5 : IntKind.u8.wrap (p : Int) = (p : Int) := by simp [IntKind.wrap, IntKind.signed, IntKind.bits]; omega
  go_enter Tryd.func77, Tryd.ntmps77
  go_wp2
  go_quiet (fail)
  go_wp2
  go_ret
  exact ⟨ret_int (by simp), _, rfl⟩
theorem pop32_any (x : Nat) (w : World) (h : x < 65536) :
    Calls Tryd.prog 77 #[.int .u32 x] w fun r w' => r = .returned (.int .i64 (cnt x.testBit 16)) ∧ ∃ n, w' = w.drewN n := by
  have hA : x / 256 < 256 := by omega
  have hB : x % 256 < 256 := by omega
  have e := cnt_bytes [x % 256, x / 256] (by simp; omega)
  have e2 : bytes [x % 256, x / 256] = x := by simp only [bytes]; omega
  rw [e2] at e
  have h3 : bits .and .u32 ((x : Int) / 256) 255 = ((x / 256 : Nat) : Int) := by
    have := u32_and_nat (x / 256) 255 (by omega) (by omega)
    rw [show x / 256 &&& 255 = x / 256 from by rw [show (255 : Nat) = 2 ^ 8 - 1 by rfl, Nat.and_two_pow_sub_one_eq_mod]; omega] at this
    rw [← this]; rfl
  have h4 : bits .and .u32 (x : Int) 255 = ((x % 256 : Nat) : Int) := by
    have := u32_and_nat x 255 (by omega) (by omega)
    rw [show x &&& 255 = x % 256 from by rw [show (255 : Nat) = 2 ^ 8 - 1 by rfl, Nat.and_two_pow_sub_one_eq_mod]] at this
    rw [← this]; rfl
  have := pop32_core x (x / 256) (x % 256) _ _ w hA hB (by omega) (by omega) h3 h4 (pop8_cnt ⟨_, hA⟩) (pop8_cnt ⟨_, hB⟩) (cnt_le _ 8) (cnt_le _ 8)
  rw [show 8 * [x % 256, x / 256].length = 16 by rfl] at e
  simp only [List.map_cons, List.map_nil, List.sum_cons, List.sum_nil] at e
  rw [e, show cnt (x % 256).testBit 8 + (cnt (x / 256).testBit 8 + 0) = cnt (x / 256).testBit 8 + cnt (x % 256).testBit 8 by omega]
  exact this
/-- The table of math/bits, in its variable. -/
def Tab32 (w : World) : Prop := ∀ j, j < 32 → w.cell? ⟨0, j, none⟩ = some (.int .u8 (Lib.deBruijn32tab.getD j 0))
section
variable {w w' : World} {S : List Nat}
theorem Tab32.fr (h : Tab32 w) (f : Fr S w w') (hS : 0 ∉ S) : Tab32 w' := fun j hj => (f.cell (a := ⟨0, j, none⟩) (lt_of_cell (h j hj)) hS).trans (h j hj)
theorem Tab32.heap (h : Tab32 w) (hv : w'.heap = w.heap) : Tab32 w' := fun j hj => by have := h j hj; unfold World.cell? at *; rw [hv]; exact this
theorem Tab32.lt (h : Tab32 w) : 0 < w.heap.size := lt_of_cell (h 0 (by omega))
end
theorem tz32_core (x k idx : Nat) (w : World) (hx0 : ((x : Int) == 0) = false)
    (key : bits BinOp.and IntKind.u32 (x : Int) (-(x : Int) % 4294967296) * 125613361 % 4294967296 / 134217728 = (idx : Int))
    (hi : idx < 32) (hk : k < 32) (hcell : w.cell? ⟨0, idx, none⟩ = some (.int .u8 k)) :
    Calls Tryd.prog 73 #[.int .u32 x] w fun e w' => e = .returned (.int .i64 k) ∧ w = w' := by
  go_enter Tryd.func73, Tryd.ntmps73
  go_wp2
  go_ret
  exact ⟨rfl, rfl⟩
theorem and_low32 (x : Nat) (h0 : x ≠ 0) (h : x < 4294967296) (a : Nat) (ha : x &&& (4294967296 - x) = a) :
    bits BinOp.and IntKind.u32 (x : Int) (-(x : Int) % 4294967296) * 125613361 % 4294967296 / 134217728 = ((a * 125613361 % 4294967296 / 134217728 : Nat) : Int) := by
  have e1 : (-(x : Int)) % 4294967296 = ((4294967296 - x : Nat) : Int) := by omega
  rw [e1, u32_and_nat x _ h (by omega), ha]
  omega
theorem tz32_any (x : Nat) (h0 : x ≠ 0) (hx : x < 4294967296) (w : World) (hT : Tab32 w) :
    Calls Tryd.prog 73 #[.int .u32 x] w fun e w' => e = .returned (.int .i64 (Lib.ctz 32 x)) ∧ w = w' := by
  obtain ⟨hlow, hk⟩ := Lib.lowest_bit 32 x h0 hx
  obtain ⟨hi, htab⟩ := Lib.deBruijn32_at _ hk
  have hcell := hT _ hi
  rw [htab] at hcell
  exact tz32_core x _ _ w (by simp; omega) (and_low32 x h0 hx _ hlow) hi hk hcell
end Go.Proofs.YtdbpmojblgmhdaaDoor
