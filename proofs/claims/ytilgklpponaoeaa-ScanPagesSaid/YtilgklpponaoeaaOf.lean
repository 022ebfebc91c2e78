/-
  The capabilities of layer 17's statements. Conditions: numbers in their types' ranges.
-/




import Derived.Test.YtilgklpponaoeaaScaps
import Derived.Deep.DeepCutAuto
import Derived.Laws.Rows
set_option linter.unusedVariables false
namespace Go.Proofs.Ytilgklpponaoeaa
open Go.ChangeShapes Go.WideShapes Go.ChangeAt Go.RowKit
def ofC (a n : Nat) : Cp := if mkB a n 1 = true then mkC a n 1 else noC
theorem res_row {P : Program} {fn : Func} {p : Tmp} {ty : TypeId} (h : fn.results = #[.cell p ty]) (tmps : Array Value) (w : World) (g : Nat) (t : TypeId) (cs : Array Value) (d : TypeDesc)
    (hp : tmps.getD p undef = .pointer (some ⟨g, 0, none⟩)) (hg : At w g t cs)
    (hu : P.underlying ty = some d) (hd : (match d with | .struct _ | .array _ _ => true | _ => false) = true) (hi : (P.info? ty).map (·.size) = some cs.size) :
    (results fn tmps).run P w = .ok (.agg cs) w := results_cell_row h tmps w g t cs (0, 0) d hp hg hu hd hi
set_option maxHeartbeats 400000 in
set_option maxRecDepth 100000 in
theorem of_anyC (w : World) (a n : Nat) (ha : a < 4294967296) (hn : n < 4294967296) :
    Calls Try.prog 26 #[.int .u32 a, .int .u32 n] w fun r w' => r = .returned (.agg (ofC a n).cells) ∧ Fr [] w w' := by
  have C := Lib.hid fun W => make_any W a n 1 ha hn
  have A0 := At.new w 38 noC.cells
  have F0 : Fr [] w (w.alloc (.cells noC.cells 38)) := (by repeat (first | exact Fr.refl _ _ | assumption | refine Fr.trans0 ?_ (by assumption) | refine Fr.drewN ?_ _ | refine Fr.alloc ?_ _ | refine Fr.drew ?_))
  have A0 := Lib.hid A0
  have F0 := Lib.hid F0
  unfold ofC
  generalize mkB a n 1 = ok at *
  obtain ⟨c, hc⟩ : ∃ c, (if ok = true then mkC a n 1 else noC) = c := ⟨_, rfl⟩
  rw [hc] at C ⊢
  clear hc
  unfold noC Cp.cells at A0 F0
  unfold Cp.cells at C ⊢
  dsimp only [Int.cast_ofNat_Int] at A0 F0
  go_enter Try.func26, Try.ntmps26
  go_wp2_with fail
  refine (C.out _).mono ?_
  rintro e w2 ⟨rfl, hf2⟩
  have A2 := Lib.hid (A0.out.fr hf2 (by simp))
  have F2 := Lib.hid (F0.out.trans0 hf2)
  have hws := F2.out.size
  clear hf2 A0 F0 C
  have HI := Lib.hid (show (Try.prog.info? 38).map (·.size) = some 8 by kernel_rfl)
  have AO := Lib.hid (At.old A2.out (.cells #[Value.int .u32 c.cur, .int .u8 c.e, .int .u16 c.b, .int .u16 c.t, .int .u16 c.pm, .int .u16 c.ty, .int .u32 c.rs, .bool c.v] 38))
  have HO := Lib.hid (show (#[Value.int .u32 c.cur, .int .u8 c.e, .int .u16 c.b, .int .u16 c.t, .int .u16 c.pm, .int .u16 c.ty, .int .u32 c.rs, .bool c.v] : Array Value).all (·.oneCell') = true by simp [Value.oneCell'])
  go_upto_region 2 with (fail)
  go_wp2_with (first | (refine wpList_store_row rfl 38 (.tmp 4) (.tmp 14) rfl w.heap.size #[Value.int .u32 c.cur, .int .u8 c.e, .int .u16 c.b, .int .u16 c.t, .int .u16 c.pm, .int .u16 c.ty, .int .u32 c.rs, .bool c.v] rfl rfl 38 _ AO.out HI.out rfl HO.out ?_))
  refine bodyPost_ret (res_row rfl _ _ w.heap.size 38 #[Value.int .u32 c.cur, .int .u8 c.e, .int .u16 c.b, .int .u16 c.t, .int .u16 c.pm, .int .u16 c.ty, .int .u32 c.rs, .bool c.v] _ rfl (setRow_heap _ _ _ _ _ _ AO.out) Try.underlying38 rfl HI.out) rfl ⟨rfl, ?_⟩
  have F3 := F2.out.alloc (.cells #[Value.int .u32 c.cur, .int .u8 c.e, .int .u16 c.b, .int .u16 c.t, .int .u16 c.pm, .int .u16 c.ty, .int .u32 c.rs, .bool c.v] 38)
  exact ⟨F3.os, F3.tape, F3.output, by simpa using F3.size, fun k hk hS => by rw [setRow_other _ _ _ _ (by omega)]; exact F3.keep k hk hS⟩
end Go.Proofs.Ytilgklpponaoeaa
