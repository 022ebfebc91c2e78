/-
  The small functions of layer 20's statements. No condition beside the numbers' ranges.
-/



import Derived.Test.YtdfefnajhnlpdaaCall
import Derived.Test.YtdfefnajhnlpdaaRet
import Derived.Test.YtdfefnajhnlpdaaFrameEq
set_option linter.unusedVariables false
namespace Go.Proofs.Ytdfefnajhnlpdaa
open Go.ChangeShapes Go.WideShapes Go.ChangeAt Go.RowKit
/-- A capability of 64 bytes, with a type. -/
def madeC (a pm k : Nat) : Cp := { mkC a 64 pm with ty := k }
theorem madeC_opened (a pm k : Nat) : (madeC a pm k).opened = madeC a pm 0 := rfl
theorem made64 (a pm : Nat) (ha : a + 64 ≤ 4294967296) (hp : pm ≤ 255) : mkB a 64 pm = true := by
  obtain ⟨-, e2⟩ := small_exact a (a + 64) (by omega) (by omega)
  unfold mkB
  rw [e2]
  simp; omega
theorem cell_all (c : Cp) : c.cells.all (·.oneCell') = true := by simp [Cp.cells, Value.oneCell']
set_option maxHeartbeats 1000000 in
set_option maxRecDepth 100000 in
theorem lmade_any (w : World) (a pm k : Nat) (ha : a + 64 ≤ 4294967296) (hp : pm ≤ 255) :
    Calls Try.prog 25 #[.int .u32 a, .int .u16 pm, .int .u16 k] w fun r w' => r = .returned (.agg (madeC a pm k).cells) ∧ Fr [] w w' := by
  have C := Lib.hid fun W => (show Calls Try.prog 39 #[.agg #[.int .u32 a, .int .u32 64], .int .u16 pm] W fun r w' => r = .returned (.tuple #[.agg (mkC a 64 pm).cells, .bool true]) ∧ Fr [] W w' by
    have h := make_any W a 64 pm (by omega) (by omega)
    rw [made64 a pm ha hp, if_pos rfl] at h
    exact h)
  have A0 := Lib.hid (At.new w 25 noC.cells)
  have F0 := Lib.hid (show Fr [] w (w.alloc (.cells noC.cells 25)) from (by repeat (first | exact Fr.refl _ _ | assumption | refine Fr.trans0 ?_ (by assumption) | refine Fr.drewN ?_ _ | refine Fr.alloc ?_ _ | refine Fr.drew ?_)))
  unfold noC Cp.cells at A0 F0
  dsimp only [Int.cast_ofNat_Int] at A0 F0
  unfold madeC
  obtain ⟨c, hc⟩ : ∃ c, mkC a 64 pm = c := ⟨_, rfl⟩
  rw [hc] at C ⊢
  unfold Cp.cells at C ⊢
  dsimp only at C ⊢
  clear hc ha hp
  go_enter Try.func25, Try.ntmps25
  go_wp2_with fail
  refine (C.out _).mono ?_
  rintro e' w2 ⟨rfl, hf2⟩
  have A2 := A0.out.fr hf2 (by simp)
  have F2 := Lib.hid (F0.out.trans0 hf2)
  have HI := Lib.hid infoCapS
  have AO := Lib.hid (A2.old (.cells #[.int .u32 c.cur, .int .u8 c.e, .int .u16 c.b, .int .u16 c.t, .int .u16 c.pm, .int .u16 k, .int .u32 c.rs, .bool c.v] 25))
  have HO := Lib.hid (show (#[Value.int .u32 c.cur, .int .u8 c.e, .int .u16 c.b, .int .u16 c.t, .int .u16 c.pm, .int .u16 k, .int .u32 c.rs, .bool c.v] : Array Value).all (·.oneCell') = true by simp [Value.oneCell'])
  clear hf2 A0 F0 C A2
  go_wp2_with (refine wpList_store_all rfl 25 (.tmp 6) (.tmp 18) rfl w.heap.size #[.int .u32 c.cur, .int .u8 c.e, .int .u16 c.b, .int .u16 c.t, .int .u16 c.pm, .int .u16 k, .int .u32 c.rs, .bool c.v] rfl rfl 25 _ AO.out HI.out rfl HO.out ?_; intro w5 hA5 hF5)
  refine bodyPost_ret (res_row rfl _ _ w.heap.size 25 _ _ rfl hA5 Try.underlying25 rfl HI.out) rfl ⟨rfl, (F2.out.alloc _).trans hF5 (by simp)⟩
theorem res_two {P : Program} {fn : Func} {p q : Tmp} {ty : TypeId} (h : fn.results = #[.cell p ty, .cell q ty]) (tmps : Array Value) (w : World) (g g2 : Nat) (t : TypeId) (cs cs2 : Array Value) (d : TypeDesc)
    (hp : tmps.getD p undef = .pointer (some ⟨g, 0, none⟩)) (hq : tmps.getD q undef = .pointer (some ⟨g2, 0, none⟩)) (hg : At w g t cs) (hg2 : At w g2 t cs2)
    (hu : P.underlying ty = some d) (hd : (match d with | .struct _ | .array _ _ => true | _ => false) = true) (hi : (P.info? ty).map (·.size) = some cs.size) (hi2 : (P.info? ty).map (·.size) = some cs2.size) :
    (results fn tmps).run P w = .ok (.tuple #[.agg cs, .agg cs2]) w := by
  have hp' : tmps[p]?.getD undef = .pointer (some ⟨g, 0, none⟩) := by simpa using hp
  have hq' : tmps[q]?.getD undef = .pointer (some ⟨g2, 0, none⟩) := by simpa using hq
  simp [results, h, hp', hq', asAddr, run_loadVar_row w g t ty cs (0, 0) d hg hu hd hi, run_loadVar_row w g2 t ty cs2 (0, 0) d hg2 hu hd hi2]
set_option maxHeartbeats 1000000 in
set_option maxRecDepth 100000 in
theorem lpair_any (w : World) (k : Nat) :
    Calls Try.prog 13 #[.int .u16 k] w fun r w' => r = .returned (.tuple #[.agg (madeC 512 132 k).cells, .agg (madeC 1024 129 k).cells]) ∧ Fr [] w w' := by
  have C1 := Lib.hid fun W => lmade_any W 512 132 k (by omega) (by omega)
  have C2 := Lib.hid fun W => lmade_any W 1024 129 k (by omega) (by omega)
  obtain ⟨c1, h1⟩ : ∃ c, madeC 512 132 k = c := ⟨_, rfl⟩
  obtain ⟨c2, h2⟩ : ∃ c, madeC 1024 129 k = c := ⟨_, rfl⟩
  rw [h1] at C1 ⊢
  rw [h2] at C2 ⊢
  clear h1 h2
  obtain ⟨X, hX⟩ : ∃ X, (w.alloc (.cells noC.cells 25)).alloc (.cells noC.cells 25) = X := ⟨_, rfl⟩
  have B0 := Lib.hid (show At X w.heap.size 25 noC.cells by rw [← hX]; exact (At.new _ _ _).old _)
  have B1 := Lib.hid (show At X (w.heap.size + 1) 25 noC.cells by rw [← hX]; exact At.newq (by simp only [World.size_alloc]))
  have FX := Lib.hid (show Fr [] w X by rw [← hX]; exact (by repeat (first | exact Fr.refl _ _ | assumption | refine Fr.trans0 ?_ (by assumption) | refine Fr.drewN ?_ _ | refine Fr.alloc ?_ _ | refine Fr.drew ?_)))
  have HX := Lib.hid hX
  unfold noC Cp.cells at HX
  dsimp only [Int.cast_ofNat_Int] at HX
  have HI := Lib.hid infoCapS
  have HO := Lib.hid fun c => (cell_all c)
  clear hX
  go_enter Try.func13, Try.ntmps13
  go_wp2_with fail
  rw [HX.out]
  refine (C1.out _).mono ?_
  rintro e w2 ⟨rfl, hf2⟩
  go_wp2_with fail
  refine (C2.out _).mono ?_
  rintro e w3 ⟨rfl, hf3⟩
  have D0 := Lib.hid ((B0.out.fr hf2 (by simp)).fr hf3 (by simp))
  have D1 := Lib.hid ((B1.out.fr hf2 (by simp)).fr hf3 (by simp))
  have DF := Lib.hid ((FX.out.trans0 hf2).trans0 hf3)
  clear hf2 hf3 B0 B1 FX HX C1 C2
  go_wp2_with (first | (refine wpList_store_all rfl 25 (.tmp 2) (.tmp 5) rfl w.heap.size c1.cells rfl rfl 25 noC.cells D0.out HI.out rfl (HO.out c1) ?_; intro w4 hA4 hF4) | (refine wpList_store_all rfl 25 (.tmp 3) (.tmp 7) rfl (w.heap.size + 1) c2.cells rfl rfl 25 noC.cells (D1.out.fr hF4 (by simp <;> omega)) HI.out rfl (HO.out c2) ?_; intro w5 hA5 hF5))
  have hA4' := hA4.fr hF5 (by simp <;> omega)
  refine bodyPost_ret (res_two rfl _ _ _ _ 25 c1.cells c2.cells _ rfl rfl hA4' hA5 Try.underlying25 rfl HI.out HI.out) rfl ⟨rfl, (DF.out.trans hF4 (by simp)).trans hF5 (by simp)⟩
end Go.Proofs.Ytdfefnajhnlpdaa
