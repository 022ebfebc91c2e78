/-
  QuarantineKnown: the chapter's examples; yards that are none (a closed statement). No condition.
-/



import Derived.Test.YtflhpgfnffmimaaWorks
import Derived.Test.YtflhpgfnffmimaaNone
set_option linter.unusedVariables false
namespace Go.Proofs.Ytflhpgfnffmimaa
open Go.ChangeShapes Go.WideShapes Go.ChangeAt Go.RowKit
namespace quarantineKnown
set_option maxHeartbeats 4000000 in
set_option maxRecDepth 100000 in
theorem walk (w : World) : Calls Try.prog 6 #[] w fun r w' => r = .returned (.bool true) ∧ Fr [] w w' := by
  have C0 := Lib.hid (show Calls Try.prog 8 #[.int .i64 1024] w fun e w' => ∃ y s, e = .returned (.pointer (some ⟨y, 0, none⟩)) ∧ Yw w w' y ⟨64, 0, false, [], []⟩ s ∧ (∀ k ∈ s.foot, w.heap.size ≤ k) ∧ Fr [] w w' from new_m w 64 (by omega))
  have B1 := Lib.hid fun W y s (h : Yw w W y ⟨64, 0, false, [], []⟩ s) => show Calls Try.prog 11 #[.pointer (some ⟨y, 0, none⟩)] W fun e w' => e = .returned (.tuple #[.int .u64 1, .bool true]) ∧ ∃ s', Turn w W y s ⟨64, 1, true, [], []⟩ w' s' from begin_m h (by decide)
  have E1 := Lib.hid fun W y s (h : Yw w W y ⟨64, 1, true, [], []⟩ s) => show Calls Try.prog 12 #[.pointer (some ⟨y, 0, none⟩)] W fun e w' => ∃ v, e = .returned v ∧ w'.ownsRow 0 30 2 v 0 (rgv []) ∧ (∀ g, v.ownBlock = some g → g ∉ s.foot) ∧ ∃ s', Turn w W y s ⟨64, 1, false, [], []⟩ w' s' from end_m h
  have B2 := Lib.hid fun W y s (h : Yw w W y ⟨64, 1, false, [], []⟩ s) => show Calls Try.prog 11 #[.pointer (some ⟨y, 0, none⟩)] W fun e w' => e = .returned (.tuple #[.int .u64 2, .bool true]) ∧ ∃ s', Turn w W y s ⟨64, 2, true, [], []⟩ w' s' from begin_m h (by decide)
  have F1 := Lib.hid fun W y s (h : Yw w W y ⟨64, 2, true, [], []⟩ s) => show Calls Try.prog 9 #[.pointer (some ⟨y, 0, none⟩), .agg #[.int .u32 256, .int .u32 64]] W fun e w' => e = .returned (.bool true) ∧ ∃ s', Turn w W y s ⟨64, 2, true, [(256, 64)], []⟩ w' s' from free_m h 256 64 (by omega) (by omega)
  have F2 := Lib.hid fun W y s (h : Yw w W y ⟨64, 2, true, [(256, 64)], []⟩ s) => show Calls Try.prog 9 #[.pointer (some ⟨y, 0, none⟩), .agg #[.int .u32 8, .int .u32 16]] W fun e w' => e = .returned (.bool false) ∧ ∃ s', Turn w W y s ⟨64, 2, true, [(256, 64)], []⟩ w' s' from free_m h 8 16 (by omega) (by omega)
  have F3 := Lib.hid fun W y s (h : Yw w W y ⟨64, 2, true, [(256, 64)], []⟩ s) => show Calls Try.prog 9 #[.pointer (some ⟨y, 0, none⟩), .agg #[.int .u32 1008, .int .u32 32]] W fun e w' => e = .returned (.bool false) ∧ ∃ s', Turn w W y s ⟨64, 2, true, [(256, 64)], []⟩ w' s' from free_m h 1008 32 (by omega) (by omega)
  have F4 := Lib.hid fun W y s (h : Yw w W y ⟨64, 2, true, [(256, 64)], []⟩ s) => show Calls Try.prog 9 #[.pointer (some ⟨y, 0, none⟩), .agg #[.int .u32 0, .int .u32 0]] W fun e w' => e = .returned (.bool false) ∧ ∃ s', Turn w W y s ⟨64, 2, true, [(256, 64)], []⟩ w' s' from free_m h 0 0 (by omega) (by omega)
  have T1 := Lib.hid fun W y s (h : Yw w W y ⟨64, 2, true, [(256, 64)], []⟩ s) => show Calls Try.prog 16 #[.pointer (some ⟨y, 0, none⟩)] W fun e w' => e = .returned (.int .u64 3) ∧ W = w' from tick_m h
  have D1 := Lib.hid fun W y s (h : Yw w W y ⟨64, 2, true, [(256, 64)], []⟩ s) => show Calls Try.prog 17 #[.pointer (some ⟨y, 0, none⟩), .int .u64 3] W fun e w' => e = .returned (.bool false) ∧ W = w' from done_m h 3
  have E2 := Lib.hid fun W y s (h : Yw w W y ⟨64, 2, true, [(256, 64)], []⟩ s) => show Calls Try.prog 12 #[.pointer (some ⟨y, 0, none⟩)] W fun e w' => ∃ v, e = .returned v ∧ w'.ownsRow 0 30 2 v 0 (rgv []) ∧ (∀ g, v.ownBlock = some g → g ∉ s.foot) ∧ ∃ s', Turn w W y s ⟨64, 2, false, [(256, 64)], []⟩ w' s' from end_m h
  have B3 := Lib.hid fun W y s (h : Yw w W y ⟨64, 2, false, [(256, 64)], []⟩ s) => show Calls Try.prog 11 #[.pointer (some ⟨y, 0, none⟩)] W fun e w' => e = .returned (.tuple #[.int .u64 3, .bool true]) ∧ ∃ s', Turn w W y s ⟨64, 3, true, [], [(256, 64)]⟩ w' s' from begin_m h (by decide)
  have F5 := Lib.hid fun W y s (h : Yw w W y ⟨64, 3, true, [], [(256, 64)]⟩ s) => show Calls Try.prog 9 #[.pointer (some ⟨y, 0, none⟩), .agg #[.int .u32 512, .int .u32 16]] W fun e w' => e = .returned (.bool true) ∧ ∃ s', Turn w W y s ⟨64, 3, true, [(512, 16)], [(256, 64)]⟩ w' s' from free_m h 512 16 (by omega) (by omega)
  have T2 := Lib.hid fun W y s (h : Yw w W y ⟨64, 3, true, [(512, 16)], [(256, 64)]⟩ s) => show Calls Try.prog 16 #[.pointer (some ⟨y, 0, none⟩)] W fun e w' => e = .returned (.int .u64 4) ∧ W = w' from tick_m h
  have E3 := Lib.hid fun W y s (h : Yw w W y ⟨64, 3, true, [(512, 16)], [(256, 64)]⟩ s) => show Calls Try.prog 12 #[.pointer (some ⟨y, 0, none⟩)] W fun e w' => ∃ v, e = .returned v ∧ w'.ownsRow 0 30 2 v 1 (rgv [(256, 64)]) ∧ (∀ g, v.ownBlock = some g → g ∉ s.foot) ∧ ∃ s', Turn w W y s ⟨64, 3, false, [(512, 16)], []⟩ w' s' from end_m h
  have D2 := Lib.hid fun W y s (h : Yw w W y ⟨64, 3, false, [(512, 16)], []⟩ s) => show Calls Try.prog 17 #[.pointer (some ⟨y, 0, none⟩), .int .u64 3] W fun e w' => e = .returned (.bool true) ∧ W = w' from done_m h 3
  have D3 := Lib.hid fun W y s (h : Yw w W y ⟨64, 3, false, [(512, 16)], []⟩ s) => show Calls Try.prog 17 #[.pointer (some ⟨y, 0, none⟩), .int .u64 4] W fun e w' => e = .returned (.bool false) ∧ W = w' from done_m h 4
  have T3 := Lib.hid fun W y s (h : Yw w W y ⟨64, 3, false, [(512, 16)], []⟩ s) => show Calls Try.prog 16 #[.pointer (some ⟨y, 0, none⟩)] W fun e w' => e = .returned (.int .u64 4) ∧ W = w' from tick_m h
  have CW := Lib.hid fun W => works_any W
  have CN1 := Lib.hid fun W => qnew_bad W (-16) (by omega)
  have CN2 := Lib.hid fun W => qnew_bad W 8 (by omega)
  have CN3 := Lib.hid fun W => qnew_bad W 262160 (by omega)
  have CN4 := Lib.hid fun W => (show Calls Try.prog 8 #[.int .i64 0] W fun e w' => ∃ y s, e = .returned (.pointer (some ⟨y, 0, none⟩)) ∧ Yw W w' y ⟨0, 0, false, [], []⟩ s ∧ (∀ k ∈ s.foot, W.heap.size ≤ k) ∧ Fr [] W w' from new_m W 0 (by omega))
  have T4 := Lib.hid fun w W y s (h : Yw w W y ⟨0, 0, false, [], []⟩ s) => show Calls Try.prog 16 #[.pointer (some ⟨y, 0, none⟩)] W fun e w' => e = .returned (.int .u64 0) ∧ W = w' from tick_m h
  have CO := Lib.hid fun W v (h : W.ownsRow 0 30 2 v 1 (rgv [(256, 64)])) => show Calls Try.prog 31 #[v, .agg #[.int .u32 256, .int .u32 64]] W fun e w' => e = .returned (.bool true) ∧ Fr [] W w' from lone_any W v (256, 64) h
  go_enter Try.func6, Try.ntmps6
  go_wp2_with fail
  refine (C0.out).mono ?_
  rintro e w0 ⟨y, s0, rfl, h0, -, hf0⟩
  have Y0 := Lib.hid h0
  clear h0 hf0
  go_wp2_with fail
  refine (B1.out _ _ _ Y0.out).mono ?_
  rintro e w1 ⟨rfl, s1, h1⟩
  have Y1 := Lib.hid h1.yw
  clear h1 Y0
  go_wp2_with fail
  refine (E1.out _ _ _ Y1.out).mono ?_
  rintro e w2 ⟨v2, rfl, ho2, -, s2, h2⟩
  obtain ⟨va2, vc2, rfl, -⟩ := own_slice ho2
  have Y2 := Lib.hid h2.yw
  clear h2 ho2 Y1
  go_wp2_with fail
  refine (B2.out _ _ _ Y2.out).mono ?_
  rintro e w3 ⟨rfl, s3, h3⟩
  have Y3 := Lib.hid h3.yw
  clear h3 Y2
  go_wp2_with fail
  refine (region_any _ _ _).mono ?_
  rintro e w4 ⟨rfl, hf4⟩
  have Y4 := Lib.hid (Y3.out.fr hf4)
  clear hf4 Y3
  go_wp2_with fail
  refine (F1.out _ _ _ Y4.out).mono ?_
  rintro e w5 ⟨rfl, s5, h5⟩
  have Y5 := Lib.hid h5.yw
  clear h5 Y4
  go_wp2_with fail
  refine (region_any _ _ _).mono ?_
  rintro e w6 ⟨rfl, hf6⟩
  have Y6 := Lib.hid (Y5.out.fr hf6)
  clear hf6 Y5
  go_wp2_with fail
  refine (F2.out _ _ _ Y6.out).mono ?_
  rintro e w7 ⟨rfl, s7, h7⟩
  have Y7 := Lib.hid h7.yw
  clear h7 Y6
  go_wp2_with fail
  refine (region_any _ _ _).mono ?_
  rintro e w8 ⟨rfl, hf8⟩
  have Y8 := Lib.hid (Y7.out.fr hf8)
  clear hf8 Y7
  go_wp2_with fail
  refine (F3.out _ _ _ Y8.out).mono ?_
  rintro e w9 ⟨rfl, s9, h9⟩
  have Y9 := Lib.hid h9.yw
  clear h9 Y8
  go_wp2_with fail
  refine (region_any _ _ _).mono ?_
  rintro e w10 ⟨rfl, hf10⟩
  have Y10 := Lib.hid (Y9.out.fr hf10)
  clear hf10 Y9
  go_wp2_with fail
  refine (F4.out _ _ _ Y10.out).mono ?_
  rintro e w11 ⟨rfl, s11, h11⟩
  have Y11 := Lib.hid h11.yw
  clear h11 Y10
  go_wp2_with fail
  refine (T1.out _ _ _ Y11.out).mono ?_
  rintro e w' ⟨rfl, rfl⟩
  go_wp2_with fail
  refine (D1.out _ _ _ Y11.out).mono ?_
  rintro e w' ⟨rfl, rfl⟩
  go_wp2_with fail
  refine (E2.out _ _ _ Y11.out).mono ?_
  rintro e w12 ⟨v12, rfl, ho12, -, s12, h12⟩
  obtain ⟨va12, vc12, rfl, -⟩ := own_slice ho12
  have Y12 := Lib.hid h12.yw
  clear h12 ho12 Y11
  go_wp2_with fail
  refine (B3.out _ _ _ Y12.out).mono ?_
  rintro e w13 ⟨rfl, s13, h13⟩
  have Y13 := Lib.hid h13.yw
  clear h13 Y12
  go_wp2_with fail
  refine (region_any _ _ _).mono ?_
  rintro e w14 ⟨rfl, hf14⟩
  have Y14 := Lib.hid (Y13.out.fr hf14)
  clear hf14 Y13
  go_wp2_with fail
  refine (F5.out _ _ _ Y14.out).mono ?_
  rintro e w15 ⟨rfl, s15, h15⟩
  have Y15 := Lib.hid h15.yw
  clear h15 Y14
  go_wp2_with fail
  refine (T2.out _ _ _ Y15.out).mono ?_
  rintro e w' ⟨rfl, rfl⟩
  go_wp2_with fail
  refine (E3.out _ _ _ Y15.out).mono ?_
  rintro e w16 ⟨v16, rfl, ho16, -, s16, h16⟩
  have O16 := Lib.hid ho16
  have Y16 := Lib.hid h16.yw
  clear h16 ho16 Y15
  go_wp2_with fail
  refine (D2.out _ _ _ Y16.out).mono ?_
  rintro e w' ⟨rfl, rfl⟩
  go_wp2_with fail
  refine (D3.out _ _ _ Y16.out).mono ?_
  rintro e w' ⟨rfl, rfl⟩
  go_wp2_with fail
  refine (T3.out _ _ _ Y16.out).mono ?_
  rintro e w' ⟨rfl, rfl⟩
  have F16 := Lib.hid Y16.out.f
  clear Y16
  have E := Lib.hid (At.new w16 68 #[.int .u64 0, .bool false, .int .i64 0, .slice none 0 0, .pointer none, .slice none 0 0, .pointer none])
  have hb : Fr [] w16 (w16.alloc (.cells #[.int .u64 0, .bool false, .int .i64 0, .slice none 0 0, .pointer none, .slice none 0 0, .pointer none] 68)) := (by repeat (first | exact Fr.refl _ _ | assumption | refine Fr.trans0 ?_ (by assumption) | refine Fr.drewN ?_ _ | refine Fr.alloc ?_ _ | refine Fr.drew ?_))
  have F17 := Lib.hid (F16.out.trans0 hb)
  have O17 := Lib.hid (own_fr0 O16.out hb)
  clear hb F16 O16
  have BN := Lib.hid fun (W : World) => begin_none W (.pointer none) (fun W' _ => qnone_nil W') W (Fr.refl _ _)
  go_wp2_with fail
  refine (BN.out _).mono ?_
  rintro e w' ⟨rfl, rfl⟩
  go_wp2_with fail
  obtain ⟨w17, hw17⟩ : ∃ W, w16.alloc (.cells #[.int .u64 0, .bool false, .int .i64 0, .slice none 0 0, .pointer none, .slice none 0 0, .pointer none] 68) = W := ⟨_, rfl⟩
  rw [hw17] at E F17 O17 ⊢
  obtain ⟨ye, hye⟩ : ∃ n, w16.heap.size = n := ⟨_, rfl⟩
  rw [hye] at E ⊢
  clear hw17 hye
  have CE := Lib.hid fun (W : World) (hW : Fr [] w17 W) => qnone_empty W ye (E.out.fr hW (by simp))
  have G17 := Lib.hid (Fr.refl [] w17)
  refine (begin_none w17 (.pointer (some ⟨ye, 0, none⟩)) CE.out w17 G17.out).mono ?_
  rintro e w' ⟨rfl, rfl⟩
  go_wp2_with fail
  refine (CW.out _).mono ?_
  rintro e w18 ⟨rfl, hf18⟩
  have F18 := Lib.hid (F17.out.trans0 hf18)
  have O18 := Lib.hid (own_fr0 O17.out hf18)
  have G18 := Lib.hid (G17.out.trans0 hf18)
  clear hf18 F17 O17 G17
  go_wp2_with fail
  refine (CN1.out _).mono ?_
  rintro e w' ⟨rfl, rfl⟩
  go_wp2_with fail
  refine (CN2.out _).mono ?_
  rintro e w' ⟨rfl, rfl⟩
  go_wp2_with fail
  refine (CN3.out _).mono ?_
  rintro e w' ⟨rfl, rfl⟩
  go_wp2_with fail
  refine (CN4.out _).mono ?_
  rintro e w19 ⟨yz, sz, rfl, hz, -, hf19⟩
  have Z := Lib.hid hz
  clear hz
  have F19 := Lib.hid (F18.out.trans0 hf19)
  have O19 := Lib.hid (own_fr0 O18.out hf19)
  have G19 := Lib.hid (G18.out.trans0 hf19)
  clear hf19 F18 O18 G18
  go_wp2_with fail
  refine (T4.out _ _ _ _ Z.out).mono ?_
  rintro e w' ⟨rfl, rfl⟩
  clear Z
  go_wp2_with fail
  refine (region_any _ _ _).mono ?_
  rintro e w20 ⟨rfl, hf20⟩
  have F20 := Lib.hid (F19.out.trans0 hf20)
  have O20 := Lib.hid (own_fr0 O19.out hf20)
  have G20 := Lib.hid (G19.out.trans0 hf20)
  clear hf20 F19 O19 G19
  go_wp2_with fail
  refine (CO.out _ _ O20.out).mono ?_
  rintro e w21 ⟨rfl, hf21⟩
  have F21 := Lib.hid (F20.out.trans0 hf21)
  have O21 := Lib.hid (own_fr0 O20.out hf21)
  have G21 := Lib.hid (G20.out.trans0 hf21)
  clear hf21 F20 O20 G20
  go_wp2_with fail
  refine (region_any _ _ _).mono ?_
  rintro e w22 ⟨rfl, hf22⟩
  have F22 := Lib.hid (F21.out.trans0 hf22)
  have O22 := Lib.hid (own_fr0 O21.out hf22)
  have G22 := Lib.hid (G21.out.trans0 hf22)
  clear hf22 F21 O21 G21
  go_wp2_with fail
  refine (free_none w22 (.pointer none) (fun W' _ => qnone_nil W') 0 16 w22 (Fr.refl _ _)).mono ?_
  rintro e w23 ⟨rfl, hf23⟩
  have F23 := Lib.hid (F22.out.trans0 hf23)
  have O23 := Lib.hid (own_fr0 O22.out hf23)
  have G23 := Lib.hid (G22.out.trans0 hf23)
  clear hf23 F22 O22 G22
  go_wp2_with fail
  refine (region_any _ _ _).mono ?_
  rintro e w24 ⟨rfl, hf24⟩
  have F24 := Lib.hid (F23.out.trans0 hf24)
  have O24 := Lib.hid (own_fr0 O23.out hf24)
  have G24 := Lib.hid (G23.out.trans0 hf24)
  clear hf24 F23 O23 G23
  go_wp2_with fail
  refine (free_none w17 (.pointer (some ⟨ye, 0, none⟩)) CE.out 0 16 w24 G24.out).mono ?_
  rintro e w25 ⟨rfl, hf25⟩
  have F25 := Lib.hid (F24.out.trans0 hf25)
  have O25 := Lib.hid (own_fr0 O24.out hf25)
  have G25 := Lib.hid (G24.out.trans0 hf25)
  clear hf25 F24 O24 G24
  go_wp2_with fail
  refine (end_none w25 (.pointer none) (fun W' _ => qnone_nil W') w25 (Fr.refl _ _)).mono ?_
  rintro e w' ⟨rfl, rfl⟩
  go_wp2_with fail
  refine (paint_none w25 (.pointer none) (fun W' _ => qnone_nil W') w25 (Fr.refl _ _)).mono ?_
  rintro e w' ⟨rfl, rfl⟩
  go_wp2_with fail
  refine (epoch_none w17 (.pointer (some ⟨ye, 0, none⟩)) CE.out w25 G25.out).mono ?_
  rintro e w' ⟨rfl, rfl⟩
  go_wp2_with fail
  refine (sweep_none w25 (.pointer none) (fun W' _ => qnone_nil W') w25 (Fr.refl _ _)).mono ?_
  rintro e w' ⟨rfl, rfl⟩
  go_wp2_with fail
  refine (wait_none w17 (.pointer (some ⟨ye, 0, none⟩)) CE.out w25 G25.out).mono ?_
  rintro e w' ⟨rfl, rfl⟩
  go_wp2_with fail
  refine (batch_none w25 (.pointer none) (fun W' _ => qnone_nil W') w25 (Fr.refl _ _)).mono ?_
  rintro e w' ⟨rfl, rfl⟩
  go_wp2_with fail
  refine (tick_none w25 (.pointer none) (fun W' _ => qnone_nil W') w25 (Fr.refl _ _)).mono ?_
  rintro e w' ⟨rfl, rfl⟩
  go_wp2_with fail
  refine (done_none w17 (.pointer (some ⟨ye, 0, none⟩)) CE.out 0 w25 G25.out).mono ?_
  rintro e w' ⟨rfl, rfl⟩
  go_wp2_with fail
  refine (copy_none w25 (.pointer none) (fun W' _ => qnone_nil W') w25 (Fr.refl _ _)).mono ?_
  rintro e w' ⟨rfl, rfl⟩
  go_wp2_with fail
  refine (copy_none w17 (.pointer (some ⟨ye, 0, none⟩)) CE.out w25 G25.out).mono ?_
  rintro e w' ⟨rfl, rfl⟩
  go_wp2_with fail
  go_ret
  exact ⟨rfl, F25.out⟩
theorem laidOut : laidOutB Try.prog = true := by kernel_rfl
set_option maxRecDepth 100000 in
theorem lifted (os : Os) (started : os.Started) (H : Type) (enc : TypeId × Value → H) :
    ReturnsInHanded {} Try.checked os 6 .any (Rows.quarantineKnownSpec.pre6 enc Try.prog Try.f6 Rows.quarantineKnownRow.domain false) (Rows.quarantineKnownSpec.post enc Try.prog Try.f6 false true false false) := by
  refine returnsInHanded_of_change (C := Try.checked) own started (by kernel_rfl) Try.func6
    (ChangeSpec.witness6 (enc := enc) (C := Try.checked) false ⟨#[], #[], []⟩ 8 (by kernel_rfl) (by kernel_rfl) (by kernel_rfl) (by kernel_rfl)) ?_
  intro W base args ds gs before hval0 hW hcnd _
  have hval : ∀ (j : Nat) t v, Try.f6.params[j]? = some t → args[j]? = some v → Value.okWide Try.prog W .any base t v := hval0
  have hW' := hW
  obtain ⟨p, q, hA0, hV, rfl, hfz, hnd⟩ := hW
  have hA : DataW.TrodAll enc Try.prog W 0 (fun _ => true) true Try.f6.params.toList args.toList ds p := hA0
  rw [Try.params6] at hA hval
  obtain ⟨rfl, rfl, rfl⟩ := trodAll_none hA
  obtain ⟨rfl, rfl⟩ := trodVars_none hV
  clear hA0 hval0
  simp only [List.append_nil] at hW'
  refine (walk  W ).mono fun e W' ⟨he, hg⟩ => ?_
  subst he
  exact ⟨_, rfl, post_fr (pa := []) (pv := []) hW' (fun _ _ _ => (trodAll_cons_mk (shut_bool Try.underlying4 _) trodAll_mk0)) (fun sp _ => rfl) (fun _ _ => rfl) rfl
    hg (ok_one (by kernel_rfl) rfl (okWide_bool_mk Try.underlying4 _))⟩
theorem over : Rows.quarantineKnownRow.holds Try.pinned (OpenSpec.ofChange Rows.quarantineKnownSpec) :=
  OpenClaim.holds_of_wide 6 Try.f6 rfl rfl rfl rfl rfl rfl rfl ⟨rfl, rfl, rfl, rfl, rfl⟩ rfl rfl rfl rfl rfl (by kernel_rfl) Try.func6 (by kernel_rfl)
    (of_decide_eq_true (by kernel_rfl)) (by unfold Func.isWrapper; first | (rw [if_pos (by decide +kernel)]; kernel_rfl) | (rw [if_neg (by decide +kernel)]; exact ⟨rfl, rfl⟩))
    (fun os started H enc _ => lifted os started H enc)
/-- The statement, proved. -/
theorem proved : Rows.QuarantineKnownSaid :=
  over
end quarantineKnown
end Go.Proofs.Ytflhpgfnffmimaa
