/-
  The small check of layer 16. No condition.
-/



import Derived.Test.YtflhpgfnffmimaaModel
set_option linter.unusedVariables false
namespace Go.Proofs.Ytflhpgfnffmimaa
open Go.ChangeShapes Go.WideShapes Go.ChangeAt Go.RowKit
theorem region_any (w : World) (a s : Int) : Calls Try.prog 10 #[.int .u32 a, .int .u32 s] w fun e w' => e = .returned (.agg #[.int .u32 a, .int .u32 s]) ∧ Fr [] w w' := by
  go_enter Try.func10, Try.ntmps10
  go_wp2_with fail
  first
  | (go_ret; exact ⟨rfl, (by repeat (first | exact Fr.refl _ _ | assumption | refine Fr.trans0 ?_ (by assumption) | refine Fr.drewN ?_ _ | refine Fr.alloc ?_ _ | refine Fr.drew ?_))⟩)
  | exact bodyPost_ret (res_rowL rfl _ _ w.heap.size 30 _ _ rfl (At.new w 30 #[.int .u32 a, .int .u32 s]) Try.underlying30 rfl (by kernel_rfl)) rfl ⟨rfl, (by repeat (first | exact Fr.refl _ _ | assumption | refine Fr.trans0 ?_ (by assumption) | refine Fr.drewN ?_ _ | refine Fr.alloc ?_ _ | refine Fr.drew ?_))⟩
theorem Yw.to {w0 w : World} {y : Nat} {m m' : MS} {s : YS} (h : Yw w0 w y m s) (e : m = m') : Yw w0 w y m' s := e ▸ h
set_option maxHeartbeats 2000000 in
set_option maxRecDepth 100000 in
theorem works_any (w : World) : Calls Try.prog 7 #[] w fun r w' => r = .returned (.bool true) ∧ Fr [] w w' := by
  have C0 := Lib.hid (show Calls Try.prog 8 #[.int .i64 1024] w fun e w' => ∃ y s, e = .returned (.pointer (some ⟨y, 0, none⟩)) ∧ Yw w w' y ⟨64, 0, false, [], []⟩ s ∧ (∀ k ∈ s.foot, w.heap.size ≤ k) ∧ Fr [] w w' from new_m w 64 (by omega))
  have C1 := Lib.hid fun W y s (h : Yw w W y ⟨64, 0, false, [], []⟩ s) => show Calls Try.prog 11 #[.pointer (some ⟨y, 0, none⟩)] W fun e w' => e = .returned (.tuple #[.int .u64 1, .bool true]) ∧ ∃ s', Turn w W y s ⟨64, 1, true, [], []⟩ w' s' from begin_m h (by decide)
  have C2 := Lib.hid fun W y s (h : Yw w W y ⟨64, 1, true, [], []⟩ s) => show Calls Try.prog 11 #[.pointer (some ⟨y, 0, none⟩)] W fun e w' => e = .returned (.tuple #[.int .u64 0, .bool false]) ∧ ∃ s', Turn w W y s ⟨64, 1, true, [], []⟩ w' s' from begin_m h (by decide)
  have C3 := Lib.hid fun W y s (h : Yw w W y ⟨64, 1, true, [], []⟩ s) => show Calls Try.prog 9 #[.pointer (some ⟨y, 0, none⟩), .agg #[.int .u32 256, .int .u32 64]] W fun e w' => e = .returned (.bool true) ∧ ∃ s', Turn w W y s ⟨64, 1, true, [(256, 64)], []⟩ w' s' from free_m h 256 64 (by omega) (by omega)
  have C4 := Lib.hid fun W y s (h : Yw w W y ⟨64, 1, true, [(256, 64)], []⟩ s) => show Calls Try.prog 9 #[.pointer (some ⟨y, 0, none⟩), .agg #[.int .u32 304, .int .u32 16]] W fun e w' => e = .returned (.bool false) ∧ ∃ s', Turn w W y s ⟨64, 1, true, [(256, 64)], []⟩ w' s' from free_m h 304 16 (by omega) (by omega)
  have C5 := Lib.hid fun W y s (h : Yw w W y ⟨64, 1, true, [(256, 64)], []⟩ s) => show Calls Try.prog 12 #[.pointer (some ⟨y, 0, none⟩)] W fun e w' => ∃ v, e = .returned v ∧ w'.ownsRow 0 30 2 v 0 (rgv []) ∧ (∀ g, v.ownBlock = some g → g ∉ s.foot) ∧ ∃ s', Turn w W y s ⟨64, 1, false, [(256, 64)], []⟩ w' s' from end_m h
  have C6 := Lib.hid fun W y s (h : Yw w W y ⟨64, 1, false, [(256, 64)], []⟩ s) => show Calls Try.prog 11 #[.pointer (some ⟨y, 0, none⟩)] W fun e w' => e = .returned (.tuple #[.int .u64 2, .bool true]) ∧ ∃ s', Turn w W y s ⟨64, 2, true, [], [(256, 64)]⟩ w' s' from begin_m h (by decide)
  have C7 := Lib.hid fun W y s (h : Yw w W y ⟨64, 2, true, [], [(256, 64)]⟩ s) => show Calls Try.prog 15 #[.pointer (some ⟨y, 0, none⟩)] W fun e w' => ∃ v, e = .returned v ∧ w'.ownsRow W.heap.size 30 2 v 1 (rgv [(256, 64)]) ∧ Fr [] W w' from batch_m h
  have C8 := Lib.hid fun W y s (h : Yw w W y ⟨64, 2, true, [], [(256, 64)]⟩ s) => show Calls Try.prog 14 #[.pointer (some ⟨y, 0, none⟩)] W fun e w' => ∃ v, e = .returned v ∧ w'.ownsRow W.heap.size 30 2 v 0 (rgv []) ∧ Fr [] W w' from wait_m h
  have C9 := Lib.hid fun W y s (h : Yw w W y ⟨64, 2, true, [], [(256, 64)]⟩ s) => show Calls Try.prog 27 #[.pointer (some ⟨y, 0, none⟩)] W fun e w' => ∃ p q g, e = .returned (.pointer (some ⟨p, 0, none⟩)) ∧ Pt w' p q g 64 (cov [(256, 64)]) ∧ (W.heap.size ≤ p ∧ W.heap.size ≤ q ∧ W.heap.size ≤ g) ∧ Fr [] W w' from paint_m h
  have CA := Lib.hid fun W y s (h : Yw w W y ⟨64, 2, true, [], [(256, 64)]⟩ s) => show Calls Try.prog 12 #[.pointer (some ⟨y, 0, none⟩)] W fun e w' => ∃ v, e = .returned v ∧ w'.ownsRow 0 30 2 v 1 (rgv [(256, 64)]) ∧ (∀ g, v.ownBlock = some g → g ∉ s.foot) ∧ ∃ s', Turn w W y s ⟨64, 2, false, [], []⟩ w' s' from end_m h
  have CB := Lib.hid fun W y s (h : Yw w W y ⟨64, 2, false, [], []⟩ s) => show Calls Try.prog 18 #[.pointer (some ⟨y, 0, none⟩)] W fun e w' => e = .returned (.bool false) ∧ W = w' from sweep_m h
  have CH1 := Lib.hid fun W p q g (h : Pt W p q g 64 (cov [(256, 64)])) => show Calls Try.prog 28 #[.pointer (some ⟨p, 0, none⟩), .int .u32 300] W fun r w' => r = .returned (.bool true) ∧ W = w' from pthas_any W p q g 64 _ h 300 (by omega) (by omega)
  have CH2 := Lib.hid fun W p q g (h : Pt W p q g 64 (cov [(256, 64)])) => show Calls Try.prog 28 #[.pointer (some ⟨p, 0, none⟩), .int .u32 320] W fun r w' => r = .returned (.bool false) ∧ W = w' from pthas_any W p q g 64 _ h 320 (by omega) (by omega)
  have CO := Lib.hid fun W v (h : W.ownsRow 0 30 2 v 1 (rgv [(256, 64)])) => show Calls Try.prog 31 #[v, .agg #[.int .u32 256, .int .u32 64]] W fun e w' => e = .returned (.bool true) ∧ Fr [] W w' from lone_any W v (256, 64) h
  go_enter Try.func7, Try.ntmps7
  go_wp2_with fail
  refine (C0.out).mono ?_
  rintro e w0 ⟨y, s0, rfl, h0, -, -⟩
  have Y0 := Lib.hid h0
  clear h0
  go_wp2_with fail
  refine (C1.out _ _ _ Y0.out).mono ?_
  rintro e w1 ⟨rfl, s1, h1⟩
  have Y1 := Lib.hid h1.yw
  clear h1 Y0
  go_wp2_with fail
  refine (C2.out _ _ _ Y1.out).mono ?_
  rintro e w2 ⟨rfl, s2, h2⟩
  have Y2 := Lib.hid h2.yw
  clear h2 Y1
  go_wp2_with fail
  refine (region_any _ _ _).mono ?_; rintro e w3 ⟨rfl, hf3⟩; have Y3 := Lib.hid (Y2.out.fr hf3); clear hf3 Y2
  go_wp2_with fail
  refine (C3.out _ _ _ Y3.out).mono ?_
  rintro e w4 ⟨rfl, s4, h4⟩
  have Y4 := Lib.hid h4.yw
  clear h4 Y3
  go_wp2_with fail
  refine (region_any _ _ _).mono ?_; rintro e w5 ⟨rfl, hf5⟩; have Y5 := Lib.hid (Y4.out.fr hf5); clear hf5 Y4
  go_wp2_with fail
  refine (C4.out _ _ _ Y5.out).mono ?_
  rintro e w6 ⟨rfl, s6, h6⟩
  have Y6 := Lib.hid h6.yw
  clear h6 Y5
  go_wp2_with fail
  refine (C5.out _ _ _ Y6.out).mono ?_
  rintro e w7 ⟨v, rfl, ho, -, s7, h7⟩
  obtain ⟨va, vc, rfl, -⟩ := own_slice ho
  have Y7 := Lib.hid h7.yw
  clear h7 ho Y6
  go_wp2_with fail
  refine (C6.out _ _ _ Y7.out).mono ?_
  rintro e w8 ⟨rfl, s8, h8⟩
  have Y8 := Lib.hid h8.yw
  clear h8 Y7
  go_wp2_with fail
  refine (C7.out _ _ _ Y8.out).mono ?_
  rintro e w9 ⟨v, rfl, ho, hf9⟩
  have O9 := Lib.hid ho
  have Y9 := Lib.hid (Y8.out.fr hf9)
  clear ho hf9 Y8
  go_wp2_with fail
  refine (region_any _ _ _).mono ?_
  rintro e w10 ⟨rfl, hf10⟩
  have Y10 := Lib.hid (Y9.out.fr hf10)
  have O10 := Lib.hid (own_base (own_fr0 O9.out hf10) (Nat.zero_le _))
  clear hf10 Y9 O9
  go_wp2_with fail
  refine (CO.out _ _ O10.out).mono ?_
  rintro e w11 ⟨rfl, hf11⟩
  have Y11 := Lib.hid (Y10.out.fr hf11)
  clear hf11 Y10 O10
  go_wp2_with fail
  refine (C8.out _ _ _ Y11.out).mono ?_
  rintro e w12 ⟨v2, rfl, ho, hf12⟩
  obtain ⟨va2, vc2, rfl, -⟩ := own_slice ho
  have Y12 := Lib.hid (Y11.out.fr hf12)
  clear ho hf12 Y11
  go_wp2_with fail
  refine (C9.out _ _ _ Y12.out).mono ?_
  rintro e w13 ⟨p, q, g, rfl, hp, -, hf13⟩
  have P13 := Lib.hid hp
  have Y13 := Lib.hid (Y12.out.fr hf13)
  clear hp hf13 Y12
  go_wp2_with fail
  refine (CH1.out _ _ _ _ P13.out).mono ?_
  rintro e w' ⟨rfl, rfl⟩
  go_wp2_with fail
  refine (C9.out _ _ _ Y13.out).mono ?_
  rintro e w14 ⟨p2, q2, g2, rfl, hp, -, hf14⟩
  have P14 := Lib.hid hp
  have Y14 := Lib.hid (Y13.out.fr hf14)
  clear hp hf14 Y13
  go_wp2_with fail
  refine (CH2.out _ _ _ _ P14.out).mono ?_
  rintro e w' ⟨rfl, rfl⟩
  go_wp2_with fail
  refine (CA.out _ _ _ Y14.out).mono ?_
  rintro e w15 ⟨v3, rfl, ho, -, s15, h15⟩
  have Y15 := Lib.hid h15.yw
  have O15 := Lib.hid ho
  clear ho h15 Y14
  go_wp2_with fail
  refine (region_any _ _ _).mono ?_
  rintro e w16 ⟨rfl, hf16⟩
  have Y16 := Lib.hid (Y15.out.fr hf16)
  have O16 := Lib.hid (own_fr0 O15.out hf16)
  clear hf16 Y15 O15
  go_wp2_with fail
  refine (CO.out _ _ O16.out).mono ?_
  rintro e w17 ⟨rfl, hf17⟩
  have Y17 := Lib.hid (Y16.out.fr hf17)
  clear hf17 Y16 O16
  go_wp2_with fail
  refine (CB.out _ _ _ Y17.out).mono ?_
  rintro e w' ⟨rfl, rfl⟩
  go_wp2_with fail
  go_ret
  exact ⟨rfl, Y17.out.f⟩
end Go.Proofs.Ytflhpgfnffmimaa
