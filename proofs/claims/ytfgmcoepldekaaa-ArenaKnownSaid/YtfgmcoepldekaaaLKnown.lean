/-
  ArenaKnown: the chapter's examples; arenas that are none (a closed statement). No condition.
-/





import Derived.Test.YtfgmcoepldekaaaNone
import Derived.Test.YtfgmcoepldekaaaWorks
import Derived.Test.YtfgmcoepldekaaaArEnd
import Derived.Test.YtfgmcoepldekaaaSub
set_option linter.unusedVariables false
namespace Go.Proofs.Ytfgmcoepldekaaa
open Go.ChangeShapes Go.WideShapes Go.ChangeAt Go.RowKit
namespace arenaKnown
def yC : Cp := { wC with pm := 256 }
theorem yC_ok : yC.Ok ∧ (yC.v && soundB yC) = false := by
  refine ⟨⟨?_, ?_, ?_, ?_, ?_, ?_, ?_⟩, ?_⟩ <;> decide +kernel
theorem wrF_at (bs : List Nat) (h : bs.length = 4096) (f : Nat → Bool) (a n : Nat) (l : List Nat) (hl : l.length = n) (h1 : a + n ≤ 4096) (h2 : 0 < n) : wrF bs f a l = putF f a n := by
  unfold wrF
  rw [hl, h, if_pos ⟨h1, h2⟩]
theorem stF_at (bs : List Nat) (h : bs.length = 4096) (f : Nat → Bool) (a : Nat) (c : Cp) (h1 : a + 16 ≤ 4096) : stF bs f a c = upd (putF f a 16) (a / 16) (c.v && soundB c) := by
  unfold stF
  rw [wrF_at bs h f a 16 _ (bytesC_len c) h1 (by omega)]
theorem unB_at (bs : List Nat) (h : bs.length = 4096) (f : Nat → Bool) : unB bs f 32 = f 2 := by
  unfold unB whB
  rw [h]
  rfl
theorem states : ∃ (bs1 bs4 bs5 bs7 bs9 bs10 : List Nat) (f1 f2 f4 f5 f7 f9 f10 : Nat → Bool), (bs1.length = 4096 ∧ bs4.length = 4096 ∧ bs5.length = 4096 ∧ bs7.length = 4096 ∧ bs9.length = 4096 ∧ bs10.length = 4096) ∧
    (wrL (List.replicate 4096 0) 32 (bytesC wC) = bs1 ∧ stF (List.replicate 4096 0) (fun _ => false) 32 wC = f1) ∧ (unB bs1 f1 32 = true ∧ upd f1 2 false = f2 ∧ unB bs1 f2 32 = false) ∧
    (wrL bs1 32 (bytesC wC) = bs4 ∧ stF bs1 f2 32 wC = f4) ∧ (wrL bs4 30 [97, 98] = bs5 ∧ wrF bs4 f4 30 [97, 98] = f5 ∧ tgP 4096 f5 0 = [32]) ∧ (wrL bs5 30 [97, 98, 99] = bs7 ∧ wrF bs5 f5 30 [97, 98, 99] = f7 ∧ tgP 4096 f7 0 = []) ∧
    (wrL bs7 32 (bytesC wC) = bs9 ∧ stF bs7 f7 32 wC = f9) ∧ (wrL bs9 48 (bytesC yC) = bs10 ∧ stF bs9 f9 48 yC = f10 ∧ tgP 4096 f10 0 = [32]) := by
  have l0 : (List.replicate 4096 0).length = 4096 := List.length_replicate
  have hw : (wC.v && soundB wC) = true := by rw [wC_ok.2.2.1, wC_ok.2.2.2.1]; rfl
  have ll : ∀ (bs : List Nat) (a : Nat) (l : List Nat), bs.length = 4096 → (wrL bs a l).length = 4096 := fun bs a l h => by rw [wrL_len]; exact h
  obtain ⟨bs0, h0⟩ : ∃ b, List.replicate 4096 0 = b := ⟨_, rfl⟩
  rw [h0] at l0
  rw [h0]
  obtain ⟨bs1, h1⟩ : ∃ b, wrL bs0 32 (bytesC wC) = b := ⟨_, rfl⟩
  have l1 : bs1.length = 4096 := by rw [← h1]; exact ll _ _ _ l0
  obtain ⟨bs4, h4⟩ : ∃ b, wrL bs1 32 (bytesC wC) = b := ⟨_, rfl⟩
  have l4 : bs4.length = 4096 := by rw [← h4]; exact ll _ _ _ l1
  obtain ⟨bs5, h5⟩ : ∃ b, wrL bs4 30 [97, 98] = b := ⟨_, rfl⟩
  have l5 : bs5.length = 4096 := by rw [← h5]; exact ll _ _ _ l4
  obtain ⟨bs7, h7⟩ : ∃ b, wrL bs5 30 [97, 98, 99] = b := ⟨_, rfl⟩
  have l7 : bs7.length = 4096 := by rw [← h7]; exact ll _ _ _ l5
  obtain ⟨bs9, h9⟩ : ∃ b, wrL bs7 32 (bytesC wC) = b := ⟨_, rfl⟩
  have l9 : bs9.length = 4096 := by rw [← h9]; exact ll _ _ _ l7
  obtain ⟨bs10, h10⟩ : ∃ b, wrL bs9 48 (bytesC yC) = b := ⟨_, rfl⟩
  have l10 : bs10.length = 4096 := by rw [← h10]; exact ll _ _ _ l9
  refine ⟨bs1, bs4, bs5, bs7, bs9, bs10, _, _, _, _, _, _, _, ⟨l1, l4, l5, l7, l9, l10⟩, ⟨h1, rfl⟩, ⟨?_, rfl, ?_⟩, ⟨h4, rfl⟩, ⟨h5, rfl, ?_⟩, ⟨h7, rfl, ?_⟩, ⟨h9, rfl⟩, h10, rfl, ?_⟩
  · rw [unB_at _ l1, stF_at _ l0 _ _ _ (by omega), hw]; decide
  · rw [unB_at _ l1]; rfl
  · rw [wrF_at _ l4 _ _ 2 _ rfl (by omega) (by omega), stF_at _ l1 _ _ _ (by omega), stF_at _ l0 _ _ _ (by omega), hw]; decide
  · rw [wrF_at _ l5 _ _ 3 _ rfl (by omega) (by omega), wrF_at _ l4 _ _ 2 _ rfl (by omega) (by omega), stF_at _ l1 _ _ _ (by omega), stF_at _ l0 _ _ _ (by omega), hw]; decide
  · rw [stF_at _ l9 _ _ _ (by omega), yC_ok.2, stF_at _ l7 _ _ _ (by omega), wrF_at _ l5 _ _ 3 _ rfl (by omega) (by omega), wrF_at _ l4 _ _ 2 _ rfl (by omega) (by omega), stF_at _ l1 _ _ _ (by omega), stF_at _ l0 _ _ _ (by omega), hw]; decide
set_option maxHeartbeats 4000000 in
set_option maxRecDepth 100000 in
theorem walk (w : World) : Calls Try.prog 7 #[] w fun e w' => e = .returned (.bool true) ∧ Fr [] w w' := by
  obtain ⟨bs1, bs4, bs5, bs7, bs9, bs10, f1, f2, f4, f5, f7, f9, f10, ⟨l1, l4, l5, l7, l9, l10⟩, ⟨e1, g1⟩, ⟨u1, g2, u2⟩, ⟨e4, g4⟩, ⟨e5, g5, t5⟩, ⟨e7, g7, t7⟩, ⟨e9, g9⟩, e10, g10, t10⟩ := states
  obtain ⟨ok, hrs, hv, hsd, hmk⟩ := wC_ok
  obtain ⟨oky, -⟩ := yC_ok
  have CL := Lib.hid fun W => lmade_any W
  have l0 : (List.replicate 4096 0).length = 4096 := List.length_replicate
  obtain ⟨B, hB⟩ : ∃ B, List.replicate 4096 0 = B := ⟨_, rfl⟩
  rw [hB] at CL e1 g1 l0
  have CM := Lib.hid fun W => (show Calls Try.prog 27 #[.agg #[.int .u32 (256 : Nat), .int .u32 (64 : Nat)], .int .u16 (3 : Nat)] W fun r w' => r = .returned (.tuple #[.agg wC.cells, .bool true]) ∧ Fr [] W w' from by
    have h := make_any W 256 64 3 (by omega) (by omega)
    rw [hmk] at h
    exact h)
  obtain ⟨Y, hY⟩ : ∃ Y, yC = Y := ⟨_, rfl⟩
  have HYC := Lib.hid (show Y.cells = wC.cells.setIfInBounds 4 (.int .u16 256) by rw [← hY]; rfl)
  rw [hY] at e10 g10 oky
  obtain ⟨C, hC⟩ : ∃ C, wC = C := ⟨_, rfl⟩
  rw [hC] at CM e1 g1 e4 g4 e9 g9 ok HYC
  have CS1 := Lib.hid fun W ap p g bg cap h => astorec_yes W ap p g bg cap B (fun _ => false) h 32 (by omega) (by rw [l0]; omega) C ok
  rw [e1, g1] at CS1
  have CU2 := Lib.hid fun W ap p g bg cap h => auntag_any W ap p g bg cap bs1 f1 h 32 (by omega)
  rw [u1, if_pos rfl, show 32 / 16 = 2 from rfl, g2] at CU2
  have CU3 := Lib.hid fun W ap p g bg cap h => auntag_any W ap p g bg cap bs1 f2 h 32 (by omega)
  rw [u2, if_neg (by simp)] at CU3
  have CS4 := Lib.hid fun W ap p g bg cap h => astorec_yes W ap p g bg cap bs1 f2 h 32 (by omega) (by rw [l1]; omega) C ok
  rw [e4, g4] at CS4
  have CW5 := Lib.hid fun W ap p g bg cap h => awrite_any W ap p g bg cap bs4 f4 h 30 (by omega) [97, 98] (by simp) (by intro x hx; simp at hx; omega)
  rw [e5, g5, l4, show strV [97, 98] = .string ⟨#[97, 98]⟩ by kernel_rfl] at CW5
  have CT6 := Lib.hid fun W ap p g bg cap h => atagged_any W ap p g bg cap bs5 f5 h 0
  rw [l5, t5] at CT6
  have CW7 := Lib.hid fun W ap p g bg cap h => awrite_any W ap p g bg cap bs5 f5 h 30 (by omega) [97, 98, 99] (by simp) (by intro x hx; simp at hx; omega)
  rw [e7, g7, l5, show strV [97, 98, 99] = .string ⟨#[97, 98, 99]⟩ by kernel_rfl] at CW7
  have CT8 := Lib.hid fun W ap p g bg cap h => atagged_any W ap p g bg cap bs7 f7 h 0
  rw [l7, t7] at CT8
  have CS9 := Lib.hid fun W ap p g bg cap h => astorec_yes W ap p g bg cap bs7 f7 h 32 (by omega) (by rw [l7]; omega) C ok
  rw [e9, g9] at CS9
  have CS10 := Lib.hid fun W ap p g bg cap h => astorec_yes W ap p g bg cap bs9 f9 h 48 (by omega) (by rw [l9]; omega) Y oky
  rw [e10, g10] at CS10
  have CT11 := Lib.hid fun W ap p g bg cap h => atagged_any W ap p g bg cap bs10 f10 h 0
  rw [l10, t10] at CT11
  have CLC := Lib.hid fun W ap p g bg cap (h : Ar W ap p g bg cap bs10 f10) => aloadc_no W (.pointer (some ⟨ap, 0, none⟩)) 40 (fun W' hW => awhole_no W ap p g bg cap bs10 f10 h 40 (by omega) (by rw [l10]; rfl) W' hW)
  have CR12 := Lib.hid fun W ap p g bg cap h => aread_yes W ap p g bg cap bs10 f10 h 4096 0 (by omega) (by rw [l10]; omega)
  rw [show (bs10.drop 4096).take 0 = [] from rfl, show strV [] = .string ⟨#[]⟩ by kernel_rfl] at CR12
  have CR13 := Lib.hid fun W ap p g bg cap h => aread_no W ap p g bg cap bs10 f10 h 4097 0 (by omega) (by omega) (by omega) (by rw [l10]; rfl)
  have CR14 := Lib.hid fun W ap p g bg cap h => aread_no W ap p g bg cap bs10 f10 h 0 (-1) (by omega) (by omega) (by omega) (by rw [l10]; rfl)
  have HIC := Lib.hid (show ∀ c : Cp, (Try.prog.info? 30).map (·.size) = some c.cells.size from fun c => by kernel_rfl)
  have HCA := Lib.hid cellz_all
  have HOK := Lib.hid ok
  clear l0 l1 l4 l5 l7 l9 l10 e1 g1 u1 g2 u2 e4 g4 e5 g5 t5 e7 g7 t7 e9 g9 e10 g10 t10 ok oky hrs hv hsd hmk hB hC hY
  go_enter Try.func7, Try.ntmps7
  go_wp2_with fail
  refine (anew_bad _ 15 2 (by omega)).mono ?_
  rintro e w' ⟨rfl, rfl⟩
  go_wp2_with fail
  refine (anew_bad _ 1025 3 (by omega)).mono ?_
  rintro e w' ⟨rfl, rfl⟩
  go_wp2_with fail
  refine (CL.out _).mono ?_
  rintro e w2 ⟨ap, p, g, bg, cap, rfl, h2, p1, p2, p3, p4, hf2⟩
  have A2 := Lib.hid h2
  have F2 := Lib.hid hf2
  clear h2 hf2
  go_wp2_with fail
  refine (CM.out _).mono ?_
  rintro e w3 ⟨rfl, hf3⟩
  have A3 := Lib.hid (A2.out.fr0 hf3)
  have F3 := Lib.hid (F2.out.trans0 hf3)
  clear hf3 A2 F2
  go_upto_region 5 with (refine wpList_store_all rfl 30 (.tmp 6) (.tmp 43) rfl _ C.cells rfl rfl 30 noC.cells (At.nw rfl) (HIC.out C) rfl (HCA.out C) ?_; intro w4 hA4 hF4)
  have hga : Fr [] w3 (w3.alloc (.cells noC.cells 30)) := (by repeat (first | exact Fr.refl _ _ | assumption | refine Fr.trans0 ?_ (by assumption) | refine Fr.drewN ?_ _ | refine Fr.alloc ?_ _ | refine Fr.drew ?_))
  have hl3 := A3.out.lt
  have A4 := Lib.hid ((A3.out.fr0 hga).fr hF4 (by simp; omega) (by simp; omega) (by simp; omega) (by simp; omega))
  have hs3 := F3.out.size
  have F4 := Lib.hid ((F3.out.trans0 hga).trans hF4 (by simp; omega))
  obtain ⟨q, hq⟩ : ∃ q, w3.heap.size = q := ⟨_, rfl⟩
  rw [hq] at hA4 hl3 hs3 ⊢
  obtain ⟨hl31, hl32, hl33, hl34⟩ := hl3
  have Q4 := Lib.hid hA4
  clear hga hA4 hF4 hq A3 F3
  go_wp2_with (refine wpList_load_all rfl 30 (.tmp 6) rfl q rfl 30 C.cells _ Q4.out Try.underlying30 rfl (HIC.out C) ?_)
  refine (CS1.out _ _ _ _ _ _ A4.out).mono ?_
  rintro e w5 ⟨rfl, h5, hf5⟩
  have A5 := Lib.hid h5
  have F5 := Lib.hid (F4.out.trans hf5 (by simp; omega))
  have Q5 := Lib.hid (Q4.out.fr hf5 (by simp; omega))
  clear h5 hf5 A4 F4 Q4
  go_wp2_with fail
  refine (CU2.out _ _ _ _ _ _ A5.out).mono ?_
  rintro e w6 ⟨rfl, h6, hf6⟩
  have A6 := Lib.hid h6
  have F6 := Lib.hid (F5.out.trans hf6 (by simp; omega))
  have Q6 := Lib.hid (Q5.out.fr hf6 (by simp; omega))
  clear h6 hf6 A5 F5 Q5
  go_wp2_with fail
  refine (CU3.out _ _ _ _ _ _ A6.out).mono ?_
  rintro e w7 ⟨rfl, h7, hf7⟩
  have A7 := Lib.hid h7
  have F7 := Lib.hid (F6.out.trans hf7 (by simp; omega))
  have Q7 := Lib.hid (Q6.out.fr hf7 (by simp; omega))
  clear h7 hf7 A6 F6 Q6
  go_wp2_with (refine wpList_load_all rfl 30 (.tmp 6) rfl q rfl 30 C.cells _ Q7.out Try.underlying30 rfl (HIC.out C) ?_)
  refine (CS4.out _ _ _ _ _ _ A7.out).mono ?_
  rintro e w8 ⟨rfl, h8, hf8⟩
  have A8 := Lib.hid h8
  have F8 := Lib.hid (F7.out.trans hf8 (by simp; omega))
  have Q8 := Lib.hid (Q7.out.fr hf8 (by simp; omega))
  clear h8 hf8 A7 F7 Q7
  go_wp2_with fail
  refine (CW5.out _ _ _ _ _ _ A8.out).mono ?_
  rintro e w9 ⟨rfl, h9, hf9⟩
  have A9 := Lib.hid h9
  have F9 := Lib.hid (F8.out.trans hf9 (by simp; omega))
  have Q9 := Lib.hid (Q8.out.fr hf9 (by simp; omega))
  clear h9 hf9 A8 F8 Q8
  go_wp2_with fail
  refine (CT6.out _ _ _ _ _ _ A9.out).mono ?_
  rintro e w10 ⟨v, rfl, ho10, hf10⟩
  obtain ⟨va, vc, rfl, -⟩ := own_slice ho10
  clear ho10
  have A10 := Lib.hid (A9.out.fr0 hf10)
  have F10 := Lib.hid (F9.out.trans0 hf10)
  have Q10 := Lib.hid (Q9.out.fr hf10 (by simp))
  clear hf10 A9 F9 Q9
  go_wp2_with fail
  refine (CW7.out _ _ _ _ _ _ A10.out).mono ?_
  rintro e w11 ⟨rfl, h11, hf11⟩
  have A11 := Lib.hid h11
  have F11 := Lib.hid (F10.out.trans hf11 (by simp; omega))
  have Q11 := Lib.hid (Q10.out.fr hf11 (by simp; omega))
  clear h11 hf11 A10 F10 Q10
  go_wp2_with fail
  refine (CT8.out _ _ _ _ _ _ A11.out).mono ?_
  rintro e w12 ⟨v, rfl, ho12, hf12⟩
  obtain ⟨va2, vc2, rfl, -⟩ := own_slice ho12
  clear ho12
  have A12 := Lib.hid (A11.out.fr0 hf12)
  have F12 := Lib.hid (F11.out.trans0 hf12)
  have Q12 := Lib.hid (Q11.out.fr hf12 (by simp))
  clear hf12 A11 F11 Q11
  go_wp2_with (refine wpList_load_all rfl 30 (.tmp 6) rfl q rfl 30 C.cells _ Q12.out Try.underlying30 rfl (HIC.out C) ?_)
  refine (CS9.out _ _ _ _ _ _ A12.out).mono ?_
  rintro e w13 ⟨rfl, h13, hf13⟩
  have A13 := Lib.hid h13
  have F13 := Lib.hid (F12.out.trans hf13 (by simp; omega))
  have Q13 := Lib.hid (Q12.out.fr hf13 (by simp; omega))
  clear h13 hf13 A12 F12 Q12
  go_upto_region 14 with (first | (refine wpList_load_all rfl 30 (.tmp 6) rfl q rfl 30 C.cells _ Q13.out Try.underlying30 rfl (HIC.out C) ?_) | (refine wpList_store_all rfl 30 (.tmp 14) (.tmp 68) rfl _ C.cells rfl rfl 30 noC.cells (At.nw rfl) (HIC.out C) rfl (HCA.out C) ?_; intro w14 hA14 hF14))
  have hga : Fr [] w13 (w13.alloc (.cells noC.cells 30)) := (by repeat (first | exact Fr.refl _ _ | assumption | refine Fr.trans0 ?_ (by assumption) | refine Fr.drewN ?_ _ | refine Fr.alloc ?_ _ | refine Fr.drew ?_))
  have hl13 := A13.out.lt
  have hq13 := Q13.out.lt
  have hs13 := F13.out.size
  have A14 := Lib.hid ((A13.out.fr0 hga).fr hF14 (by simp; omega) (by simp; omega) (by simp; omega) (by simp; omega))
  have F14 := Lib.hid ((F13.out.trans0 hga).trans hF14 (by simp; omega))
  have Q14 := Lib.hid ((Q13.out.fr hga (by simp)).fr hF14 (by simp; omega))
  obtain ⟨qy, hqy⟩ : ∃ q, w13.heap.size = q := ⟨_, rfl⟩
  rw [hqy] at hA14 hl13 hq13 hs13 ⊢
  have y4 := hA14.cell 4
  have z4 := hA14.froz 4
  have Y14 := Lib.hid hA14
  obtain ⟨hl1, hl2, hl3, hl4⟩ := hl13
  clear hga hA14 hF14 hqy A13 F13 Q13
  go_upto_region 15 with (fail)
  have hst : Fr [qy] w14 (w14.setCell ⟨qy, 4, none⟩ (.int .u16 256)) := (Fr.refl _ _).set (.inl (by simp)) _
  have A15 := Lib.hid (A14.out.fr hst (by simp; omega) (by simp; omega) (by simp; omega) (by simp; omega))
  have F15 := Lib.hid (F14.out.trans hst (by simp; omega))
  have Q15 := Lib.hid (Q14.out.fr hst (by simp; omega))
  have Y15 := Lib.hid (show At (w14.setCell ⟨qy, 4, none⟩ (.int .u16 256)) qy 30 Y.cells by rw [HYC.out]; exact Y14.out.set 4 _)
  obtain ⟨w15, hw15⟩ : ∃ W, w14.setCell ⟨qy, 4, none⟩ (.int .u16 256) = W := ⟨_, rfl⟩
  rw [hw15] at A15 F15 Q15 Y15 ⊢
  clear hst hw15 A14 F14 Q14 Y14 y4 z4
  go_wp2_with (refine wpList_load_all rfl 30 (.tmp 14) rfl qy rfl 30 Y.cells _ Y15.out Try.underlying30 rfl (HIC.out Y) ?_)
  refine (CS10.out _ _ _ _ _ _ A15.out).mono ?_
  rintro e w16 ⟨rfl, h16, hf16⟩
  have A16 := Lib.hid h16
  have F16 := Lib.hid (F15.out.trans hf16 (by simp; omega))
  have Q16 := Lib.hid (Q15.out.fr hf16 (by simp; omega))
  clear h16 hf16 A15 F15 Q15
  clear Y15
  go_wp2_with fail
  refine (CLC.out _ _ _ _ _ _ A16.out).mono ?_
  rintro e w17 ⟨rfl, hf17⟩
  have A17 := Lib.hid (A16.out.fr0 hf17)
  have F17 := Lib.hid (F16.out.trans0 hf17)
  have Q17 := Lib.hid (Q16.out.fr hf17 (by simp))
  clear hf17 A16 F16 Q16
  go_upto_region 17 with (refine wpList_store_all rfl 30 (.tmp 15) (.tmp 76) rfl _ noC.cells rfl rfl 30 noC.cells (At.nw rfl) (HIC.out noC) rfl (HCA.out noC) ?_; intro w18 hA18 hF18)
  have hga : Fr [] w17 (w17.alloc (.cells noC.cells 30)) := (by repeat (first | exact Fr.refl _ _ | assumption | refine Fr.trans0 ?_ (by assumption) | refine Fr.drewN ?_ _ | refine Fr.alloc ?_ _ | refine Fr.drew ?_))
  have hl17 := A17.out.lt
  have hq17 := Q17.out.lt
  have hs17 := F17.out.size
  have A18 := Lib.hid ((A17.out.fr0 hga).fr hF18 (by simp; omega) (by simp; omega) (by simp; omega) (by simp; omega))
  have F18 := Lib.hid ((F17.out.trans0 hga).trans hF18 (by simp; omega))
  have Q18 := Lib.hid ((Q17.out.fr hga (by simp)).fr hF18 (by simp; omega))
  clear hga hA18 hF18 A17 F17 Q17
  go_wp2_with fail
  refine (CR12.out _ _ _ _ _ _ A18.out).mono ?_
  rintro e w' ⟨rfl, rfl⟩
  go_wp2_with fail
  refine (CR13.out _ _ _ _ _ _ A18.out).mono ?_
  rintro e w' ⟨rfl, rfl⟩
  go_wp2_with fail
  refine (CR14.out _ _ _ _ _ _ A18.out).mono ?_
  rintro e w' ⟨rfl, rfl⟩
  go_wp2_with fail
  refine (aload_nil _ 0 1).mono ?_
  rintro e w' ⟨rfl, rfl⟩
  have hE := At.new w18 76 #[.pointer none, .slice none 0 0]
  have hga : Fr [] w18 (w18.alloc (.cells #[.pointer none, .slice none 0 0] 76)) := (by repeat (first | exact Fr.refl _ _ | assumption | refine Fr.trans0 ?_ (by assumption) | refine Fr.drewN ?_ _ | refine Fr.alloc ?_ _ | refine Fr.drew ?_))
  have A19 := Lib.hid (A18.out.fr0 hga)
  have F19 := Lib.hid (F18.out.trans0 hga)
  have Q19 := Lib.hid (Q18.out.fr hga (by simp))
  have CN := Lib.hid fun (W : World) (hW : Fr [] (w18.alloc (.cells #[.pointer none, .slice none 0 0] 76)) W) => anone_empty W w18.heap.size (hE.fr hW (by simp))
  go_wp2_with fail
  obtain ⟨w19, hw19⟩ : ∃ W, w18.alloc (.cells #[.pointer none, .slice none 0 0] 76) = W := ⟨_, rfl⟩
  obtain ⟨qe, hqe⟩ : ∃ q, w18.heap.size = q := ⟨_, rfl⟩
  rw [hqe] at CN
  rw [hw19] at CN A19 F19 Q19
  rw [hw19, hqe]
  have CN0 := Lib.hid fun (W : World) => anone_nil W
  clear hw19 hqe hE hga A18 F18 Q18
  refine (aloadc_no w19 (.pointer (some ⟨qe, 0, none⟩)) 0 (fun W hW => awhole_none w19 _ CN.out 0 W hW)).mono ?_
  rintro e w20 ⟨rfl, hf20⟩
  have G20 := Lib.hid hf20
  have A20 := Lib.hid (A19.out.fr0 hf20)
  have F20 := Lib.hid (F19.out.trans0 hf20)
  have Q20 := Lib.hid (Q19.out.fr hf20 (by simp))
  clear hf20 A19 F19 Q19
  go_wp2_with (refine wpList_store_all rfl 30 (.tmp 27) (.tmp 103) rfl _ noC.cells rfl rfl 30 noC.cells (At.nw rfl) (HIC.out noC) rfl (HCA.out noC) ?_; intro w21 hA21 hF21)
  have hga : Fr [] w20 (w20.alloc (.cells noC.cells 30)) := (by repeat (first | exact Fr.refl _ _ | assumption | refine Fr.trans0 ?_ (by assumption) | refine Fr.drewN ?_ _ | refine Fr.alloc ?_ _ | refine Fr.drew ?_))
  have hl20 := A20.out.lt
  have hq20 := Q20.out.lt
  have hs20 := F20.out.size
  have hs19 := G20.out.size
  have A21 := Lib.hid ((A20.out.fr0 hga).fr hF21 (by simp; omega) (by simp; omega) (by simp; omega) (by simp; omega))
  have F21 := Lib.hid ((F20.out.trans0 hga).trans hF21 (by simp; omega))
  have Q21 := Lib.hid ((Q20.out.fr hga (by simp)).fr hF21 (by simp; omega))
  have G21 := Lib.hid ((G20.out.trans0 hga).trans hF21 (by simp; omega))
  clear hga hA21 hF21 A20 F20 Q20 G20
  refine (aread_nil _ 0 0).mono ?_
  rintro e w' ⟨rfl, rfl⟩
  go_wp2_with fail
  refine (works_any _).mono ?_
  rintro e w22 ⟨rfl, hf22⟩
  have G22 := Lib.hid (G21.out.trans0 hf22)
  clear G21
  have A22 := Lib.hid (A21.out.fr0 hf22)
  have F22 := Lib.hid (F21.out.trans0 hf22)
  have Q22 := Lib.hid (Q21.out.fr hf22 (by simp))
  clear hf22 A21 F21 Q21
  go_wp2_with fail
  refine (CT11.out _ _ _ _ _ _ A22.out).mono ?_
  rintro e w23 ⟨v, rfl, ho23, hf23⟩
  obtain ⟨va3, vc3, rfl, -⟩ := own_slice ho23
  have G23 := Lib.hid (G22.out.trans0 hf23)
  clear ho23 G22
  have A23 := Lib.hid (A22.out.fr0 hf23)
  have F23 := Lib.hid (F22.out.trans0 hf23)
  have Q23 := Lib.hid (Q22.out.fr hf23 (by simp))
  clear hf23 A22 F22 Q22
  have hemp : ByteArray.toList ⟨#[]⟩ = [] := by kernel_rfl
  go_wp2_with fail
  refine (asize_none w23 (.pointer none) (fun W _ => CN0.out W) w23 (Fr.refl _ _)).mono ?_
  rintro e w' ⟨rfl, rfl⟩
  go_wp2_with fail
  refine (astore_none w23 (.pointer (some ⟨qe, 0, none⟩)) (fun W hW => CN.out W (G23.out.trans0 hW)) 0 1 0 (by omega) (by omega)).mono ?_
  rintro e w24 ⟨rfl, hf24⟩
  have G24 := Lib.hid (G23.out.trans0 hf24)
  clear G23
  have A24 := Lib.hid (A23.out.fr0 hf24)
  have F24 := Lib.hid (F23.out.trans0 hf24)
  have Q24 := Lib.hid (Q23.out.fr hf24 (by simp))
  clear hf24 A23 F23 Q23
  go_wp2_with (refine wpList_load_all rfl 30 (.tmp 6) rfl q rfl 30 C.cells _ Q24.out Try.underlying30 rfl (HIC.out C) ?_)
  refine (astorec_no w24 (.pointer none) 0 C (fun W _ => awhole_nil W 0)).mono ?_
  rintro e w25 ⟨rfl, hf25⟩
  have G25 := Lib.hid (G24.out.trans0 hf25)
  clear G24
  have A25 := Lib.hid (A24.out.fr0 hf25)
  have F25 := Lib.hid (F24.out.trans0 hf25)
  have Q25 := Lib.hid (Q24.out.fr hf25 (by simp))
  clear hf25 A24 F24 Q24
  have CWN := awrite_none w25 (.pointer (some ⟨qe, 0, none⟩)) (fun W hW => CN.out W (G25.out.trans0 hW)) 0 [] (by simp) (fun _ h => by cases h)
  rw [show strV [] = .string ⟨#[]⟩ by kernel_rfl] at CWN
  have CWN := Lib.hid CWN
  go_wp2_with fail
  refine (CWN.out).mono ?_
  rintro e w26 ⟨rfl, hf26⟩
  have G26 := Lib.hid (G25.out.trans0 hf26)
  clear G25 CWN
  have A26 := Lib.hid (A25.out.fr0 hf26)
  have F26 := Lib.hid (F25.out.trans0 hf26)
  have Q26 := Lib.hid (Q25.out.fr hf26 (by simp))
  clear hf26 A25 F25 Q25
  go_wp2_with fail
  refine (azero_nil w26 0 0 (by omega)).mono ?_
  rintro e w27 ⟨rfl, hf27⟩
  have G27 := Lib.hid (G26.out.trans0 hf27)
  clear G26
  have A27 := Lib.hid (A26.out.fr0 hf27)
  have F27 := Lib.hid (F26.out.trans0 hf27)
  have Q27 := Lib.hid (Q26.out.fr hf27 (by simp))
  clear hf27 A26 F26 Q26
  go_wp2_with fail
  refine (atagged_none w19 (.pointer (some ⟨qe, 0, none⟩)) CN.out 0 (by omega) w27 G27.out).mono ?_
  rintro e w' ⟨rfl, rfl⟩
  go_wp2_with fail
  refine (auntag_nil w27 0).mono ?_
  rintro e w' ⟨rfl, rfl⟩
  go_wp2_with fail
  refine (acopy_none w27 (.pointer none) (fun W _ => CN0.out W) w27 (Fr.refl _ _)).mono ?_
  rintro e w' ⟨rfl, rfl⟩
  go_wp2_with fail
  refine (acopy_none w19 (.pointer (some ⟨qe, 0, none⟩)) CN.out w27 G27.out).mono ?_
  rintro e w' ⟨rfl, rfl⟩
  go_wp2_with fail
  go_ret
  exact ⟨rfl, F27.out⟩
theorem laidOut : laidOutB Try.prog = true := by kernel_rfl
set_option maxRecDepth 100000 in
theorem lifted (os : Os) (started : os.Started) (H : Type) (enc : TypeId × Value → H) :
    ReturnsInHanded {} Try.checked os 7 .any (Rows.arenaKnownSpec.pre6 enc Try.prog Try.f7 Rows.arenaKnownRow.domain false) (Rows.arenaKnownSpec.post enc Try.prog Try.f7 false true false false) := by
  refine returnsInHanded_of_change (C := Try.checked) own started (by kernel_rfl) Try.func7
    (ChangeSpec.witness6 (enc := enc) (C := Try.checked) false ⟨#[], #[], []⟩ 8 (by kernel_rfl) (by kernel_rfl) (by kernel_rfl) (by kernel_rfl)) ?_
  intro W base args ds gs before hval0 hW hcnd _
  have hval : ∀ (j : Nat) t v, Try.f7.params[j]? = some t → args[j]? = some v → Value.okWide Try.prog W .any base t v := hval0
  have hW' := hW
  obtain ⟨p, q, hA0, hV, rfl, hfz, hnd⟩ := hW
  have hA : DataW.TrodAll enc Try.prog W 0 (fun _ => true) true Try.f7.params.toList args.toList ds p := hA0
  rw [Try.params7] at hA hval
  obtain ⟨rfl, rfl, rfl⟩ := trodAll_none hA
  obtain ⟨rfl, rfl⟩ := trodVars_none hV
  clear hA0 hval0
  simp only [List.append_nil] at hW'
  refine (walk  W ).mono fun e W' ⟨he, hg⟩ => ?_
  subst he
  exact ⟨_, rfl, post_fr (pa := []) (pv := []) hW' (fun _ _ _ => (trodAll_cons_mk (shut_bool Try.underlying4 _) trodAll_mk0)) (fun sp _ => rfl) (fun _ _ => rfl) rfl
    hg (ok_one (by kernel_rfl) rfl (okWide_bool_mk Try.underlying4 _))⟩
theorem over : Rows.arenaKnownRow.holds Try.pinned (OpenSpec.ofChange Rows.arenaKnownSpec) :=
  OpenClaim.holds_of_wide 7 Try.f7 rfl rfl rfl rfl rfl rfl rfl ⟨rfl, rfl, rfl, rfl, rfl⟩ rfl rfl rfl rfl rfl (by kernel_rfl) Try.func7 (by kernel_rfl)
    (of_decide_eq_true (by kernel_rfl)) (by unfold Func.isWrapper; first | (rw [if_pos (by decide +kernel)]; kernel_rfl) | (rw [if_neg (by decide +kernel)]; exact ⟨rfl, rfl⟩))
    (fun os started H enc _ => lifted os started H enc)
/-- The statement, proved. -/
theorem proved : Rows.ArenaKnownSaid :=
  over
end arenaKnown
end Go.Proofs.Ytfgmcoepldekaaa
