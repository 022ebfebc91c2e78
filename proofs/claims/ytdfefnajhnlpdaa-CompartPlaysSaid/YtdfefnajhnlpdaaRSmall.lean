/-
  The small functions of the references of layers 5 and 20: an address moved, what is open, a pair's trap, a frame passed on. Condition: numbers in their types' ranges.
-/



import Derived.Test.YtdfefnajhnlpdaaRefDec
import Derived.Test.YtdfefnajhnlpdaaSmall
import Derived.Test.YtdfefnajhnlpdaaDerive
set_option linter.unusedVariables false
namespace Go.Proofs.Ytdfefnajhnlpdaa
open Go.ChangeShapes Go.WideShapes Go.ChangeAt Go.RowKit
set_option maxRecDepth 100000 in
theorem r03keeps_any (w : World) (e b t c n : Nat) (hc : c < 4294967296) (hn : n < 4294967296) :
    Calls Try.prog 52 #[.int .u8 e, .int .u16 b, .int .u16 t, .int .u32 c, .int .u32 n] w fun r w' => r = .returned (.bool (keepB e b t c n)) ∧ w = w' := by
  unfold keepB
  by_cases hm : mayB e b t = true
  · have hm2 := hm
    unfold mayB at hm2
    simp only [Bool.and_eq_true, decide_eq_true_eq] at hm2
    obtain ⟨h1, h2, h3⟩ := hm2
    rw [hm, Bool.true_and]
    have C1 := Lib.hid fun W => r03tell_yes W e b t c h1 h2 h3 hc
    have C2 := Lib.hid fun W => r03tell_yes W e b t n h1 h2 h3 hn
    generalize ofI (hiI e b c) e b b = X at *
    generalize ofI (hiI e b c) e b t = Y at *
    generalize ofI (hiI e b n) e b b = U at *
    generalize ofI (hiI e b n) e b t = V at *
    generalize okB X Y = k at *
    generalize okB U V = k2 at *
    obtain ⟨B1, hB1⟩ : ∃ B, (X == U) = B := ⟨_, rfl⟩
    obtain ⟨B2, hB2⟩ : ∃ B, (Y == V) = B := ⟨_, rfl⟩
    clear hm h1 h2 h3
    cases k <;> cases B1
    all_goals
      go_enter Try.func52, Try.ntmps52
      go_wp2_with fail
      refine (C1.out _).mono ?_
      rintro e w2 ⟨rfl, rfl⟩
      go_wp2_with fail
      refine (C2.out _).mono ?_
      rintro e w3 ⟨rfl, rfl⟩
      go_wp2_with fail
      go_ret
      refine ⟨ret_bool ?_, rfl⟩
      first | rfl | (simp [hB1, hB2]; done)
  · rw [Bool.not_eq_true] at hm
    have C1 := Lib.hid fun W => r03tell_no W e b t c hm
    have C2 := Lib.hid fun W => r03tell_no W e b t n hm
    rw [hm, Bool.false_and]
    clear hm
    go_enter Try.func52, Try.ntmps52
    go_wp2_with fail
    refine (C1.out _).mono ?_
    rintro e w2 ⟨rfl, rfl⟩
    go_wp2_with fail
    refine (C2.out _).mono ?_
    rintro e w3 ⟨rfl, rfl⟩
    go_wp2_with fail
    go_ret
    exact ⟨rfl, rfl⟩
theorem r05free_any (w : World) (c : Cp) : Calls Try.prog 51 #[.agg c.cells] w fun r w' => r = .returned (.bool c.fre) ∧ Fr [] w w' := by
  unfold Cp.fre Cp.cells
  obtain ⟨cur, e, b, t, pm, ty, rs, v⟩ := c
  dsimp only
  cases v
  all_goals
    go_enter Try.func51, Try.ntmps51
    go_wp2_with fail
    go_ret
    exact ⟨by simp, (by repeat (first | exact Fr.refl _ _ | assumption | refine Fr.trans0 ?_ (by assumption) | refine Fr.drewN ?_ _ | refine Fr.alloc ?_ _ | refine Fr.drew ?_))⟩
theorem r05with_any (w : World) (c : Cp) (k : Bool) : Calls Try.prog 53 #[.agg c.cells, .bool k] w fun r w' => r = .returned (.agg ({ c with v := k } : Cp).cells) ∧ Fr [] w w' := by
  unfold Cp.cells
  dsimp only [Int.cast_ofNat_Int]
  obtain ⟨cur, e, b, t, pm, ty, rs, cv⟩ := c
  dsimp only
  go_enter Try.func53, Try.ntmps53
  go_wp2_with fail
  have A1 := At.new (w.alloc (.cells #[.int .u32 cur, .int .u8 e, .int .u16 b, .int .u16 t, .int .u16 pm, .int .u16 ty, .int .u32 rs, .bool k] 25)) 25 #[.int .u32 cur, .int .u8 e, .int .u16 b, .int .u16 t, .int .u16 pm, .int .u16 ty, .int .u32 rs, .bool k]
  rw [World.size_alloc] at A1
  exact bodyPost_ret (res_row rfl _ _ (w.heap.size + 1) 25 _ _ rfl A1 Try.underlying25 rfl (by kernel_rfl)) rfl ⟨rfl, (by repeat (first | exact Fr.refl _ _ | assumption | refine Fr.trans0 ?_ (by assumption) | refine Fr.drewN ?_ _ | refine Fr.alloc ?_ _ | refine Fr.drew ?_))⟩
theorem r20open_any (w : World) (c : Cp) : Calls Try.prog 36 #[.agg c.cells] w fun r w' => r = .returned (.agg c.opened.cells) ∧ Fr [] w w' := by
  unfold Cp.opened Cp.cells
  dsimp only [Int.cast_ofNat_Int]
  obtain ⟨cur, e, b, t, pm, ty, rs, cv⟩ := c
  dsimp only
  go_enter Try.func36, Try.ntmps36
  go_wp2_with fail
  have A1 := At.new (w.alloc (.cells #[.int .u32 cur, .int .u8 e, .int .u16 b, .int .u16 t, .int .u16 pm, .int .u16 0, .int .u32 rs, .bool cv] 25)) 25 #[.int .u32 cur, .int .u8 e, .int .u16 b, .int .u16 t, .int .u16 pm, .int .u16 0, .int .u32 rs, .bool cv]
  rw [World.size_alloc] at A1
  exact bodyPost_ret (res_row rfl _ _ (w.heap.size + 1) 25 _ _ rfl A1 Try.underlying25 rfl (by kernel_rfl)) rfl ⟨rfl, (by repeat (first | exact Fr.refl _ _ | assumption | refine Fr.trans0 ?_ (by assumption) | refine Fr.drewN ?_ _ | refine Fr.alloc ?_ _ | refine Fr.drew ?_))⟩
theorem r20trap_any (w : World) (a b : Cp) : Calls Try.prog 33 #[.agg a.cells, .agg b.cells] w fun r w' => r = .returned (.int .i64 (trapI a b)) ∧ Fr [] w w' := by
  unfold Cp.cells
  obtain ⟨cur, e, b0, t, pm, ty, rs, cv⟩ := a
  obtain ⟨cur2, e2, b2, t2, pm2, ty2, rs2, cv2⟩ := b
  unfold trapI
  dsimp only
  go_enter Try.func33, Try.ntmps33
  go_wp2_with fail
  all_goals
    go_ret
    refine ⟨ret_int ?_, (by repeat (first | exact Fr.refl _ _ | assumption | refine Fr.trans0 ?_ (by assumption) | refine Fr.drewN ?_ _ | refine Fr.alloc ?_ _ | refine Fr.drew ?_))⟩
    simp_all [trapB]
set_option maxHeartbeats 2000000 in
set_option maxRecDepth 100000 in
theorem r20clean_any (w : World) (fr : List Cp) (hl : fr.length = 17) : Calls Try.prog 35 #[.agg (cat fr).toArray] w fun r w' => r = .returned (.agg (cat (passF fr)).toArray) ∧ Fr [] w w' := by
  have hz := fun w => zeroFrame w
  obtain ⟨Z, hZ⟩ : ∃ Z, (cat zf).toArray = Z := ⟨_, rfl⟩
  rw [hZ] at hz
  obtain ⟨A, hA⟩ : ∃ A, (cat fr).toArray = A := ⟨_, rfl⟩
  have A0 := Lib.hid (show At (((w.alloc (.cells A 31)).alloc (.cells Z 31)).alloc (.cells Z 31)) w.heap.size 31 (cat fr).toArray by rw [hA]; exact ((At.new _ _ _).old _).old _)
  have A1 := Lib.hid (show At (((w.alloc (.cells A 31)).alloc (.cells Z 31)).alloc (.cells Z 31)) (w.heap.size + 1) 31 (cat zf).toArray by rw [hZ]; exact (At.newq (by simp only [World.size_alloc])).old _)
  have A2 := Lib.hid (show At (((w.alloc (.cells A 31)).alloc (.cells Z 31)).alloc (.cells Z 31)) (w.heap.size + 1 + 1) 31 (cat zf).toArray by rw [hZ]; exact At.newq (by simp only [World.size_alloc]))
  have F0 := Lib.hid (show Fr [] w (((w.alloc (.cells A 31)).alloc (.cells Z 31)).alloc (.cells Z 31)) from (by repeat (first | exact Fr.refl _ _ | assumption | refine Fr.trans0 ?_ (by assumption) | refine Fr.drewN ?_ _ | refine Fr.alloc ?_ _ | refine Fr.drew ?_)))
  have hg10 : Hid (fr[10]? = some (fr.getD 10 noC)) := Lib.hid (by rw [List.getD_eq_getElem?_getD]; simp [hl])
  have hg11 : Hid (fr[11]? = some (fr.getD 11 noC)) := Lib.hid (by rw [List.getD_eq_getElem?_getD]; simp [hl])
  have hpl : Hid ((passF fr).length = 17) := Lib.hid (by unfold passF; rw [List.length_set, List.length_set, zf_len])
  have HI := Lib.hid infoFrame
  rw [hA]
  clear hA hZ hl
  go_enter Try.func35, Try.ntmps35
  go_wp2_with (first | (refine wpList_load_cap rfl (.tmp 5) rfl w.heap.size 80 rfl 31 fr A0.out 10 rfl (fr.getD 10 noC) hg10.out ?_) | (refine wpList_store_cap rfl (.tmp 8) (.tmp 6) rfl (w.heap.size + 1 + 1) 80 (fr.getD 10 noC) rfl rfl 31 zf A2.out 10 rfl (by rw [zf_len]; omega) ?_; intro w3 hA3 hF3) | (refine wpList_load_cap rfl (.tmp 10) rfl w.heap.size 88 rfl 31 fr (A0.out.fr hF3 (by simp <;> omega)) 11 rfl (fr.getD 11 noC) hg11.out ?_) | (refine wpList_store_cap rfl (.tmp 13) (.tmp 11) rfl (w.heap.size + 1 + 1) 88 (fr.getD 11 noC) rfl rfl 31 (zf.set 10 (fr.getD 10 noC)) hA3 11 rfl (by rw [List.length_set, zf_len]; omega) ?_; intro w4 hA4 hF4) | (refine wpList_load_all rfl 31 (.tmp 3) rfl (w.heap.size + 1 + 1) rfl 31 (cat (passF fr)).toArray _ hA4 Try.underlying31 rfl (by rw [HI.out, cat_size hpl.out]) ?_) | (refine wpList_store_all rfl 31 (.tmp 2) (.tmp 14) rfl (w.heap.size + 1) (cat (passF fr)).toArray rfl rfl 31 (cat zf).toArray ((A1.out.fr hF3 (by simp)).fr hF4 (by simp)) (by rw [HI.out, cat_size hpl.out]) (by rw [cat_size hpl.out, cat_size zf_len]) (cat_all _) ?_; intro w5 hA5 hF5))
  refine bodyPost_ret (res_row rfl _ _ (w.heap.size + 1) 31 _ _ rfl hA5 Try.underlying31 rfl (by rw [HI.out, cat_size hpl.out])) rfl ⟨rfl, ((F0.out.trans hF3 (by simp <;> omega)).trans hF4 (by simp <;> omega)).trans hF5 (by simp <;> omega)⟩
theorem cells_all (c : Cp) : c.cells.all (·.oneCell') = true := by rw [← cat_single]; exact cat_all _
set_option maxHeartbeats 1000000 in
set_option maxRecDepth 100000 in
theorem r05addr_any (w : World) (c : Cp) (n : Nat) (hc : c.cur < 4294967296) (hn : n < 4294967296) :
    Calls Try.prog 34 #[.agg c.cells, .int .u32 n] w fun r w' => r = .returned (.agg (c.addr n).cells) ∧ Fr [] w w' := by
  have CF := Lib.hid fun W => r05free_any W c
  have CK := Lib.hid fun W => r03keeps_any W c.e c.b c.t c.cur n hc hn
  have CW := Lib.hid fun W v => r05with_any W { c with cur := n } v
  unfold Cp.addr
  obtain ⟨kb, hkb⟩ : ∃ k, keepB c.e c.b c.t c.cur n = k := ⟨_, rfl⟩
  obtain ⟨fb, hfb⟩ : ∃ k, c.fre = k := ⟨_, rfl⟩
  rw [hkb] at CK ⊢
  rw [hfb] at CF ⊢
  have B0 := Lib.hid (show At ((w.alloc (.cells c.cells 25)).alloc (.cells noC.cells 25)) w.heap.size 25 c.cells from (At.new _ _ _).old _)
  have B1 := Lib.hid (show At ((w.alloc (.cells c.cells 25)).alloc (.cells noC.cells 25)) (w.heap.size + 1) 25 noC.cells from At.newq (by simp only [World.size_alloc]))
  have F0 := Lib.hid (show Fr [] w ((w.alloc (.cells c.cells 25)).alloc (.cells noC.cells 25)) from (by repeat (first | exact Fr.refl _ _ | assumption | refine Fr.trans0 ?_ (by assumption) | refine Fr.drewN ?_ _ | refine Fr.alloc ?_ _ | refine Fr.drew ?_)))
  have HNA := Lib.hid (cells_all ({ c with cur := n, v := fb && kb } : Cp))
  clear hkb hfb hc hn
  unfold noC Cp.cells at B0 B1 F0
  unfold Cp.cells at CF CW HNA ⊢
  dsimp only [Int.cast_ofNat_Int] at B0 B1 F0
  dsimp only at CW HNA ⊢
  go_enter Try.func34, Try.ntmps34
  go_wp2_with fail
  refine (CF.out _).mono ?_
  rintro e w2 ⟨rfl, hf2⟩
  have C0 := Lib.hid (B0.out.fr hf2 (by simp))
  have C1 := Lib.hid (B1.out.fr hf2 (by simp))
  have F2 := Lib.hid (F0.out.trans0 hf2)
  have c0 := C0.out
  have hw2 := C1.out.lt
  have k_0 := c0.cell 0
  have k_1 := c0.cell 1
  have k_2 := c0.cell 2
  have k_3 := c0.cell 3
  have k_4 := c0.cell 4
  have k_5 := c0.cell 5
  have k_6 := c0.cell 6
  have k_7 := c0.cell 7
  simp only [List.getElem?_toArray, List.getElem?_cons_zero, List.getElem?_cons_succ] at k_0 k_1 k_2 k_3 k_4 k_5 k_6 k_7
  have z_0 := c0.froz 0
  have z_1 := c0.froz 1
  have z_2 := c0.froz 2
  have z_3 := c0.froz 3
  have z_4 := c0.froz 4
  have z_5 := c0.froz 5
  have z_6 := c0.froz 6
  have z_7 := c0.froz 7
  clear c0 hf2 B0 B1 F0
  cases fb
  · go_wp2_with fail
    refine (CW.out _ _).mono ?_
    rintro e w3 ⟨rfl, hf3⟩
    have D1 := Lib.hid ((C1.out.far (a := ⟨w.heap.size, 0, none⟩) (by simp) (.int .u32 (n : Int))).fr hf3 (by simp))
    have F3 := Lib.hid ((F2.out.set (a := ⟨w.heap.size, 0, none⟩) (.inr (Nat.le_refl _)) (.int .u32 (n : Int))).trans0 hf3)
    clear hf3
    go_wp2_with (refine wpList_store_all rfl 25 (.tmp 4) (.tmp 24) rfl (w.heap.size + 1) _ rfl rfl 25 _ D1.out infoCapS rfl HNA.out ?_; intro w5 hA5 hF5)
    exact bodyPost_ret (res_row rfl _ _ (w.heap.size + 1) 25 _ _ rfl hA5 Try.underlying25 rfl infoCapS) rfl ⟨rfl, F3.out.trans hF5 (by simp <;> omega)⟩
  · go_wp2_with fail
    refine (CK.out _).mono ?_
    rintro e w' ⟨rfl, rfl⟩
    go_wp2_with fail
    refine (CW.out _ _).mono ?_
    rintro e w3 ⟨rfl, hf3⟩
    have D1 := Lib.hid ((C1.out.far (a := ⟨w.heap.size, 0, none⟩) (by simp) (.int .u32 (n : Int))).fr hf3 (by simp))
    have F3 := Lib.hid ((F2.out.set (a := ⟨w.heap.size, 0, none⟩) (.inr (Nat.le_refl _)) (.int .u32 (n : Int))).trans0 hf3)
    clear hf3
    go_wp2_with (refine wpList_store_all rfl 25 (.tmp 4) (.tmp 24) rfl (w.heap.size + 1) _ rfl rfl 25 _ D1.out infoCapS rfl HNA.out ?_; intro w5 hA5 hF5)
    exact bodyPost_ret (res_row rfl _ _ (w.heap.size + 1) 25 _ _ rfl hA5 Try.underlying25 rfl infoCapS) rfl ⟨rfl, F3.out.trans hF5 (by simp <;> omega)⟩
end Go.Proofs.Ytdfefnajhnlpdaa
