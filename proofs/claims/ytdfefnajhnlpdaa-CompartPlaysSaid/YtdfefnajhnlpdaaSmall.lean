/-
  What the small functions of layer 20 compute: numbers, a pair's trap, what is open, a frame passed on. Condition: numbers in their types' ranges.
-/


import Derived.Test.YtdfefnajhnlpdaaDerive
set_option linter.unusedVariables false
namespace Go.Proofs.Ytdfefnajhnlpdaa
open Go.ChangeShapes Go.WideShapes Go.ChangeAt Go.RowKit
def numC (v : Nat) : Cp := ⟨v, 0, 0, 0, 0, 0, 0, false⟩
theorem numC_zero : numC 0 = noC := rfl
theorem number_any (w : World) (v : Nat) : Calls Try.prog 14 #[.int .u32 v] w fun r w' => r = .returned (.agg (numC v).cells) ∧ Fr [] w w' := by
  have A := At.new w 25 (numC v).cells
  have F : Fr [] w (w.alloc (.cells (numC v).cells 25)) := (by repeat (first | exact Fr.refl _ _ | assumption | refine Fr.trans0 ?_ (by assumption) | refine Fr.drewN ?_ _ | refine Fr.alloc ?_ _ | refine Fr.drew ?_))
  unfold numC Cp.cells at *
  dsimp only [Int.cast_ofNat_Int] at *
  go_enter Try.func14, Try.ntmps14
  go_wp2_with fail
  exact bodyPost_ret (res_row rfl _ _ w.heap.size 25 _ _ rfl A Try.underlying25 rfl (by kernel_rfl)) rfl ⟨rfl, F⟩
def Cp.opened (c : Cp) : Cp := { c with ty := 0 }
theorem copen_any (w : World) (c : Cp) : Calls Try.prog 29 #[.agg c.cells] w fun r w' => r = .returned (.agg c.opened.cells) ∧ Fr [] w w' := by
  unfold Cp.opened Cp.cells
  dsimp only [Int.cast_ofNat_Int]
  obtain ⟨cur, e, b, t, pm, ty, rs, cv⟩ := c
  dsimp only
  go_enter Try.func29, Try.ntmps29
  go_wp2_with fail
  have A1 := At.new (w.alloc (.cells #[.int .u32 cur, .int .u8 e, .int .u16 b, .int .u16 t, .int .u16 pm, .int .u16 0, .int .u32 rs, .bool cv] 25)) 25 #[.int .u32 cur, .int .u8 e, .int .u16 b, .int .u16 t, .int .u16 pm, .int .u16 0, .int .u32 rs, .bool cv]
  rw [World.size_alloc] at A1
  exact bodyPost_ret (res_row rfl _ _ (w.heap.size + 1) 25 _ _ rfl A1 Try.underlying25 rfl (by kernel_rfl)) rfl ⟨rfl, (by repeat (first | exact Fr.refl _ _ | assumption | refine Fr.trans0 ?_ (by assumption) | refine Fr.drewN ?_ _ | refine Fr.alloc ?_ _ | refine Fr.drew ?_))⟩
/-- Why a pair is not called; 0: it is. -/
def trapB (av bv at0 bt0 ne i x y : Bool) : Int := if (!av || !bv) = true then 1 else if (at0 || bt0) = true then 2 else if ne = true then 8 else if (i || (x || !y)) = true then 3 else 0
def trapI (a b : Cp) : Int := trapB a.v b.v ((a.ty : Int) == 0) ((b.ty : Int) == 0) ((a.ty : Int) != b.ty) (bits .and .u16 (bits .and .u16 a.pm b.pm) 128 == 0) (bits .and .u16 a.pm 4 == 0) (bits .and .u16 b.pm 4 == 0)
theorem ctrap_any (w : World) (a b : Cp) : Calls Try.prog 26 #[.agg a.cells, .agg b.cells] w fun r w' => r = .returned (.int .i64 (trapI a b)) ∧ Fr [] w w' := by
  unfold Cp.cells
  obtain ⟨cur, e, b0, t, pm, ty, rs, cv⟩ := a
  obtain ⟨cur2, e2, b2, t2, pm2, ty2, rs2, cv2⟩ := b
  unfold trapI
  dsimp only
  go_enter Try.func26, Try.ntmps26
  go_wp2_with fail
  all_goals
    go_ret
    refine ⟨ret_int ?_, (by repeat (first | exact Fr.refl _ _ | assumption | refine Fr.trans0 ?_ (by assumption) | refine Fr.drewN ?_ _ | refine Fr.alloc ?_ _ | refine Fr.drew ?_))⟩
    simp_all [trapB]
/-- A frame with its registers 10 and 11, and numbers 0. -/
def passF (fr : List Cp) : List Cp := (zf.set 10 (fr.getD 10 noC)).set 11 (fr.getD 11 noC)
def passK (fr : List Cp) (k : Nat) : List Cp := if k = 0 then zf else if k = 1 then zf.set 10 (fr.getD 10 noC) else passF fr
theorem zf_set (k : Nat) : zf.set k noC = zf := by
  unfold zf
  rw [List.set_replicate_self]
theorem zf_len : zf.length = 17 := rfl
set_option maxHeartbeats 2000000 in
set_option maxRecDepth 100000 in
theorem cpass_any (w : World) (fr : List Cp) (hl : fr.length = 17) (q cap : Nat) (hq : At w q 3 #[.int .i64 10, .int .i64 11]) :
    Calls Try.prog 28 #[.agg (cat fr).toArray, .slice (some ⟨q, 0, none⟩) 2 cap] w fun r w' => r = .returned (.agg (cat (passF fr)).toArray) ∧ Fr [] w w' := by
  have hz := fun w => zeroFrame w
  obtain ⟨Z, hZ⟩ : ∃ Z, (cat zf).toArray = Z := ⟨_, rfl⟩
  rw [hZ] at hz
  obtain ⟨A, hA⟩ : ∃ A, (cat fr).toArray = A := ⟨_, rfl⟩
  have A0 : At (((w.alloc (.cells A 31)).alloc (.cells Z 31)).alloc (.cells Z 31)) w.heap.size 31 (cat fr).toArray := by rw [hA]; exact ((At.new _ _ _).old _).old _
  have A1 : At (((w.alloc (.cells A 31)).alloc (.cells Z 31)).alloc (.cells Z 31)) (w.heap.size + 1) 31 (cat zf).toArray := by rw [hZ]; exact (At.newq (by simp only [World.size_alloc])).old _
  have A2 : At (((w.alloc (.cells A 31)).alloc (.cells Z 31)).alloc (.cells Z 31)) (w.heap.size + 1 + 1) 31 (cat zf).toArray := by rw [hZ]; exact At.newq (by simp only [World.size_alloc])
  have F0 : Fr [] w (((w.alloc (.cells A 31)).alloc (.cells Z 31)).alloc (.cells Z 31)) := (by repeat (first | exact Fr.refl _ _ | assumption | refine Fr.trans0 ?_ (by assumption) | refine Fr.drewN ?_ _ | refine Fr.alloc ?_ _ | refine Fr.drew ?_))
  have HQ := Lib.hid hq
  have HL := Lib.hid hl
  have HA0 := Lib.hid A0
  have HA1 := Lib.hid A1
  have HA2 := Lib.hid A2
  have HF0 := Lib.hid F0
  have HZ := Lib.hid hZ
  have hql := hq.lt
  rw [hA]
  clear A0 A1 A2 F0 hA hZ hq hl
  go_enter Try.func28, Try.ntmps28
  go_wp2_with fail
  go_loopw [9] (fun i wr => ∃ k : Nat, k ≤ 16 ∧ i = .int .i64 k ∧ At wr w.heap.size 31 (cat fr).toArray ∧ At wr (w.heap.size + 1) 31 (cat zf).toArray ∧ At wr (w.heap.size + 1 + 1) 31 (cat zf).toArray ∧ Fr [] w wr) (fun i _ => 16 - (intOf i).toNat)
  case atStart => exact ⟨0, by omega, rfl, HA0.out, HA1.out, HA2.out, HF0.out⟩
  case round =>
    clear HA0 HA1 HA2 HF0
    obtain ⟨k, hk, rfl, h0, h1, h2, hf⟩ := hrel
    have K0 := Lib.hid h0
    have K1 := Lib.hid h1
    have K2 := Lib.hid h2
    have KF := Lib.hid hf
    have hws := hf.size
    have hl2 := h2.lt
    clear h0 h1 h2 hf
    by_cases hkn : k < 16
    · go_wp2_with fail
      refine (number_any _ 0).mono ?_
      rintro e w2 ⟨rfl, hf2⟩
      rw [numC_zero]
      have L0 := Lib.hid (K0.out.fr hf2 (by simp))
      have L1 := Lib.hid (K1.out.fr hf2 (by simp))
      have L2 := Lib.hid (K2.out.fr hf2 (by simp))
      have LF := Lib.hid (KF.out.trans0 hf2)
      have hs2 := hf2.size
      clear hf2
      go_wp2_with (refine wpList_store_cap rfl (.tmp 15) (.tmp 13) rfl (w.heap.size + 1 + 1) (k * 8) noC rfl rfl 31 zf L2.out k rfl (by rw [zf_len]; omega) ?_; intro w3 hA3 hF3; rw [zf_set] at hA3)
      go_roundw
      case rel =>
        exact ⟨k + 1, by omega, by go_num, L0.out.fr hF3 (by simp <;> omega), L1.out.fr hF3 (by simp), hA3, LF.out.trans hF3 (by simp <;> omega)⟩
      case measure => simp [intOf]; omega
    · go_wp2_with fail
      obtain ⟨wo, rfl⟩ : ∃ wo : World, wo = wr := ⟨_, rfl⟩
      have hg10 : Hid (fr[10]? = some (fr.getD 10 noC)) := Lib.hid (by rw [List.getD_eq_getElem?_getD]; simp [HL.out])
      have hg11 : Hid (fr[11]? = some (fr.getD 11 noC)) := Lib.hid (by rw [List.getD_eq_getElem?_getD]; simp [HL.out])
      have hp0 : Hid (passK fr 0 = zf) := Lib.hid rfl
      have hp2 : Hid (passK fr 2 = passF fr) := Lib.hid rfl
      go_loopw [19] (fun i wr => ∃ k : Nat, k ≤ 2 ∧ i = .int .i64 k ∧ At wr w.heap.size 31 (cat fr).toArray ∧ At wr (w.heap.size + 1) 31 (cat zf).toArray ∧ At wr (w.heap.size + 1 + 1) 31 (cat (passK fr k)).toArray ∧ Fr [] w wr) (fun i _ => 2 - (intOf i).toNat)
      case atStart => exact ⟨0, by omega, rfl, K0.out, K1.out, by rw [hp0.out]; exact K2.out, KF.out⟩
      case round =>
        clear K0 K1 K2 KF hws hl2
        obtain ⟨k, hk, rfl, h0, h1, h2, hf⟩ := hrel
        have K0 := Lib.hid h0
        have K1 := Lib.hid h1
        have K2 := Lib.hid h2
        have KF := Lib.hid hf
        have hws := hf.size
        have hl2 := h2.lt
        have q0 := (HQ.out.fr hf (by simp)).cell 0
        have q1 := (HQ.out.fr hf (by simp)).cell 1
        simp only [List.getElem?_toArray, List.getElem?_cons_zero, List.getElem?_cons_succ] at q0 q1
        clear h0 h1 h2 hf
        rcases (show k = 0 ∨ k = 1 ∨ k = 2 by omega) with rfl | rfl | rfl
        · go_wp2_with (first | (refine wpList_load_cap rfl (.tmp 26) rfl w.heap.size 80 rfl 31 fr K0.out 10 rfl (fr.getD 10 noC) hg10.out ?_) | (refine wpList_store_cap rfl (.tmp 29) (.tmp 27) rfl (w.heap.size + 1 + 1) 80 (fr.getD 10 noC) rfl rfl 31 zf K2.out 10 rfl (by rw [zf_len]; omega) ?_; intro w3 hA3 hF3))
          go_roundw
          case rel =>
            exact ⟨1, by omega, by go_num, K0.out.fr hF3 (by simp <;> omega), K1.out.fr hF3 (by simp), hA3, KF.out.trans hF3 (by simp <;> omega)⟩
          case measure => simp [intOf]
        · go_wp2_with (first | (refine wpList_load_cap rfl (.tmp 26) rfl w.heap.size 88 rfl 31 fr K0.out 11 rfl (fr.getD 11 noC) hg11.out ?_) | (refine wpList_store_cap rfl (.tmp 29) (.tmp 27) rfl (w.heap.size + 1 + 1) 88 (fr.getD 11 noC) rfl rfl 31 (zf.set 10 (fr.getD 10 noC)) K2.out 11 rfl (by rw [List.length_set, zf_len]; omega) ?_; intro w3 hA3 hF3))
          go_roundw
          case rel =>
            exact ⟨2, by omega, by go_num, K0.out.fr hF3 (by simp <;> omega), K1.out.fr hF3 (by simp), hA3, KF.out.trans hF3 (by simp <;> omega)⟩
          case measure => simp [intOf]
        · rw [hp2.out] at K2
          have hpl : Hid ((passF fr).length = 17) := Lib.hid (by unfold passF; rw [List.length_set, List.length_set, zf_len])
          have HI := Lib.hid infoFrame
          go_wp2_with (first | (refine wpList_load_all rfl 31 (.tmp 5) rfl (w.heap.size + 1 + 1) rfl 31 (cat (passF fr)).toArray _ K2.out Try.underlying31 rfl (by rw [HI.out, cat_size hpl.out]) ?_) | (refine wpList_store_all rfl 31 (.tmp 4) (.tmp 31) rfl (w.heap.size + 1) (cat (passF fr)).toArray rfl rfl 31 (cat zf).toArray K1.out (by rw [HI.out, cat_size hpl.out]) (by rw [cat_size hpl.out, cat_size zf_len]) (cat_all _) ?_; intro w3 hA3 hF3))
          refine bodyPost_ret (res_row rfl _ _ (w.heap.size + 1) 31 _ _ rfl hA3 Try.underlying31 rfl (by rw [HI.out, cat_size hpl.out])) rfl ⟨rfl, KF.out.trans hF3 (by simp <;> omega)⟩
end Go.Proofs.Ytdfefnajhnlpdaa
