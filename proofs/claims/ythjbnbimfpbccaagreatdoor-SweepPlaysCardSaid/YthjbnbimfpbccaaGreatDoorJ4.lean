/-
  A capability as sixteen bytes, and back. Condition: numbers in their types' ranges.
-/
import Derived.BigRegion
import Derived.Deep.RegionHeld3
import Derived.Test.YthjbnbimfpbccaaGreatDoorJ3



set_option linter.unusedVariables false
namespace Go.Proofs.YthjbnbimfpbccaaGreatDoor
open Go.ChangeShapes Go.WideShapes Go.ChangeAt Go.RowKit
def bytesC (c : Cp) : List Nat := le 4 c.cur ++ le 1 c.e ++ le 2 c.b ++ le 2 c.t ++ le 2 c.pm ++ le 2 c.ty ++ le 2 (c.rs % 65536) ++ le 1 (c.rs / 65536 % 256)
theorem bytesC_len (c : Cp) : (bytesC c).length = 16 := by unfold bytesC; simp [le_len]
theorem bytesC_byt (c : Cp) : Byt (bytesC c) := (((((((le_byt 4 _).append (le_byt 1 _)).append (le_byt 2 _)).append (le_byt 2 _)).append (le_byt 2 _)).append (le_byt 2 _)).append (le_byt 2 _)).append (le_byt 1 _)
theorem and16 (n : Nat) (h : n < 4294967296) : bits .and .u32 (n : Int) 65535 = ((n % 65536 : Nat) : Int) := by
  rw [show (65535 : Int) = ((65535 : Nat) : Int) by rfl, u32_and_nat n 65535 h (by omega), show 65535 = 2 ^ 16 - 1 by rfl, Nat.and_two_pow_sub_one_eq_mod]
theorem and8 (n : Nat) (h : n < 4294967296) : bits .and .u32 ((n : Int) / 65536) 255 = ((n / 65536 % 256 : Nat) : Int) := by
  rw [show ((n : Int) / 65536) = ((n / 65536 : Nat) : Int) by simp, show (255 : Int) = ((255 : Nat) : Int) by rfl, u32_and_nat _ 255 (by omega) (by omega), show 255 = 2 ^ 8 - 1 by rfl, Nat.and_two_pow_sub_one_eq_mod]
def b4 (c : Cp) : List Nat := le 4 c.cur ++ le 1 c.e
def fld4 (c : Cp) (j : Nat) : Nat := [c.b, c.t, c.pm, c.ty].getD j 0
def bK (c : Cp) (j : Nat) : List Nat := b4 c ++ (([c.b, c.t, c.pm, c.ty].take j).flatMap fun v => le 2 v)
theorem bK_succ (c : Cp) (j : Nat) (h : j < 4) : bK c j ++ le 2 (fld4 c j) = bK c (j + 1) := by
  unfold bK fld4
  rcases (show j = 0 ∨ j = 1 ∨ j = 2 ∨ j = 3 by omega) with rfl | rfl | rfl | rfl <;> simp
theorem bK_four (c : Cp) : bK c 4 ++ le 2 (c.rs % 65536) ++ le 1 (c.rs / 65536 % 256) = bytesC c := by unfold bK b4 bytesC; simp
theorem bK_byt (c : Cp) (j : Nat) : Byt (bK c j) := by
  unfold bK b4
  refine ((le_byt 4 _).append (le_byt 1 _)).append ?_
  intro n hn
  obtain ⟨v, _, hv⟩ := List.mem_flatMap.1 hn
  exact le_byt 2 v n hv
theorem bK_len (c : Cp) (j : Nat) : (bK c j).length ≤ 13 := by
  unfold bK b4
  rw [List.length_append, List.length_append, le_len, le_len, List.length_flatMap]
  have : ((List.take j [c.b, c.t, c.pm, c.ty]).map fun v => (le 2 v).length).sum ≤ 8 := by
    rcases j with _ | _ | _ | _ | j <;> simp [le_len]
  omega
set_option maxHeartbeats 1000000 in
set_option maxRecDepth 100000 in
theorem cbytes_any (w : World) (c : Cp) (hc : c.Ok) : Calls Tryz.prog 62 #[.agg c.cells] w fun r w' => r = .returned (strV (bytesC c)) ∧ Fr [] w w' := by
  have A0 := Lib.hid (At.new w 49 c.cells)
  have F0 := Lib.hid (show Fr [] w (w.alloc (.cells c.cells 49)) from (by repeat (first | exact Fr.refl _ _ | assumption | refine Fr.trans0 ?_ (by assumption) | refine Fr.drewN ?_ _ | refine Fr.alloc ?_ _ | refine Fr.drew ?_)))
  have P1 := Lib.hid fun W => (show Calls Tryz.prog 87 #[.string ⟨#[]⟩, .int .i64 (4 : Nat), .int .u32 c.cur] W _ from oput_any W [] (fun _ h => by cases h) (by simp) 4 c.cur (by omega) hc.cur)
  have P2 := Lib.hid fun W => oput_any W (le 4 c.cur) (le_byt 4 _) (by rw [le_len]; omega) 1 c.e (by omega) (by have := hc.e; omega)
  have P3 := Lib.hid fun W j (hj : j < 4) => (bK_succ c j hj) ▸ oput_any W (bK c j) (bK_byt c j) (by have := bK_len c j; omega) 2 (fld4 c j) (by omega) (by
    have := hc.b; have := hc.t; have := hc.pm; have := hc.ty
    unfold fld4
    rcases (show j = 0 ∨ j = 1 ∨ j = 2 ∨ j = 3 by omega) with rfl | rfl | rfl | rfl <;> simp <;> omega)
  have P4 := Lib.hid fun W => oput_any W (bK c 4) (bK_byt c 4) (by have := bK_len c 4; omega) 2 (c.rs % 65536) (by omega) (by omega)
  have P5 := Lib.hid fun W => (bK_four c) ▸ oput_any W (bK c 4 ++ le 2 (c.rs % 65536)) ((bK_byt c 4).append (le_byt 2 _)) (by have := bK_len c 4; rw [List.length_append, le_len]; omega) 1 (c.rs / 65536 % 256) (by omega) (by omega)
  have e0 : le 4 c.cur ++ le 1 c.e = bK c 0 := by unfold bK b4; simp
  rw [e0] at P2
  have HA1 := Lib.hid (and16 c.rs hc.rs)
  have HA2 := Lib.hid (and8 c.rs hc.rs)
  have HB : Hid (∀ j, j < 4 → fld4 c j = [c.b, c.t, c.pm, c.ty].getD j 0) := Lib.hid fun _ _ => rfl
  have hcb := hc.b; have hct := hc.t; have hcp := hc.pm; have hcy := hc.ty; have hce := hc.e
  clear e0
  obtain ⟨u1, hu1⟩ : ∃ u, strV (le 4 c.cur) = u := ⟨_, rfl⟩
  obtain ⟨U, hU⟩ : ∃ U : Nat → Value, ∀ j, strV (bK c j) = U j := ⟨_, fun _ => rfl⟩
  obtain ⟨u6, hu6⟩ : ∃ u, strV (bK c 4 ++ le 2 (c.rs % 65536)) = u := ⟨_, rfl⟩
  obtain ⟨u7, hu7⟩ : ∃ u, strV (bytesC c) = u := ⟨_, rfl⟩
  simp only [List.nil_append, hu1, hU, hu6, hu7] at P1 P2 P3 P4 P5 ⊢
  clear hu1 hU hu6 hu7
  unfold Cp.cells at A0 F0 ⊢
  go_enter Tryz.func62, Tryz.ntmps62
  go_wp2_with fail
  refine (P1.out _).mono ?_
  rintro e w2 ⟨rfl, hf2⟩
  have A2 := A0.out.fr hf2 (by simp)
  have F2 := Lib.hid (F0.out.trans0 hf2)
  have c1 := A2.cell 1
  simp only [List.getElem?_toArray, List.getElem?_cons_zero, List.getElem?_cons_succ] at c1
  have A2 := Lib.hid A2
  clear A0 F0 hf2 P1
  go_wp2_with fail
  refine (P2.out _).mono ?_
  rintro e w3 ⟨rfl, hf3⟩
  have A3 := A2.out.fr hf3 (by simp)
  have F3 := Lib.hid (F2.out.trans0 hf3)
  have c2 := A3.cell 2
  have c3 := A3.cell 3
  have c4 := A3.cell 4
  have c5 := A3.cell 5
  simp only [List.getElem?_toArray, List.getElem?_cons_zero, List.getElem?_cons_succ] at c2 c3 c4 c5
  have A3 := Lib.hid A3
  clear A2 F2 hf3 P2 c1
  go_wp2_with fail
  have L4 := At.new w3 47 #[.int .u16 c.b, .int .u16 c.t, .int .u16 c.pm, .int .u16 c.ty]
  have fa : Fr [] w3 (w3.alloc (.cells #[.int .u16 c.b, .int .u16 c.t, .int .u16 c.pm, .int .u16 c.ty] 47)) := (by repeat (first | exact Fr.refl _ _ | assumption | refine Fr.trans0 ?_ (by assumption) | refine Fr.drewN ?_ _ | refine Fr.alloc ?_ _ | refine Fr.drew ?_))
  have A4 := Lib.hid (A3.out.fr fa (by simp))
  have F4 := Lib.hid (F3.out.trans0 fa)
  have hws := F3.out.size
  obtain ⟨q, hq⟩ : ∃ q, w3.heap.size = q := ⟨_, rfl⟩
  rw [hq] at L4 hws ⊢
  have L4 := Lib.hid L4
  clear fa hq A3 F3 c2 c3 c4 c5
  go_loopw [3, 24] (fun s i wr => ∃ j : Nat, j ≤ 4 ∧ i = .int .i64 j ∧ s = U j ∧ At wr q 47 #[.int .u16 c.b, .int .u16 c.t, .int .u16 c.pm, .int .u16 c.ty] ∧ At wr w.heap.size 49 #[.int .u32 c.cur, .int .u8 c.e, .int .u16 c.b, .int .u16 c.t, .int .u16 c.pm, .int .u16 c.ty, .int .u32 c.rs, .bool c.v] ∧ Fr [] w wr) (fun _ i _ => 4 - (intOf i).toNat)
  case atStart => exact ⟨0, by omega, rfl, rfl, L4.out, A4.out, F4.out⟩
  case round =>
    clear L4 A4 F4
    obtain ⟨j, hj, rfl, rfl, hL, hA, hf⟩ := hrel
    have L5 := Lib.hid hL
    have A5 := Lib.hid hA
    have F5 := Lib.hid hf
    by_cases hj4 : j < 4
    · have cj : wr.cell? ⟨q, j, none⟩ = some (.int .u16 (fld4 c j : Nat)) := by
        rw [hL.cell, HB.out j hj4]
        rcases (show j = 0 ∨ j = 1 ∨ j = 2 ∨ j = 3 by omega) with rfl | rfl | rfl | rfl <;> rfl
      have hfl : fld4 c j < 65536 := by
        rw [HB.out j hj4]
        rcases (show j = 0 ∨ j = 1 ∨ j = 2 ∨ j = 3 by omega) with rfl | rfl | rfl | rfl <;> assumption
      have C := Lib.hid fun W => P3.out W j hj4
      obtain ⟨z, hz⟩ : ∃ z, fld4 c j = z := ⟨_, rfl⟩
      rw [hz] at cj hfl C
      clear hL hA hf hz
      go_wp2_with fail
      refine (C.out _).mono ?_
      rintro e w6 ⟨rfl, hf6⟩
      have L6 := Lib.hid (L5.out.fr hf6 (by simp))
      have A6 := Lib.hid (A5.out.fr hf6 (by simp))
      have F6 := Lib.hid (F5.out.trans0 hf6)
      clear hf6
      go_wp2_with fail
      go_roundw
      case rel => exact ⟨j + 1, by omega, by go_num, rfl, L6.out, A6.out, F6.out⟩
      case measure => simp [intOf]; omega
    · obtain rfl : j = 4 := by omega
      have c6 := hA.cell 6
      simp only [List.getElem?_toArray, List.getElem?_cons_zero, List.getElem?_cons_succ] at c6
      have hal := hA.lt
      have HC6 := Lib.hid fun (W : World) (hW : Fr [] wr W) => (hW.cell (a := ⟨w.heap.size, 6, none⟩) hal (by simp)).trans c6
      have ha1 := HA1.out
      have ha2 := HA2.out
      clear hL hA hf P3
      go_upto_region 8 with (fail)
      refine wp_region_L (fun W => Fr [] wr W) [] (by kernel_rfl) (Fr.refl _ _).drew (fun hHeld => ?_)
      refine wpAnyL_take (i := 0) (v := ?_) rfl (by kernel_rfl) (fun _ _ _ h => h) (Or.inl ⟨by rfl, ?_⟩) (by assumption) ?_; rotate_left; (focus (intro w hSw; skip; go_simp; (try with_reducible rfl))); (try (refine wpAnyL_norm (by simp only [Act.put, List.setIfInBounds_toArray, List.set_cons_zero, List.set_cons_succ]; rfl) ?_))
      refine wpAnyL_take (i := 1) (v := ?_) rfl (by kernel_rfl) (fun _ _ _ h => h) (Or.inl ⟨by rfl, ?_⟩) (by assumption) ?_; rotate_left; (focus (intro w hSw; skip; go_simp; (try with_reducible rfl))); (try (refine wpAnyL_norm (by simp only [Act.put, List.setIfInBounds_toArray, List.set_cons_zero, List.set_cons_succ]; rfl) ?_))
      refine wpAnyL_take (i := 2) (v := ?_) rfl (by kernel_rfl) (fun _ _ _ h => h) (Or.inl ⟨by rfl, ?_⟩) (by assumption) ?_; rotate_left; (focus (intro w hSw; (have hcl := HC6.out _ hSw); go_simp; (try with_reducible rfl))); (try (refine wpAnyL_norm (by simp only [Act.put, List.setIfInBounds_toArray, List.set_cons_zero, List.set_cons_succ]; rfl) ?_))
      refine wpAnyL_take (i := 3) (v := ?_) rfl (by kernel_rfl) (fun _ _ _ h => h) (Or.inl ⟨by rfl, ?_⟩) (by assumption) ?_; rotate_left; (focus (intro w hSw; skip; go_simp; (try with_reducible rfl))); (try (refine wpAnyL_norm (by simp only [Act.put, List.setIfInBounds_toArray, List.set_cons_zero, List.set_cons_succ]; rfl) ?_))
      refine wpAnyL_take (i := 5) (v := ?_) rfl (by kernel_rfl) (fun _ _ _ h => h) (Or.inl ⟨by rfl, ?_⟩) (by assumption) ?_; rotate_left; (focus (intro w hSw; skip; go_simp; (try with_reducible rfl))); (try (refine wpAnyL_norm (by simp only [Act.put, List.setIfInBounds_toArray, List.set_cons_zero, List.set_cons_succ]; rfl) ?_))
      refine wpAnyL_take (i := 6) (v := ?_) rfl (by kernel_rfl) (fun _ _ _ h => h) (Or.inl ⟨by rfl, ?_⟩) (by assumption) ?_; rotate_left; (focus (intro w hSw; (have hcl := HC6.out _ hSw); go_simp; (try with_reducible rfl))); (try (refine wpAnyL_norm (by simp only [Act.put, List.setIfInBounds_toArray, List.set_cons_zero, List.set_cons_succ]; rfl) ?_))
      refine wpAnyL_take (i := 7) (v := ?_) rfl (by kernel_rfl) (fun _ _ _ h => h) (Or.inl ⟨by rfl, ?_⟩) (by assumption) ?_; rotate_left; (focus (intro w hSw; skip; go_simp; (try with_reducible rfl))); (try (refine wpAnyL_norm (by simp only [Act.put, List.setIfInBounds_toArray, List.set_cons_zero, List.set_cons_succ]; rfl) ?_))
      refine wpAnyL_take (i := 8) (v := ?_) rfl (by kernel_rfl) (fun _ _ _ h => h) (Or.inl ⟨by rfl, ?_⟩) (by assumption) ?_; rotate_left; (focus (intro w hSw; skip; go_simp; (try with_reducible rfl))); (try (refine wpAnyL_norm (by simp only [Act.put, List.setIfInBounds_toArray, List.set_cons_zero, List.set_cons_succ]; rfl) ?_))
      refine wpAnyL_ready (rs := [4]) (by kernel_rfl) (by simp) ?_; refine AllReadyL.cons rfl (fun K hK => ?_) AllReadyL.nil
      go_simp
      refine (P4.out _).mono ?_
      rintro e w7 ⟨rfl, hf7⟩
      refine hK.out _ _ (fun _ => hHeld.trans0 hf7) (fun hHeld' => ?_); have hHeld := hHeld' (by decide); clear hHeld' hK K; (try (refine wpAnyL_norm (by simp only [Act.put, List.setIfInBounds_toArray, List.set_cons_zero, List.set_cons_succ]; rfl) ?_))
      refine wpAnyL_ready (rs := [9]) (by kernel_rfl) (by simp) ?_; refine AllReadyL.cons rfl (fun K hK => ?_) AllReadyL.nil
      go_simp
      refine (P5.out _).mono ?_
      rintro e w8 ⟨rfl, hf8⟩
      refine hK.out _ _ (fun _ => hHeld.trans0 hf8) (fun hHeld' => ?_); have hHeld := hHeld' (by decide); clear hHeld' hK K; (try (refine wpAnyL_norm (by simp only [Act.put, List.setIfInBounds_toArray, List.set_cons_zero, List.set_cons_succ]; rfl) ?_))
      refine wpAnyL_take (i := 10) (v := ?_) rfl (by kernel_rfl) (fun _ _ _ h => h) (Or.inl ⟨by rfl, ?_⟩) (by assumption) ?_; rotate_left; (focus (intro w hSw; skip; go_simp; (try with_reducible rfl))); (try (refine wpAnyL_norm (by simp only [Act.put, List.setIfInBounds_toArray, List.set_cons_zero, List.set_cons_succ]; rfl) ?_))
      refine wpAnyL_done (by kernel_rfl) ?_ _
      go_wp2_with fail
      go_ret
      exact ⟨rfl, F5.out.trans0 hHeld⟩
/-! ### and back -/
def fld (l : List Nat) (k m : Nat) : Nat := unle ((l.drop k).take m)
theorem fld_lt (l : List Nat) (hb : Byt l) (k m : Nat) : fld l k m < 256 ^ m := by
  have h := unle_lt _ ((hb.drop k).take m)
  refine Nat.lt_of_lt_of_le h (Nat.pow_le_pow_right (by omega) ?_)
  rw [List.length_take]; omega
theorem num_any (w : World) (q6 rp g : Nat) (l : List Nat) (k m : Nat) (hq : At w q6 193 #[.pointer (some ⟨rp, 0, none⟩)]) (h : Rd w rp g (l.drop k)) (hm : m = 1 ∨ m = 2 ∨ m = 4) (hl : k + m ≤ l.length) :
    Calls Tryz.prog 119 #[.int .i64 m, .pointer (some ⟨q6, 0, none⟩)] w fun r w' => r = .returned (.int .u32 (fld l k m)) ∧ Rd w' rp g (l.drop (k + m)) ∧ Fr [rp] w w' := by
  have C := Lib.hid (onumber_any w rp g _ h m hm (by rw [List.length_drop]; omega))
  have c0 := hq.cell 0
  simp only [List.getElem?_toArray, List.getElem?_cons_zero] at c0
  have e : (l.drop k).drop m = l.drop (k + m) := by rw [List.drop_drop]
  rw [e] at C
  unfold fld
  obtain ⟨N, hN⟩ : ∃ N, unle ((l.drop k).take m) = N := ⟨_, rfl⟩
  rw [hN] at C ⊢
  clear hq h hm e hN
  go_enter Tryz.func119, Tryz.ntmps119
  go_wp2_with fail
  refine (C.out).mono ?_
  rintro e w2 ⟨rfl, h2, hf2⟩
  go_wp2_with fail
  go_ret
  exact ⟨rfl, h2, hf2⟩
def ofB0 (l : List Nat) : Cp := ⟨fld l 0 4, fld l 4 1, fld l 5 2, fld l 7 2, fld l 9 2, fld l 11 2, fld l 13 2 + 65536 * fld l 15 1, false⟩
def ofB (l : List Nat) (v : Bool) : Cp := { ofB0 l with v := v && soundB (ofB0 l) }
theorem ofB0_ok (l : List Nat) (hb : Byt l) : (ofB0 l).Ok := by
  have h0 := fld_lt l hb 0 4
  have h1 := fld_lt l hb 4 1
  have h2 := fld_lt l hb 5 2
  have h3 := fld_lt l hb 7 2
  have h4 := fld_lt l hb 9 2
  have h5 := fld_lt l hb 11 2
  have h6 := fld_lt l hb 13 2
  have h7 := fld_lt l hb 15 1
  exact ⟨h0, h1, h2, h3, h4, h5, by show fld l 13 2 + 65536 * fld l 15 1 < _; omega⟩
/-- The fields laid so far: the first two, j of the next four. -/
def partC (l : List Nat) (j : Nat) : Cp := ⟨fld l 0 4, fld l 4 1, if 0 < j then fld l 5 2 else 0, if 1 < j then fld l 7 2 else 0, if 2 < j then fld l 9 2 else 0, if 3 < j then fld l 11 2 else 0, 0, false⟩
theorem shl_or (a b : Nat) (ha : a < 65536) (hb : b < 256) : bits .or .u32 (a : Int) ((b : Int) * 65536) = ((a + 65536 * b : Nat) : Int) := by
  rw [show ((b : Int) * 65536) = ((b * 65536 : Nat) : Int) by simp, u32_or_nat _ _ (by omega) (by omega), Nat.or_comm, show b * 65536 = 2 ^ 16 * b by omega, ← Nat.two_pow_add_eq_or_of_lt (by omega)]
  congr 1; omega
set_option maxHeartbeats 1000000 in
set_option maxRecDepth 100000 in
theorem cof_no (w : World) (l : List Nat) (hl : l.length ≠ 16) (v : Bool) : Calls Tryz.prog 86 #[strV l, .bool v] w fun r w' => r = .returned (.tuple #[.agg noC.cells, .bool false]) ∧ Fr [] w w' := by
  unfold strV
  have hs : (BS l).size ≠ 16 := by rw [BS_size]; exact hl
  obtain ⟨S, hS⟩ : ∃ S, BS l = S := ⟨_, rfl⟩
  rw [hS] at hs ⊢
  have hs' : ¬ ((S.size : Int) = 16) := by omega
  clear hS hl
  have HI := Lib.hid (show (Tryz.prog.info? 49).map (·.size) = some noC.cells.size by kernel_rfl)
  go_enter Tryz.func86, Tryz.ntmps86
  go_wp2_with fail
  exact bodyPost_ret (res_row_tmp rfl _ _ w.heap.size 49 noC.cells _ rfl (At.new w 49 noC.cells) Tryz.underlying49 rfl HI.out) rfl ⟨rfl, (by repeat (first | exact Fr.refl _ _ | assumption | refine Fr.trans0 ?_ (by assumption) | refine Fr.drewN ?_ _ | refine Fr.alloc ?_ _ | refine Fr.drew ?_))⟩
set_option maxHeartbeats 4000000 in
set_option maxRecDepth 100000 in
theorem cof_any (w : World) (l : List Nat) (hl : l.length = 16) (hb : Byt l) (v : Bool) : Calls Tryz.prog 86 #[strV l, .bool v] w fun r w' => r = .returned (.tuple #[.agg (ofB l v).cells, .bool true]) ∧ Fr [] w w' := by
  have CN := Lib.hid fun W => onew_any W l hb (by omega)
  have NU := Lib.hid fun W q6 rp g k m => num_any W q6 rp g l k m
  have HL := Lib.hid hl
  unfold strV at CN ⊢
  have hs : (BS l).size = 16 := by rw [BS_size]; exact hl
  obtain ⟨S, hS⟩ : ∃ S, BS l = S := ⟨_, rfl⟩
  rw [hS] at CN hs ⊢
  clear hS hl
  have HOK := Lib.hid (ofB0_ok l hb)
  have CS := Lib.hid fun W => sound_any W (ofB0 l) HOK.out
  have hcb : (ofB0 l).cells = #[.int .u32 (fld l 0 4), .int .u8 (fld l 4 1), .int .u16 (fld l 5 2), .int .u16 (fld l 7 2), .int .u16 (fld l 9 2), .int .u16 (fld l 11 2), .int .u32 ((fld l 13 2 + 65536 * fld l 15 1 : Nat) : Int), .bool false] := rfl
  have hcv : (ofB l v).cells = (ofB0 l).cells.setIfInBounds 7 (.bool (v && soundB (ofB0 l))) := rfl
  have HI := Lib.hid (show (Tryz.prog.info? 49).map (·.size) = some (ofB l v).cells.size by kernel_rfl)
  have HI0 := Lib.hid (show (Tryz.prog.info? 49).map (·.size) = some (ofB0 l).cells.size by kernel_rfl)
  have HAll := Lib.hid (show (ofB l v).cells.all (·.oneCell') = true by simp [Cp.cells, Value.oneCell'])
  have HSZ := Lib.hid (show noC.cells.size = (ofB l v).cells.size from rfl)
  have HCV := Lib.hid hcv
  have HCB := Lib.hid hcb
  obtain ⟨sb, hsb⟩ : ∃ b, soundB (ofB0 l) = b := ⟨_, rfl⟩
  rw [hsb] at CS HCV
  obtain ⟨OC, hOC⟩ : ∃ C, (ofB0 l).cells = C := ⟨_, rfl⟩
  rw [hOC] at CS HCB HCV HI0
  obtain ⟨RC, hRC⟩ : ∃ C, (ofB l v).cells = C := ⟨_, rfl⟩
  rw [hRC] at HI HAll HCV HSZ ⊢
  clear hcb hcv hsb hOC hRC
  go_enter Tryz.func86, Tryz.ntmps86
  go_wp2_with fail
  refine (CN.out _).mono ?_
  rintro e w2 ⟨rp, g, rfl, hR, hrp, hg, hf2⟩
  have h41 := fld_lt l hb 4 1
  have h52 : ∀ k, fld l k 2 < 65536 := fun k => fld_lt l hb k 2
  have h15 : fld l 15 1 < 256 := fld_lt l hb 15 1
  have hX : Fr [] w2 ((w2.alloc (.cells #[.pointer (some ⟨rp, 0, none⟩)] 193)).alloc (.cells noC.cells 49)) := (by repeat (first | exact Fr.refl _ _ | assumption | refine Fr.trans0 ?_ (by assumption) | refine Fr.drewN ?_ _ | refine Fr.alloc ?_ _ | refine Fr.drew ?_))
  have Q6 := Lib.hid (show At ((w2.alloc (.cells #[.pointer (some ⟨rp, 0, none⟩)] 193)).alloc (.cells noC.cells 49)) w2.heap.size 193 #[.pointer (some ⟨rp, 0, none⟩)] from (At.new _ _ _).old _)
  have Q8 := Lib.hid (show At ((w2.alloc (.cells #[.pointer (some ⟨rp, 0, none⟩)] 193)).alloc (.cells noC.cells 49)) (w2.heap.size + 1) 49 noC.cells from At.nw (by simp only [World.size_alloc]))
  have R2 := Lib.hid (show Rd ((w2.alloc (.cells #[.pointer (some ⟨rp, 0, none⟩)] 193)).alloc (.cells noC.cells 49)) rp g (l.drop 0) from hR.fr hX (by simp) (by simp))
  have F2 := Lib.hid (show Fr [] (w.alloc (.cells noC.cells 49)) ((w2.alloc (.cells #[.pointer (some ⟨rp, 0, none⟩)] 193)).alloc (.cells noC.cells 49)) from hf2.trans0 hX)
  have Q4 := Lib.hid (show At ((w2.alloc (.cells #[.pointer (some ⟨rp, 0, none⟩)] 193)).alloc (.cells noC.cells 49)) w.heap.size 49 noC.cells from ((At.new w _ _).fr hf2 (by simp)).fr hX (by simp))
  have hrl := hR.2.2.2
  obtain ⟨_, _, hA1, _, _, hgl, _⟩ := hrl
  have hrpl := hA1.lt
  have hwrp : w.heap.size < rp ∧ w.heap.size < g := by simp at hrp hg; omega
  obtain ⟨q, hq⟩ : ∃ q, w2.heap.size = q := ⟨_, rfl⟩
  obtain ⟨hwr1, hwr2⟩ := hwrp
  have C1 := Lib.hid (NU.out _ _ rp g 0 4 Q6.out R2.out (by omega) (by rw [HL.out]; omega))
  rw [hq] at Q6 Q8 hrpl hgl C1
  have HQ := Lib.hid hq
  clear hX hR hA1 hf2 hq hrp hg
  go_wp2_with fail
  rw [HQ.out]
  refine (C1.out).mono ?_
  rintro e w3 ⟨rfl, r3, hf3⟩
  have A3 := Q8.out.fr hf3 (by simp; omega)
  have c0 := A3.cell 0
  have z0 := A3.froz 0
  unfold noC Cp.cells at c0
  simp only [List.getElem?_toArray, List.getElem?_cons_zero, List.getElem?_cons_succ] at c0
  have fs3 : Fr [] (w.alloc (.cells noC.cells 49)) w3 := F2.out.trans hf3 (by simp; omega)
  have g3 : Fr [] (w.alloc (.cells noC.cells 49)) (w3.setCell ⟨q + 1, 0, none⟩ (.int .u32 (fld l 0 4))) := fs3.set (.inr (by simp; omega)) _
  have k3 : Fr [q + 1] w3 (w3.setCell ⟨q + 1, 0, none⟩ (.int .u32 (fld l 0 4))) := (Fr.refl _ _).set (.inl (by simp)) _
  have B6 := Lib.hid ((Q6.out.fr hf3 (by simp; omega)).fr k3 (by simp))
  have B4 := Lib.hid ((Q4.out.fr hf3 (by simp; omega)).fr k3 (by simp; omega))
  have BR := Lib.hid (r3.fr k3 (by simp; omega) (by simp; omega))
  have B8 := Lib.hid (show At (w3.setCell ⟨q + 1, 0, none⟩ (.int .u32 (fld l 0 4))) (q + 1) 49 #[.int .u32 (fld l 0 4), .int .u8 0, .int .u16 0, .int .u16 0, .int .u16 0, .int .u16 0, .int .u32 0, .bool false] from A3.set 0 _)
  have BF := Lib.hid g3
  have C2 := Lib.hid (NU.out _ _ rp g 4 1 B6.out BR.out (by omega) (by rw [HL.out]; omega))
  clear hf3 A3 fs3 g3 k3 r3 Q6 Q8 Q4 R2 F2 C1
  go_wp2_with fail
  refine (C2.out).mono ?_
  rintro e w4 ⟨rfl, r4, hf4⟩
  have A4 := B8.out.fr hf4 (by simp; omega)
  have c1 := A4.cell 1
  have z1 := A4.froz 1
  simp only [List.getElem?_toArray, List.getElem?_cons_zero, List.getElem?_cons_succ] at c1
  have g4 : Fr [] (w.alloc (.cells noC.cells 49)) (w4.setCell ⟨q + 1, 1, none⟩ (.int .u8 (fld l 4 1))) := (BF.out.trans hf4 (by simp; omega)).set (.inr (by simp; omega)) _
  have k4 : Fr [q + 1] w4 (w4.setCell ⟨q + 1, 1, none⟩ (.int .u8 (fld l 4 1))) := (Fr.refl _ _).set (.inl (by simp)) _
  have D6 := Lib.hid ((B6.out.fr hf4 (by simp; omega)).fr k4 (by simp))
  have D4 := Lib.hid ((B4.out.fr hf4 (by simp; omega)).fr k4 (by simp; omega))
  have DR := Lib.hid (r4.fr k4 (by simp; omega) (by simp; omega))
  have D8 := Lib.hid (show At (w4.setCell ⟨q + 1, 1, none⟩ (.int .u8 (fld l 4 1))) (q + 1) 49 (partC l 0).cells from A4.set 1 _)
  have DF := Lib.hid g4
  have hl4 := A4.lt
  clear hf4 A4 g4 k4 r4 B6 B8 B4 BR BF C2 c0 z0
  go_wp2_with fail
  have fa : Fr [] (w4.setCell ⟨q + 1, 1, none⟩ (.int .u8 (fld l 4 1))) ((w4.setCell ⟨q + 1, 1, none⟩ (.int .u8 (fld l 4 1))).alloc (.cells #[.pointer (some ⟨q + 1, 2, none⟩), .pointer (some ⟨q + 1, 3, none⟩), .pointer (some ⟨q + 1, 4, none⟩), .pointer (some ⟨q + 1, 5, none⟩)] 198)) := (by repeat (first | exact Fr.refl _ _ | assumption | refine Fr.trans0 ?_ (by assumption) | refine Fr.drewN ?_ _ | refine Fr.alloc ?_ _ | refine Fr.drew ?_))
  have J9 := At.nw (w := w4.setCell ⟨q + 1, 1, none⟩ (.int .u8 (fld l 4 1))) (g := w4.heap.size) (t := 198) (cs := #[.pointer (some ⟨q + 1, 2, none⟩), .pointer (some ⟨q + 1, 3, none⟩), .pointer (some ⟨q + 1, 4, none⟩), .pointer (some ⟨q + 1, 5, none⟩)]) (by simp only [World.size_setCell])
  have J6 := Lib.hid (D6.out.fr fa (by simp))
  have J4 := Lib.hid (D4.out.fr fa (by simp))
  have J8 := Lib.hid (D8.out.fr fa (by simp))
  have JR := Lib.hid (DR.out.fr fa (by simp) (by simp))
  have JF := Lib.hid (DF.out.trans0 fa)
  obtain ⟨q9, hq9⟩ : ∃ q9, w4.heap.size = q9 := ⟨_, rfl⟩
  rw [hq9] at J9 hl4 ⊢
  have J9 := Lib.hid J9
  clear fa hq9 D6 D4 D8 DR DF c1 z1
  go_loopw [31] (fun i wr => ∃ j : Nat, j ≤ 4 ∧ i = .int .i64 j ∧ At wr (q + 1) 49 (partC l j).cells ∧ At wr q 193 #[.pointer (some ⟨rp, 0, none⟩)] ∧ At wr q9 198 #[.pointer (some ⟨q + 1, 2, none⟩), .pointer (some ⟨q + 1, 3, none⟩), .pointer (some ⟨q + 1, 4, none⟩), .pointer (some ⟨q + 1, 5, none⟩)] ∧ At wr w.heap.size 49 noC.cells ∧ Rd wr rp g (l.drop (5 + 2 * j)) ∧ Fr [] (w.alloc (.cells noC.cells 49)) wr) (fun i _ => 4 - (intOf i).toNat)
  case atStart => exact ⟨0, by omega, rfl, J8.out, J6.out, J9.out, J4.out, JR.out, JF.out⟩
  case round =>
    clear J8 J6 J9 J4 JR JF
    obtain ⟨j, hj, rfl, h8, h6, h9, h4, hR, hf⟩ := hrel
    have E8 := Lib.hid h8
    have E6 := Lib.hid h6
    have E9 := Lib.hid h9
    have E4 := Lib.hid h4
    have ER := Lib.hid hR
    have EF := Lib.hid hf
    clear h8 h6 h4 hR hf
    have C := Lib.hid (NU.out _ _ rp g (5 + 2 * j) 2 E6.out ER.out (by omega))
    by_cases hj4 : j < 4
    · have C := Lib.hid (C.out (by rw [HL.out]; omega))
      have cj := h9.cell j
      rcases (show j = 0 ∨ j = 1 ∨ j = 2 ∨ j = 3 by omega) with rfl | rfl | rfl | rfl
      all_goals
        simp only [List.getElem?_toArray, List.getElem?_cons_zero, List.getElem?_cons_succ] at cj
        have hfl := h52 5
        have hfl1 := h52 7
        have hfl2 := h52 9
        have hfl3 := h52 11
        clear h9
      · go_wp2_with fail
        refine (C.out).mono ?_
        rintro e w6 ⟨rfl, r6, hf6⟩
        have A6 := E8.out.fr hf6 (by simp; omega)
        have ck := A6.cell 2
        have zk := A6.froz 2
        unfold partC Cp.cells at ck
        simp only [List.getElem?_toArray, List.getElem?_cons_zero, List.getElem?_cons_succ] at ck
        have k6 : Fr [q + 1] w6 (w6.setCell ⟨q + 1, 2, none⟩ (.int .u16 (fld l 5 2))) := (Fr.refl _ _).set (.inl (by simp)) _
        have G6 := Lib.hid ((E6.out.fr hf6 (by simp; omega)).fr k6 (by simp))
        have G9 := Lib.hid ((E9.out.fr hf6 (by simp; omega)).fr k6 (by simp; omega))
        have G4 := Lib.hid ((E4.out.fr hf6 (by simp; omega)).fr k6 (by simp; omega))
        have GR := Lib.hid (r6.fr k6 (by simp; omega) (by simp; omega))
        have G8 := Lib.hid (show At (w6.setCell ⟨q + 1, 2, none⟩ (.int .u16 (fld l 5 2))) (q + 1) 49 (partC l (0 + 1)).cells from A6.set 2 _)
        have GF := Lib.hid ((EF.out.trans hf6 (by simp; omega)).trans k6 (by simp; omega))
        clear hf6 A6 k6 r6
        go_wp2_with fail
        go_roundw
        case rel => exact ⟨0 + 1, by omega, by go_num, G8.out, G6.out, G9.out, G4.out, GR.out, GF.out⟩
        case measure => simp [intOf] <;> omega
      · go_wp2_with fail
        refine (C.out).mono ?_
        rintro e w6 ⟨rfl, r6, hf6⟩
        have A6 := E8.out.fr hf6 (by simp; omega)
        have ck := A6.cell 3
        have zk := A6.froz 3
        unfold partC Cp.cells at ck
        simp only [List.getElem?_toArray, List.getElem?_cons_zero, List.getElem?_cons_succ] at ck
        have k6 : Fr [q + 1] w6 (w6.setCell ⟨q + 1, 3, none⟩ (.int .u16 (fld l 7 2))) := (Fr.refl _ _).set (.inl (by simp)) _
        have G6 := Lib.hid ((E6.out.fr hf6 (by simp; omega)).fr k6 (by simp))
        have G9 := Lib.hid ((E9.out.fr hf6 (by simp; omega)).fr k6 (by simp; omega))
        have G4 := Lib.hid ((E4.out.fr hf6 (by simp; omega)).fr k6 (by simp; omega))
        have GR := Lib.hid (r6.fr k6 (by simp; omega) (by simp; omega))
        have G8 := Lib.hid (show At (w6.setCell ⟨q + 1, 3, none⟩ (.int .u16 (fld l 7 2))) (q + 1) 49 (partC l (1 + 1)).cells from A6.set 3 _)
        have GF := Lib.hid ((EF.out.trans hf6 (by simp; omega)).trans k6 (by simp; omega))
        clear hf6 A6 k6 r6
        go_wp2_with fail
        go_roundw
        case rel => exact ⟨1 + 1, by omega, by go_num, G8.out, G6.out, G9.out, G4.out, GR.out, GF.out⟩
        case measure => simp [intOf] <;> omega
      · go_wp2_with fail
        refine (C.out).mono ?_
        rintro e w6 ⟨rfl, r6, hf6⟩
        have A6 := E8.out.fr hf6 (by simp; omega)
        have ck := A6.cell 4
        have zk := A6.froz 4
        unfold partC Cp.cells at ck
        simp only [List.getElem?_toArray, List.getElem?_cons_zero, List.getElem?_cons_succ] at ck
        have k6 : Fr [q + 1] w6 (w6.setCell ⟨q + 1, 4, none⟩ (.int .u16 (fld l 9 2))) := (Fr.refl _ _).set (.inl (by simp)) _
        have G6 := Lib.hid ((E6.out.fr hf6 (by simp; omega)).fr k6 (by simp))
        have G9 := Lib.hid ((E9.out.fr hf6 (by simp; omega)).fr k6 (by simp; omega))
        have G4 := Lib.hid ((E4.out.fr hf6 (by simp; omega)).fr k6 (by simp; omega))
        have GR := Lib.hid (r6.fr k6 (by simp; omega) (by simp; omega))
        have G8 := Lib.hid (show At (w6.setCell ⟨q + 1, 4, none⟩ (.int .u16 (fld l 9 2))) (q + 1) 49 (partC l (2 + 1)).cells from A6.set 4 _)
        have GF := Lib.hid ((EF.out.trans hf6 (by simp; omega)).trans k6 (by simp; omega))
        clear hf6 A6 k6 r6
        go_wp2_with fail
        go_roundw
        case rel => exact ⟨2 + 1, by omega, by go_num, G8.out, G6.out, G9.out, G4.out, GR.out, GF.out⟩
        case measure => simp [intOf] <;> omega
      · go_wp2_with fail
        refine (C.out).mono ?_
        rintro e w6 ⟨rfl, r6, hf6⟩
        have A6 := E8.out.fr hf6 (by simp; omega)
        have ck := A6.cell 5
        have zk := A6.froz 5
        unfold partC Cp.cells at ck
        simp only [List.getElem?_toArray, List.getElem?_cons_zero, List.getElem?_cons_succ] at ck
        have k6 : Fr [q + 1] w6 (w6.setCell ⟨q + 1, 5, none⟩ (.int .u16 (fld l 11 2))) := (Fr.refl _ _).set (.inl (by simp)) _
        have G6 := Lib.hid ((E6.out.fr hf6 (by simp; omega)).fr k6 (by simp))
        have G9 := Lib.hid ((E9.out.fr hf6 (by simp; omega)).fr k6 (by simp; omega))
        have G4 := Lib.hid ((E4.out.fr hf6 (by simp; omega)).fr k6 (by simp; omega))
        have GR := Lib.hid (r6.fr k6 (by simp; omega) (by simp; omega))
        have G8 := Lib.hid (show At (w6.setCell ⟨q + 1, 5, none⟩ (.int .u16 (fld l 11 2))) (q + 1) 49 (partC l (3 + 1)).cells from A6.set 5 _)
        have GF := Lib.hid ((EF.out.trans hf6 (by simp; omega)).trans k6 (by simp; omega))
        clear hf6 A6 k6 r6
        go_wp2_with fail
        go_roundw
        case rel => exact ⟨3 + 1, by omega, by go_num, G8.out, G6.out, G9.out, G4.out, GR.out, GF.out⟩
        case measure => simp [intOf] <;> omega
    · obtain rfl : j = 4 := by omega
      have C := Lib.hid (C.out (by rw [HL.out]; omega))
      clear h9
      go_wp2_with fail
      refine (C.out).mono ?_
      rintro e w6 ⟨rfl, r6, hf6⟩
      have A6 := E8.out.fr hf6 (by simp; omega)
      have ck := A6.cell 6
      have zk := A6.froz 6
      unfold partC Cp.cells at ck
      simp only [List.getElem?_toArray, List.getElem?_cons_zero, List.getElem?_cons_succ] at ck
      have k6 : Fr [q + 1] w6 (w6.setCell ⟨q + 1, 6, none⟩ (.int .u32 (fld l 13 2))) := (Fr.refl _ _).set (.inl (by simp)) _
      have G6 := Lib.hid ((E6.out.fr hf6 (by simp; omega)).fr k6 (by simp))
      have G4 := Lib.hid ((E4.out.fr hf6 (by simp; omega)).fr k6 (by simp; omega))
      have GR := Lib.hid (r6.fr k6 (by simp; omega) (by simp; omega))
      have G8 := Lib.hid (show At (w6.setCell ⟨q + 1, 6, none⟩ (.int .u32 (fld l 13 2))) (q + 1) 49 #[.int .u32 (fld l 0 4), .int .u8 (fld l 4 1), .int .u16 (fld l 5 2), .int .u16 (fld l 7 2), .int .u16 (fld l 9 2), .int .u16 (fld l 11 2), .int .u32 (fld l 13 2), .bool false] from A6.set 6 _)
      have GF := Lib.hid ((EF.out.trans hf6 (by simp; omega)).trans k6 (by simp; omega))
      clear hf6 A6 k6 r6 E8 E6 E9 E4 ER EF
      have CW := Lib.hid fun W hq hR => NU.out W q rp g 15 1 hq hR (by omega) (by rw [HL.out]; omega)
      have hor := shl_or (fld l 13 2) (fld l 15 1) (h52 13) h15
      have hwp : IntKind.u32.wrap ((fld l 15 1 : Int) * 65536) = (fld l 15 1 : Int) * 65536 := by simp [IntKind.wrap, IntKind.signed, IntKind.bits]; omega
      have HOR := Lib.hid (show bits .or .u32 (fld l 13 2 : Int) (IntKind.u32.wrap ((fld l 15 1 : Int) * 65536)) = ((fld l 13 2 + 65536 * fld l 15 1 : Nat) : Int) by rw [hwp, hor])
      clear hor hwp
      have hfd : Fr [] (w6.setCell ⟨q + 1, 6, none⟩ (.int .u32 (fld l 13 2))) (w6.setCell ⟨q + 1, 6, none⟩ (.int .u32 (fld l 13 2))).drew := (Fr.refl [] _).drew
      go_upto_region 14 with (fail)
      refine wp_region_L (fun W => At W (q + 1) 49 #[.int .u32 (fld l 0 4), .int .u8 (fld l 4 1), .int .u16 (fld l 5 2), .int .u16 (fld l 7 2), .int .u16 (fld l 9 2), .int .u16 (fld l 11 2), .int .u32 (fld l 13 2), .bool false]) [7] (by kernel_rfl) (G8.out.hp rfl) (fun hHeld => ?_)
      refine wpAnyL_take (i := 0) (v := ?_) rfl (by kernel_rfl) (fun _ _ _ h => h) (Or.inl ⟨by rfl, ?_⟩) (by assumption) ?_; rotate_left; (focus (intro w hSw; skip; go_simp; (try with_reducible rfl))); (try (refine wpAnyL_norm (by simp only [Act.put, List.setIfInBounds_toArray, List.set_cons_zero, List.set_cons_succ]; rfl) ?_))
      refine wpAnyL_take (i := 1) (v := ?_) rfl (by kernel_rfl) (fun _ _ _ h => h) (Or.inl ⟨by rfl, ?_⟩) (by assumption) ?_; rotate_left; (focus (intro w hSw; (have hcl := hSw.cell 6; simp only [List.getElem?_toArray, List.getElem?_cons_zero, List.getElem?_cons_succ] at hcl); go_simp; (try with_reducible rfl))); (try (refine wpAnyL_norm (by simp only [Act.put, List.setIfInBounds_toArray, List.set_cons_zero, List.set_cons_succ]; rfl) ?_))
      refine wpAnyL_take (i := 2) (v := ?_) rfl (by kernel_rfl) (fun _ _ _ h => h) (Or.inl ⟨by rfl, ?_⟩) (by assumption) ?_; rotate_left; (focus (intro w hSw; skip; go_simp; (try with_reducible rfl))); (try (refine wpAnyL_norm (by simp only [Act.put, List.setIfInBounds_toArray, List.set_cons_zero, List.set_cons_succ]; rfl) ?_))
      refine wpAnyL_ready (rs := [3]) (by kernel_rfl) (by simp) ?_; refine AllReadyL.cons rfl (fun K hK => ?_) AllReadyL.nil
      go_simp
      refine (CW.out (w6.setCell ⟨q + 1, 6, none⟩ (.int .u32 (fld l 13 2))).drew (G6.out.hp rfl) (GR.out.fr hfd (by simp) (by simp))).mono ?_
      rintro e w7 ⟨rfl, r7, hf7⟩
      refine hK.out _ _ (fun _ => hHeld.fr hf7 (by simp; omega)) (fun hHeld' => ?_); have hHeld := hHeld' (by decide); clear hHeld' hK K; (try (refine wpAnyL_norm (by simp only [Act.put, List.setIfInBounds_toArray, List.set_cons_zero, List.set_cons_succ]; rfl) ?_))
      refine wpAnyL_take (i := 4) (v := ?_) rfl (by kernel_rfl) (fun _ _ _ h => h) (Or.inl ⟨by rfl, ?_⟩) (by assumption) ?_; rotate_left; (focus (intro w hSw; skip; go_simp; (try with_reducible rfl))); (try (refine wpAnyL_norm (by simp only [Act.put, List.setIfInBounds_toArray, List.set_cons_zero, List.set_cons_succ]; rfl) ?_))
      refine wpAnyL_take (i := 5) (v := ?_) rfl (by kernel_rfl) (fun _ _ _ h => h) (Or.inl ⟨by rfl, ?_⟩) (by assumption) ?_; rotate_left; (focus (intro w hSw; skip; go_simp; (try with_reducible rfl))); (try (refine wpAnyL_norm (by simp only [Act.put, List.setIfInBounds_toArray, List.set_cons_zero, List.set_cons_succ]; rfl) ?_))
      refine wpAnyL_take (i := 6) (v := ?_) rfl (by kernel_rfl) (fun _ _ _ h => h) (Or.inl ⟨by rfl, ?_⟩) (by assumption) ?_; rotate_left; (focus (intro w hSw; skip; go_simp; (try with_reducible rfl))); (try (refine wpAnyL_norm (by simp only [Act.put, List.setIfInBounds_toArray, List.set_cons_zero, List.set_cons_succ]; rfl) ?_))
      have c7 := hHeld.cell 6
      have z7 := hHeld.froz 6
      simp only [List.getElem?_toArray, List.getElem?_cons_zero, List.getElem?_cons_succ] at c7
      refine wpAnyL_ready (rs := [7]) (by kernel_rfl) (by simp) ?_; refine AllReadyL.cons rfl (fun K hK => ?_) AllReadyL.nil
      go_simp
      refine hK.out _ _ (fun h => (h (by decide)).elim) (fun _ => ?_); clear hK K; (try (refine wpAnyL_norm (by simp only [Act.put, List.setIfInBounds_toArray, List.set_cons_zero, List.set_cons_succ]; rfl) ?_))
      refine wpAnyL_done (by kernel_rfl) ?_ _
      rw [HOR.out]
      have k7 : Fr [q + 1] w7 (w7.setCell ⟨q + 1, 6, none⟩ (.int .u32 ((fld l 13 2 + 65536 * fld l 15 1 : Nat) : Int))) := (Fr.refl _ _).set (.inl (by simp)) _
      have H4 := Lib.hid ((((G4.out.fr hfd (by simp)).fr hf7 (by simp; omega))).fr k7 (by simp; omega))
      have H8 := Lib.hid (show At (w7.setCell ⟨q + 1, 6, none⟩ (.int .u32 ((fld l 13 2 + 65536 * fld l 15 1 : Nat) : Int))) (q + 1) 49 OC by rw [HCB.out]; exact hHeld.set 6 _)
      have HF := Lib.hid ((((GF.out.trans0 hfd).trans hf7 (by simp; omega))).trans k7 (by simp; omega))
      have h8c := H8.out
      rw [HCB.out] at h8c
      have cv := h8c.cell 7
      have zv := h8c.froz 7
      have hl8 := H8.out.lt
      have hwq : w.heap.size < q + 1 := by omega
      simp only [List.getElem?_toArray, List.getElem?_cons_zero, List.getElem?_cons_succ] at cv
      obtain ⟨X, hX⟩ : ∃ X, w7.setCell ⟨q + 1, 6, none⟩ (.int .u32 ((fld l 13 2 + 65536 * fld l 15 1 : Nat) : Int)) = X := ⟨_, rfl⟩
      have HX := Lib.hid hX
      rw [hX] at H4 H8 HF cv zv hl8
      clear hHeld hf7 k7 hfd c7 z7 h8c r7 hX G6 G4 GR G8 GF NU CN CW
      rw [HX.out]
      cases v
      · have H8s := Lib.hid (show At (X.setCell ⟨q + 1, 7, none⟩ (.bool false)) (q + 1) 49 RC by rw [HCV.out]; exact H8.out.set 7 (.bool false))
        have H4s := Lib.hid (H4.out.far (a := ⟨q + 1, 7, none⟩) (by simp; omega) (.bool false))
        have HFs := Lib.hid (HF.out.set (a := ⟨q + 1, 7, none⟩) (.inr (by simp; omega)) (.bool false))
        go_wp2_with (first | (refine wpList_load_all rfl 49 (.tmp 8) rfl (q + 1) rfl 49 RC _ H8s.out Tryz.underlying49 rfl HI.out ?_) | (refine wpList_store_all rfl 49 (.tmp 4) (.tmp 57) rfl w.heap.size RC rfl rfl 49 noC.cells H4s.out HI.out HSZ.out HAll.out ?_; intro w9 hA9 hF9))
        exact bodyPost_ret (res_row_tmp rfl _ _ w.heap.size 49 RC _ rfl hA9 Tryz.underlying49 rfl HI.out) rfl ⟨rfl, (((show Fr [] w (w.alloc (.cells noC.cells 49)) from (by repeat (first | exact Fr.refl _ _ | assumption | refine Fr.trans0 ?_ (by assumption) | refine Fr.drewN ?_ _ | refine Fr.alloc ?_ _ | refine Fr.drew ?_))).trans0 HFs.out)).trans hF9 (by simp)⟩
      · go_wp2_with (refine wpList_load_all rfl 49 (.tmp 8) rfl (q + 1) rfl 49 OC _ H8.out Tryz.underlying49 rfl HI0.out ?_)
        refine (CS.out _).mono ?_
        rintro e w8 ⟨rfl, hf8⟩
        have M8 := H8.out.fr hf8 (by simp)
        have M4 := H4.out.fr hf8 (by simp)
        have MF := HF.out.trans0 hf8
        have cv8 := (hf8.cell (a := ⟨q + 1, 7, none⟩) hl8 (by simp)).trans cv
        have zv8 := (hf8.froz (a := ⟨q + 1, 7, none⟩) hl8 (by simp)).trans zv
        have H8s := Lib.hid (show At (w8.setCell ⟨q + 1, 7, none⟩ (.bool sb)) (q + 1) 49 RC by rw [HCV.out]; exact M8.set 7 (.bool sb))
        have H4s := Lib.hid (M4.far (a := ⟨q + 1, 7, none⟩) (by simp; omega) (.bool sb))
        have HFs := Lib.hid (MF.set (a := ⟨q + 1, 7, none⟩) (.inr (by simp; omega)) (.bool sb))
        clear M8 M4 MF hf8 cv zv
        go_wp2_with (first | (refine wpList_load_all rfl 49 (.tmp 8) rfl (q + 1) rfl 49 RC _ H8s.out Tryz.underlying49 rfl HI.out ?_) | (refine wpList_store_all rfl 49 (.tmp 4) (.tmp 57) rfl w.heap.size RC rfl rfl 49 noC.cells H4s.out HI.out HSZ.out HAll.out ?_; intro w9 hA9 hF9))
        exact bodyPost_ret (res_row_tmp rfl _ _ w.heap.size 49 RC _ rfl hA9 Tryz.underlying49 rfl HI.out) rfl ⟨rfl, (((show Fr [] w (w.alloc (.cells noC.cells 49)) from (by repeat (first | exact Fr.refl _ _ | assumption | refine Fr.trans0 ?_ (by assumption) | refine Fr.drewN ?_ _ | refine Fr.alloc ?_ _ | refine Fr.drew ?_))).trans0 HFs.out)).trans hF9 (by simp)⟩
end Go.Proofs.YthjbnbimfpbccaaGreatDoor
