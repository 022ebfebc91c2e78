/-
  What tags an arena tells of a page. Condition: numbers in their types' ranges.
-/





import Derived.Test.YtilgklpponaoeaaArEnd
import Derived.BigRegion
import Derived.Maps.AppendAt
set_option linter.unusedVariables false
namespace Go.Proofs.Ytilgklpponaoeaa
open Go.ChangeShapes Go.WideShapes Go.ChangeAt Go.RowKit
theorem infoU32 : (Try.prog.info? 35).map (fun i => (i.zero, i.size, i.bytes)) = some (some (.int .u32 0), 1, 4) := by kernel_rfl
def u32s (l : List Nat) : List Value := l.map fun (n : Nat) => .int .u32 (n : Int)
def tagL (f : Nat → Bool) (k j : Nat) : List Nat := ((List.range j).filter fun i => f (k + i)).map fun i => (k + i) * 16
theorem u32s_len (l : List Nat) : (u32s l).length = l.length := by unfold u32s; simp
theorem u32s_snoc (l : List Nat) (n : Nat) : u32s (l ++ [n]) = u32s l ++ [.int .u32 (n : Int)] := by unfold u32s; simp
theorem tagL_len (f : Nat → Bool) (k j : Nat) : (tagL f k j).length ≤ j := by
  unfold tagL
  rw [List.length_map]
  exact Nat.le_trans (List.length_filter_le _ _) (by simp)
theorem tagL_yes (f : Nat → Bool) (k j : Nat) (h : f (k + j) = true) : tagL f k (j + 1) = tagL f k j ++ [(k + j) * 16] := by
  unfold tagL
  rw [List.range_succ, List.filter_append, List.map_append]
  simp [h]
theorem tagL_no (f : Nat → Bool) (k j : Nat) (h : f (k + j) = false) : tagL f k (j + 1) = tagL f k j := by
  unfold tagL
  rw [List.range_succ, List.filter_append, List.map_append]
  simp [h]
def tgP (N : Nat) (f : Nat → Bool) (page : Int) : List Nat := if 0 ≤ page ∧ page < (N / 256 : Nat) then tagL f (16 * page.toNat) 16 else []
theorem tgP_len (N : Nat) (f : Nat → Bool) (page : Int) : (tgP N f page).length ≤ 16 := by
  unfold tgP
  split
  · exact tagL_len _ _ _
  · simp
set_option maxHeartbeats 1000000 in
set_option maxRecDepth 100000 in
theorem atagged_yes (w : World) (ap p g bg cap : Nat) (bs : List Nat) (f : Nat → Bool) (h : Ar w ap p g bg cap bs f) (P : Nat) (hP : P < bs.length / 256) :
    Calls Try.prog 21 #[.pointer (some ⟨ap, 0, none⟩), .int .i64 P] w fun r w' => ∃ v, r = .returned v ∧ w'.ownsRow w.heap.size 35 1 v (tagL f (16 * P) 16).length (u32s (tagL f (16 * P) 16)) ∧ Fr [] w w' := by
  obtain ⟨i0, hi, hz0, hz1, hz2⟩ := info_parts infoU32
  have hN := h.2.1
  have CZ := Lib.hid (asize_any w ap p g bg cap bs f h)
  have HT := Lib.hid fun (W : World) (hW : Fr [] w W) => (h.fr0 hW).top.1
  obtain ⟨K, hK⟩ : ∃ K, 16 * P = K := ⟨_, rfl⟩
  have CG := Lib.hid fun (W : World) (hW : Fr [] w W) (j : Nat) (hj : j < 16) => (show Calls Try.prog 62 #[.pointer (some ⟨p, 0, none⟩), .int .i64 ((K : Int) + (j : Int))] W fun r w' => r = .returned (.bool (f (K + j))) ∧ W = w' by
    have := get_any W p g (bs.length / 16) f (h.fr0 hW).2.2.2.2.2.2.1 ((K + j : Nat) : Int)
    rw [inR_nat _ _ (by omega), Bool.true_and, Int.toNat_natCast] at this
    exact this)
  obtain ⟨N, hNN⟩ : ∃ N, bs.length = N := ⟨_, rfl⟩
  rw [hNN] at hN hP CZ
  have hfirst : (P : Int) * 256 / 16 = (K : Int) := by omega
  have hge : ¬ (P : Int) ≥ (N : Int) / 256 := by omega
  have hKb : K + 16 ≤ 16384 := by omega
  rw [hK]
  have HL := Lib.hid (fun j => tagL_len f K j)
  have HY := Lib.hid (fun j h => tagL_yes f K j h)
  have HNo := Lib.hid (fun j h => tagL_no f K j h)
  obtain ⟨T, hT⟩ : ∃ T : Nat → List Nat, ∀ j, tagL f K j = T j := ⟨_, fun _ => rfl⟩
  have HT0 := Lib.hid (show T 0 = [] by rw [← hT]; rfl)
  rw [hT 16]
  simp only [hT] at HL HY HNo
  clear h hNN hK hT
  go_enter Try.func21, Try.ntmps21
  go_wp2_with fail
  refine (CZ.out).mono ?_
  rintro e w' ⟨rfl, rfl⟩
  go_wp2_with fail
  simp only [hfirst]
  clear hfirst
  go_loopw [5, 20] (fun s i wr => ∃ (j : Nat), j ≤ 16 ∧ i = .int .i64 j ∧ wr.ownsRow w.heap.size 35 1 s (T j).length (u32s (T j)) ∧ Fr [] w wr) (fun _ i _ => 16 - (intOf i).toNat)
  case atStart => exact ⟨0, by omega, rfl, by rw [HT0.out]; exact World.ownsRow_nil _ _ _ _, Fr.refl _ _⟩
  case round =>
    obtain ⟨j, hj, rfl, ho, hf⟩ := hrel
    obtain ⟨va, vc, rfl, hvc⟩ := own_slice ho
    have HO := Lib.hid ho
    have HF := Lib.hid hf
    by_cases hj16 : j < 16
    · have c0 := HT.out wr hf
      have C := Lib.hid (CG.out wr hf j hj16)
      have hln := HL.out j
      have hy := HY.out j
      have hno := HNo.out j
      obtain ⟨x, hx⟩ : ∃ x, f (K + j) = x := ⟨_, rfl⟩
      rw [hx] at C hy hno
      have hxw : IntKind.u32.wrap (((K : Int) + (j : Int)) * 16) = (((K + j) * 16 : Nat) : Int) := by simp [IntKind.wrap, IntKind.signed, IntKind.bits]; omega
      clear ho hf hx
      cases x
      · have HNO := Lib.hid (hno rfl)
        clear hno hy
        go_wp2_with fail
        refine (C.out).mono ?_
        rintro e w' ⟨rfl, rfl⟩
        go_wp2_with fail
        go_roundw
        case rel => exact ⟨j + 1, by omega, by go_num, by rw [HNO.out]; exact HO.out, HF.out⟩
        case measure => simp [intOf]; omega
      · have HYY := Lib.hid (hy rfl)
        clear hno hy
        obtain ⟨y, hyy⟩ : ∃ y, (K + j) * 16 = y := ⟨_, rfl⟩
        rw [hyy] at hxw HYY
        obtain ⟨m, hm⟩ : ∃ m, (T j).length = m := ⟨_, rfl⟩
        rw [hm] at hln HO hvc ⊢
        have HM := Lib.hid hm
        clear hyy hm
        have hhs := HF.out.size
        go_wp2_with fail
        refine (C.out).mono ?_
        rintro e w' ⟨rfl, rfl⟩
        go_wp2_with (at_builtin; refine wpList_append_own_at _ rfl (.tmp 31) (.tmp 37) 63 rfl w.heap.size 35 i0 (.int .u32 0) 1 4 Try.underlying63 hi hz0 hz1 hz2 rfl (by omega) (.slice va m vc) m (u32s (T j)) rfl (HO.out.alloc _) ⟨wr.heap.size, 0, none⟩ 1 1 [.int .u32 y] rfl rfl (cell_one_new _ _ _) (by simp [Value.oneCell']) (by unfold maxLen; omega) (by omega) (by simp; omega) ?_; intro v1 w1 hown1 hg1 hnil1 hat1)
        go_roundw
        case rel =>
          refine ⟨j + 1, by omega, by go_num, ?_, ?_⟩
          · rw [HYY.out, u32s_snoc, List.length_append, HM.out]
            exact hown1
          · exact (HF.out.alloc _).trans (Fr.grown hg1) (fun x hx => .inr (HO.out.lt x (by simpa using hx)).1)
        case measure => simp [intOf]; omega
    · obtain rfl : j = 16 := by omega
      clear ho hf
      go_wp2_with fail
      go_ret
      exact ⟨_, rfl, HO.out, HF.out⟩
theorem atagged_no (w : World) (ap p g bg cap : Nat) (bs : List Nat) (f : Nat → Bool) (h : Ar w ap p g bg cap bs f) (page : Int) (hp : page < 0 ∨ ((bs.length / 256 : Nat) : Int) ≤ page) :
    Calls Try.prog 21 #[.pointer (some ⟨ap, 0, none⟩), .int .i64 page] w fun r w' => r = .returned (.slice none 0 0) ∧ w = w' := by
  have CZ := Lib.hid (asize_any w ap p g bg cap bs f h)
  obtain ⟨N, hNN⟩ : ∃ N, bs.length = N := ⟨_, rfl⟩
  have hN := h.2.1
  rw [hNN] at hp CZ hN
  clear h hNN
  by_cases h0 : page < 0
  · go_enter Try.func21, Try.ntmps21
    go_wp2_with fail
    go_ret
    exact ⟨rfl, rfl⟩
  · have hge : page ≥ (N : Int) / 256 := by omega
    go_enter Try.func21, Try.ntmps21
    go_wp2_with fail
    refine (CZ.out).mono ?_
    rintro e w' ⟨rfl, rfl⟩
    go_wp2_with fail
    go_ret
    exact ⟨rfl, rfl⟩
theorem atagged_any (w : World) (ap p g bg cap : Nat) (bs : List Nat) (f : Nat → Bool) (h : Ar w ap p g bg cap bs f) (page : Int) :
    Calls Try.prog 21 #[.pointer (some ⟨ap, 0, none⟩), .int .i64 page] w fun r w' => ∃ v, r = .returned v ∧ w'.ownsRow w.heap.size 35 1 v (tgP bs.length f page).length (u32s (tgP bs.length f page)) ∧ Fr [] w w' := by
  unfold tgP
  by_cases hp : 0 ≤ page ∧ page < (bs.length / 256 : Nat)
  · rw [if_pos hp]
    obtain ⟨P, rfl⟩ := Int.eq_ofNat_of_zero_le hp.1
    exact atagged_yes w ap p g bg cap bs f h P (by omega)
  · rw [if_neg hp]
    exact (atagged_no w ap p g bg cap bs f h page (by omega)).mono fun e w' ⟨h1, h2⟩ => ⟨_, h1, World.ownsRow_nil _ _ _ _, h2 ▸ Fr.refl _ _⟩
end Go.Proofs.Ytilgklpponaoeaa
