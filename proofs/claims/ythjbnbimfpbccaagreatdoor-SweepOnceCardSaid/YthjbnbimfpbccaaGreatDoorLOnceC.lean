/-
  SweepOnce: in each sweep each page is visited once, in whatever order; it ends just behind that. Condition: the table of math/bits is as the library lays it (the row lists it).
-/
import Derived.Test.YthjbnbimfpbccaaGreatDoorJ16









set_option linter.unusedVariables false
namespace Go.Proofs.YthjbnbimfpbccaaGreatDoor
open Go.ChangeShapes Go.WideShapes Go.ChangeAt Go.RowKit
namespace sweepOnce
theorem zero16 (w : World) : (zeroValue 33).run Tryz.prog w = .ok (.agg (sn fun _ => true)) w := by kernel_rfl
set_option maxHeartbeats 4000000 in
set_option maxRecDepth 100000 in
theorem walk0 (a1 : Int) (h10 : 0 ≤ a1) (h11 : a1 ≤ 255) (S : Nat) (hS : S ≤ 2) (he : a1 % 3 = S) (a0 : Option Addr) (b off len0 cap0 : Nat) (z0 : List Int) (w : World) (hT : Tab w) (ha0 : len0 = 0 ∨ a0 = some ⟨b, off, none⟩) (hlen : len0 ≤ 9223372036854775807) (hzl : z0.length = len0) (hwf : ∀ z ∈ z0, (Lit.int .u8 z).wf = true) (hb : 0 < len0 → b < w.heap.size) (hc : ∀ i, i < len0 → w.cell? ⟨b, off + i, none⟩ = some (.int .u8 (z0.getD i 0))) :
    Calls Tryz.prog 3 #[.slice a0 len0 cap0, .int .u8 a1] w fun e w' => e = .returned (.bool true) ∧ Fr [] w w' := by
  have hz := zero16
  have Hc := Lib.hid fun i (hi : i < len0) => show ∃ z : Int, w.cell? ⟨b, off + i, none⟩ = some (.int .u8 z) ∧ 0 ≤ z ∧ z ≤ 255 from
    ⟨_, hc i hi, by
      have := bounds_u8 (hwf (z0.getD i 0) (by
        rw [List.getD_eq_getElem?_getD, List.getElem?_eq_getElem (by rw [hzl]; exact hi)]
        exact List.getElem_mem _))
      exact this⟩
  have Hb := Lib.hid hb
  have HA0 := Lib.hid ha0
  have HT := Lib.hid hT
  have CB := Lib.hid (begun_oc w hT)
  have HC16 := Lib.hid (cnt_fst 16 16 (Nat.le_refl 16))
  have HNEW := Lib.hid sn_new
  clear hc hwf hzl hb ha0 hT
  go_enter Tryz.func3, Tryz.ntmps3
  go_wp2_with fail
  refine CB.out.mono ?_
  rintro e w1 ⟨i, rfl, hoc⟩
  have O1 := Lib.hid hoc
  clear hoc CB
  go_wp2_with fail
  go_loopw [8] (fun v wr => ∃ (n : Nat) (F : Nat → Bool), n ≤ S + 1 ∧ v = .int .i64 ((n : Int) + 1) ∧ Oc w wr i n 0 (16 * n) F) (fun v _ => S + 2 - (intOf v).toNat)
  case atStart => exact ⟨0, _, by omega, rfl, O1.out⟩
  case round =>
    clear O1
    obtain ⟨n, F0, hn, rfl, hoc⟩ := hrel
    have O2 := Lib.hid hoc
    clear hoc
    by_cases hnS : n ≤ S
    · go_wp2_with fail
      refine (oc_begin O2.out rfl (by omega)).mono ?_
      rintro e w3 ⟨rfl, h3, -⟩
      have O3 := Lib.hid h3
      clear h3 O2
      go_wp2_with fail
      have CL := Lib.hid (oc_left O3.out)
      rw [HC16.out] at CL
      refine CL.out.mono ?_
      rintro e w' ⟨rfl, rfl⟩
      clear CL
      go_wp2_with fail
      refine (oc_go_yes O3.out rfl).mono ?_
      rintro e w4 ⟨rfl, h4, -⟩
      have O4 := Lib.hid h4
      clear h4 O3
      go_wp2_with fail
      refine (oc_go_no O4.out (by omega)).mono ?_
      rintro e w' ⟨rfl, rfl⟩
      go_wp2_with fail
      clear hz
      have hat := At.new w4 33 (sn fun _ => true)
      have hfa : Fr [] w4 (w4.alloc (.cells (sn fun _ => true) 33)) := (by repeat (first | exact Fr.refl _ _ | assumption | refine Fr.trans0 ?_ (by assumption) | refine Fr.drewN ?_ _ | refine Fr.alloc ?_ _ | refine Fr.drew ?_))
      have O5 := Lib.hid (O4.out.fr0 hfa)
      obtain ⟨q, hq⟩ : ∃ q, w4.heap.size = q := ⟨_, rfl⟩
      have HQ0 := Lib.hid (show w.heap.size ≤ q from by rw [← hq]; exact O4.out.f.size)
      rw [hq] at hat ⊢
      obtain ⟨w5, hw5⟩ : ∃ W, w4.alloc (.cells (sn fun _ => true) 33) = W := ⟨_, rfl⟩
      rw [hw5] at hat O5 ⊢
      rw [← HNEW.out] at hat
      have A5 := Lib.hid hat
      have HCF := Lib.hid (show 0 + cnt (fstF 16) 16 = 16 by rw [HC16.out])
      clear hat hfa hq hw5 O4
      go_loopw [12, 13] (fun mv kv wr => ∃ (k M : Nat) (F : Nat → Bool), k ≤ len0 ∧ k ≤ 60 ∧ mv = .int .i64 M ∧ kv = .int .i64 k ∧ M + cnt F 16 = 16 ∧ Oc w wr i (n + 1) 2 (16 * n + M) F ∧ At wr q 33 (sn F)) (fun _ kv _ => len0 - (intOf kv).toNat)
      case atStart => exact ⟨0, 0, _, by omega, by omega, rfl, rfl, HCF.out, O5.out, A5.out⟩
      case round =>
        clear O5 A5 HCF
        obtain ⟨k, M, F, hk, hk60, rfl, rfl, hM, hoc, hat⟩ := hrel
        have O6 := Lib.hid hoc
        have A6 := Lib.hid hat
        have HM := Lib.hid hM
        have hM16 : M ≤ 16 := by omega
        clear hoc hat hM
        by_cases h1 : k < len0
        · by_cases h2 : k < 60
          · obtain rfl : a0 = some ⟨b, off, none⟩ := HA0.out.resolve_left (by omega)
            obtain ⟨z, hz, z0, z1'⟩ := Hc.out k h1
            replace hz := (O6.out.f.cell (a := ⟨b, _, none⟩) (Hb.out (by omega)) (by simp)).trans hz
            obtain ⟨P, hP⟩ := Int.eq_ofNat_of_zero_le (show 0 ≤ z % 16 by omega)
            have hP16 : P < 16 := by omega
            have hPi : (P : Int) < 16 := by omega
            have hPi0 : (0 : Int) ≤ (P : Int) := by omega
            have HPZ := Lib.hid hP
            go_upto_region 16 with (fail)
            have CO := Lib.hid fun W (hW : Fr [] wr W) => oc_old (O6.out.fr0 hW) rfl P hP16
            cases hFP : F P with
            | true =>
              have CV := Lib.hid fun W (hW : Fr [] wr W) => oc_visit_yes (O6.out.fr0 hW) rfl P hP16 hFP (by omega)
              have HCL := Lib.hid (cnt_clr F P hFP 16)
              rw [hFP] at CO
              have HFP := Lib.hid hFP
              clear hFP
              refine wp_region_L (fun W => At W q 33 (sn F)) [] (by kernel_rfl) (A6.out.hp rfl) (fun hHeld => ?_)
              refine wpAnyL_take (i := 0) (v := ?_) rfl (by kernel_rfl) (fun _ _ _ h => h) (Or.inl ⟨by rfl, ?_⟩) (by assumption) ?_; rotate_left; (focus (intro w hSw; skip; go_simp; (try with_reducible rfl))); (try (refine wpAnyL_norm (by simp only [Act.put, List.setIfInBounds_toArray, List.set_cons_zero, List.set_cons_succ]; rfl) ?_))
              refine wpAnyL_take (i := 1) (v := ?_) rfl (by kernel_rfl) (fun _ _ _ h => h) (Or.inl ⟨by rfl, ?_⟩) (by assumption) ?_; rotate_left; (focus (intro w hSw; skip; go_simp; (try with_reducible rfl))); (try (refine wpAnyL_norm (by simp only [Act.put, List.setIfInBounds_toArray, List.set_cons_zero, List.set_cons_succ]; rfl) ?_))
              refine wpAnyL_take (i := 3) (v := ?_) rfl (by kernel_rfl) (fun _ _ _ h => h) (Or.inl ⟨by rfl, ?_⟩) (by assumption) ?_; rotate_left; (focus (intro w hSw; skip; go_simp; (try with_reducible rfl))); (try (refine wpAnyL_norm (by simp only [Act.put, List.setIfInBounds_toArray, List.set_cons_zero, List.set_cons_succ]; rfl) ?_))
              refine wpAnyL_take (i := 4) (v := ?_) rfl (by kernel_rfl) (fun _ _ _ h => h) (Or.inl ⟨by rfl, ?_⟩) (by assumption) ?_; rotate_left; (focus (intro w hSw; skip; go_simp; (try with_reducible rfl))); (try (refine wpAnyL_norm (by simp only [Act.put, List.setIfInBounds_toArray, List.set_cons_zero, List.set_cons_succ]; rfl) ?_))
              refine wpAnyL_take (i := 5) (v := ?_) rfl (by kernel_rfl) (fun _ _ _ h => h) (Or.inl ⟨by rfl, ?_⟩) (by assumption) ?_; rotate_left; (focus (intro w hSw; (have cc := (hSw.cell P).trans (sn_get F P hP16); rw [HFP.out] at cc); go_simp; (try with_reducible rfl))); (try (refine wpAnyL_norm (by simp only [Act.put, List.setIfInBounds_toArray, List.set_cons_zero, List.set_cons_succ]; rfl) ?_))
              refine wpAnyL_ready (rs := [2]) (by kernel_rfl) (by simp) ?_; refine AllReadyL.cons rfl (fun K hK => ?_) AllReadyL.nil
              go_simp
              refine (CO.out _ ((Fr.refl [] wr).drew)).mono ?_
              rintro e w7 ⟨rfl, rfl⟩
              refine hK.out _ _ (fun _ => hHeld) (fun hHeld' => ?_); have hHeld := hHeld' (by decide); clear hHeld' hK K; (try (refine wpAnyL_norm (by simp only [Act.put, List.setIfInBounds_toArray, List.set_cons_zero, List.set_cons_succ]; rfl) ?_))
              refine wpAnyL_take (i := 6) (v := ?_) rfl (by kernel_rfl) (fun _ _ _ h => h) (Or.inl ⟨by rfl, ?_⟩) (by assumption) ?_; rotate_left; (focus (intro w hSw; skip; go_simp; (try with_reducible rfl))); (try (refine wpAnyL_norm (by simp only [Act.put, List.setIfInBounds_toArray, List.set_cons_zero, List.set_cons_succ]; rfl) ?_))
              refine wpAnyL_take (i := 7) (v := ?_) rfl (by kernel_rfl) (fun _ _ _ h => h) (Or.inl ⟨by rfl, ?_⟩) (by assumption) ?_; rotate_left; (focus (intro w hSw; skip; go_simp; (try with_reducible rfl))); (try (refine wpAnyL_norm (by simp only [Act.put, List.setIfInBounds_toArray, List.set_cons_zero, List.set_cons_succ]; rfl) ?_))
              refine wpAnyL_take (i := 8) (v := ?_) rfl (by kernel_rfl) (fun _ _ _ h => h) (Or.inl ⟨by rfl, ?_⟩) (by assumption) ?_; rotate_left; (focus (intro w hSw; skip; go_simp; (try with_reducible rfl))); (try (refine wpAnyL_norm (by simp only [Act.put, List.setIfInBounds_toArray, List.set_cons_zero, List.set_cons_succ]; rfl) ?_))
              refine wpAnyL_take (i := 9) (v := ?_) rfl (by kernel_rfl) (fun _ _ _ h => h) (Or.inl ⟨by rfl, ?_⟩) (by assumption) ?_; rotate_left; (focus (intro w hSw; skip; go_simp; (try with_reducible rfl))); (try (refine wpAnyL_norm (by simp only [Act.put, List.setIfInBounds_toArray, List.set_cons_zero, List.set_cons_succ]; rfl) ?_))
              refine wpAnyL_take (i := 11) (v := ?_) rfl (by kernel_rfl) (fun _ _ _ h => h) (Or.inl ⟨by rfl, ?_⟩) (by assumption) ?_; rotate_left; (focus (intro w hSw; skip; go_simp; (try with_reducible rfl))); (try (refine wpAnyL_norm (by simp only [Act.put, List.setIfInBounds_toArray, List.set_cons_zero, List.set_cons_succ]; rfl) ?_))
              refine wpAnyL_take (i := 12) (v := ?_) rfl (by kernel_rfl) (fun _ _ _ h => h) (Or.inl ⟨by rfl, ?_⟩) (by assumption) ?_; rotate_left; (focus (intro w hSw; skip; go_simp; (try with_reducible rfl))); (try (refine wpAnyL_norm (by simp only [Act.put, List.setIfInBounds_toArray, List.set_cons_zero, List.set_cons_succ]; rfl) ?_))
              refine wpAnyL_take (i := 13) (v := ?_) rfl (by kernel_rfl) (fun _ _ _ h => h) (Or.inl ⟨by rfl, ?_⟩) (by assumption) ?_; rotate_left; (focus (intro w hSw; (have cc := (hSw.cell P).trans (sn_get F P hP16); rw [HFP.out] at cc); go_simp; (try with_reducible rfl))); (try (refine wpAnyL_norm (by simp only [Act.put, List.setIfInBounds_toArray, List.set_cons_zero, List.set_cons_succ]; rfl) ?_))
              refine wpAnyL_ready (rs := [10]) (by kernel_rfl) (by simp) ?_; refine AllReadyL.cons rfl (fun K hK => ?_) AllReadyL.nil
              go_simp
              refine (CV.out _ ((Fr.refl [] wr).drew)).mono ?_
              rintro e w7 ⟨rfl, h7, k7⟩
              have O7 := Lib.hid h7
              have A7 := Lib.hid (k7.keep _ _ _ (by decide) hHeld)
              refine hK.out _ _ (fun _ => A7.out) (fun hHeld' => ?_); have hHeld := hHeld' (by decide); clear hHeld' hK K; (try (refine wpAnyL_norm (by simp only [Act.put, List.setIfInBounds_toArray, List.set_cons_zero, List.set_cons_succ]; rfl) ?_))
              clear h7 k7 CO CV
              refine wpAnyL_take (i := 14) (v := ?_) rfl (by kernel_rfl) (fun _ _ _ h => h) (Or.inl ⟨by rfl, ?_⟩) (by assumption) ?_; rotate_left; (focus (intro w hSw; skip; go_simp; (try with_reducible rfl))); (try (refine wpAnyL_norm (by simp only [Act.put, List.setIfInBounds_toArray, List.set_cons_zero, List.set_cons_succ]; rfl) ?_))
              refine wpAnyL_take (i := 15) (v := ?_) rfl (by kernel_rfl) (fun _ _ _ h => h) (Or.inl ⟨by rfl, ?_⟩) (by assumption) ?_; rotate_left; (focus (intro w hSw; skip; go_simp; (try with_reducible rfl))); (try (refine wpAnyL_norm (by simp only [Act.put, List.setIfInBounds_toArray, List.set_cons_zero, List.set_cons_succ]; rfl) ?_))
              refine wpAnyL_done (by kernel_rfl) ?_ _
              have hcq := (A7.out.cell P).trans (sn_get F P hP16)
              rw [HFP.out] at hcq
              change _ = some (Value.bool false) at hcq
              have hzq := A7.out.froz P
              have F8 := Lib.hid ((Fr.refl [q] w7).set (.inl (by simp)) (a := ⟨q, P, none⟩) (.bool true))
              have O8 := Lib.hid (O7.out.far A7.out (by decide) HQ0.out F8.out)
              have A8 := Lib.hid (A7.out.set P (.bool true))
              rw [sn_set] at A8
              have CL := Lib.hid (oc_left O8.out)
              obtain ⟨C, hC⟩ : ∃ C, cnt (upd F P false) 16 = C := ⟨_, rfl⟩
              rw [hC] at CL
              have HCC := Lib.hid (show M + 1 + cnt (upd F P false) 16 = 16 from by have := HCL.out; have := HM.out; rw [if_pos hP16] at *; omega)
              have hne : ((C : Int) != 16 - ((M : Int) + 1)) = false := by have := HCC.out; simp; omega
              clear hC hHeld O7
              go_wp2_with fail
              refine CL.out.mono ?_
              rintro e w' ⟨rfl, rfl⟩
              go_wp2_with fail
              go_roundw
              case rel => exact ⟨k + 1, M + 1, upd F P false, by omega, by omega, by go_num, by go_num, HCC.out, O8.out, A8.out⟩
              case measure => simp [intOf]; omega
            | false =>
              have CV := Lib.hid fun W (hW : Fr [] wr W) => oc_visit_no (O6.out.fr0 hW) rfl P hP16 hFP
              rw [hFP] at CO
              have HFP := Lib.hid hFP
              clear hFP
              refine wp_region_L (fun W => At W q 33 (sn F)) [] (by kernel_rfl) (A6.out.hp rfl) (fun hHeld => ?_)
              refine wpAnyL_take (i := 0) (v := ?_) rfl (by kernel_rfl) (fun _ _ _ h => h) (Or.inl ⟨by rfl, ?_⟩) (by assumption) ?_; rotate_left; (focus (intro w hSw; skip; go_simp; (try with_reducible rfl))); (try (refine wpAnyL_norm (by simp only [Act.put, List.setIfInBounds_toArray, List.set_cons_zero, List.set_cons_succ]; rfl) ?_))
              refine wpAnyL_take (i := 1) (v := ?_) rfl (by kernel_rfl) (fun _ _ _ h => h) (Or.inl ⟨by rfl, ?_⟩) (by assumption) ?_; rotate_left; (focus (intro w hSw; skip; go_simp; (try with_reducible rfl))); (try (refine wpAnyL_norm (by simp only [Act.put, List.setIfInBounds_toArray, List.set_cons_zero, List.set_cons_succ]; rfl) ?_))
              refine wpAnyL_take (i := 3) (v := ?_) rfl (by kernel_rfl) (fun _ _ _ h => h) (Or.inl ⟨by rfl, ?_⟩) (by assumption) ?_; rotate_left; (focus (intro w hSw; skip; go_simp; (try with_reducible rfl))); (try (refine wpAnyL_norm (by simp only [Act.put, List.setIfInBounds_toArray, List.set_cons_zero, List.set_cons_succ]; rfl) ?_))
              refine wpAnyL_take (i := 4) (v := ?_) rfl (by kernel_rfl) (fun _ _ _ h => h) (Or.inl ⟨by rfl, ?_⟩) (by assumption) ?_; rotate_left; (focus (intro w hSw; skip; go_simp; (try with_reducible rfl))); (try (refine wpAnyL_norm (by simp only [Act.put, List.setIfInBounds_toArray, List.set_cons_zero, List.set_cons_succ]; rfl) ?_))
              refine wpAnyL_take (i := 5) (v := ?_) rfl (by kernel_rfl) (fun _ _ _ h => h) (Or.inl ⟨by rfl, ?_⟩) (by assumption) ?_; rotate_left; (focus (intro w hSw; (have cc := (hSw.cell P).trans (sn_get F P hP16); rw [HFP.out] at cc); go_simp; (try with_reducible rfl))); (try (refine wpAnyL_norm (by simp only [Act.put, List.setIfInBounds_toArray, List.set_cons_zero, List.set_cons_succ]; rfl) ?_))
              refine wpAnyL_ready (rs := [2]) (by kernel_rfl) (by simp) ?_; refine AllReadyL.cons rfl (fun K hK => ?_) AllReadyL.nil
              go_simp
              refine (CO.out _ ((Fr.refl [] wr).drew)).mono ?_
              rintro e w7 ⟨rfl, rfl⟩
              refine hK.out _ _ (fun _ => hHeld) (fun hHeld' => ?_); have hHeld := hHeld' (by decide); clear hHeld' hK K; (try (refine wpAnyL_norm (by simp only [Act.put, List.setIfInBounds_toArray, List.set_cons_zero, List.set_cons_succ]; rfl) ?_))
              refine wpAnyL_take (i := 6) (v := ?_) rfl (by kernel_rfl) (fun _ _ _ h => h) (Or.inl ⟨by rfl, ?_⟩) (by assumption) ?_; rotate_left; (focus (intro w hSw; skip; go_simp; (try with_reducible rfl))); (try (refine wpAnyL_norm (by simp only [Act.put, List.setIfInBounds_toArray, List.set_cons_zero, List.set_cons_succ]; rfl) ?_))
              refine wpAnyL_take (i := 7) (v := ?_) rfl (by kernel_rfl) (fun _ _ _ h => h) (Or.inl ⟨by rfl, ?_⟩) (by assumption) ?_; rotate_left; (focus (intro w hSw; skip; go_simp; (try with_reducible rfl))); (try (refine wpAnyL_norm (by simp only [Act.put, List.setIfInBounds_toArray, List.set_cons_zero, List.set_cons_succ]; rfl) ?_))
              refine wpAnyL_take (i := 8) (v := ?_) rfl (by kernel_rfl) (fun _ _ _ h => h) (Or.inl ⟨by rfl, ?_⟩) (by assumption) ?_; rotate_left; (focus (intro w hSw; skip; go_simp; (try with_reducible rfl))); (try (refine wpAnyL_norm (by simp only [Act.put, List.setIfInBounds_toArray, List.set_cons_zero, List.set_cons_succ]; rfl) ?_))
              refine wpAnyL_take (i := 9) (v := ?_) rfl (by kernel_rfl) (fun _ _ _ h => h) (Or.inl ⟨by rfl, ?_⟩) (by assumption) ?_; rotate_left; (focus (intro w hSw; skip; go_simp; (try with_reducible rfl))); (try (refine wpAnyL_norm (by simp only [Act.put, List.setIfInBounds_toArray, List.set_cons_zero, List.set_cons_succ]; rfl) ?_))
              refine wpAnyL_take (i := 11) (v := ?_) rfl (by kernel_rfl) (fun _ _ _ h => h) (Or.inl ⟨by rfl, ?_⟩) (by assumption) ?_; rotate_left; (focus (intro w hSw; skip; go_simp; (try with_reducible rfl))); (try (refine wpAnyL_norm (by simp only [Act.put, List.setIfInBounds_toArray, List.set_cons_zero, List.set_cons_succ]; rfl) ?_))
              refine wpAnyL_take (i := 12) (v := ?_) rfl (by kernel_rfl) (fun _ _ _ h => h) (Or.inl ⟨by rfl, ?_⟩) (by assumption) ?_; rotate_left; (focus (intro w hSw; skip; go_simp; (try with_reducible rfl))); (try (refine wpAnyL_norm (by simp only [Act.put, List.setIfInBounds_toArray, List.set_cons_zero, List.set_cons_succ]; rfl) ?_))
              refine wpAnyL_take (i := 13) (v := ?_) rfl (by kernel_rfl) (fun _ _ _ h => h) (Or.inl ⟨by rfl, ?_⟩) (by assumption) ?_; rotate_left; (focus (intro w hSw; (have cc := (hSw.cell P).trans (sn_get F P hP16); rw [HFP.out] at cc); go_simp; (try with_reducible rfl))); (try (refine wpAnyL_norm (by simp only [Act.put, List.setIfInBounds_toArray, List.set_cons_zero, List.set_cons_succ]; rfl) ?_))
              refine wpAnyL_ready (rs := [10]) (by kernel_rfl) (by simp) ?_; refine AllReadyL.cons rfl (fun K hK => ?_) AllReadyL.nil
              go_simp
              refine (CV.out _ ((Fr.refl [] wr).drew)).mono ?_
              rintro e w7 ⟨rfl, hf7⟩
              have O7 := Lib.hid ((O6.out.fr0 (Fr.refl [] wr).drew).fr0 hf7)
              have A7 := Lib.hid (hHeld.fr hf7 (by simp))
              refine hK.out _ _ (fun _ => A7.out) (fun hHeld' => ?_); have hHeld := hHeld' (by decide); clear hHeld' hK K; (try (refine wpAnyL_norm (by simp only [Act.put, List.setIfInBounds_toArray, List.set_cons_zero, List.set_cons_succ]; rfl) ?_))
              clear hf7 CO CV
              refine wpAnyL_take (i := 14) (v := ?_) rfl (by kernel_rfl) (fun _ _ _ h => h) (Or.inl ⟨by rfl, ?_⟩) (by assumption) ?_; rotate_left; (focus (intro w hSw; skip; go_simp; (try with_reducible rfl))); (try (refine wpAnyL_norm (by simp only [Act.put, List.setIfInBounds_toArray, List.set_cons_zero, List.set_cons_succ]; rfl) ?_))
              refine wpAnyL_take (i := 15) (v := ?_) rfl (by kernel_rfl) (fun _ _ _ h => h) (Or.inl ⟨by rfl, ?_⟩) (by assumption) ?_; rotate_left; (focus (intro w hSw; skip; go_simp; (try with_reducible rfl))); (try (refine wpAnyL_norm (by simp only [Act.put, List.setIfInBounds_toArray, List.set_cons_zero, List.set_cons_succ]; rfl) ?_))
              refine wpAnyL_done (by kernel_rfl) ?_ _
              have hcq := (A7.out.cell P).trans (sn_get F P hP16)
              rw [HFP.out] at hcq
              change _ = some (Value.bool true) at hcq
              have CL := Lib.hid (oc_left O7.out)
              obtain ⟨C, hC⟩ : ∃ C, cnt F 16 = C := ⟨_, rfl⟩
              rw [hC] at CL
              have hne : ((C : Int) != 16 - (M : Int)) = false := by have := HM.out; simp; omega
              clear hC hHeld
              go_wp2_with fail
              refine CL.out.mono ?_
              rintro e w' ⟨rfl, rfl⟩
              go_wp2_with fail
              go_roundw
              case rel => exact ⟨k + 1, M, F, by omega, by omega, rfl, by go_num, HM.out, O7.out, A7.out⟩
              case measure => simp [intOf]; omega
          · obtain rfl : k = 60 := by omega
            go_wp2_with fail
            go_loopw [12] (fun mv wr => ∃ (M : Nat) (F : Nat → Bool), mv = .int .i64 M ∧ M + cnt F 16 = 16 ∧ Oc w wr i (n + 1) 2 (16 * n + M) F ∧ At wr q 33 (sn F)) (fun mv _ => 16 - (intOf mv).toNat)
            case atStart => exact ⟨M, F, rfl, HM.out, O6.out, A6.out⟩
            case round =>
              clear O6 A6 HM hM16
              obtain ⟨M, F, rfl, hM, hoc, hat⟩ := hrel
              have O6 := Lib.hid hoc
              have A6 := Lib.hid hat
              have HM := Lib.hid hM
              have hM16 : M ≤ 16 := by omega
              clear hoc hat hM
              by_cases h3 : M < 16
              · rcases nxt_case F 16 with ⟨_, _, h, _⟩ | ⟨P, hP16, hFP, hN, hB, hpos, _⟩
                · have := HM.out; omega
                have CE := Lib.hid (oc_end_no O6.out rfl (by omega))
                have CP := Lib.hid fun W (hW : Fr [] wr W) => oc_page_yes (O6.out.fr0 hW) rfl P hP16 hFP hB hN (by omega)
                have HCC := Lib.hid (show M + 1 + cnt (upd F P false) 16 = 16 from by have h := cnt_clr F P hFP 16; rw [if_pos hP16] at h; have := HM.out; omega)
                have HFP := Lib.hid hFP
                have hPi : (P : Int) < 16 := by omega
                have hPi0 : (0 : Int) ≤ (P : Int) := by omega
                have hPd : decide ((15 : Int) < (P : Int)) = false := by simp; omega
                have hPe : decide ((P : Int) < 0) = false := by simp
                clear hFP hN hB hpos
                go_wp2_with fail
                refine CE.out.mono ?_
                rintro e w7 ⟨rfl, hf7⟩
                have F7 := Lib.hid hf7
                clear hf7 CE
                go_wp2_with fail
                refine (CP.out _ F7.out).mono ?_
                rintro e w8 ⟨rfl, h8, k8⟩
                have O8 := Lib.hid h8
                have A8 := Lib.hid (k8.keep _ _ _ (by decide) (A6.out.fr F7.out (by simp)))
                have hcq := (A8.out.cell P).trans (sn_get F P hP16)
                rw [HFP.out] at hcq
                change _ = some (Value.bool false) at hcq
                have hzq := A8.out.froz P
                have F9 := Lib.hid ((Fr.refl [q] w8).set (.inl (by simp)) (a := ⟨q, P, none⟩) (.bool true))
                have O9 := Lib.hid (O8.out.far A8.out (by decide) HQ0.out F9.out)
                have A9 := Lib.hid (A8.out.set P (.bool true))
                rw [sn_set] at A9
                clear h8 k8 CP O8
                go_wp2_with fail
                go_roundw
                case rel => exact ⟨M + 1, upd F P false, by go_num, HCC.out, O9.out, A9.out⟩
                case measure => simp [intOf]; omega
              · obtain rfl : M = 16 := by omega
                have hc0 : cnt F 16 = 0 := by have := HM.out; omega
                have hnx : nxtB F 16 = false := by
                  rcases nxt_case F 16 with ⟨h, _⟩ | ⟨P, _, _, _, _, h, _⟩
                  · exact h
                  · omega
                have CP := Lib.hid (oc_page_no O6.out rfl hnx)
                have CE := Lib.hid fun W (hW : Fr [] wr W) => oc_end_yes (O6.out.fr0 hW) rfl hc0
                obtain ⟨V, hV⟩ : ∃ V, 16 * n + 16 = V := ⟨_, rfl⟩
                have HV := Lib.hid hV
                rw [hV] at CE
                have hne : ((V : Int) != 16 * ((n : Int) + 1)) = false := by have := HV.out; simp; omega
                clear hc0 hnx hV
                go_wp2_with fail
                refine CP.out.mono ?_
                rintro e w7 ⟨rfl, hf7⟩
                have F7 := Lib.hid hf7
                clear hf7 CP
                go_wp2_with fail
                refine (CE.out _ F7.out).mono ?_
                rintro e w8 ⟨a8, c8, rfl, h8, -⟩
                have O8 := Lib.hid h8
                clear h8 CE
                go_wp2_with fail
                refine (oc_vis O8.out).mono ?_
                rintro e w' ⟨rfl, rfl⟩
                go_wp2_with fail
                refine (oc_old_0 O8.out rfl 0).mono ?_
                rintro e w' ⟨rfl, rfl⟩
                go_wp2_with fail
                go_roundw
                case rel => exact ⟨n + 1, F, by omega, by go_num, by have := O8.out; rw [← HV.out] at this; rw [show 16 * (n + 1) = 16 * n + 16 by omega]; exact this⟩
                case measure => simp [intOf]; omega
        · obtain rfl : k = len0 := by omega
          go_wp2_with fail
          go_loopw [12] (fun mv wr => ∃ (M : Nat) (F : Nat → Bool), mv = .int .i64 M ∧ M + cnt F 16 = 16 ∧ Oc w wr i (n + 1) 2 (16 * n + M) F ∧ At wr q 33 (sn F)) (fun mv _ => 16 - (intOf mv).toNat)
          case atStart => exact ⟨M, F, rfl, HM.out, O6.out, A6.out⟩
          case round =>
            clear O6 A6 HM hM16
            obtain ⟨M, F, rfl, hM, hoc, hat⟩ := hrel
            have O6 := Lib.hid hoc
            have A6 := Lib.hid hat
            have HM := Lib.hid hM
            have hM16 : M ≤ 16 := by omega
            clear hoc hat hM
            by_cases h3 : M < 16
            · rcases nxt_case F 16 with ⟨_, _, h, _⟩ | ⟨P, hP16, hFP, hN, hB, hpos, _⟩
              · have := HM.out; omega
              have CE := Lib.hid (oc_end_no O6.out rfl (by omega))
              have CP := Lib.hid fun W (hW : Fr [] wr W) => oc_page_yes (O6.out.fr0 hW) rfl P hP16 hFP hB hN (by omega)
              have HCC := Lib.hid (show M + 1 + cnt (upd F P false) 16 = 16 from by have h := cnt_clr F P hFP 16; rw [if_pos hP16] at h; have := HM.out; omega)
              have HFP := Lib.hid hFP
              have hPi : (P : Int) < 16 := by omega
              have hPi0 : (0 : Int) ≤ (P : Int) := by omega
              have hPd : decide ((15 : Int) < (P : Int)) = false := by simp; omega
              have hPe : decide ((P : Int) < 0) = false := by simp
              clear hFP hN hB hpos
              go_wp2_with fail
              refine CE.out.mono ?_
              rintro e w7 ⟨rfl, hf7⟩
              have F7 := Lib.hid hf7
              clear hf7 CE
              go_wp2_with fail
              refine (CP.out _ F7.out).mono ?_
              rintro e w8 ⟨rfl, h8, k8⟩
              have O8 := Lib.hid h8
              have A8 := Lib.hid (k8.keep _ _ _ (by decide) (A6.out.fr F7.out (by simp)))
              have hcq := (A8.out.cell P).trans (sn_get F P hP16)
              rw [HFP.out] at hcq
              change _ = some (Value.bool false) at hcq
              have hzq := A8.out.froz P
              have F9 := Lib.hid ((Fr.refl [q] w8).set (.inl (by simp)) (a := ⟨q, P, none⟩) (.bool true))
              have O9 := Lib.hid (O8.out.far A8.out (by decide) HQ0.out F9.out)
              have A9 := Lib.hid (A8.out.set P (.bool true))
              rw [sn_set] at A9
              clear h8 k8 CP O8
              go_wp2_with fail
              go_roundw
              case rel => exact ⟨M + 1, upd F P false, by go_num, HCC.out, O9.out, A9.out⟩
              case measure => simp [intOf]; omega
            · obtain rfl : M = 16 := by omega
              have hc0 : cnt F 16 = 0 := by have := HM.out; omega
              have hnx : nxtB F 16 = false := by
                rcases nxt_case F 16 with ⟨h, _⟩ | ⟨P, _, _, _, _, h, _⟩
                · exact h
                · omega
              have CP := Lib.hid (oc_page_no O6.out rfl hnx)
              have CE := Lib.hid fun W (hW : Fr [] wr W) => oc_end_yes (O6.out.fr0 hW) rfl hc0
              obtain ⟨V, hV⟩ : ∃ V, 16 * n + 16 = V := ⟨_, rfl⟩
              have HV := Lib.hid hV
              rw [hV] at CE
              have hne : ((V : Int) != 16 * ((n : Int) + 1)) = false := by have := HV.out; simp; omega
              clear hc0 hnx hV
              go_wp2_with fail
              refine CP.out.mono ?_
              rintro e w7 ⟨rfl, hf7⟩
              have F7 := Lib.hid hf7
              clear hf7 CP
              go_wp2_with fail
              refine (CE.out _ F7.out).mono ?_
              rintro e w8 ⟨a8, c8, rfl, h8, -⟩
              have O8 := Lib.hid h8
              clear h8 CE
              go_wp2_with fail
              refine (oc_vis O8.out).mono ?_
              rintro e w' ⟨rfl, rfl⟩
              go_wp2_with fail
              refine (oc_old_0 O8.out rfl 0).mono ?_
              rintro e w' ⟨rfl, rfl⟩
              go_wp2_with fail
              go_roundw
              case rel => exact ⟨n + 1, F, by omega, by go_num, by have := O8.out; rw [← HV.out] at this; rw [show 16 * (n + 1) = 16 * n + 16 by omega]; exact this⟩
              case measure => simp [intOf]; omega
    · obtain rfl : n = S + 1 := by omega
      have hd : decide ((S : Int) + 1 + 1 ≤ 1 + (S : Int)) = false := by simp; omega
      go_wp2_with fail
      refine (works_any _ (HT.out.fr O2.out.f (by simp))).mono ?_
      rintro e w9 ⟨rfl, hf9⟩
      go_wp2_with fail
      go_ret
      exact ⟨rfl, O2.out.f.trans0 hf9⟩
theorem walk (a0 : Option Addr) (len0 cap0 : Nat) (z0 : List Int) (a1 : Int) (w1 : (Lit.int .u8 a1).wf = true) (w : World) (w0 : Ints .u8 w a0 len0 z0) (hT : Tab w) :
    Calls Tryz.prog 3 #[.slice a0 len0 cap0, .int .u8 a1] w fun e w' => e = .returned (.bool true) ∧ Fr [] w w' := by
  obtain ⟨b0, b1⟩ := bounds_u8 w1
  obtain ⟨S, hS⟩ := Int.eq_ofNat_of_zero_le (show 0 ≤ a1 % 3 by omega)
  obtain ⟨h1, h2, h3, h4⟩ := w0
  rcases h4 with h4 | ⟨b, off, h5, h6, h7⟩
  · exact walk0 a1 b0 b1 S (by omega) hS a0 0 0 len0 cap0 z0 w hT (.inl h4) h1 h2 h3 (fun h => by omega) (fun i hi => by omega)
  · exact walk0 a1 b0 b1 S (by omega) hS a0 b off len0 cap0 z0 w hT (.inr h5) h1 h2 h3 (fun _ => h6) h7
theorem laidOut : laidOutB Tryz.prog = true := by kernel_rfl
set_option maxRecDepth 100000 in
theorem lifted (os : Os) (started : os.Started) (H : Type) (enc : TypeId × Value → H) :
    ReturnsInHanded {} Tryz.checked os 3 .any (fun w args => (Rows.sweepOnceSpec.pre enc Tryz.prog Tryz.f3 [] false w args ∧ laidMetH Tryz.prog laidL w) ∧ sizedMet enc Tryz.prog Tryz.f3 (OpenSpec.ofChange Rows.sweepOnceSpec) false w args) (Rows.sweepOnceSpec.post enc Tryz.prog Tryz.f3 false true false false) := by
  refine returnsInHanded_of_change_and (C := Tryz.checked) (X := fun w _ => laidMetH Tryz.prog laidL w) (fun _ _ _ hh h => h.of_heap hh) own started (by kernel_rfl) Tryz.func3
    (ChangeSpec.witness_at (enc := enc) (C := Tryz.checked) (os := os) (X := fun w _ => laidMetH Tryz.prog laidL w) false (laidWorld os) #[.slice none 0 0, .int .u8 0] 8 rfl (by kernel_rfl) (by kernel_rfl) (by kernel_rfl) (by kernel_rfl) (by kernel_rfl) (laidWorld_met os _)) ?_
  intro W base args ds gs before hval0 hW _ _ hL _
  have hT := tab_of_laid hL
  have hval : ∀ (j : Nat) t v, Tryz.f3.params[j]? = some t → args[j]? = some v → Value.okWide Tryz.prog W .any base t v := hval0
  have hW' := hW
  obtain ⟨p, q, hA0, hV, rfl, hfz, hnd⟩ := hW
  have hA : DataW.TrodAll enc Tryz.prog W 0 (fun _ => true) true Tryz.f3.params.toList args.toList ds p := hA0
  rw [Tryz.params3] at hA hval
  obtain ⟨v0, vs0, d0, ds0, p0, q0, hargs, rfl, rfl, h0, r0⟩ := trodAll_cons hA
  obtain ⟨v1, vs1, d1, ds1, p1, q1, rfl, rfl, rfl, h1, r1⟩ := trodAll_cons r0
  obtain ⟨rfl, rfl, rfl⟩ := trodAll_nil r1
  obtain rfl : args = #[v0, v1] := by cases args; simp_all
  obtain ⟨rfl, rfl⟩ := trodVars_none hV
  obtain ⟨a0, len0, cap0, rfl⟩ := okWide_slice Tryz.underlying22 (hval 0 22 v0 rfl rfl)
  have k0 := h0
  have lt0 : ∀ x ∈ p0, x.block < W.heap.size := by obtain ⟨m, hm⟩ := k0; exact DataW.trod_lt m _ _ _ hm
  obtain ⟨z0, w0⟩ : ∃ zs, Ints .u8 W a0 len0 zs := by
    obtain ⟨fuel, hf⟩ := h0
    rcases open_ints Tryz.underlying22 Tryz.underlying5 (by kernel_rfl) hf with ⟨hcs, _⟩ | ⟨x, l, c, zs, hcs, _, hl, hm, hz, _, hcell, hwz⟩
    · simp [Value.cells] at hcs
      obtain ⟨rfl, rfl, rfl⟩ := hcs
      exact ⟨[], Ints.nil _⟩
    · simp [Value.cells] at hcs
      obtain ⟨rfl, rfl, rfl⟩ := hcs
      exact ⟨zs.take len0, Ints.of hl hm (by simpa using hz) hcell hwz⟩
  obtain ⟨a1, rfl, rfl, rfl, w1⟩ := open_int Tryz.underlying5 (hval 1 5 v1 rfl rfl) h1
  clear hA0 hval0
  refine (walk a0 len0 cap0 z0 a1 w1 W w0 hT).mono fun e W' ⟨he, hg⟩ => ?_
  subst he
  have bel := hg.below
  exact ⟨_, rfl, _, _, _, [], _, [], hW', trodAll_mk1 (shut_bool Tryz.underlying4 _), (trodAll_cons_mk (Below.trod laidOut (by kernel_rfl) (of_decide_eq_true (by kernel_rfl)) k0 bel lt0) (trodAll_cons_mk (shut_int Tryz.underlying5 w1) trodAll_mk0)), rfl, bel.frame _, fun h => by cases h⟩
theorem over : Rows.sweepOnceRow.holds Tryz.pinned (OpenSpec.ofChange Rows.sweepOnceSpec) :=
  OpenClaim.holds_of_wide 3 Tryz.f3 rfl rfl rfl rfl rfl rfl rfl ⟨rfl, rfl, rfl, rfl, rfl⟩ rfl rfl rfl rfl rfl (by kernel_rfl) Tryz.func3 (by kernel_rfl)
    (of_decide_eq_true (by kernel_rfl)) (by unfold Func.isWrapper; first | (rw [if_pos (by decide +kernel)]; kernel_rfl) | (rw [if_neg (by decide +kernel)]; exact ⟨rfl, rfl⟩))
    (fun os started H enc _ => lifted os started H enc)
set_option maxRecDepth 100000 in
/-- The card, tied. -/
theorem proved : Rows.SweepOnceCardSaid :=
  Claim7.holds_tied_plain_at .later [] [.data] true (true, "3062cd3652c7f1f2e100f7b0f94cb3f25dbd22d1cdbeb8dec48f85c1172530cd") false
    over (fun _ h => by cases h) (by kernel_rfl) (fun _ h => by cases h) sweepOnce_row_tie rfl ⟨rfl, rfl⟩ (by kernel_rfl) rfl
    (fun f fn hf hfn => by
      obtain rfl : f = 3 := Option.some.inj ((show Tryz.prog.funcNamed "fallow/fallowlaw19.SweepOnce" = some 3 by kernel_rfl).symm.trans hf) |>.symm
      obtain rfl : fn = Tryz.f3 := (Option.some.inj (Tryz.func3.symm.trans hfn)).symm
      exact ⟨by kernel_rfl, fun j t ht => by
        have hm : t ∈ Tryz.f3.params.toList := by simpa using Array.mem_of_getElem? ht
        have hall : (Tryz.f3.params.toList.all fun u => !Tryz.prog.wantsStandIn u) = true := by kernel_rfl
        exact (show Tryz.prog.wantsStandIn t = false by simpa using List.all_eq_true.1 hall t hm)⟩)
    (by kernel_rfl)
end sweepOnce
end Go.Proofs.YthjbnbimfpbccaaGreatDoor
