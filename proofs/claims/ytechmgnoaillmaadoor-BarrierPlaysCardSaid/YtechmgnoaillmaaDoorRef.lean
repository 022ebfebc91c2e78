/-
  What the reference of layer 18 computes: a number and a list of truths. Condition: at most 1024 pages.
-/

import Derived.Test.YtechmgnoaillmaaDoorGens
import Derived.Test.YtechmgnoaillmaaDoorLists
set_option linter.unusedVariables false
namespace Go.Proofs.YtechmgnoaillmaaDoor
open Go.ChangeShapes Go.WideShapes Go.ChangeAt Go.RowKit
theorem infoB : (Tryd.prog.info? 4).map (fun i => (i.zero, i.size, i.bytes)) = some (some (.bool false), 1, 1) := by kernel_rfl
def Bs (b : Nat) (w : World) (v : Value) (n : Nat) (f : Nat → Bool) : Prop := w.ownsRow b 4 1 v n (bls n f)
theorem bls_set (n : Nat) (f : Nat → Bool) (i : Nat) (x : Bool) : (bls n f).set i (.bool x) = bls n (upd f i x) := by
  refine List.ext_getElem? fun j => ?_
  rw [List.getElem?_set]
  by_cases hj : j < n
  · rw [bls_get _ _ _ hj, bls_get _ _ _ hj, bls_len]
    unfold upd
    by_cases e : i = j
    · subst e; simp [hj]
    · rw [if_neg e, if_neg (fun h => e h.symm)]
  · have h1 : ∀ g, (bls n g)[j]? = none := fun g => List.getElem?_eq_none (by rw [bls_len]; omega)
    rw [h1, h1, bls_len]
    by_cases e : i = j
    · subst e; simp [hj]
    · rw [if_neg e]
theorem bls_new (n : Nat) : bls n (fun _ => false) = List.replicate n (.bool false) := by
  unfold bls; rw [List.map_const', List.length_range]
theorem Bs.new (w : World) (n : Nat) (hn : n ≤ 1024) : Bs w.heap.size (w.alloc (.cells (madeCells #[.bool false] n) 4)) (.slice (some ⟨w.heap.size, 0, none⟩) n n) n (fun _ => false) := by
  refine ⟨by rw [bls_len]; omega, .inr ⟨w.heap.size, n, _, rfl, Nat.le_refl _, At.new _ _ _, Nat.le_refl _, by unfold maxLen; omega, ?_, ?_⟩⟩
  · rw [made_rep]; simp
  · rw [made_rep, bls_new]; simp
def G2 (e : Int) (v : Value) : Value := .agg #[.int .u64 e, v]
theorem r18new_no (n : Int) (w : World) (hn : n < 0 ∨ 1024 < n) :
    Calls Tryd.prog 14 #[.int .i64 n] w fun r w' => r = .returned (.tuple #[.agg #[.int .u64 0, .slice none 0 0], .bool false]) ∧ Fr [] w w' := by
  rcases hn with h | h
  · go_enter Tryd.func14, Tryd.ntmps14
    go_wp2
    exact bodyPost_ret (v := .tuple #[.agg #[.int .u64 0, .slice none 0 0], .bool false]) (by simp [results, Tryd.results14, go_sem]) rfl ⟨rfl, (by repeat (first | exact Fr.refl _ _ | assumption | refine Fr.trans0 ?_ (by assumption) | refine Fr.drewN ?_ _ | refine Fr.alloc ?_ _ | refine Fr.drew ?_))⟩
  · have h2 : 0 ≤ n := by omega
    go_enter Tryd.func14, Tryd.ntmps14
    go_wp2
    exact bodyPost_ret (v := .tuple #[.agg #[.int .u64 0, .slice none 0 0], .bool false]) (by simp [results, Tryd.results14, go_sem]) rfl ⟨rfl, (by repeat (first | exact Fr.refl _ _ | assumption | refine Fr.trans0 ?_ (by assumption) | refine Fr.drewN ?_ _ | refine Fr.alloc ?_ _ | refine Fr.drew ?_))⟩
theorem r18new_yes (n : Nat) (w : World) (hn : n ≤ 1024) :
    Calls Tryd.prog 14 #[.int .i64 n] w fun r w' => ∃ v, r = .returned (.tuple #[.agg #[.int .u64 0, v], .bool true]) ∧ Bs 0 w' v n (fun _ => false) ∧ Fr [] w w' := by
  have hmk := run_make_row' (P := Tryd.prog) 37 4 (.bool false) 1 Tryd.underlying37 infoB rfl .i64 .i64 n (by omega) (by omega)
  have hB := Bs.new (w.alloc (.cells #[.int .u64 0, .slice (some ⟨w.heap.size + 1, 0, none⟩) n n] 39)) n hn
  rw [World.size_alloc] at hB
  have HB := Lib.hid (own_base hB (Nat.zero_le _))
  clear hB
  go_enter Tryd.func14, Tryd.ntmps14
  go_wp2
  exact bodyPost_ret (v := .tuple #[.agg #[.int .u64 0, .slice (some ⟨w.heap.size + 1, 0, none⟩) n n], .bool true]) (by simp [results, Tryd.results14, go_sem]) rfl ⟨_, rfl, HB.out, (by repeat (first | exact Fr.refl _ _ | assumption | refine Fr.trans0 ?_ (by assumption) | refine Fr.drewN ?_ _ | refine Fr.alloc ?_ _ | refine Fr.drew ?_))⟩
theorem r18left_any (w : World) (b : Nat) (ep : Int) (v : Value) (n : Nat) (f : Nat → Bool) (h : Bs b w v n f) (hn : n ≤ 1024) :
    Calls Tryd.prog 19 #[.agg #[.int .u64 ep, v]] w fun r w' => r = .returned (.int .i64 (cnt f n)) ∧ Fr [] w w' := by
  obtain ⟨av, cv, rfl, hcv⟩ := own_slice h
  have hop := Lib.hid fun (hn : 0 < n) => own_open h hn
  have hA := At.new w 39 #[.int .u64 ep, .slice av n cv]
  have c0 := hA.cell 1
  simp only [List.getElem?_toArray, List.getElem?_cons_zero, List.getElem?_cons_succ] at c0
  have hfa : Fr [] w (w.alloc (.cells #[.int .u64 ep, .slice av n cv] 39)) := (by repeat (first | exact Fr.refl _ _ | assumption | refine Fr.trans0 ?_ (by assumption) | refine Fr.drewN ?_ _ | refine Fr.alloc ?_ _ | refine Fr.drew ?_))
  have HF := Lib.hid hfa
  clear hfa h hA
  go_enter Tryd.func19, Tryd.ntmps19
  go_wp2
  go_loop [3, 4] (fun c i => ∃ t : Nat, t ≤ n ∧ i = .int .i64 t ∧ c = .int .i64 (cnt f t)) (fun _ i => n - (intOf i).toNat)
  case atStart => exact ⟨0, by omega, rfl, rfl⟩
  case round =>
    obtain ⟨t, ht, rfl, rfl⟩ := hrel
    have hcl := cnt_le f t
    by_cases htn : t < n
    · obtain ⟨g, c, hv, _, _, hgw, hcell, _⟩ := hop.out (by omega)
      injection hv with hv1 hv2 hv3
      subst hv1 hv3
      have hct := (HF.out.cell (a := ⟨g, t, none⟩) hgw (by simp)).trans ((hcell t htn).trans (bls_get n f t htn))
      clear hcell
      cases hft : f t
      · rw [hft] at hct
        have Hn := Lib.hid (show cnt f (t + 1) = cnt f t by simp [cnt, hft])
        clear hft
        go_wp2
        go_round
        case rel => exact ⟨t + 1, by omega, by go_num, by rw [Hn.out]⟩
        case measure => simp [intOf]; omega
      · rw [hft] at hct
        have Hn := Lib.hid (show cnt f (t + 1) = cnt f t + 1 by simp [cnt, hft])
        clear hft
        go_wp2
        go_round
        case rel => exact ⟨t + 1, by omega, by go_num, by rw [Hn.out]; go_num⟩
        case measure => simp [intOf]; omega
    · obtain rfl : t = n := by omega
      go_wp2
      go_ret
      exact ⟨rfl, HF.out⟩
theorem told_zero {f : Nat → Bool} {t : Nat} (h : told f t = []) (hf : f t = true) : told f (t + 1) = [t] := by rw [told_succ, if_pos hf, h]; rfl
theorem r18next_any (w : World) (b : Nat) (ep : Int) (v : Value) (n : Nat) (f : Nat → Bool) (h : Bs b w v n f) (hn : n ≤ 1024) :
    Calls Tryd.prog 17 #[.agg #[.int .u64 ep, v]] w fun r w' => r = .returned (.tuple #[.int .i64 (nxtP f n), .bool (nxtB f n)]) ∧ Fr [] w w' := by
  obtain ⟨av, cv, rfl, hcv⟩ := own_slice h
  have hop := Lib.hid fun (hn : 0 < n) => own_open h hn
  have hA := At.new w 39 #[.int .u64 ep, .slice av n cv]
  have c0 := hA.cell 1
  simp only [List.getElem?_toArray, List.getElem?_cons_zero, List.getElem?_cons_succ] at c0
  have hfa : Fr [] w (w.alloc (.cells #[.int .u64 ep, .slice av n cv] 39)) := (by repeat (first | exact Fr.refl _ _ | assumption | refine Fr.trans0 ?_ (by assumption) | refine Fr.drewN ?_ _ | refine Fr.alloc ?_ _ | refine Fr.drew ?_))
  have HF := Lib.hid hfa
  clear hfa h hA
  go_enter Tryd.func17, Tryd.ntmps17
  go_wp2
  go_loop [4] (fun i => ∃ t : Nat, t ≤ n ∧ i = .int .i64 t ∧ told f t = []) (fun i => n - (intOf i).toNat)
  case atStart => exact ⟨0, by omega, rfl, rfl⟩
  case round =>
    obtain ⟨t, ht, rfl, h0⟩ := hrel
    by_cases htn : t < n
    · obtain ⟨g, c, hv, _, _, hgw, hcell, _⟩ := hop.out (by omega)
      injection hv with hv1 hv2 hv3
      subst hv1 hv3
      have hct := (HF.out.cell (a := ⟨g, t, none⟩) hgw (by simp)).trans ((hcell t htn).trans (bls_get n f t htn))
      clear hcell
      cases hft : f t
      · rw [hft] at hct
        have Hn := Lib.hid (show told f (t + 1) = [] by rw [told_succ, if_neg (by simp [hft])]; exact h0)
        clear hft h0
        go_wp2
        go_round
        case rel => exact ⟨t + 1, by omega, by go_num, Hn.out⟩
        case measure => simp [intOf]; omega
      · rw [hft] at hct
        have Hn := Lib.hid (nxt_one (told_zero h0 hft ▸ told_prefix f (t + 1) n (by omega)))
        clear hft h0
        go_wp2
        go_ret2
        exact ⟨by rw [Hn.out.1, Hn.out.2]; rfl, HF.out⟩
    · obtain rfl : t = n := by omega
      have Hn := Lib.hid (nxt_nil h0)
      clear h0
      go_wp2
      go_ret2
      exact ⟨by rw [Hn.out.1, Hn.out.2]; rfl, HF.out⟩
theorem r18old_any (w : World) (b : Nat) (ep : Int) (v : Value) (n : Nat) (f : Nat → Bool) (h : Bs b w v n f) (hn : n ≤ 1024) (i : Int) :
    Calls Tryd.prog 20 #[.agg #[.int .u64 ep, v], .int .i64 i] w fun r w' => r = .returned (.bool (inR i n && f i.toNat)) ∧ Fr [] w w' := by
  obtain ⟨av, cv, rfl, hcv⟩ := own_slice h
  have hA := At.new w 39 #[.int .u64 ep, .slice av n cv]
  have c0 := hA.cell 1
  simp only [List.getElem?_toArray, List.getElem?_cons_zero, List.getElem?_cons_succ] at c0
  have hfa : Fr [] w (w.alloc (.cells #[.int .u64 ep, .slice av n cv] 39)) := (by repeat (first | exact Fr.refl _ _ | assumption | refine Fr.trans0 ?_ (by assumption) | refine Fr.drewN ?_ _ | refine Fr.alloc ?_ _ | refine Fr.drew ?_))
  by_cases h1 : 0 ≤ i
  · obtain ⟨j, rfl⟩ := Int.eq_ofNat_of_zero_le h1
    by_cases h2 : j < n
    · obtain ⟨g, c, hv, _, _, hgw, hcell, _⟩ := own_open h (by omega)
      injection hv with hv1 hv2 hv3
      subst hv1 hv3
      have hct := (hfa.cell (a := ⟨g, j, none⟩) hgw (by simp)).trans ((hcell j h2).trans (bls_get n f j h2))
      rw [inR_nat _ _ h2, Int.toNat_natCast, Bool.true_and]
      have HF := Lib.hid hfa
      obtain ⟨x, hx⟩ : ∃ x, f j = x := ⟨_, rfl⟩
      rw [hx] at hct ⊢
      clear hcell h hfa hx hA
      go_enter Tryd.func20, Tryd.ntmps20
      go_wp2
      go_ret
      exact ⟨rfl, HF.out⟩
    · have hr : Hid ((inR (j : Int) n && f (Int.toNat (j : Int))) = false) := Lib.hid (by unfold inR; simp; omega)
      have HF := Lib.hid hfa
      clear h hfa hA
      go_enter Tryd.func20, Tryd.ntmps20
      go_wp2
      go_ret
      exact ⟨ret_bool hr.out.symm, HF.out⟩
  · have hr : Hid ((inR i n && f i.toNat) = false) := Lib.hid (by unfold inR; simp; omega)
    have HF := Lib.hid hfa
    clear h hfa hA
    go_enter Tryd.func20, Tryd.ntmps20
    go_wp2
    go_ret
    exact ⟨ret_bool hr.out.symm, HF.out⟩
theorem r18mark_no (w : World) (b : Nat) (ep : Int) (v : Value) (n : Nat) (f : Nat → Bool) (h : Bs b w v n f) (hn : n ≤ 1024) (i : Int) (hi : (inR i n && f i.toNat) = false) :
    Calls Tryd.prog 15 #[.agg #[.int .u64 ep, v], .int .i64 i] w fun r w' => r = .returned (.tuple #[.agg #[.int .u64 ep, v], .bool false]) ∧ Fr [] w w' := by
  have C := Lib.hid fun (W : World) (hW : Fr [] w W) => r18old_any W b ep v n f (own_fr0 h hW) hn i
  rw [hi] at C
  obtain ⟨av, cv, rfl, hcv⟩ := own_slice h
  clear h hi
  go_enter Tryd.func15, Tryd.ntmps15
  go_wp2_with fail
  refine (C.out _ (by repeat (first | exact Fr.refl _ _ | assumption | refine Fr.trans0 ?_ (by assumption) | refine Fr.drewN ?_ _ | refine Fr.alloc ?_ _ | refine Fr.drew ?_))).mono ?_
  rintro e w2 ⟨rfl, hf2⟩
  have a0 := ((At.new w 39 #[.int .u64 ep, .slice av n cv]).fr (S := []) (w' := w2) (Fr.trans0 (by repeat (first | exact Fr.refl _ _ | assumption | refine Fr.trans0 ?_ (by assumption) | refine Fr.drewN ?_ _ | refine Fr.alloc ?_ _ | refine Fr.drew ?_)) hf2) (by simp))
  have a2 := ((At.new (w.alloc (.cells #[.int .u64 ep, .slice av n cv] 39)) 39 #[.int .u64 0, .slice none 0 0]).fr (S := []) (w' := w2) (Fr.trans0 (by repeat (first | exact Fr.refl _ _ | assumption | refine Fr.trans0 ?_ (by assumption) | refine Fr.drewN ?_ _ | refine Fr.alloc ?_ _ | refine Fr.drew ?_)) hf2) (by simp))
  simp only [World.size_alloc] at a2
  have c0 := a0.cell 0
  have c1 := a0.cell 1
  have f2 := a2.froz 0
  have f3 := a2.froz 1
  have c2 := a2.cell 0
  have c3 := a2.cell 1
  simp only [List.getElem?_toArray, List.getElem?_cons_zero, List.getElem?_cons_succ] at c0 c1 c2 c3
  have q := (a2.set 0 (.int .u64 ep)).set 1 (.slice av n cv)
  have q0 := q.cell 0
  have q1 := q.cell 1
  simp only [List.getElem?_toArray, List.getElem?_cons_zero, List.getElem?_cons_succ, List.setIfInBounds_toArray, List.set_cons_zero, List.set_cons_succ] at q0 q1
  go_wp2
  exact bodyPost_ret (v := .tuple #[.agg #[.int .u64 ep, .slice av n cv], .bool false]) (by simp [results, Tryd.results15, go_sem, q0, q1]) rfl ⟨rfl, Fr.set (Fr.set (Fr.trans0 (by repeat (first | exact Fr.refl _ _ | assumption | refine Fr.trans0 ?_ (by assumption) | refine Fr.drewN ?_ _ | refine Fr.alloc ?_ _ | refine Fr.drew ?_)) hf2) (.inr (by show w.heap.size ≤ w.heap.size + 1; omega)) _) (.inr (by show w.heap.size ≤ w.heap.size + 1; omega)) _⟩
set_option maxHeartbeats 1000000 in
theorem r18mark_yes (w : World) (b : Nat) (ep : Int) (v : Value) (n : Nat) (f : Nat → Bool) (h : Bs b w v n f) (hn : n ≤ 1024) (i : Nat) (hi : i < n) (hfi : f i = true) :
    Calls Tryd.prog 15 #[.agg #[.int .u64 ep, v], .int .i64 i] w fun r w' => ∃ v', r = .returned (.tuple #[.agg #[.int .u64 ep, v'], .bool true]) ∧ Bs 0 w' v' n (upd f i false) ∧ Fr [] w w' := by
  obtain ⟨i0, hii, hz0, hz1, hz2⟩ := info_parts infoB
  have C := Lib.hid fun (W : World) (hW : Fr [] w W) => r18old_any W b ep v n f (own_fr0 h hW) hn i
  rw [inR_nat _ _ hi, Int.toNat_natCast, hfi] at C
  have H := Lib.hid h
  obtain ⟨g, cv, rfl, hcv, hbg, hgw, hcell, hfz⟩ := own_open h (by omega)
  clear h hcell hfz hfi
  go_enter Tryd.func15, Tryd.ntmps15
  go_wp2_with fail
  refine (C.out _ (by repeat (first | exact Fr.refl _ _ | assumption | refine Fr.trans0 ?_ (by assumption) | refine Fr.drewN ?_ _ | refine Fr.alloc ?_ _ | refine Fr.drew ?_))).mono ?_
  rintro e w2 ⟨rfl, hf2⟩
  have a0 := ((At.new w 39 #[.int .u64 ep, .slice (some ⟨g, 0, none⟩) n cv]).fr (S := []) (w' := w2) (Fr.trans0 (by repeat (first | exact Fr.refl _ _ | assumption | refine Fr.trans0 ?_ (by assumption) | refine Fr.drewN ?_ _ | refine Fr.alloc ?_ _ | refine Fr.drew ?_)) hf2) (by simp))
  have a2 := ((At.new (w.alloc (.cells #[.int .u64 ep, .slice (some ⟨g, 0, none⟩) n cv] 39)) 39 #[.int .u64 0, .slice none 0 0]).fr (S := []) (w' := w2) (Fr.trans0 (by repeat (first | exact Fr.refl _ _ | assumption | refine Fr.trans0 ?_ (by assumption) | refine Fr.drewN ?_ _ | refine Fr.alloc ?_ _ | refine Fr.drew ?_)) hf2) (by simp))
  simp only [World.size_alloc] at a2
  have hfw : Fr [] w w2 := Fr.trans0 (by repeat (first | exact Fr.refl _ _ | assumption | refine Fr.trans0 ?_ (by assumption) | refine Fr.drewN ?_ _ | refine Fr.alloc ?_ _ | refine Fr.drew ?_)) hf2
  have H2 := Lib.hid (own_fr0 H.out hfw)
  have HF := Lib.hid hfw
  have hnw := Lib.hid (H2.out.cells (g := g) rfl)
  have c0 := a0.cell 0
  have c1 := a0.cell 1
  simp only [List.getElem?_toArray, List.getElem?_cons_zero, List.getElem?_cons_succ] at c0 c1
  have A0 := Lib.hid a0
  have A2 := Lib.hid a2
  have hwz := a2.lt
  clear a0 a2 hf2 hfw C H
  go_wp2_with (at_builtin; refine wpList_append_own_at _ rfl (.tmp 12) (.tmp 14) 37 rfl w.heap.size 4 i0 (.bool false) 1 1 Tryd.underlying37 hii hz0 hz1 hz2 rfl (by omega) (.slice none 0 0) 0 [] rfl (World.ownsRow_nil _ _ _ _) ⟨g, 0, none⟩ n cv (bls n f) rfl (by simp [bls_len]) hnw.out (bls_one n f) (by unfold maxLen; omega) (by omega) (by omega) ?_; intro v1 w1 hown1 hg1 hnil1 hat1; simp only [List.nil_append, Nat.zero_add] at hown1; obtain ⟨g1, cv1, rfl, hcv1, hbg1, hgw1, hcl1, hfz1⟩ := own_open hown1 (by omega); have hfr : Fr [] w2 w1 := Fr.grown hg1; have hci := (hcl1 i (by omega)).trans (bls_get n f i hi); have hfi := hfz1 i; have c0 := (A0.out.fr hfr (by simp)).cell 0; simp only [List.getElem?_toArray, List.getElem?_cons_zero] at c0; have A0' := Lib.hid (A0.out.fr hfr (by simp)); have A2' := Lib.hid (A2.out.fr hfr (by simp)); have HF1 := Lib.hid (HF.out.trans0 hfr); have hneg : g1 ≠ w.heap.size + 1 := own_ne hown1 A2'.out (by decide) g1 rfl; have hneg0 : g1 ≠ w.heap.size := own_ne hown1 A0'.out (by decide) g1 rfl; have hB1 : Bs 0 (w1.setCell ⟨g1, i, none⟩ (.bool false)) (.slice (some ⟨g1, 0, none⟩) n cv1) n (upd f i false) := (by have hq := own_set hown1 rfl i (.bool false); rw [bls_set] at hq; exact own_base hq (Nat.zero_le _)); have HB1 := Lib.hid hB1; have hfs : Fr [] w (w1.setCell ⟨g1, i, none⟩ (.bool false)) := HF1.out.set (.inr hbg1) _; have HF2 := Lib.hid hfs; have A2s := A2'.out.far (a := ⟨g1, i, none⟩) hneg.symm (.bool false); have A0s := A0'.out.far (a := ⟨g1, i, none⟩) hneg0.symm (.bool false); have d0 := A0s.cell 0; have e0 := A2s.cell 0; have e1 := A2s.cell 1; have g0 := A2s.froz 0; have g1' := A2s.froz 1; have q := (A2s.set 0 (.int .u64 ep)).set 1 (.slice (some ⟨g1, 0, none⟩) n cv1); have q0 := q.cell 0; have q1 := q.cell 1; simp only [List.getElem?_toArray, List.getElem?_cons_zero, List.getElem?_cons_succ, List.setIfInBounds_toArray, List.set_cons_zero, List.set_cons_succ] at q0 q1 d0 e0 e1; clear hown1 hg1 hnil1 hat1 hfr H2 hnw hcl1 hfz1 A0' A2' HF HF1 hB1 hfs A2s A0s q A0 A2)
  refine bodyPost_ret (v := .tuple #[.agg #[.int .u64 ep, .slice (some ⟨g1, 0, none⟩) n cv1], .bool true]) (by simp [results, Tryd.results15, go_sem, q0, q1]) rfl ⟨_, rfl, ?_, (HF2.out.set (.inr (by show w.heap.size ≤ w.heap.size + 1; omega)) _).set (.inr (by show w.heap.size ≤ w.heap.size + 1; omega)) _⟩
  exact own_fr HB1.out (((Fr.refl [w.heap.size + 1] _).set (.inl (by simp)) _).set (.inl (by simp)) _) (fun g' hg => by simp [Value.ownBlock] at hg ⊢; omega)
theorem r18start_no (w : World) (b : Nat) (ep : Int) (v : Value) (n : Nat) (f : Nat → Bool) (h : Bs b w v n f) (hn : n ≤ 1024) (e : Int) (he : e ≤ ep ∨ 0 < cnt f n) :
    Calls Tryd.prog 16 #[.agg #[.int .u64 ep, v], .int .u64 e] w fun r w' => r = .returned (.tuple #[.agg #[.int .u64 ep, v], .bool false]) ∧ Fr [] w w' := by
  have C := Lib.hid fun (W : World) (hW : Fr [] w W) => r18left_any W b ep v n f (own_fr0 h hW) hn
  obtain ⟨av, cv, rfl, hcv⟩ := own_slice h
  clear h
  by_cases h1 : e ≤ ep
  · clear he C
    go_enter Tryd.func16, Tryd.ntmps16
    go_wp2
    exact bodyPost_ret (v := .tuple #[.agg #[.int .u64 ep, .slice av n cv], .bool false]) (by simp [results, Tryd.results16, go_sem]) rfl ⟨rfl, (by repeat (first | exact Fr.refl _ _ | assumption | refine Fr.trans0 ?_ (by assumption) | refine Fr.drewN ?_ _ | refine Fr.alloc ?_ _ | refine Fr.drew ?_))⟩
  · have h2 : 0 < cnt f n := by omega
    clear he
    obtain ⟨c, hc⟩ : ∃ c, cnt f n = c := ⟨_, rfl⟩
    rw [hc] at C h2
    clear hc
    go_enter Tryd.func16, Tryd.ntmps16
    go_wp2_with fail
    refine (C.out _ (by repeat (first | exact Fr.refl _ _ | assumption | refine Fr.trans0 ?_ (by assumption) | refine Fr.drewN ?_ _ | refine Fr.alloc ?_ _ | refine Fr.drew ?_))).mono ?_
    rintro e w2 ⟨rfl, hf2⟩
    have a0 := ((At.new w 39 #[.int .u64 ep, .slice av n cv]).fr (S := []) (w' := w2) (Fr.trans0 (by repeat (first | exact Fr.refl _ _ | assumption | refine Fr.trans0 ?_ (by assumption) | refine Fr.drewN ?_ _ | refine Fr.alloc ?_ _ | refine Fr.drew ?_)) hf2) (by simp))
    have a2 := ((At.new (w.alloc (.cells #[.int .u64 ep, .slice av n cv] 39)) 39 #[.int .u64 0, .slice none 0 0]).fr (S := []) (w' := w2) (Fr.trans0 (by repeat (first | exact Fr.refl _ _ | assumption | refine Fr.trans0 ?_ (by assumption) | refine Fr.drewN ?_ _ | refine Fr.alloc ?_ _ | refine Fr.drew ?_)) hf2) (by simp))
    simp only [World.size_alloc] at a2
    have c0 := a0.cell 0
    have c1 := a0.cell 1
    have f2 := a2.froz 0
    have f3 := a2.froz 1
    have c2 := a2.cell 0
    have c3 := a2.cell 1
    simp only [List.getElem?_toArray, List.getElem?_cons_zero, List.getElem?_cons_succ] at c0 c1 c2 c3
    have q := (a2.set 0 (.int .u64 ep)).set 1 (.slice av n cv)
    have q0 := q.cell 0
    have q1 := q.cell 1
    simp only [List.getElem?_toArray, List.getElem?_cons_zero, List.getElem?_cons_succ, List.setIfInBounds_toArray, List.set_cons_zero, List.set_cons_succ] at q0 q1
    go_wp2
    exact bodyPost_ret (v := .tuple #[.agg #[.int .u64 ep, .slice av n cv], .bool false]) (by simp [results, Tryd.results16, go_sem, q0, q1]) rfl ⟨rfl, Fr.set (Fr.set (Fr.trans0 (by repeat (first | exact Fr.refl _ _ | assumption | refine Fr.trans0 ?_ (by assumption) | refine Fr.drewN ?_ _ | refine Fr.alloc ?_ _ | refine Fr.drew ?_)) hf2) (.inr (by show w.heap.size ≤ w.heap.size + 1; omega)) _) (.inr (by show w.heap.size ≤ w.heap.size + 1; omega)) _⟩
theorem fst_zero : (fun _ => false) = fstF 0 := funext fun i => by unfold fstF; simp
theorem fst_succ (t : Nat) : upd (fstF t) t true = fstF (t + 1) := funext fun i => by unfold upd fstF; by_cases e : i = t <;> simp [e]; omega
set_option maxHeartbeats 1000000 in
theorem r18start_yes (w : World) (b : Nat) (ep : Int) (v : Value) (n : Nat) (f : Nat → Bool) (h : Bs b w v n f) (hn : n ≤ 1024) (e : Int) (he : ep < e) (h0 : cnt f n = 0) :
    Calls Tryd.prog 16 #[.agg #[.int .u64 ep, v], .int .u64 e] w fun r w' => ∃ v', r = .returned (.tuple #[.agg #[.int .u64 e, v'], .bool true]) ∧ Bs 0 w' v' n (fstF n) ∧ Fr [] w w' := by
  have hmk := run_make_row' (P := Tryd.prog) 37 4 (.bool false) 1 Tryd.underlying37 infoB rfl .i64 .i64 n (by omega) (by omega)
  have C := Lib.hid fun (W : World) (hW : Fr [] w W) => r18left_any W b ep v n f (own_fr0 h hW) hn
  rw [h0] at C
  obtain ⟨av, cv, rfl, hcv⟩ := own_slice h
  have h1 : ¬ e ≤ ep := by omega
  clear h h0 he
  go_enter Tryd.func16, Tryd.ntmps16
  go_wp2_with fail
  refine (C.out _ (by repeat (first | exact Fr.refl _ _ | assumption | refine Fr.trans0 ?_ (by assumption) | refine Fr.drewN ?_ _ | refine Fr.alloc ?_ _ | refine Fr.drew ?_))).mono ?_
  rintro e' w2 ⟨rfl, hf2⟩
  have hfw : Fr [] w w2 := Fr.trans0 (by repeat (first | exact Fr.refl _ _ | assumption | refine Fr.trans0 ?_ (by assumption) | refine Fr.drewN ?_ _ | refine Fr.alloc ?_ _ | refine Fr.drew ?_)) hf2
  have a0 := ((At.new w 39 #[.int .u64 ep, .slice av n cv]).fr (S := []) (w' := w2) (Fr.trans0 (by repeat (first | exact Fr.refl _ _ | assumption | refine Fr.trans0 ?_ (by assumption) | refine Fr.drewN ?_ _ | refine Fr.alloc ?_ _ | refine Fr.drew ?_)) hf2) (by simp))
  have a2 := ((At.new (w.alloc (.cells #[.int .u64 ep, .slice av n cv] 39)) 39 #[.int .u64 0, .slice none 0 0]).fr (S := []) (w' := w2) (Fr.trans0 (by repeat (first | exact Fr.refl _ _ | assumption | refine Fr.trans0 ?_ (by assumption) | refine Fr.drewN ?_ _ | refine Fr.alloc ?_ _ | refine Fr.drew ?_)) hf2) (by simp))
  simp only [World.size_alloc] at a2
  have c1 := a0.cell 1
  simp only [List.getElem?_toArray, List.getElem?_cons_zero, List.getElem?_cons_succ] at c1
  have hB := Bs.new w2 n hn
  rw [fst_zero] at hB
  have HB := Lib.hid hB
  have A2 := Lib.hid (a2.old (.cells (madeCells #[.bool false] n) 4))
  have HF := Lib.hid (hfw.alloc (.cells (madeCells #[.bool false] n) 4))
  have hwz := a2.lt
  have hsw := hfw.size
  clear hf2 hfw a0 a2 hB C
  go_wp2_with fail
  obtain ⟨q, hq⟩ : ∃ q, w2.heap.size = q := ⟨_, rfl⟩
  rw [hq] at HB hwz hsw ⊢
  clear hq
  go_loopw [7] (fun i wr => ∃ t : Nat, t ≤ n ∧ i = .int .i64 t ∧ At wr (w.heap.size + 1) 39 #[.int .u64 0, .slice none 0 0] ∧ wr.ownsRow q 4 1 (.slice (some ⟨q, 0, none⟩) n n) n (bls n (fstF t)) ∧ Fr [] w wr) (fun i _ => n - (intOf i).toNat)
  case atStart => exact ⟨0, by omega, rfl, A2.out, HB.out, HF.out⟩
  case round =>
    clear A2 HB HF
    obtain ⟨t, ht, rfl, hat, hown, hf⟩ := hrel
    have HA := Lib.hid hat
    have HO := Lib.hid hown
    have HF := Lib.hid hf
    by_cases htn : t < n
    · obtain ⟨g2, c2, hv2, _, _, hgw2, hcl2, hfz2⟩ := own_open hown (by omega)
      injection hv2 with hv3 _ hv4
      injection hv3 with hv5
      injection hv5 with hv6
      subst hv6 hv4
      have hct := (hcl2 t htn).trans (bls_get n _ t htn)
      have hfz := hfz2 t
      clear hat hown hf hcl2 hfz2
      go_wp2
      go_roundw
      case rel =>
        refine ⟨t + 1, by omega, by go_num, HA.out.far (show w.heap.size + 1 ≠ q by omega) _, ?_, HF.out.set (.inr (by show w.heap.size ≤ q; omega)) _⟩
        have := own_set HO.out rfl t (.bool true)
        rw [bls_set, fst_succ] at this
        exact this
      case measure => simp [intOf]; omega
    · obtain rfl : t = n := by omega
      have f2 := hat.froz 0
      have f3 := hat.froz 1
      have c2 := hat.cell 0
      have c3 := hat.cell 1
      simp only [List.getElem?_toArray, List.getElem?_cons_zero, List.getElem?_cons_succ] at c2 c3
      have q' := (hat.set 0 (.int .u64 e)).set 1 (.slice (some ⟨q, 0, none⟩) t t)
      have q0 := q'.cell 0
      have q1 := q'.cell 1
      simp only [List.getElem?_toArray, List.getElem?_cons_zero, List.getElem?_cons_succ, List.setIfInBounds_toArray, List.set_cons_zero, List.set_cons_succ] at q0 q1
      clear hat hown hf q'
      go_wp2
      refine bodyPost_ret (v := .tuple #[.agg #[.int .u64 e, .slice (some ⟨q, 0, none⟩) t t], .bool true]) (by simp [results, Tryd.results16, go_sem, q0, q1]) rfl ⟨_, rfl, ?_, (HF.out.set (.inr (by show w.heap.size ≤ w.heap.size + 1; omega)) _).set (.inr (by show w.heap.size ≤ w.heap.size + 1; omega)) _⟩
      exact own_base (own_fr HO.out (((Fr.refl [w.heap.size + 1] _).set (.inl (by simp)) _).set (.inl (by simp)) _) (fun g' hg => by simp [Value.ownBlock] at hg ⊢; omega)) (Nat.zero_le _)
end Go.Proofs.YtechmgnoaillmaaDoor
