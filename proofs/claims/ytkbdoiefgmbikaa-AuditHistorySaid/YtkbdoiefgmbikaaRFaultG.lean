/-
  The reference's fault of a grant. Condition: lists of a thousand at most; numbers in their types' ranges.
-/



--- beginning of a walk of fault, for events of kind $1
--- after the entry: the world renamed
--- the answer ($1: its plain word and arguments), hidden
--- the end: the answer is $1, over frame $2

import Derived.Test.YtkbdoiefgmbikaaRFind
import Derived.Deep.CutBlock
import Derived.Deep.DeepCutAuto
import Derived.BigRegion
set_option linter.unusedVariables false
namespace Go.Proofs.Ytkbdoiefgmbikaa
open Go.ChangeShapes Go.WideShapes Go.ChangeAt Go.RowKit
set_option maxHeartbeats 4000000 in
set_option maxRecDepth 100000 in
theorem rfault_G (w : World) (B p ha hs : Nat) (y : Rx) (gv ev av tv : Value) (hh : Rst w B p y gv ev av tv) (e : Ev) (hk : e.kind = 2) (hok : e.Ok) (h1 : ha < 4294967296) (h2 : hs < 4294967296) (hn : y.gs.length ≤ 1000) (hra : ∀ g ∈ y.gs, g.a < 4294967296 ∧ g.s < 4294967296) :
    Calls Try.prog 40 #[.pointer (some ⟨p, 0, none⟩), .agg #[.int .u32 ha, .int .u32 hs], .agg (evl e).toArray] w fun r w' => r = .returned (.int .i64 (faultG ha hs y e)) ∧ Fr [] w w' := by
  have hok1 := hok
  obtain ⟨o1, o2, o3, _, _, _⟩ := hok1
  obtain ⟨ek, eh, ev', en, ea, es⟩ := e
  dsimp only at hk
  (try subst hk)
  obtain ⟨ga, gc, rfl, hgr⟩ := hh.gr
  obtain ⟨ta, tc, rfl, htr⟩ := hh.tr
  obtain ⟨na, nc, rfl, hnr⟩ := hh.er
  have A0 := (At.new w 27 #[.int .u32 ha, .int .u32 hs]).old (.cells (evl ⟨2, eh, ev', en, ea, es⟩).toArray 41)
  have E0 := At.new (w.alloc (.cells #[.int .u32 ha, .int .u32 hs] 27)) 41 (evl ⟨2, eh, ev', en, ea, es⟩).toArray
  have F0 := (show Fr [] w ((w.alloc (.cells #[.int .u32 ha, .int .u32 hs] 27)).alloc (.cells (evl ⟨2, eh, ev', en, ea, es⟩).toArray 41)) from (by repeat (first | exact Fr.refl _ _ | assumption | refine Fr.trans0 ?_ (by assumption) | refine Fr.drewN ?_ _ | refine Fr.alloc ?_ _ | refine Fr.drew ?_)))
  rw [World.size_alloc] at E0
  have HH := hh.fr0 F0
  have HIR := Lib.hid (show (Try.prog.info? 27).map (·.size) = some 2 by kernel_rfl)
  have HG := hgr.fr0 F0
  have HT := htr.fr0 F0
  have HE := hnr.fr0 F0
  clear hh hgr htr hnr
  obtain ⟨w1, hw1⟩ : ∃ W, (w.alloc (.cells #[.int .u32 ha, .int .u32 hs] 27)).alloc (.cells (evl ⟨2, eh, ev', en, ea, es⟩).toArray 41) = W := ⟨_, rfl⟩
  rw [hw1] at A0 E0 F0 HH HG HT HE
  unfold evl at E0
  dsimp only at E0
  have HP := Lib.hid HH.at_
  have HH := Lib.hid HH
  have HG := Lib.hid HG
  have HT := Lib.hid HT
  have HE := Lib.hid HE
  have F0 := Lib.hid F0
  have r0 := A0.cell 0
  have r1 := A0.cell 1
  have z0 := E0.cell 0
  have z1 := E0.cell 1
  have z3 := E0.cell 3
  have z4 := E0.cell 4
  have z5 := E0.cell 5
  have p0 := HP.out.cell 0
  have p1 := HP.out.cell 1
  have p2 := HP.out.cell 2
  have p3 := HP.out.cell 3
  have p4 := HP.out.cell 4
  have p6 := HP.out.cell 6
  simp only [List.getElem?_toArray, List.getElem?_cons_zero, List.getElem?_cons_succ] at r0 r1 z0 z1 z3 z4 z5 p0 p1 p2 p3 p4 p6
  have A0 := Lib.hid A0
  have E0 := Lib.hid E0
  obtain ⟨F, hF⟩ : ∃ F, faultG ha hs y ⟨2, eh, ev', en, ea, es⟩ = F := ⟨_, rfl⟩
  rw [hF]
  have HF := Lib.hid hF
  clear hF
  dsimp only at o1 o2 o3
  have n1 : IntKind.u64.wrap (y.gs.length : Int) = (y.gs.length : Int) := wu _ (by omega)
  have n2 : IntKind.u64.wrap ((y.gs.length : Int) + 1) = (y.gs.length : Int) + 1 := wu (y.gs.length + 1) (by omega)
  have n3 : IntKind.u64.wrap (ea : Int) = (ea : Int) := wu _ (by omega)
  have n4 : IntKind.u64.wrap (es : Int) = (es : Int) := wu _ (by omega)
  have n5 : IntKind.u64.wrap ((ea : Int) + (es : Int)) = (ea : Int) + (es : Int) := wu (ea + es) (by omega)
  have n6 : IntKind.u64.wrap (ha : Int) = (ha : Int) := wu _ (by omega)
  have n7 : IntKind.u64.wrap (hs : Int) = (hs : Int) := wu _ (by omega)
  have n8 : IntKind.u64.wrap ((ha : Int) + (hs : Int)) = (ha : Int) + (hs : Int) := wu (ha + hs) (by omega)
  by_cases hnum : en = y.gs.length + 1
  rotate_left
  · have t1 : ((en : Int) != (y.gs.length : Int) + 1) = true := by simp; omega
    go_enter Try.func40, Try.ntmps40
    go_upto_region 1 with (fail)
    clear hw1
    go_wp2_with fail
    (try go_region)
    go_wp2_with fail
    go_ret
    have hF := HF.out
    have hV : F = 2 := by rw [← hF]; exact (by unfold faultG; rw [if_pos hnum])
    exact ⟨by rw [hV]; rfl, by first | exact (F0.out) | exact ((F0.out)).drew | exact ((F0.out)).drew.drew | exact ((F0.out)).drewN _⟩
  have t1 : ((en : Int) != (y.gs.length : Int) + 1) = false := by simp; omega
  have HNUM : Hid (¬ en ≠ y.gs.length + 1) := Lib.hid (fun h => h hnum)
  clear hnum
  by_cases c1 : es = 0
  · have t2 : ((es : Int) == 0) = true := by simp; omega
    have C1 := Lib.hid c1
    clear c1
    go_enter Try.func40, Try.ntmps40
    go_upto_region 1 with (fail)
    clear hw1
    go_wp2_with fail
    (try go_region)
    go_wp2_with fail
    go_ret
    have hF := HF.out
    have hV : F = 6 := by rw [← hF]; exact (by unfold faultG; rw [if_neg HNUM.out, if_pos (.inl C1.out)])
    exact ⟨by rw [hV]; rfl, by first | exact (F0.out) | exact ((F0.out)).drew | exact ((F0.out)).drew.drew | exact ((F0.out)).drewN _⟩
  have t2 : ((es : Int) == 0) = false := by simp; omega
  by_cases c2 : ea < ha
  · have t3 : decide ((ea : Int) < (ha : Int)) = true := by simp; omega
    go_enter Try.func40, Try.ntmps40
    go_upto_region 1 with (fail)
    clear hw1
    go_wp2_with fail
    (try go_region)
    go_wp2_with fail
    go_ret
    have hF := HF.out
    have hV : F = 6 := by rw [← hF]; exact (by unfold faultG; rw [if_neg HNUM.out, if_pos (.inr (.inl c2))])
    exact ⟨by rw [hV]; rfl, by first | exact (F0.out) | exact ((F0.out)).drew | exact ((F0.out)).drew.drew | exact ((F0.out)).drewN _⟩
  have t3 : decide ((ea : Int) < (ha : Int)) = false := by simp; omega
  by_cases c3 : ha + hs < ea + es
  · have t4 : decide ((ha : Int) + (hs : Int) < (ea : Int) + (es : Int)) = true := by simp; omega
    go_enter Try.func40, Try.ntmps40
    go_upto_region 1 with (fail)
    clear hw1
    go_wp2_with fail
    (try go_region)
    go_wp2_with fail
    go_ret
    have hF := HF.out
    have hV : F = 6 := by rw [← hF]; exact (by unfold faultG; rw [if_neg HNUM.out, if_pos (.inr (.inr c3))])
    exact ⟨by rw [hV]; rfl, by first | exact (F0.out) | exact ((F0.out)).drew | exact ((F0.out)).drew.drew | exact ((F0.out)).drewN _⟩
  have t4 : decide ((ha : Int) + (hs : Int) < (ea : Int) + (es : Int)) = false := by simp; omega
  have C4 : Hid (¬ (es = 0 ∨ ea < ha ∨ ha + hs < ea + es)) := Lib.hid (by omega)
  have HRA := Lib.hid hra
  obtain ⟨l, hl⟩ : ∃ l, y.gs = l := ⟨_, rfl⟩
  have HP2 := HP.out
  have HG2 := HG.out
  have HRA2 := HRA.out
  have HN2 := HNUM.out
  rw [hl] at HP2 HG2 HRA2 HN2 p0 n1 n2 t1 hn
  have hv : ∀ b, l.any (fun g => liveR g ⟨2, eh, ev', en, ea, es⟩) = b → F = if b = true then 11 else 0 := fun b hb => by
    rw [← HF.out]
    unfold faultG
    rw [hl, if_neg HN2, if_neg C4.out, hb]
  clear hl HP HG HRA HNUM hra
  have HL := Lib.hid hv
  have HP := Lib.hid HP2
  have HG := Lib.hid HG2
  have HRA := Lib.hid HRA2
  clear hv HP2 HG2 HRA2 HN2 HF C4 HH HT HE hok
  obtain ⟨n, hnn⟩ : ∃ n, l.length = n := ⟨_, rfl⟩
  have HN := Lib.hid hnn
  have HP := HP.out
  rw [hnn] at HP p0 n1 n2 t1 hn
  have HP := Lib.hid HP
  have hpl := HP.out.lt
  clear hnn
  obtain ⟨P, hP⟩ : ∃ P : RG → Bool, (fun g => liveR g ⟨2, eh, ev', en, ea, es⟩) = P := ⟨_, rfl⟩
  have hPe : ∀ g : RG, P g = (decide (g.st < 3) && meetB g.a g.s ea es) := fun g => by rw [← hP]; rfl
  have HL := HL.out
  rw [hP] at HL
  have HL := Lib.hid HL
  have HPE := Lib.hid hPe
  clear hP hPe
  go_enter Try.func40, Try.ntmps40
  go_upto_region 1 with (fail)
  clear hw1
  go_wp2_with fail
  (try go_region)
  go_wp2_with fail
  go_loopw [7] (fun i wr => ∃ k : Nat, k ≤ n ∧ i = .int .i64 k ∧ (l.take k).any P = false ∧ Fr [] w1 wr) (fun i _ => n - (intOf i).toNat)
  case atStart => exact ⟨0, by omega, rfl, by simp, (Fr.refl _ _).drew⟩
  case round =>
    obtain ⟨k, hk, rfl, hno, hf⟩ := hrel
    have FR := Lib.hid hf
    have HNO := Lib.hid hno
    have c0 := (HP.out.fr hf (by simp)).cell 0
    simp only [List.getElem?_toArray, List.getElem?_cons_zero] at c0
    clear hf hno
    by_cases hlt : k < n
    · obtain ⟨g, hgk⟩ : ∃ g, l[k]? = some g := ⟨_, List.getElem?_eq_getElem (by rw [HN.out]; exact hlt)⟩
      obtain ⟨ga1, ga2⟩ := HRA.out g (List.mem_of_getElem? hgk)
      rcases HG.out.fr0 FR.out with h0 | ⟨b, off, rfl, hb, hc⟩
      · have : l = [] := by simpa using h0
        rw [this] at hgk; cases hgk
      have hrk : (l.map RG.l)[k]? = some g.l := by rw [List.getElem?_map, hgk]; rfl
      have HC0 := Lib.hid c0
      have HC2 := Lib.hid (RowsAt.cell hc hrk 3 (v := .int .i64 g.st) rfl)
      have HC3 := Lib.hid (RowsAt.cell hc hrk 1 (v := .int .u32 g.a) rfl)
      have HC4 := Lib.hid (RowsAt.cell hc hrk 2 (v := .int .u32 g.s) rfl)
      have hkI : (k : Int) < (n : Int) := by omega
      have hsn : (l.take (k + 1)).any P = P g := by
        rw [List.take_add_one, hgk, Option.toList_some, List.any_append, HNO.out]; simp
      have hany : P g = true → l.any P = true := fun h => List.any_eq_true.2 ⟨g, List.mem_of_getElem? hgk, h⟩
      rw [HPE.out g] at hsn hany
      obtain ⟨B1, hB1⟩ : ∃ B, decide ((g.st : Int) < 3) = B := ⟨_, rfl⟩
      have e1 : decide (g.st < 3) = B1 := by rw [← hB1, decide_eq_decide]; omega
      obtain ⟨M, hM⟩ : ∃ M, meetB g.a g.s ea es = M := ⟨_, rfl⟩
      have CM := Lib.hid (fun W => rcommon_any W g.a g.s ea es ga1 ga2 o1 o2)
      rw [hM] at CM hsn hany
      rw [e1] at hsn hany
      have HSN := Lib.hid hsn
      have HANY := Lib.hid hany
      clear hc hgk hrk hsn hany hM
      go_upto_region 10 with (fail)
      have hpl' := (HP.out.fr FR.out (by simp)).lt
      clear c0
      cases B1
      · refine wp_region_L (fun W => Fr [] wr W) [] (by kernel_rfl) (Fr.refl _ _).drew (fun hHeld => ?_)
        refine wpAnyL_take (i := 0) (v := ?_) rfl (by kernel_rfl) (fun _ _ _ h => h) (Or.inl ⟨by rfl, ?_⟩) (by assumption) ?_; rotate_left; (focus (intro w hSw; skip; go_simp; (try with_reducible rfl))); (try (refine wpAnyL_norm (by simp only [Act.put, List.setIfInBounds_toArray, List.set_cons_zero, List.set_cons_succ]; rfl) ?_))
        refine wpAnyL_take (i := 1) (v := ?_) rfl (by kernel_rfl) (fun _ _ _ h => h) (Or.inl ⟨by rfl, ?_⟩) (by assumption) ?_; rotate_left; (focus (intro w hSw; skip; go_simp; (try with_reducible rfl))); (try (refine wpAnyL_norm (by simp only [Act.put, List.setIfInBounds_toArray, List.set_cons_zero, List.set_cons_succ]; rfl) ?_))
        refine wpAnyL_take (i := 2) (v := ?_) rfl (by kernel_rfl) (fun _ _ _ h => h) (Or.inl ⟨by rfl, ?_⟩) (by assumption) ?_; rotate_left; (focus (intro w hSw; skip; go_simp; (try with_reducible rfl))); (try (refine wpAnyL_norm (by simp only [Act.put, List.setIfInBounds_toArray, List.set_cons_zero, List.set_cons_succ]; rfl) ?_))
        refine wpAnyL_take (i := 3) (v := ?_) rfl (by kernel_rfl) (fun _ _ _ h => h) (Or.inl ⟨by rfl, ?_⟩) (by assumption) ?_; rotate_left; (focus (intro w hSw; (have c := (hSw.cell hpl' (by simp)).trans HC0.out); go_simp; (try with_reducible rfl))); (try (refine wpAnyL_norm (by simp only [Act.put, List.setIfInBounds_toArray, List.set_cons_zero, List.set_cons_succ]; rfl) ?_))
        refine wpAnyL_take (i := 4) (v := ?_) rfl (by kernel_rfl) (fun _ _ _ h => h) (Or.inl ⟨by rfl, ?_⟩) (by assumption) ?_; rotate_left; (focus (intro w hSw; skip; go_simp; (try with_reducible rfl))); (try (refine wpAnyL_norm (by simp only [Act.put, List.setIfInBounds_toArray, List.set_cons_zero, List.set_cons_succ]; rfl) ?_))
        refine wpAnyL_take (i := 5) (v := ?_) rfl (by kernel_rfl) (fun _ _ _ h => h) (Or.inl ⟨by rfl, ?_⟩) (by assumption) ?_; rotate_left; (focus (intro w hSw; skip; go_simp; (try with_reducible rfl))); (try (refine wpAnyL_norm (by simp only [Act.put, List.setIfInBounds_toArray, List.set_cons_zero, List.set_cons_succ]; rfl) ?_))
        refine wpAnyL_take (i := 6) (v := ?_) rfl (by kernel_rfl) (fun _ _ _ h => h) (Or.inl ⟨by rfl, ?_⟩) (by assumption) ?_; rotate_left; (focus (intro w hSw; skip; go_simp; (try with_reducible rfl))); (try (refine wpAnyL_norm (by simp only [Act.put, List.setIfInBounds_toArray, List.set_cons_zero, List.set_cons_succ]; rfl) ?_))
        refine wpAnyL_take (i := 7) (v := ?_) rfl (by kernel_rfl) (fun _ _ _ h => h) (Or.inl ⟨by rfl, ?_⟩) (by assumption) ?_; rotate_left; (focus (intro w hSw; (have c := (hSw.cell hb (by simp)).trans HC2.out); go_simp; (try with_reducible rfl))); (try (refine wpAnyL_norm (by simp only [Act.put, List.setIfInBounds_toArray, List.set_cons_zero, List.set_cons_succ]; rfl) ?_))
        refine wpAnyL_take (i := 8) (v := ?_) rfl (by kernel_rfl) (fun _ _ _ h => h) (Or.inl ⟨by rfl, ?_⟩) (by assumption) ?_; rotate_left; (focus (intro w hSw; skip; go_simp; (try with_reducible rfl))); (try (refine wpAnyL_norm (by simp only [Act.put, List.setIfInBounds_toArray, List.set_cons_zero, List.set_cons_succ]; rfl) ?_))
        refine wpAnyL_take (i := 9) (v := ?_) rfl (by kernel_rfl) (fun _ _ _ h => h) (Or.inl ⟨by rfl, ?_⟩) (by assumption) ?_; rotate_left; (focus (intro w hSw; skip; go_simp; (try with_reducible rfl))); (try (refine wpAnyL_norm (by simp only [Act.put, List.setIfInBounds_toArray, List.set_cons_zero, List.set_cons_succ]; rfl) ?_))
        refine wpAnyL_take (i := 10) (v := undef) rfl (by kernel_rfl) (fun _ _ _ h => h) (Or.inr ⟨by rfl, rfl⟩) (by assumption) ?_; (try (refine wpAnyL_norm (by simp only [Act.put, List.setIfInBounds_toArray, List.set_cons_zero, List.set_cons_succ]; rfl) ?_))
        refine wpAnyL_take (i := 11) (v := undef) rfl (by kernel_rfl) (fun _ _ _ h => h) (Or.inr ⟨by rfl, rfl⟩) (by assumption) ?_; (try (refine wpAnyL_norm (by simp only [Act.put, List.setIfInBounds_toArray, List.set_cons_zero, List.set_cons_succ]; rfl) ?_))
        refine wpAnyL_take (i := 12) (v := undef) rfl (by kernel_rfl) (fun _ _ _ h => h) (Or.inr ⟨by rfl, rfl⟩) (by assumption) ?_; (try (refine wpAnyL_norm (by simp only [Act.put, List.setIfInBounds_toArray, List.set_cons_zero, List.set_cons_succ]; rfl) ?_))
        refine wpAnyL_take (i := 13) (v := undef) rfl (by kernel_rfl) (fun _ _ _ h => h) (Or.inr ⟨by rfl, rfl⟩) (by assumption) ?_; (try (refine wpAnyL_norm (by simp only [Act.put, List.setIfInBounds_toArray, List.set_cons_zero, List.set_cons_succ]; rfl) ?_))
        refine wpAnyL_take (i := 14) (v := undef) rfl (by kernel_rfl) (fun _ _ _ h => h) (Or.inr ⟨by rfl, rfl⟩) (by assumption) ?_; (try (refine wpAnyL_norm (by simp only [Act.put, List.setIfInBounds_toArray, List.set_cons_zero, List.set_cons_succ]; rfl) ?_))
        refine wpAnyL_take (i := 15) (v := undef) rfl (by kernel_rfl) (fun _ _ _ h => h) (Or.inr ⟨by rfl, rfl⟩) (by assumption) ?_; (try (refine wpAnyL_norm (by simp only [Act.put, List.setIfInBounds_toArray, List.set_cons_zero, List.set_cons_succ]; rfl) ?_))
        refine wpAnyL_take (i := 16) (v := undef) rfl (by kernel_rfl) (fun _ _ _ h => h) (Or.inr ⟨by rfl, rfl⟩) (by assumption) ?_; (try (refine wpAnyL_norm (by simp only [Act.put, List.setIfInBounds_toArray, List.set_cons_zero, List.set_cons_succ]; rfl) ?_))
        refine wpAnyL_take (i := 17) (v := undef) rfl (by kernel_rfl) (fun _ _ _ h => h) (Or.inr ⟨by rfl, rfl⟩) (by assumption) ?_; (try (refine wpAnyL_norm (by simp only [Act.put, List.setIfInBounds_toArray, List.set_cons_zero, List.set_cons_succ]; rfl) ?_))
        refine wpAnyL_take (i := 18) (v := undef) rfl (by kernel_rfl) (fun _ _ _ h => h) (Or.inr ⟨by rfl, rfl⟩) (by assumption) ?_; (try (refine wpAnyL_norm (by simp only [Act.put, List.setIfInBounds_toArray, List.set_cons_zero, List.set_cons_succ]; rfl) ?_))
        refine wpAnyL_take (i := 19) (v := undef) rfl (by kernel_rfl) (fun _ _ _ h => h) (Or.inr ⟨by rfl, rfl⟩) (by assumption) ?_; (try (refine wpAnyL_norm (by simp only [Act.put, List.setIfInBounds_toArray, List.set_cons_zero, List.set_cons_succ]; rfl) ?_))
        refine wpAnyL_take (i := 20) (v := undef) rfl (by kernel_rfl) (fun _ _ _ h => h) (Or.inr ⟨by rfl, rfl⟩) (by assumption) ?_; (try (refine wpAnyL_norm (by simp only [Act.put, List.setIfInBounds_toArray, List.set_cons_zero, List.set_cons_succ]; rfl) ?_))
        refine wpAnyL_take (i := 21) (v := ?_) rfl (by kernel_rfl) (fun _ _ _ h => h) (Or.inl ⟨by rfl, ?_⟩) (by assumption) ?_; rotate_left; (focus (intro w hSw; skip; go_simp; (try with_reducible rfl))); (try (refine wpAnyL_norm (by simp only [Act.put, List.setIfInBounds_toArray, List.set_cons_zero, List.set_cons_succ]; rfl) ?_))
        refine wpAnyL_done (by kernel_rfl) ?_ _
        have F3 := Lib.hid (FR.out.trans0 hHeld)
        go_wp2_with fail
        go_roundw
        case rel => exact ⟨k + 1, by omega, by go_num, HSN.out, F3.out⟩
        case measure => simp [intOf]; omega
      · refine wp_region_L (fun W => Fr [] wr W) [] (by kernel_rfl) (Fr.refl _ _).drew (fun hHeld => ?_)
        refine wpAnyL_take (i := 0) (v := ?_) rfl (by kernel_rfl) (fun _ _ _ h => h) (Or.inl ⟨by rfl, ?_⟩) (by assumption) ?_; rotate_left; (focus (intro w hSw; skip; go_simp; (try with_reducible rfl))); (try (refine wpAnyL_norm (by simp only [Act.put, List.setIfInBounds_toArray, List.set_cons_zero, List.set_cons_succ]; rfl) ?_))
        refine wpAnyL_take (i := 1) (v := ?_) rfl (by kernel_rfl) (fun _ _ _ h => h) (Or.inl ⟨by rfl, ?_⟩) (by assumption) ?_; rotate_left; (focus (intro w hSw; skip; go_simp; (try with_reducible rfl))); (try (refine wpAnyL_norm (by simp only [Act.put, List.setIfInBounds_toArray, List.set_cons_zero, List.set_cons_succ]; rfl) ?_))
        refine wpAnyL_take (i := 2) (v := ?_) rfl (by kernel_rfl) (fun _ _ _ h => h) (Or.inl ⟨by rfl, ?_⟩) (by assumption) ?_; rotate_left; (focus (intro w hSw; skip; go_simp; (try with_reducible rfl))); (try (refine wpAnyL_norm (by simp only [Act.put, List.setIfInBounds_toArray, List.set_cons_zero, List.set_cons_succ]; rfl) ?_))
        refine wpAnyL_take (i := 3) (v := ?_) rfl (by kernel_rfl) (fun _ _ _ h => h) (Or.inl ⟨by rfl, ?_⟩) (by assumption) ?_; rotate_left; (focus (intro w hSw; (have c := (hSw.cell hpl' (by simp)).trans HC0.out); go_simp; (try with_reducible rfl))); (try (refine wpAnyL_norm (by simp only [Act.put, List.setIfInBounds_toArray, List.set_cons_zero, List.set_cons_succ]; rfl) ?_))
        refine wpAnyL_take (i := 4) (v := ?_) rfl (by kernel_rfl) (fun _ _ _ h => h) (Or.inl ⟨by rfl, ?_⟩) (by assumption) ?_; rotate_left; (focus (intro w hSw; skip; go_simp; (try with_reducible rfl))); (try (refine wpAnyL_norm (by simp only [Act.put, List.setIfInBounds_toArray, List.set_cons_zero, List.set_cons_succ]; rfl) ?_))
        refine wpAnyL_take (i := 5) (v := ?_) rfl (by kernel_rfl) (fun _ _ _ h => h) (Or.inl ⟨by rfl, ?_⟩) (by assumption) ?_; rotate_left; (focus (intro w hSw; skip; go_simp; (try with_reducible rfl))); (try (refine wpAnyL_norm (by simp only [Act.put, List.setIfInBounds_toArray, List.set_cons_zero, List.set_cons_succ]; rfl) ?_))
        refine wpAnyL_take (i := 6) (v := ?_) rfl (by kernel_rfl) (fun _ _ _ h => h) (Or.inl ⟨by rfl, ?_⟩) (by assumption) ?_; rotate_left; (focus (intro w hSw; skip; go_simp; (try with_reducible rfl))); (try (refine wpAnyL_norm (by simp only [Act.put, List.setIfInBounds_toArray, List.set_cons_zero, List.set_cons_succ]; rfl) ?_))
        refine wpAnyL_take (i := 7) (v := ?_) rfl (by kernel_rfl) (fun _ _ _ h => h) (Or.inl ⟨by rfl, ?_⟩) (by assumption) ?_; rotate_left; (focus (intro w hSw; (have c := (hSw.cell hb (by simp)).trans HC2.out); go_simp; (try with_reducible rfl))); (try (refine wpAnyL_norm (by simp only [Act.put, List.setIfInBounds_toArray, List.set_cons_zero, List.set_cons_succ]; rfl) ?_))
        refine wpAnyL_take (i := 8) (v := ?_) rfl (by kernel_rfl) (fun _ _ _ h => h) (Or.inl ⟨by rfl, ?_⟩) (by assumption) ?_; rotate_left; (focus (intro w hSw; skip; go_simp; (try with_reducible rfl))); (try (refine wpAnyL_norm (by simp only [Act.put, List.setIfInBounds_toArray, List.set_cons_zero, List.set_cons_succ]; rfl) ?_))
        refine wpAnyL_take (i := 9) (v := ?_) rfl (by kernel_rfl) (fun _ _ _ h => h) (Or.inl ⟨by rfl, ?_⟩) (by assumption) ?_; rotate_left; (focus (intro w hSw; skip; go_simp; (try with_reducible rfl))); (try (refine wpAnyL_norm (by simp only [Act.put, List.setIfInBounds_toArray, List.set_cons_zero, List.set_cons_succ]; rfl) ?_))
        refine wpAnyL_take (i := 10) (v := ?_) rfl (by kernel_rfl) (fun _ _ _ h => h) (Or.inl ⟨by rfl, ?_⟩) (by assumption) ?_; rotate_left; (focus (intro w hSw; skip; go_simp; (try with_reducible rfl))); (try (refine wpAnyL_norm (by simp only [Act.put, List.setIfInBounds_toArray, List.set_cons_zero, List.set_cons_succ]; rfl) ?_))
        refine wpAnyL_take (i := 11) (v := ?_) rfl (by kernel_rfl) (fun _ _ _ h => h) (Or.inl ⟨by rfl, ?_⟩) (by assumption) ?_; rotate_left; (focus (intro w hSw; skip; go_simp; (try with_reducible rfl))); (try (refine wpAnyL_norm (by simp only [Act.put, List.setIfInBounds_toArray, List.set_cons_zero, List.set_cons_succ]; rfl) ?_))
        refine wpAnyL_take (i := 12) (v := ?_) rfl (by kernel_rfl) (fun _ _ _ h => h) (Or.inl ⟨by rfl, ?_⟩) (by assumption) ?_; rotate_left; (focus (intro w hSw; skip; go_simp; (try with_reducible rfl))); (try (refine wpAnyL_norm (by simp only [Act.put, List.setIfInBounds_toArray, List.set_cons_zero, List.set_cons_succ]; rfl) ?_))
        refine wpAnyL_take (i := 13) (v := ?_) rfl (by kernel_rfl) (fun _ _ _ h => h) (Or.inl ⟨by rfl, ?_⟩) (by assumption) ?_; rotate_left; (focus (intro w hSw; (have c := (hSw.cell hpl' (by simp)).trans HC0.out); go_simp; (try with_reducible rfl))); (try (refine wpAnyL_norm (by simp only [Act.put, List.setIfInBounds_toArray, List.set_cons_zero, List.set_cons_succ]; rfl) ?_))
        refine wpAnyL_take (i := 14) (v := ?_) rfl (by kernel_rfl) (fun _ _ _ h => h) (Or.inl ⟨by rfl, ?_⟩) (by assumption) ?_; rotate_left; (focus (intro w hSw; skip; go_simp; (try with_reducible rfl))); (try (refine wpAnyL_norm (by simp only [Act.put, List.setIfInBounds_toArray, List.set_cons_zero, List.set_cons_succ]; rfl) ?_))
        refine wpAnyL_take (i := 15) (v := ?_) rfl (by kernel_rfl) (fun _ _ _ h => h) (Or.inl ⟨by rfl, ?_⟩) (by assumption) ?_; rotate_left; (focus (intro w hSw; skip; go_simp; (try with_reducible rfl))); (try (refine wpAnyL_norm (by simp only [Act.put, List.setIfInBounds_toArray, List.set_cons_zero, List.set_cons_succ]; rfl) ?_))
        refine wpAnyL_take (i := 16) (v := ?_) rfl (by kernel_rfl) (fun _ _ _ h => h) (Or.inl ⟨by rfl, ?_⟩) (by assumption) ?_; rotate_left; (focus (intro w hSw; skip; go_simp; (try with_reducible rfl))); (try (refine wpAnyL_norm (by simp only [Act.put, List.setIfInBounds_toArray, List.set_cons_zero, List.set_cons_succ]; rfl) ?_))
        refine wpAnyL_take (i := 17) rfl (by kernel_rfl) (fun _ _ _ h => h) (yields_load_at 27 (.tmp 82) rfl ⟨b, off + k * 5 + 1, none⟩ rfl [.int .u32 g.a, .int .u32 g.s] _ (fun W hW j v hv => by rw [Go.WideShapes.add_plain]; match j, hv with | 0, hv => exact (hW.cell (a := ⟨b, off + k * 5 + 1, none⟩) hb (by simp)).trans (HC3.out.trans hv) | 1, hv => exact (hW.cell (a := ⟨b, off + k * 5 + 1 + 1, none⟩) hb (by simp)).trans (HC4.out.trans hv)) Try.underlying27 rfl HIR.out rfl) (by assumption) ?_; (try (refine wpAnyL_norm (by simp only [Act.put, List.setIfInBounds_toArray, List.set_cons_zero, List.set_cons_succ]; rfl) ?_))
        refine wpAnyL_take (i := 18) (v := ?_) rfl (by kernel_rfl) (fun _ _ _ h => h) (Or.inl ⟨by rfl, ?_⟩) (by assumption) ?_; rotate_left; (focus (intro w hSw; skip; go_simp; (try with_reducible rfl))); (try (refine wpAnyL_norm (by simp only [Act.put, List.setIfInBounds_toArray, List.set_cons_zero, List.set_cons_succ]; rfl) ?_))
        refine wpAnyL_take (i := 19) rfl (by kernel_rfl) (fun _ _ _ h => h) (yields_load_at 27 (.tmp 84) rfl ⟨w.heap.size + 1, 4, none⟩ rfl [.int .u32 ea, .int .u32 es] _ (fun W hW => (E0.out.fr (FR.out.trans0 hW) (by simp)).two 4 _ _ rfl rfl) Try.underlying27 rfl HIR.out rfl) (by assumption) ?_; (try (refine wpAnyL_norm (by simp only [Act.put, List.setIfInBounds_toArray, List.set_cons_zero, List.set_cons_succ]; rfl) ?_))
        refine wpAnyL_ready (rs := [20]) (by kernel_rfl) (by simp) ?_; refine AllReadyL.cons rfl (fun K hK => ?_) AllReadyL.nil
        go_simp
        refine (CM.out _).mono ?_
        rintro e1 w3 ⟨rfl, hf3⟩
        refine hK.out _ _ (fun _ => hHeld.trans0 hf3) (fun hHeld' => ?_); have hHeld := hHeld' (by decide); clear hHeld' hK K; (try (refine wpAnyL_norm (by simp only [Act.put, List.setIfInBounds_toArray, List.set_cons_zero, List.set_cons_succ]; rfl) ?_))
        refine wpAnyL_take (i := 21) (v := ?_) rfl (by kernel_rfl) (fun _ _ _ h => h) (Or.inl ⟨by rfl, ?_⟩) (by assumption) ?_; rotate_left; (focus (intro w hSw; skip; go_simp; (try with_reducible rfl))); (try (refine wpAnyL_norm (by simp only [Act.put, List.setIfInBounds_toArray, List.set_cons_zero, List.set_cons_succ]; rfl) ?_))
        refine wpAnyL_done (by kernel_rfl) ?_ _
        have F3 := Lib.hid (FR.out.trans0 hHeld)
        cases M
        · go_wp2_with fail
          go_roundw
          case rel => exact ⟨k + 1, by omega, by go_num, HSN.out, F3.out⟩
          case measure => simp [intOf]; omega
        · go_wp2_with fail
          go_ret
          have hany : l.any P = true := by first | exact HANY.out rfl | exact HANY.out trivial
          exact ⟨by rw [HL.out _ hany]; rfl, F0.out.trans0 F3.out⟩
    · obtain rfl : k = n := by omega
      have hno : l.any P = false := by have := HNO.out; rwa [← HN.out, List.take_length] at this
      go_wp2_with fail
      go_ret
      exact ⟨by rw [HL.out _ hno]; rfl, F0.out.trans0 FR.out⟩
end Go.Proofs.Ytkbdoiefgmbikaa
